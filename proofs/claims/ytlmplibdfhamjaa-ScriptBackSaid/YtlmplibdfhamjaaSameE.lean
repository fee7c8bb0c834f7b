/- Sameness of entries, by the document. -/
import Derived.Test.YtlmplibdfhamjaaSet4
import Derived.Deep.QuietTactic
import Derived.BigQuiet
attribute [local go_sem ↓] Go.wp_at_zero Go.wp_at_succ
namespace Go.Proofs.Ytlmplibdfhamjaa
open Go.RowKit Go.Mem
set_option linter.unusedVariables false
set_option linter.unusedSimpArgs false

/-- a bool that tells whether something is so -/
def SaysB (P : Prop) (w : World) (e : Ending) (w' : World) : Prop := ∃ q : Bool, (q = true ↔ P) ∧ e = .returned (.bool q) ∧ Below w.heap.size w w'
theorem toList_inj {a b : ByteArray} (h : a.toList = b.toList) : a = b := WideShapes.bytes_inj (by rwa [ByteArray.toList_eq, ByteArray.toList_eq] at h)
theorem take_eq_of {T : Type} {a b : List T} {k : Nat} (h1 : k < a.length) (h2 : k < b.length) (h : a.take k = b.take k) (he : a[k] = b[k]) : a.take (k + 1) = b.take (k + 1) := by
  rw [List.take_succ_eq_append_getElem h1, List.take_succ_eq_append_getElem h2, h, he]
theorem ent_parts (s t : Ent) : s = t ∨ (¬ s.key.toList = t.key.toList) ∨ (s.key = t.key ∧ ¬ s.reg.n = t.reg.n) ∨ (s.key = t.key ∧ s.reg.n = t.reg.n ∧ ¬ s.reg.by_.toList = t.reg.by_.toList) ∨ (s.key = t.key ∧ s.reg.n = t.reg.n ∧ s.reg.by_ = t.reg.by_ ∧ ¬ s.reg.value.toList = t.reg.value.toList) := by
  by_cases h1 : s.key.toList = t.key.toList
  · by_cases h2 : s.reg.n = t.reg.n
    · by_cases h3 : s.reg.by_.toList = t.reg.by_.toList
      · by_cases h4 : s.reg.value.toList = t.reg.value.toList
        · left
          obtain ⟨sk, ⟨sn, sb, sv⟩⟩ := s; obtain ⟨tk, ⟨tn, tb, tv⟩⟩ := t
          simp only at h1 h2 h3 h4
          rw [toList_inj h1, h2, toList_inj h3, toList_inj h4]
        · exact .inr (.inr (.inr (.inr ⟨toList_inj h1, h2, toList_inj h3, h4⟩)))
      · exact .inr (.inr (.inr (.inl ⟨toList_inj h1, h2, h3⟩)))
    · exact .inr (.inr (.inl ⟨toList_inj h1, h2⟩))
  · exact .inr (.inl h1)
set_option maxRecDepth 100000 in
set_option maxHeartbeats 4000000 in
theorem same10_any (A : Option Addr) (n c : Nat) (xs : List Ent) (B : Option Addr) (m d : Nat) (ys : List Ent) (w : World) (hr : Rd w A (xs.flatMap fun m => m.arr.toList)) (hn : xs.length = n) (hm : n ≤ maxLen)
    (hr' : Rd w B (ys.flatMap fun m => m.arr.toList)) (hn' : ys.length = m) (hm' : m ≤ maxLen) :
    Calls Try.prog 45 #[.slice A n c, .slice B m d] w (SaysB (xs = ys) w) := by
  have HN := Lib.hid hn; have HN2 := Lib.hid hn'; clear hn hn'
  unfold maxLen at hm hm'
  by_cases hnm : n = m
  · subst hnm
    go_enter Try.func45, Try.ntmps45
    go_wp2
    go_loopw [5] (fun i wr => ∃ k : Nat, k ≤ n ∧ i = .int .i64 k ∧ Hid (xs.take k = ys.take k) ∧ Below w.heap.size w wr) (fun i _ => n - (intOf i).toNat)
    case atStart => exact ⟨0, Nat.zero_le _, rfl, Lib.hid rfl, Below.refl _ _⟩
    case round =>
      obtain ⟨k, hk, rfl, HT, hbel⟩ := hrel
      by_cases hlt : k < n
      · have hx : k < xs.length := by have := HN.out; omega
        have hx' : k < ys.length := by have := HN2.out; omega
        obtain ⟨b, off, rfl, hrg⟩ := row_ent.at_ (hr.below hbel) k hx
        obtain ⟨b', off', rfl, hrg'⟩ := row_ent.at_ (hr'.below hbel) k hx'
        have HNX := Lib.hid (fun h => take_eq_of hx hx' HT.out h)
        have HNE : Hid (xs[k] ≠ ys[k] → ¬ xs = ys) := Lib.hid (fun h e => h (by subst e; rfl))
        generalize xs[k] = s at hrg HNX HNE
        generalize ys[k] = t at hrg' HNX HNE
        have hp := ent_parts s t
        obtain ⟨sk, ⟨sn, sb, sv⟩⟩ := s; obtain ⟨tk, ⟨tn, tb, tv⟩⟩ := t
        have hd : decide ((k : Int) < (n : Int)) = true := by simp; omega
        have hi0 : (0 : Int) ≤ (k : Int) := by omega
        have hin : (k : Int) < (n : Int) := by omega
        simp only at hp
        rcases hp with he | hne
        · injection he with h1 he; injection he with h2 h3 h4; subst h1 h2 h3 h4
          have c0 : wr.cell? ⟨b, off + k * 4, none⟩ = some (.string sk) := rangeAt_cell hrg 0 rfl
          have c1 : wr.cell? ⟨b, off + k * 4 + 1, none⟩ = some (.int .i64 sn) := rangeAt_cell hrg 1 rfl
          have c2 : wr.cell? ⟨b, off + k * 4 + 2, none⟩ = some (.string sb) := rangeAt_cell hrg 2 rfl
          have c3 : wr.cell? ⟨b, off + k * 4 + 3, none⟩ = some (.string sv) := rangeAt_cell hrg 3 rfl
          have d0 : wr.cell? ⟨b', off' + k * 4, none⟩ = some (.string sk) := rangeAt_cell hrg' 0 rfl
          have d1 : wr.cell? ⟨b', off' + k * 4 + 1, none⟩ = some (.int .i64 sn) := rangeAt_cell hrg' 1 rfl
          have d2 : wr.cell? ⟨b', off' + k * 4 + 2, none⟩ = some (.string sb) := rangeAt_cell hrg' 2 rfl
          have d3 : wr.cell? ⟨b', off' + k * 4 + 3, none⟩ = some (.string sv) := rangeAt_cell hrg' 3 rfl
          clear hrg hrg'
          have HN3 := Lib.hid (HNX.out rfl); clear HNX HNE
          go_wp2
          go_quiet (fail)
          go_wp2
          go_roundw
          case rel => exact ⟨k + 1, by omega, by go_num, HN3, drewN_ hbel _⟩
          case measure => simp [intOf]; omega
        · have c0 : wr.cell? ⟨b, off + k * 4, none⟩ = some (.string sk) := rangeAt_cell hrg 0 rfl
          have c1 : wr.cell? ⟨b, off + k * 4 + 1, none⟩ = some (.int .i64 sn) := rangeAt_cell hrg 1 rfl
          have c2 : wr.cell? ⟨b, off + k * 4 + 2, none⟩ = some (.string sb) := rangeAt_cell hrg 2 rfl
          have c3 : wr.cell? ⟨b, off + k * 4 + 3, none⟩ = some (.string sv) := rangeAt_cell hrg 3 rfl
          have d0 : wr.cell? ⟨b', off' + k * 4, none⟩ = some (.string tk) := rangeAt_cell hrg' 0 rfl
          have d1 : wr.cell? ⟨b', off' + k * 4 + 1, none⟩ = some (.int .i64 tn) := rangeAt_cell hrg' 1 rfl
          have d2 : wr.cell? ⟨b', off' + k * 4 + 2, none⟩ = some (.string tb) := rangeAt_cell hrg' 2 rfl
          have d3 : wr.cell? ⟨b', off' + k * 4 + 3, none⟩ = some (.string tv) := rangeAt_cell hrg' 3 rfl
          clear hrg hrg'
          have HF : Hid (¬ xs = ys) := Lib.hid (HNE.out (by
            intro he; injection he with h1 he; injection he with h2 h3 h4; subst h1 h2 h3 h4; simp at hne))
          clear HNX HNE
          rcases hne with h1 | ⟨h1, h2⟩ | ⟨h1, h2, h3⟩ | ⟨h1, h2, h3, h4⟩
          · go_wp2
            go_quiet (fail)
            go_wp2
            go_ret
            exact ⟨false, by simp [HF.out], rfl, drewN_ hbel _⟩
          · subst h1
            go_wp2
            go_quiet (fail)
            go_wp2
            go_ret
            exact ⟨false, by simp [HF.out], rfl, drewN_ hbel _⟩
          · subst h1 h2
            go_wp2
            go_quiet (fail)
            go_wp2
            go_ret
            exact ⟨false, by simp [HF.out], rfl, drewN_ hbel _⟩
          · subst h1 h2 h3
            go_wp2
            go_quiet (fail)
            go_wp2
            go_ret
            exact ⟨false, by simp [HF.out], rfl, drewN_ hbel _⟩
      · obtain rfl : k = n := by omega
        have HF : Hid (xs = ys) := Lib.hid (by have := HT.out; rwa [List.take_of_length_le (by rw [HN.out]; omega), List.take_of_length_le (by rw [HN2.out]; omega)] at this)
        go_wp2
        go_ret
        exact ⟨true, by simp [HF.out], rfl, hbel⟩
  · have hd : ((n : Int) != (m : Int)) = true := by simp; omega
    have hd2 : (n != m) = true := by simp; omega
    have HF : Hid (¬ xs = ys) := Lib.hid (fun e => hnm (by rw [← HN.out, ← HN2.out, e]))
    go_enter Try.func45, Try.ntmps45
    go_wp2
    go_ret
    exact ⟨false, by simp [HF.out], rfl, Below.refl _ _⟩
end Go.Proofs.Ytlmplibdfhamjaa
