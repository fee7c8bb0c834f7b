/- Few entries, of few bytes: where the document says so it is so. -/
import Derived.Test.YtlmplibdfhamjaaSet4
namespace Go.Proofs.Ytlmplibdfhamjaa
open Go.RowKit Go.Mem
set_option linter.unusedVariables false

def small (e : Ent) : Prop := e.key.size ≤ 200 ∧ e.reg.by_.size ≤ 100 ∧ e.reg.value.size ≤ 300
def fewRB (r : Rg) : Bool := decide (r.by_.size ≤ 100) && decide (r.value.size ≤ 300)
set_option maxRecDepth 100000 in
set_option maxHeartbeats 1000000 in
theorem few09_any (n : Int) (b v : ByteArray) (w : World) (hs : b.size ≤ maxLen) (hv : v.size ≤ maxLen) : Calls Try.prog 68 #[.agg #[.int .i64 n, .string b, .string v]] w fun e w' => e = .returned (.bool (fewRB ⟨n, b, v⟩)) ∧ Below w.heap.size w w' := by
  have HF : Hid (∀ q, (q = true ↔ b.size ≤ 100 ∧ v.size ≤ 300) → q = fewRB ⟨n, b, v⟩) := Lib.hid fun q h => by
    unfold fewRB; rw [Bool.eq_iff_iff, h]; simp
  unfold maxLen at hs hv
  by_cases h1 : b.size ≤ 100
  · by_cases h2 : v.size ≤ 300
    · have hd : decide ((b.size : Int) ≤ 100) = true := by simp; omega
      have hd2 : decide ((v.size : Int) ≤ 300) = true := by simp; omega
      go_enter Try.func68, Try.ntmps68
      go_wp2
      go_ret
      exact ⟨ret_bool (HF.out _ (by simp; omega)), (Below.refl _ _).alloc (Nat.le_refl _) _⟩
    · have hd : decide ((b.size : Int) ≤ 100) = true := by simp; omega
      have hd2 : decide ((v.size : Int) ≤ 300) = false := by simp; omega
      go_enter Try.func68, Try.ntmps68
      go_wp2
      go_ret
      exact ⟨ret_bool (HF.out _ (by simp; omega)), (Below.refl _ _).alloc (Nat.le_refl _) _⟩
  · have hd : decide ((b.size : Int) ≤ 100) = false := by simp; omega
    go_enter Try.func68, Try.ntmps68
    go_wp2
    go_ret
    exact ⟨ret_bool (HF.out _ (by simp; omega)), (Below.refl _ _).alloc (Nat.le_refl _) _⟩

def FewE (l : List Ent) (q : Int) (w : World) (e : Ending) (w' : World) : Prop := ∃ b : Bool, (b = true → (l.length : Int) ≤ q ∧ ∀ m ∈ l, small m) ∧ e = .returned (.bool b) ∧ Below w.heap.size w w'
set_option maxRecDepth 100000 in
set_option maxHeartbeats 2000000 in
theorem few10_any (A : Option Addr) (n c : Nat) (l : List Ent) (q : Int) (w : World) (hr : Rd w A (l.flatMap fun m => m.arr.toList)) (hn : l.length = n) (hm : n ≤ maxLen) (hok : ∀ m ∈ l, m.ok w) :
    Calls Try.prog 20 #[.slice A n c, .int .i64 q] w (FewE l q w) := by
  have HN := Lib.hid hn; have HR := Lib.hid hr; have HOK := Lib.hid hok; clear hn hr hok
  unfold maxLen at hm
  go_enter Try.func20, Try.ntmps20
  go_wp2
  go_loopw [5] (fun i wr => ∃ k : Nat, k ≤ n ∧ i = .int .i64 k ∧ Below w.heap.size w wr ∧ Hid (∀ s ∈ l.take k, small s)) (fun i _ => n - (intOf i).toNat)
  case atStart => exact ⟨0, Nat.zero_le _, rfl, Below.refl _ _, Lib.hid (by simp)⟩
  case round =>
    obtain ⟨k, hk, rfl, hbel, HA⟩ := hrel
    by_cases hend : k < n ∧ (k : Int) < q
    · obtain ⟨hlt, hlq⟩ := hend
      have hx : k < l.length := by have := HN.out; omega
      obtain ⟨b, off, rfl, hrg⟩ := row_ent.at_ (HR.out.below hbel) k hx
      have hs := HOK.out l[k] (List.getElem_mem hx)
      have HT := Lib.hid (fun s => mem_take_succ l k hx s)
      generalize l[k] = s at hrg hs HT
      obtain ⟨sk, ⟨sn, sb, sv⟩⟩ := s
      have c0 : wr.cell? ⟨b, off + k * 4, none⟩ = some (.string sk) := rangeAt_cell hrg 0 rfl
      have c1 : wr.cell? ⟨b, off + k * 4 + 1, none⟩ = some (.int .i64 sn) := rangeAt_cell hrg 1 rfl
      have c2 : wr.cell? ⟨b, off + k * 4 + 2, none⟩ = some (.string sb) := rangeAt_cell hrg 2 rfl
      have c3 : wr.cell? ⟨b, off + k * 4 + 3, none⟩ = some (.string sv) := rangeAt_cell hrg 3 rfl
      clear hrg
      have HF := Lib.hid (fun W => few09_any sn sb sv W hs.2.2.1 hs.2.2.2)
      have hk1 := hs.1
      clear hs
      simp only at hk1
      unfold maxLen at hk1
      by_cases g1 : 200 < sk.size
      · go_wp2
        go_ret
        exact ⟨false, by simp, rfl, hbel⟩
      go_wp2_with fail
      refine (HF.out _).mono ?_
      rintro e w1 ⟨rfl, hb1⟩
      generalize hp : fewRB ⟨sn, sb, sv⟩ = p
      have HP := Lib.hid hp; clear hp
      cases p
      · go_wp2
        go_ret
        exact ⟨false, by simp, rfl, then_ hbel hb1⟩
      · go_wp2
        go_roundw
        case rel => exact ⟨k + 1, by omega, by go_num, then_ hbel hb1, Lib.hid fun s hs => by
          rcases (HT.out s).1 hs with h | rfl
          · exact HA.out s h
          · have := HP.out
            unfold fewRB at this
            simp at this
            exact ⟨by simp only; omega, this.1, this.2⟩⟩
        case measure => simp [intOf]; omega
    · have HE : Hid (k = n ∨ q ≤ (k : Int)) := Lib.hid (by omega)
      have HL : Hid ((n : Int) ≤ q → (l.length : Int) ≤ q ∧ ∀ m ∈ l, small m) := Lib.hid fun h => ⟨by rw [HN.out]; exact h, by
        have hkn : k = n := by rcases HE.out with h1 | h1 <;> omega
        have := HA.out
        rwa [List.take_of_length_le (by rw [HN.out]; omega)] at this⟩
      by_cases hlt : k < n
      · have hq : ¬ (k : Int) < q := fun h => hend ⟨hlt, h⟩
        clear hend
        go_wp2
        all_goals (go_ret; exact ⟨_, fun h => HL.out (by simpa using h), rfl, hbel⟩)
      · obtain rfl : k = n := by omega
        clear hend
        go_wp2
        all_goals (go_ret; exact ⟨_, fun h => HL.out (by simpa using h), rfl, hbel⟩)
end Go.Proofs.Ytlmplibdfhamjaa
