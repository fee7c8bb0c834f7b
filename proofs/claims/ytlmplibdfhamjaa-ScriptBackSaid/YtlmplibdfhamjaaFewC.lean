/- Few parts of a context: where the document says so it is so. -/
import Derived.Test.YtlmplibdfhamjaaSeen
import Derived.Deep.DrawnRows
import Derived.Deep.Cut
import Derived.Says
import Derived.Laws.EntriesVeiled
import Derived.WalkLawsBesides
import Derived.WalkSpells
import Derived.Test.YtlmplibdfhamjaaOctG
attribute [local go_sem ↓] Go.wp_at_zero Go.wp_at_succ
namespace Go.Proofs.Ytlmplibdfhamjaa
open Go.RowKit Go.Mem Go.Num
set_option linter.unusedVariables false
set_option linter.unusedSimpArgs false

theorem mem_take_succC {T : Type} (l : List T) (k : Nat) (h : k < l.length) (s : T) : s ∈ l.take (k + 1) ↔ s ∈ l.take k ∨ s = l[k] := by rw [List.take_succ_eq_append_getElem h, List.mem_append, List.mem_singleton]
def smallS (m : Seen) : Prop := m.node.size ≤ 100 ∧ m.more.l.length ≤ 40
def fewCx (c : Ctx) : Prop := c.l.length ≤ 12 ∧ ∀ m ∈ c.l, smallS m
def FewCx (c : Ctx) (w : World) (e : Ending) (w' : World) : Prop := ∃ b : Bool, (b = true → fewCx c) ∧ e = .returned (.bool b) ∧ Below w.heap.size w w'
set_option maxRecDepth 100000 in
set_option maxHeartbeats 2000000 in
theorem few06_any (c : Ctx) (w : World) (hok : c.ok w) : Calls Try.prog 135 #[c.v] w (FewCx c w) := by
  obtain ⟨A, n, cap, l⟩ := c
  have HN := Lib.hid hok.len; have HR := Lib.hid hok.rd; have HOK := Lib.hid hok.all; have hm := hok.le
  clear hok
  simp only at HN HR HOK hm
  unfold maxLen at hm
  simp only [Ctx.v]
  go_enter Try.func135, Try.ntmps135
  go_wp2
  go_loopw [3] (fun i wr => ∃ k : Nat, k ≤ n ∧ i = .int .i64 k ∧ Below w.heap.size w wr ∧ Hid (∀ s ∈ l.take k, smallS s)) (fun i _ => n - (intOf i).toNat)
  case atStart => exact ⟨0, Nat.zero_le _, rfl, Below.refl _ _, Lib.hid (by simp)⟩
  case round =>
    obtain ⟨k, hk, rfl, hbel, HA⟩ := hrel
    by_cases hend : k < n ∧ k < 12
    · obtain ⟨hlt, hlq⟩ := hend
      have hx : k < l.length := by have := HN.out; omega
      obtain ⟨b, off, rfl, hrg⟩ := row_seen.at_ (HR.out.below hbel) k hx
      have hs := HOK.out l[k] (List.getElem_mem hx)
      have HT := Lib.hid (fun s => mem_take_succC l k hx s)
      generalize l[k] = s at hrg hs HT
      obtain ⟨sp, sb, ⟨mA, mn, mc, ml⟩⟩ := s
      have c0 : wr.cell? ⟨b, off + k * 3, none⟩ = some (.string sp) := rangeAt_cell hrg 0 rfl
      have c1 : wr.cell? ⟨b, off + k * 3 + 2, none⟩ = some (.slice mA mn mc) := rangeAt_cell hrg 2 rfl
      clear hrg
      have hk1 := hs.1
      have HML := Lib.hid hs.2.2.len
      have hk2 := hs.2.2.le
      clear hs
      simp only at hk1 hk2 HML
      unfold maxLen at hk1 hk2
      by_cases g1 : 100 < sp.size
      · go_wp2
        go_ret
        exact ⟨false, by simp, rfl, hbel⟩
      by_cases g2 : 40 < mn
      · go_wp2
        go_ret
        exact ⟨false, by simp, rfl, hbel⟩
      go_wp2
      go_roundw
      case rel => exact ⟨k + 1, by omega, by go_num, hbel, Lib.hid fun s hs => by
        rcases (HT.out s).1 hs with h | rfl
        · exact HA.out s h
        · exact ⟨by simp only; omega, by have := HML.out; simp only; omega⟩⟩
      case measure => simp [intOf]; omega
    · have HE : Hid (k = n ∨ 12 ≤ k) := Lib.hid (by omega)
      have HL : Hid ((n : Int) ≤ 12 → fewCx ⟨A, n, cap, l⟩) := Lib.hid fun h => ⟨by simp only; rw [HN.out]; omega, by
        have hkn : k = n := by rcases HE.out with h1 | h1 <;> omega
        have := HA.out
        rwa [List.take_of_length_le (by rw [HN.out]; omega)] at this⟩
      by_cases hlt : k < n
      · have hq : ¬ k < 12 := fun h => hend ⟨hlt, h⟩
        clear hend
        go_wp2
        all_goals (go_ret; exact ⟨_, fun h => HL.out (by simpa using h), rfl, hbel⟩)
      · obtain rfl : k = n := by omega
        clear hend
        go_wp2
        all_goals (go_ret; exact ⟨_, fun h => HL.out (by simpa using h), rfl, hbel⟩)
end Go.Proofs.Ytlmplibdfhamjaa
