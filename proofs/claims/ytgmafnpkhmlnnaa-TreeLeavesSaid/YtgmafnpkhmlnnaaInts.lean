/- Lists of numbers; their sameness by the document. -/
import Derived.Test.YtgmafnpkhmlnnaaChecked
import Derived.Test.YtgmafnpkhmlnnaaMem
import Derived.WalkLawsBesides
import Derived.WalkSpells
import Derived.RegionTactic
import Derived.BigRegion
import Derived.BigQuiet
import Derived.Deep.QuietTactic
namespace Go.Proofs.Ytgmafnpkhmlnnaa
open Go.RowKit Go.Mem
set_option linter.unusedVariables false
set_option linter.unusedSimpArgs false

theorem take_eq_succ {T : Type} (a b : List T) (k : Nat) (h1 : k < a.length) (h2 : k < b.length) (h : a.take k = b.take k) (he : a[k] = b[k]) : a.take (k + 1) = b.take (k + 1) := by
  rw [List.take_succ_eq_append_getElem h1, List.take_succ_eq_append_getElem h2, h, he]
theorem ne_of_at {T : Type} (a b : List T) (k : Nat) (h1 : k < a.length) (h2 : k < b.length) (he : a[k] ≠ b[k]) : a ≠ b := by
  rintro rfl; exact he rfl
def ints (l : List Int) : List Value := l.map (Value.int .i64)
set_option maxRecDepth 100000 in
set_option maxHeartbeats 1000000 in
theorem sameInts_any (A : Option Addr) (n c : Nat) (ss : List Int) (B : Option Addr) (m d : Nat) (ts : List Int) (w : World) (hr : Rd w A (ints ss)) (hn : ss.length = n) (hm : n ≤ 1000000)
    (hr' : Rd w B (ints ts)) (hn' : ts.length = m) (hm' : m ≤ 1000000) :
    Calls Try.prog 20 #[.slice A n c, .slice B m d] w fun e w' => e = .returned (.bool (decide (ss = ts))) ∧ Below w.heap.size w w' := by
  have HN := Lib.hid hn; have HN' := Lib.hid hn'; clear hn hn'
  by_cases hnm : n = m
  · subst hnm
    go_enter Try.func20, Try.ntmps20
    go_wp2
    go_loopw [5] (fun i wr => ∃ k : Nat, k ≤ n ∧ i = .int .i64 k ∧ ss.take k = ts.take k ∧ Below w.heap.size w wr) (fun i _ => n - (intOf i).toNat)
    case atStart => exact ⟨0, Nat.zero_le _, rfl, rfl, Below.refl _ _⟩
    case round =>
      obtain ⟨k, hk, rfl, heq, hbel⟩ := hrel
      have HE := Lib.hid heq; clear heq
      by_cases hlt : k < n
      · have hx : k < ss.length := by have := HN.out; omega
        have hx' : k < ts.length := by have := HN'.out; omega
        obtain ⟨b, off, rfl, hcell⟩ := (hr.below hbel).at_ k (by simp [ints]; exact hx)
        obtain ⟨b', off', rfl, hcell'⟩ := (hr'.below hbel).at_ k (by simp [ints]; exact hx')
        simp only [ints, List.getElem_map] at hcell hcell'
        have hd : decide ((k : Int) < (n : Int)) = true := by simp; omega
        have hi0 : (0 : Int) ≤ (k : Int) := by omega
        generalize hs : ss[k] = s at hcell
        generalize ht : ts[k] = t at hcell'
        have HS := Lib.hid hs; have HT := Lib.hid ht; clear hs ht
        by_cases hst : s = t
        · have hne : (s != t) = false := by rw [bne_eq_false_iff_eq]; exact hst
          have HST := Lib.hid hst; clear hst
          go_wp2
          go_quiet (fail)
          go_wp2
          go_roundw
          case rel => exact ⟨k + 1, by omega, by go_num, take_eq_succ _ _ k hx hx' HE.out (by rw [HS.out, HT.out, HST.out]), drewN_ hbel _⟩
          case measure => simp [intOf]; omega
        · have hne : (s != t) = true := by rw [bne_iff_ne]; exact hst
          go_wp2
          go_quiet (fail)
          go_wp2
          go_ret
          exact ⟨ret_bool (decide_eq_false (ne_of_at _ _ k hx hx' (by rw [HS.out, HT.out]; exact hst))).symm, drewN_ hbel _⟩
      · obtain rfl : k = n := by omega
        have hd : decide ((k : Int) < (k : Int)) = false := by simp
        go_wp2
        go_ret
        have he := HE.out
        rw [List.take_of_length_le (by rw [HN.out]; omega), List.take_of_length_le (by rw [HN'.out]; omega)] at he
        exact ⟨ret_bool (decide_eq_true he).symm, hbel⟩
  · have hd : ((n : Int) != (m : Int)) = true := by rw [bne_iff_ne]; omega
    go_enter Try.func20, Try.ntmps20
    go_wp2
    go_ret
    refine ⟨ret_bool (decide_eq_false ?_).symm, Below.refl _ _⟩
    rintro rfl
    exact hnm (HN.out.symm.trans HN'.out)

end Go.Proofs.Ytgmafnpkhmlnnaa
