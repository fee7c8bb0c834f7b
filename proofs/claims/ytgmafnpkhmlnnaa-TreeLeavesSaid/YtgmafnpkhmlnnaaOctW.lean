/- SameTexts, Few, awake, and the walk of OctetNobody. -/
import Derived.Test.YtgmafnpkhmlnnaaOctV
import Derived.Deep.QuietTactic
import Derived.BigQuiet
namespace Go.Proofs.Ytgmafnpkhmlnnaa
open Go.RowKit Go.Mem Go.Num
set_option linter.unusedVariables false

set_option maxRecDepth 100000 in
set_option maxHeartbeats 1000000 in
theorem sameTexts_any (A : Option Addr) (n c : Nat) (ss : List ByteArray) (B : Option Addr) (m d : Nat) (ts : List ByteArray) (w : World) (hr : Rd w A (ss.map Value.string)) (hn : ss.length = n) (hn' : n ≤ maxLen) (hr' : Rd w B (ts.map Value.string)) (hm : ts.length = m) (hm' : m ≤ maxLen) :
    Calls Try.prog 15 #[.slice A n c, .slice B m d] w fun e w' => e = .returned (.bool (decide (ss = ts))) ∧ Below w.heap.size w w' := by
  unfold maxLen at hn' hm'
  by_cases hnm : n = m
  · subst hnm
    have hne : ((n : Int) != (n : Int)) = false := by simp
    have HN := Lib.hid hn; have HM := Lib.hid hm; clear hn hm
    go_enter Try.func15, Try.ntmps15
    go_wp2
    go_loopw [5] (fun i wr => ∃ k : Nat, k ≤ n ∧ i = .int .i64 k ∧ ss.take k = ts.take k ∧ Below w.heap.size w wr) (fun i _ => n - (intOf i).toNat)
    case atStart => exact ⟨0, Nat.zero_le _, rfl, rfl, Below.refl _ _⟩
    case round =>
      obtain ⟨k, hk, rfl, htk, hbel⟩ := hrel
      have HT := Lib.hid htk; clear htk
      by_cases hlt : k < n
      · have hx : k < ss.length := by have := HN.out; omega
        have hy : k < ts.length := by have := HM.out; omega
        obtain ⟨b, off, rfl, hcell⟩ := (hr.below hbel).at_ k (by simp; exact hx)
        obtain ⟨b', off', rfl, hcell'⟩ := (hr'.below hbel).at_ k (by simp; exact hy)
        simp only [List.getElem_map] at hcell hcell'
        have hts : ss.take (k + 1) = ss.take k ++ [ss[k]] := List.take_succ_eq_append_getElem hx
        have htt : ts.take (k + 1) = ts.take k ++ [ts[k]] := List.take_succ_eq_append_getElem hy
        have hdr : ss = ts → ss[k] = ts[k] := by rintro rfl; rfl
        generalize ss[k] = s at hcell hts hdr
        generalize ts[k] = t at hcell' htt hdr
        have HTS := Lib.hid hts; have HTT := Lib.hid htt; have HDR := Lib.hid hdr; clear hts htt hdr
        have hi0 : (0 : Int) ≤ (k : Int) := by omega
        have hi1 : (k : Int) < (n : Int) := by omega
        by_cases hst : s = t
        · subst hst
          have hee : (s.toList == s.toList) = true := by simp
          go_wp2
          go_quiet (fail)
          go_wp2
          go_roundw
          case rel => exact ⟨k + 1, by omega, by go_num, by rw [HTS.out, HTT.out, HT.out], drewN_ hbel _⟩
          case measure => simp [intOf]; omega
        · have hne' : (s.toList == t.toList) = false := by rw [str_beq]; simpa using hst
          have HST := Lib.hid hst; clear hst
          go_wp2
          go_quiet (fail)
          go_wp2
          go_ret
          exact ⟨ret_bool (by symm; rw [decide_eq_false_iff_not]; exact fun h => HST.out (HDR.out h)), drewN_ hbel _⟩
      · obtain rfl : k = n := by omega
        go_wp2
        go_ret
        refine ⟨ret_bool ?_, hbel⟩
        symm
        rw [decide_eq_true_eq]
        have := HT.out
        rwa [List.take_of_length_le (by rw [HN.out]; omega), List.take_of_length_le (by rw [HM.out]; omega)] at this
  · have hne : ((n : Int) != (m : Int)) = true := by rw [bne_iff_ne]; omega
    have HF : Hid (decide (ss = ts) = false) := by rw [Hid, decide_eq_false_iff_not]; rintro rfl; omega
    go_enter Try.func15, Try.ntmps15
    go_wp2
    go_ret
    exact ⟨ret_bool (by rw [HF.out]), Below.refl _ _⟩

def SaysFew (ss : List ByteArray) (w : World) (e : Ending) (w' : World) : Prop := ∃ b : Bool, (b = true ↔ ss.length ≤ 20 ∧ ∀ s ∈ ss, s.size ≤ 1024) ∧ e = .returned (.bool b) ∧ w = w'
theorem take_mem_succ {α : Type} (l : List α) (k : Nat) (hk : k < l.length) (x : α) : x ∈ l.take (k + 1) ↔ x ∈ l.take k ∨ x = l[k] := by
  rw [List.take_succ_eq_append_getElem hk, List.mem_append, List.mem_singleton]
set_option maxRecDepth 100000 in
set_option maxHeartbeats 1000000 in
theorem few01_any (A : Option Addr) (n c : Nat) (ss : List ByteArray) (w : World) (hr : Rd w A (ss.map Value.string)) (hn : ss.length = n) (hn' : n ≤ maxLen) :
    Calls Try.prog 11 #[.slice A n c] w (SaysFew ss w) := by
  unfold maxLen at hn'
  have HN := Lib.hid hn; clear hn
  go_enter Try.func11, Try.ntmps11
  go_wp2
  go_loop [3] (fun i => ∃ k : Nat, k ≤ n ∧ k ≤ 20 ∧ i = .int .i64 k ∧ ∀ s ∈ ss.take k, s.size ≤ 1024) (fun i => n - (intOf i).toNat)
  case atStart => exact ⟨0, Nat.zero_le _, Nat.zero_le _, rfl, by simp⟩
  case round =>
    obtain ⟨k, hk, hk20, rfl, hall⟩ := hrel
    have HA := Lib.hid hall; clear hall
    by_cases hlt : k < n ∧ k < 20
    · obtain ⟨h1, h2⟩ := hlt
      have hx : k < ss.length := by have := HN.out; omega
      obtain ⟨b, off, rfl, hcell⟩ := hr.at_ k (by simp; exact hx)
      simp only [List.getElem_map] at hcell
      have htm := take_mem_succ ss k hx
      have hmem : ss[k] ∈ ss := List.getElem_mem hx
      generalize ss[k] = s at hcell htm hmem
      have HTM := Lib.hid htm; have HMEM := Lib.hid hmem; clear htm hmem
      by_cases hst : 1024 < s.size
      · go_wp2
        go_ret
        exact ⟨false, ⟨fun h => by simp at h, fun h => absurd (h.2 s HMEM.out) (by omega)⟩, rfl, rfl⟩
      · go_wp2
        go_round
        case rel => exact ⟨k + 1, by omega, by omega, by go_num, fun t ht => by
          rcases (HTM.out t).1 ht with h | rfl
          · exact HA.out t h
          · omega⟩
        case measure => simp [intOf]; omega
    · have hk2 : k = n ∨ (k < n ∧ k = 20) := by omega
      rcases hk2 with hk1 | ⟨hk1, hk2⟩
      · go_wp2
        go_ret
        refine ⟨_, ⟨fun h => ⟨?_, fun s hs => HA.out s (by rw [List.take_of_length_le (by rw [HN.out]; omega)]; exact hs)⟩, fun h => ?_⟩, rfl, rfl⟩
        · rw [HN.out]; omega
        · have := h.1; rw [HN.out] at this; simp; omega
      · go_wp2
        go_ret
        refine ⟨_, ⟨fun h => ?_, fun h => ?_⟩, rfl, rfl⟩
        · simp at h; omega
        · have := h.1; rw [HN.out] at this; omega

theorem Only.belowS {b : Nat} {w w' : World} (h : Only b w w') {B : Nat} (hB : B ≤ b) (hw : b < w.heap.size) : Below B w w' := h.belowB hB (by omega)
end Go.Proofs.Ytgmafnpkhmlnnaa
