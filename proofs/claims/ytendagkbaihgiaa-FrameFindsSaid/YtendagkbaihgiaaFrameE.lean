/- frame: the walk of FrameIs. -/
import Derived.Test.YtendagkbaihgiaaFrameD
attribute [local go_sem ↓] Go.wp_at_zero Go.wp_at_succ
namespace Go.Proofs.Ytendagkbaihgiaa
open Go.RowKit Go.Mem Go.Num
set_option linter.unusedVariables false
theorem all_len (ss : List ByteArray) (m : Nat) (h : ∀ s ∈ ss, s.size ≤ m) : (Frame.all (datas ss)).length ≤ ss.length * (8 + m) := by
  induction ss with
  | nil => simp [datas, Frame.all]
  | cons s ss ih =>
    have := ih (fun x hx => h x (by simp [hx]))
    have := h s (by simp)
    show (Frame.put s.data.toList ++ Frame.all (datas ss)).length ≤ _
    rw [List.length_append, Frame.put_length, List.length_cons, Nat.succ_mul]
    have : s.data.toList.length = s.size := by simp
    omega
theorem scan_len (s : List UInt8) : (Frame.scan s).length ≤ s.length := by
  unfold Frame.scan
  generalize s.length = n
  induction n generalizing s with
  | zero => simp [Frame.scanN]
  | succ n ih =>
    unfold Frame.scanN
    split
    · simp
    · rw [List.length_cons]; have := ih (s.drop (8 + (by assumption : List UInt8).length)); omega
set_option maxRecDepth 100000 in
set_option maxHeartbeats 2000000 in
theorem frameIs_walk (A : Option Addr) (m c : Nat) (ss : List ByteArray) (s : ByteArray) (w : World) (hr : Rd w A (ss.map Value.string)) (hm : ss.length = m) (hm' : m ≤ maxLen) (hs : s.size ≤ maxLen) :
    Calls Try.prog 6 #[.slice A m c, .string s] w fun e w' => e = .returned (.bool true) ∧ Below w.heap.size w w' := by
  have HM := Lib.hid hm; clear hm
  go_enter Try.func6, Try.ntmps6
  go_wp2_with fail
  refine (few01_any A m c ss _ hr HM.out hm').mono ?_
  rintro e w1 ⟨few, hfew, rfl, rfl⟩
  by_cases hgo : few = false ∨ 1024 < s.size
  · cases few
    · clear hgo hfew
      go_wp2_with fail
      refine (awake26_any _).mono ?_
      rintro e w1 ⟨rfl, hb1⟩
      go_wp2
      go_ret
      exact ⟨rfl, hb1⟩
    · have hbig : 1024 < s.size := by rcases hgo with h | h; cases h; exact h
      clear hgo hfew
      go_wp2_with fail
      refine (awake26_any _).mono ?_
      rintro e w1 ⟨rfl, hb1⟩
      go_wp2
      go_ret
      exact ⟨rfl, hb1⟩
  · obtain rfl : few = true := by cases few; exact absurd (.inl rfl) hgo; rfl
    have hs2 : s.size ≤ 1024 := by omega
    have HF := Lib.hid (hfew.1 rfl); clear hgo hfew
    have hm20 : m ≤ 20 := by have := HF.out.1; have := HM.out; omega
    go_wp2_with fail
    refine (scan_any s _ (by omega)).mono ?_
    rintro e w2 ⟨hb2, v, rfl, hown⟩
    obtain ⟨vA, vc, rfl⟩ := own_form hown
    have hv := Rd.of_own hown
    clear hown
    have hsl : s.data.toList.length = s.size := by simp
    have hD : (Frame.scan s.data.toList).length ≤ 1024 := by have := scan_len s.data.toList; omega
    rw [strsOf_map] at hv
    go_wp2_with fail
    refine (refScan_any s _ (by omega)).mono ?_
    rintro e w3 ⟨hb3, v, rfl, hown⟩
    obtain ⟨uA, uc, rfl⟩ := own_form hown
    have hu := Rd.of_own hown
    rw [strsOf_map] at hu
    have hlen : ((Frame.scan s.data.toList).map bs).length = (Frame.scan s.data.toList).length := by simp
    generalize (Frame.scan s.data.toList).map bs = L at *
    generalize (Frame.all (Frame.scan s.data.toList)).length = q at *
    generalize (Frame.scan s.data.toList).length = d at *
    have hb23 := then_ hb2 hb3
    have hv3 := hv.below hb3
    have hr3 := hr.below hb23
    have hall1 := all_len ss 1024 HF.out.2
    have hall2 : (Frame.all (datas ss)).length ≤ 140737488355328 := by have := HM.out; have : ss.length * (8 + 1024) ≤ 20 * 1032 := Nat.mul_le_mul (by omega) (by omega); omega
    have HA := Lib.hid hall2
    have HL := Lib.hid hlen
    clear hown hall1 hall2 hb2 hb3 hv hsl
    go_wp2_with fail
    refine (fAll_any A m c ss _ hr3 HM.out (by omega) (fun x hx => by have := HF.out.2 x hx; omega) HA.out).mono ?_
    rintro e w4 ⟨rfl, hb4⟩
    have hr4 := hr3.below hb4
    generalize hT : bs (Frame.all (datas ss)) = t
    have HT := Lib.hid hT
    go_wp2_with fail
    refine (refAll_any A m c ss _ hr4 HM.out (by omega) (fun x hx => by have := HF.out.2 x hx; omega)).mono ?_
    rintro e w5 ⟨rfl, hb5⟩
    rw [HT.out]
    have htt : (t.toList == t.toList) = true := by simp
    go_wp2_with fail
    refine (fPut_any s _ (by omega)).mono ?_
    rintro e w6 ⟨rfl, hb6⟩
    generalize hP : bs (Frame.put s.data.toList) = p
    have HP := Lib.hid hP
    clear hT hP
    go_wp2_with fail
    refine (refPut_any s _ (by omega)).mono ?_
    rintro e w7 ⟨rfl, hb7⟩
    rw [HP.out]
    have hpp : (p.toList == p.toList) = true := by simp
    have hb37 := then_ hb4 (then_ hb5 (then_ hb6 hb7))
    have hv7 := hv3.below hb37
    have hu7 := hu.below hb37
    have hb27 := then_ hb23 hb37
    clear hb4 hb5 hb6 hb7 hb37 hb23 hv3 hu hr3 hr4
    go_wp2_with fail
    refine (sameTexts_any vA d vc L uA d uc L _ hv7 HL.out (by unfold maxLen; omega) hu7 HL.out (by unfold maxLen; omega)).mono ?_
    rintro e w8 ⟨rfl, hb8⟩
    rw [decide_eq_true (rfl : L = L)]
    have hqq : ((q : Int) == (q : Int)) = true := by simp
    go_wp2_with fail
    refine (awake26_any _).mono ?_
    rintro e w9 ⟨rfl, hb9⟩
    go_wp2
    go_ret
    exact ⟨rfl, then_ hb27 (then_ hb8 hb9)⟩
end Go.Proofs.Ytendagkbaihgiaa
