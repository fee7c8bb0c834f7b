/- frame: the document's Begins, what must come, and the walk of FrameIs. -/
import Derived.Test.YtendagkbaihgiaaFrameC
attribute [local go_sem ↓] Go.wp_at_zero Go.wp_at_succ
namespace Go.Proofs.Ytendagkbaihgiaa
open Go.RowKit Go.Mem Go.Num
set_option linter.unusedVariables false
set_option maxRecDepth 100000 in
set_option maxHeartbeats 1000000 in
theorem begins_any (A : Option Addr) (n c : Nat) (ss : List ByteArray) (B : Option Addr) (m d : Nat) (ts : List ByteArray) (w : World) (hr : Rd w A (ss.map Value.string)) (hn : ss.length = n) (hn' : n ≤ maxLen) (hr' : Rd w B (ts.map Value.string)) (hm : ts.length = m) (hm' : m ≤ maxLen) :
    Calls Try.prog 23 #[.slice A n c, .slice B m d] w fun e w' => e = .returned (.bool (decide (ss = ts.take n))) ∧ Below w.heap.size w w' := by
  unfold maxLen at hn' hm'
  by_cases hnm : n ≤ m
  · have hne : (m : Int) < (n : Int) ↔ False := by simp; omega
    have HN := Lib.hid hn; have HM := Lib.hid hm; clear hn hm
    go_enter Try.func23, Try.ntmps23
    go_wp2
    go_loopw [5] (fun i wr => ∃ k : Nat, k ≤ n ∧ i = .int .i64 k ∧ ss.take k = ts.take k ∧ Below w.heap.size w wr) (fun i _ => n - (intOf i).toNat)
    case atStart => exact ⟨0, Nat.zero_le _, rfl, rfl, Below.refl _ _⟩
    case round =>
      obtain ⟨k, hk, rfl, htk, hbel⟩ := hrel
      have HT := Lib.hid htk; clear htk
      by_cases hlt : k < n
      · have hx : k < ss.length := by have := HN.out; omega
        have hy : k < ts.length := by have := HM.out; omega
        obtain ⟨b, off, rfl, hcell⟩ := (hr.below hbel).at_ k (by simp; exact hx)
        obtain ⟨b', off', rfl, hcell'⟩ := (hr'.below hbel).at_ k (by simp; exact hy)
        simp only [List.getElem_map] at hcell hcell'
        have hts : ss.take (k + 1) = ss.take k ++ [ss[k]] := List.take_succ_eq_append_getElem hx
        have htt : ts.take (k + 1) = ts.take k ++ [ts[k]] := List.take_succ_eq_append_getElem hy
        have hdr : ss = ts.take n → ss[k] = ts[k] := by intro h; simp [h]
        generalize ss[k] = s at hcell hts hdr
        generalize ts[k] = t at hcell' htt hdr
        have HTS := Lib.hid hts; have HTT := Lib.hid htt; have HDR := Lib.hid hdr; clear hts htt hdr
        have hi0 : (0 : Int) ≤ (k : Int) := by omega
        have hi1 : (k : Int) < (n : Int) := by omega
        have hi2 : (k : Int) < (m : Int) := by omega
        by_cases hst : s = t
        · subst hst
          have hee : (s.toList == s.toList) = true := by simp
          go_wp2
          go_quiet (fail)
          go_wp2
          go_roundw
          case rel => exact ⟨k + 1, by omega, by go_num, by rw [HTS.out, HTT.out, HT.out], drewN_ hbel _⟩
          case measure => simp [intOf]; omega
        · have hne' : (s.toList == t.toList) = false := by rw [str_beq]; simpa using hst
          have HST := Lib.hid hst; clear hst
          go_wp2
          go_quiet (fail)
          go_wp2
          go_ret
          exact ⟨ret_bool (by symm; rw [decide_eq_false_iff_not]; exact fun h => HST.out (HDR.out h)), drewN_ hbel _⟩
      · have HK : Hid (k = n) := Lib.hid (by omega)
        have i3 : (n : Int) ≤ (k : Int) := by omega
        go_wp2
        go_ret
        refine ⟨ret_bool ?_, hbel⟩
        symm
        rw [decide_eq_true_eq]
        have := HT.out
        rwa [HK.out, List.take_of_length_le (by rw [HN.out]; omega)] at this
  · have hgt : (m : Int) < (n : Int) := by omega
    have HF : Hid (decide (ss = ts.take n) = false) := by
      rw [Hid, decide_eq_false_iff_not]; intro h
      have := congrArg List.length h
      rw [List.length_take] at this; omega
    go_enter Try.func23, Try.ntmps23
    go_wp2
    go_ret
    exact ⟨ret_bool (by rw [HF.out]), Below.refl _ _⟩

theorem strsOf_map (l : List (List UInt8)) : strsOf l = (l.map bs).map Value.string := rfl
theorem datas_bs (l : List ByteArray) : (datas l).map bs = l := by
  unfold datas
  rw [List.map_map]
  conv => rhs; rw [← List.map_id l]
  apply List.map_congr_left
  intro s _
  exact bs_of s
set_option maxRecDepth 100000 in
set_option maxHeartbeats 2000000 in
theorem awake26_any (w : World) : Calls Try.prog 15 #[] w fun e w' => e = .returned (.bool true) ∧ Below w.heap.size w w' := by
  have hA : (Frame.all (datas [⟨#[97]⟩, ⟨#[]⟩])).length = 17 := by decide +kernel
  have hS : Frame.scan (bs (Frame.all (datas [⟨#[97]⟩, ⟨#[]⟩])) ++ ⟨#[120]⟩ : ByteArray).data.toList = datas [⟨#[97]⟩, ⟨#[]⟩] := by
    rw [ByteArray.data_append, Array.toList_append, bs_toList, Frame.scan_all _ _ (by decide), Frame.scan_none (by decide +kernel), List.append_nil]
  go_enter Try.func15, Try.ntmps15
  go_wp2_with fail
  refine (fAll_any _ 2 2 [⟨#[97]⟩, ⟨#[]⟩] _ (Rd.new w #[.string ⟨#[97]⟩, .string ⟨#[]⟩] _) rfl (by decide) (by decide) (by rw [hA]; decide)).mono ?_
  rintro e w1 ⟨rfl, hb1⟩
  have hsz : (bs (Frame.all (datas [⟨#[97]⟩, ⟨#[]⟩]))).size = 17 := by rw [bs_size, hA]
  have hput : bs (Frame.put (⟨#[97]⟩ : ByteArray).data.toList) ++ bs (Frame.put (⟨#[]⟩ : ByteArray).data.toList) = bs (Frame.all (datas [⟨#[97]⟩, ⟨#[]⟩])) := by
    rw [bs_append]; rfl
  generalize bs (Frame.all (datas [⟨#[97]⟩, ⟨#[]⟩])) = t at *
  obtain ⟨pa, hpa⟩ : ∃ p, bs (Frame.put (⟨#[97]⟩ : ByteArray).data.toList) = p := ⟨_, rfl⟩
  obtain ⟨pb, hpb⟩ : ∃ p, bs (Frame.put (⟨#[]⟩ : ByteArray).data.toList) = p := ⟨_, rfl⟩
  rw [hpa, hpb] at hput
  have HPA := Lib.hid hpa; have HPB := Lib.hid hpb; clear hpa hpb
  have HS := Lib.hid hS; have HP := Lib.hid hput
  have hbA : Below w.heap.size w w1 := ((Below.refl _ _).alloc (Nat.le_refl _) _).trans (hb1.mono (by simp))
  have hsx : (t ++ (⟨#[120]⟩ : ByteArray)).size ≤ 1000000000 := by rw [ByteArray.size_append, hsz]; decide
  have hl17 : (Frame.all (datas [⟨#[97]⟩, ⟨#[]⟩])).length = 17 := hA
  clear hA hS hput hb1
  generalize hD : datas [⟨#[97]⟩, ⟨#[]⟩] = D at *
  have hDm : D.map bs = [⟨#[97]⟩, ⟨#[]⟩] := by rw [← hD]; exact datas_bs _
  have HDM := Lib.hid hDm; clear hD hDm
  go_wp2_with fail
  refine (scan_any (t ++ (⟨#[120]⟩ : ByteArray)) _ hsx).mono ?_
  rintro e w2 ⟨hb2, v, rfl, hown⟩
  rw [HS.out] at hown ⊢
  obtain ⟨vA, vc, rfl⟩ := own_form hown
  have hrd := Rd.of_own hown
  rw [strsOf_map, HDM.out] at hrd
  have hDl : D.length = 2 := by have := congrArg List.length HDM.out; simpa using this
  rw [hDl]
  rw [hl17]
  have hbB := then_ hbA hb2
  clear hown hb2 hbA
  go_wp2_with fail
  refine (fPut_any _ _ (by decide)).mono ?_
  rintro e w3 ⟨rfl, hb3⟩
  rw [HPA.out]
  go_wp2_with fail
  refine (fPut_any _ _ (by decide)).mono ?_
  rintro e w4 ⟨rfl, hb4⟩
  rw [HPB.out]
  have hb34 := then_ hb3 hb4
  have hrd4 := hrd.below hb34
  have hbC := then_ hbB hb34
  have htt : (t.toList == (pa ++ pb).toList) = true := by rw [HP.out]; simp
  have hszi : (t.size : Int) = 17 := by omega
  have hpz : pa.size + pb.size = 17 := by have := congrArg ByteArray.size HP.out; rw [ByteArray.size_append] at this; omega
  clear hrd hb3 hb4 hb34 hbB
  go_wp2_with fail
  refine (sameTexts_any vA 2 vc [⟨#[97]⟩, ⟨#[]⟩] _ 2 2 [⟨#[97]⟩, ⟨#[]⟩] _ (hrd4.alloc _) rfl (by decide) (Rd.new w4 #[.string ⟨#[97]⟩, .string ⟨#[]⟩] _) rfl (by decide)).mono ?_
  rintro e w5 ⟨rfl, hb5⟩
  rw [decide_eq_true (rfl : ([⟨#[97]⟩, ⟨#[]⟩] : List ByteArray) = [⟨#[97]⟩, ⟨#[]⟩])]
  go_wp2
  go_ret
  exact ⟨rfl, (hbC.alloc hbC.size _).trans (hb5.mono (by simp; have := hbC.size; omega))⟩
end Go.Proofs.Ytendagkbaihgiaa
