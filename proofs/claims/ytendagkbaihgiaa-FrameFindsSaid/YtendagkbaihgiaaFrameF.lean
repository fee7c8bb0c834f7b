/- frame: the walk of FrameBack. -/
import Derived.Test.YtendagkbaihgiaaFrameE
attribute [local go_sem ↓] Go.wp_at_zero Go.wp_at_succ
namespace Go.Proofs.Ytendagkbaihgiaa
open Go.RowKit Go.Mem Go.Num
set_option linter.unusedVariables false
theorem datas_take (ss : List ByteArray) (k : Nat) : datas (ss.take k) = (datas ss).take k := by unfold datas; rw [List.map_take]
set_option maxRecDepth 100000 in
set_option maxHeartbeats 2000000 in
theorem frameBack_walk (A : Option Addr) (m c : Nat) (ss : List ByteArray) (cut : Int) (w : World) (hr : Rd w A (ss.map Value.string)) (hm : ss.length = m) (hmc : m ≤ c) (hcm : c ≤ maxLen) (hcut : (Lit.int .u16 cut).wf = true) :
    Calls Try.prog 7 #[.slice A m c, .int .u16 cut] w fun e w' => e = .returned (.bool true) ∧ Below w.heap.size w w' := by
  have hm' : m ≤ maxLen := Nat.le_trans hmc hcm
  have hcn := hcm
  unfold maxLen at hcn
  have ha : 0 ≤ cut ∧ cut ≤ 65535 := by simpa [Lit.wf, IntKind.min, IntKind.max, IntKind.signed, IntKind.bits] using hcut
  obtain ⟨ct, rfl⟩ : ∃ n : Nat, cut = (n : Int) := ⟨cut.toNat, by omega⟩
  have HM := Lib.hid hm; clear hm hcut
  go_enter Try.func7, Try.ntmps7
  go_wp2_with fail
  refine (few01_any A m c ss _ hr HM.out hm').mono ?_
  rintro e w1 ⟨few, hfew, rfl, rfl⟩
  cases few
  · clear hfew
    go_wp2_with fail
    refine (awake26_any _).mono ?_
    rintro e w1 ⟨rfl, hb1⟩
    go_wp2
    go_ret
    exact ⟨rfl, hb1⟩
  · have HF := Lib.hid (hfew.1 rfl); clear hfew
    have hm20 : m ≤ 20 := by have := HF.out.1; have := HM.out; omega
    have hall1 := all_len ss 1024 HF.out.2
    have hz : (Frame.all (datas ss)).length ≤ 20640 := by have := HM.out; have : ss.length * (8 + 1024) ≤ 20 * 1032 := Nat.mul_le_mul (by omega) (by omega); omega
    have HZ := Lib.hid hz; clear hall1 hz
    go_wp2_with fail
    refine (fAll_any A m c ss _ hr HM.out (by omega) (fun x hx => by have := HF.out.2 x hx; omega) (by have := HZ.out; omega)).mono ?_
    rintro e w4 ⟨rfl, hb4⟩
    have hr4 := hr.below hb4
    have hsc : Frame.scan (bs (Frame.all (datas ss))).data.toList = datas ss := by
      rw [bs_toList]; exact Frame.scan_all' _ (fun b hb => by
        unfold datas at hb; rw [List.mem_map] at hb; obtain ⟨x, hx, rfl⟩ := hb
        have := HF.out.2 x hx; have h2 : x.data.toList.length = x.size := by simp
        omega)
    have hts : (bs (Frame.all (datas ss))).size = (Frame.all (datas ss)).length := bs_size _
    have hcutS : ∀ k : Nat, Frame.scan ((bs (Frame.all (datas ss))).extract 0 k).data.toList = (datas ss).take (Frame.fits (datas ss) k) := fun k => by
      rw [bs_extract, List.drop_zero, bs_toList]
      exact Frame.scan_cut _ (fun b hb => by
        unfold datas at hb; rw [List.mem_map] at hb; obtain ⟨x, hx, rfl⟩ := hb
        have := HF.out.2 x hx; have h2 : x.data.toList.length = x.size := by simp
        omega) k
    have HCUT := Lib.hid hcutS; clear hcutS
    have HSC := Lib.hid hsc; clear hsc
    have HTS := Lib.hid hts; clear hts
    generalize hT : bs (Frame.all (datas ss)) = t at *
    have htz : t.size ≤ 20640 := by have := HTS.out; have := HZ.out; omega
    clear hT
    go_wp2_with fail
    refine (scan_any t _ (by omega)).mono ?_
    rintro e w5 ⟨hb5, v, rfl, hown⟩
    rw [HSC.out] at hown ⊢
    obtain ⟨vA, vc, rfl⟩ := own_form hown
    have hv := Rd.of_own hown
    rw [strsOf_map, datas_bs] at hv
    have hdl : (datas ss).length = m := by unfold datas; rw [List.length_map]; exact HM.out
    rw [hdl, HTS.out.symm]
    have hr5 := hr4.below hb5
    have hb45 := then_ hb4 hb5
    clear hown hb4 hb5 hr4
    go_wp2_with fail
    refine (sameTexts_any vA m vc ss A m c ss _ hv HM.out hm' hr5 HM.out hm').mono ?_
    rintro e w6 ⟨rfl, hb6⟩
    rw [decide_eq_true (rfl : ss = ss)]
    have hr6 := hr5.below hb6
    have hb46 := then_ hb45 hb6
    have htn : ((t.size : Int) != (t.size : Int)) = false := by simp
    clear hr5 hb6 hb45 hv
    obtain ⟨k, hk⟩ : ∃ k : Nat, (ct : Int) % ((t.size : Int) + 1) = k := ⟨((ct : Int) % ((t.size : Int) + 1)).toNat, by
      have := Int.emod_nonneg (ct : Int) (b := (t.size : Int) + 1) (by omega); omega⟩
    have hkt : k ≤ t.size := by
      have := Int.emod_lt_of_pos (ct : Int) (b := (t.size : Int) + 1) (by omega); omega
    have hkz : (t.extract 0 k).size ≤ 20640 := by rw [ByteArray.size_extract]; omega
    have hki : (k : Int) ≤ (t.size : Int) := by omega
    have hC := HCUT.out k
    have hdl2 := Frame.fits_le (datas ss) k
    have hused := Frame.fits_used (datas ss) k
    have hnext := Frame.fits_next (datas ss) k
    generalize Frame.fits (datas ss) k = f at *
    rw [hdl] at hdl2 hnext
    have HC := Lib.hid hC; have HU := Lib.hid hused; have HX := Lib.hid hnext; have HK := Lib.hid hk; clear hC hused hnext hk
    have hm0 : (0 : Int) ≤ (ct : Int) % ((t.size : Int) + 1) := by rw [HK.out]; omega
    have hm1 : (ct : Int) % ((t.size : Int) + 1) ≤ (t.size : Int) := by rw [HK.out]; omega
    go_wp2_with fail
    rw [HK.out]
    have hkn : ct % (t.size + 1) = k := by
      have h2 : ((ct % (t.size + 1) : Nat) : Int) = (k : Int) := by rw [Int.natCast_emod]; exact HK.out
      exact Int.ofNat.inj h2
    rw [hkn]
    refine (scan_any (t.extract 0 k) _ (by omega)).mono ?_
    rintro e w7 ⟨hb7, v, rfl, hown⟩
    rw [HC.out] at hown ⊢
    obtain ⟨uA, uc, rfl⟩ := own_form hown
    have hu := Rd.of_own hown
    have hfl : ((datas ss).take f).length = f := by rw [List.length_take, hdl]; omega
    rw [strsOf_map, List.map_take, datas_bs] at hu
    rw [hfl]
    have hr7 := hr6.below hb7
    have hb47 := then_ hb46 hb7
    have hfn : (ss.take f).length = f := by rw [List.length_take]; have := HM.out; omega
    have HFN := Lib.hid hfn
    have hq : (Frame.all ((datas ss).take f)).length ≤ k := HU.out
    generalize hqq : (Frame.all ((datas ss).take f)).length = q at *
    have HQ := Lib.hid hqq
    clear hown hb7 hb46 hr6 hfl hfn hqq hm0 hm1
    go_wp2_with fail
    refine (begins_any uA f uc (ss.take f) A m c ss _ hu HFN.out (by omega) hr7 HM.out hm').mono ?_
    rintro e w8 ⟨rfl, hb8⟩
    rw [decide_eq_true (rfl : ss.take f = ss.take f)]
    have hu8 := hu.below hb8
    have hr8 := hr7.below hb8
    have hb48 := then_ hb47 hb8
    have hqk : (q : Int) ≤ (k : Int) := by omega
    have hfz : (Frame.all (datas (ss.take f))).length ≤ 140737488355328 := by rw [datas_take, HQ.out]; omega
    have HFZ := Lib.hid hfz
    clear hu hr7 hb8 hb47 hfz
    go_wp2_with fail
    refine (fAll_any uA f uc (ss.take f) _ hu8 HFN.out (by omega) (fun x hx => by have := HF.out.2 x (List.mem_of_mem_take hx); omega) HFZ.out).mono ?_
    rintro e w9 ⟨rfl, hb9⟩
    have hqz : (bs (Frame.all (datas (ss.take f)))).size = q := by rw [bs_size, datas_take, HQ.out]
    generalize bs (Frame.all (datas (ss.take f))) = y at *
    have hr9 := hr8.below hb9
    have hb49 := then_ hb48 hb9
    have hne9 : ((y.size : Int) != (q : Int)) = false := by rw [hqz]; simp
    clear hu8 hr8 hb9 hb48
    have hkq : decide ((k : Int) < (q : Int)) = false := by simp; omega
    by_cases hfm : f = m
    · have hd : ((f : Int) == (m : Int)) = true := by simp; omega
      clear hfm
      go_wp2_with fail
      refine (awake26_any _).mono ?_
      rintro e w10 ⟨rfl, hb10⟩
      go_wp2
      go_ret
      exact ⟨rfl, then_ hb49 hb10⟩
    · have hd : ((f : Int) == (m : Int)) = false := by simp; omega
      have hlt : f < m := by omega
      have hx1 : k < (Frame.all (datas (ss.take (f + 1)))).length := by rw [datas_take]; exact HX.out hlt
      have htl : (ss.take (f + 1)).length = f + 1 := by rw [List.length_take]; have := HM.out; omega
      have hrt : Rd w9 A ((ss.take (f + 1)).map Value.string) := by rw [List.map_take]; exact hr9.take _
      have hal := all_len (ss.take (f + 1)) 1024 (fun x hx => HF.out.2 x (List.mem_of_mem_take hx))
      have haz : (Frame.all (datas (ss.take (f + 1)))).length ≤ 20640 := by rw [htl] at hal; have : (f + 1) * (8 + 1024) ≤ 20 * 1032 := Nat.mul_le_mul (by omega) (by omega); omega
      have HTL := Lib.hid htl; have HAZ := Lib.hid haz; have HX1 := Lib.hid hx1
      have i0 : (0 : Int) ≤ (f : Int) + 1 := by omega
      have i1 : (f : Int) + 1 ≤ (c : Int) := by omega
      clear hfm htl haz hal hx1
      go_wp2_with fail
      refine (fAll_any A (f + 1) c (ss.take (f + 1)) _ hrt HTL.out (by omega) (fun x hx => by have := HF.out.2 x (List.mem_of_mem_take hx); omega) (by have := HAZ.out; omega)).mono ?_
      rintro e w10 ⟨rfl, hb10⟩
      have hz : k < (bs (Frame.all (datas (ss.take (f + 1))))).size := by rw [bs_size]; exact HX1.out
      generalize bs (Frame.all (datas (ss.take (f + 1)))) = z at *
      have hb50 := then_ hb49 hb10
      clear hr9 hb10 hb49 hrt
      go_wp2_with fail
      refine (awake26_any _).mono ?_
      rintro e w11 ⟨rfl, hb11⟩
      go_wp2
      go_ret
      exact ⟨rfl, then_ hb50 hb11⟩
end Go.Proofs.Ytendagkbaihgiaa
