/- sha: what must come; the walks of the laws. -/
import Derived.Test.YtejfnkialhlkmaaShaJ
namespace Go.Proofs.Ytejfnkialhlkmaa
open Go.RowKit Go.Mem Go.Num
set_option linter.unusedVariables false
set_option maxRecDepth 100000 in
theorem hex_none : bs (Sha.digits (Sha.sum [])) = ⟨#[101, 51, 98, 48, 99, 52, 52, 50, 57, 56, 102, 99, 49, 99, 49, 52, 57, 97, 102, 98, 102, 52, 99, 56, 57, 57, 54, 102, 98, 57, 50, 52, 50, 55, 97, 101, 52, 49, 101, 52, 54, 52, 57, 98, 57, 51, 52, 99, 97, 52, 57, 53, 57, 57, 49, 98, 55, 56, 53, 50, 98, 56, 53, 53]⟩ := by decide +kernel
set_option maxRecDepth 100000 in
theorem hex_abc : bs (Sha.digits (Sha.sum [97, 98, 99])) = ⟨#[98, 97, 55, 56, 49, 54, 98, 102, 56, 102, 48, 49, 99, 102, 101, 97, 52, 49, 52, 49, 52, 48, 100, 101, 53, 100, 97, 101, 50, 50, 50, 51, 98, 48, 48, 51, 54, 49, 97, 51, 57, 54, 49, 55, 55, 97, 57, 99, 98, 52, 49, 48, 102, 102, 54, 49, 102, 50, 48, 48, 49, 53, 97, 100]⟩ := by decide +kernel
theorem sum_length (l : List UInt8) : (Sha.sum l).length = 32 := by
  unfold Sha.sum Sha.out
  rw [flat4_length]
  rfl
set_option maxRecDepth 100000 in
set_option maxHeartbeats 1000000 in
theorem awake02_any (w : World) : Calls Try.prog 50 #[] w fun e w' => e = .returned (.bool true) ∧ Below w.heap.size w w' := by
  go_enter Try.func50, Try.ntmps50
  go_wp2_with fail
  refine (shaHex_any ⟨#[]⟩ _ (by decide)).mono ?_
  rintro e w1 ⟨rfl, hb1⟩
  rw [show (⟨#[]⟩ : ByteArray).data.toList = [] from rfl, hex_none]
  go_wp2_with fail
  refine (shaHex_any ⟨#[97, 98, 99]⟩ _ (by decide)).mono ?_
  rintro e w2 ⟨rfl, hb2⟩
  have hb2 := then_ hb1 hb2
  rw [show (⟨#[97, 98, 99]⟩ : ByteArray).data.toList = [97, 98, 99] from rfl, hex_abc]
  go_wp2_with fail
  refine (shaSum_any ⟨#[120]⟩ _ (by decide)).mono ?_
  rintro e w3 ⟨rfl, hb3⟩
  have hb3 := then_ hb2 hb3
  have h32 : (bs (Sha.sum (⟨#[120]⟩ : ByteArray).data.toList)).size = 32 := by rw [bs_size, sum_length]
  generalize bs (Sha.sum (⟨#[120]⟩ : ByteArray).data.toList) = t at h32
  go_wp2_with fail
  refine (shaOf_any none 0 0 [] _ Rd.nil rfl (by decide)).mono ?_
  rintro e w4 ⟨rfl, hb4⟩
  have hb4 := then_ hb3 hb4
  rw [show textsB [] = [0, 0, 0, 0] from by decide]
  go_wp2_with fail
  refine (shaSum_any ⟨#[0, 0, 0, 0]⟩ _ (by decide)).mono ?_
  rintro e w5 ⟨rfl, hb5⟩
  have hb5 := then_ hb4 hb5
  rw [show (⟨#[0, 0, 0, 0]⟩ : ByteArray).data.toList = [0, 0, 0, 0] from rfl]
  generalize bs (Sha.sum [0, 0, 0, 0]) = u
  go_wp2
  go_ret
  exact ⟨rfl, hb5⟩

set_option maxRecDepth 100000 in
set_option maxHeartbeats 1000000 in
theorem shaIs_walk (s : ByteArray) (w : World) (hs : s.size ≤ maxLen) :
    Calls Try.prog 11 #[.string s] w fun e w' => e = .returned (.bool true) ∧ Below w.heap.size w w' := by
  unfold maxLen at hs
  go_enter Try.func11, Try.ntmps11
  by_cases hbig : 1024 < s.size
  · go_wp2_with fail
    refine (awake02_any _).mono ?_
    rintro e w1 ⟨rfl, hb1⟩
    go_wp2
    go_ret
    exact ⟨rfl, hb1⟩
  · go_wp2_with fail
    refine (shaSum_any s _ (by omega)).mono ?_
    rintro e w1 ⟨rfl, hb1⟩
    go_wp2_with fail
    refine (refSum_any s _ (by omega)).mono ?_
    rintro e w2 ⟨rfl, hb2⟩
    have hb2 := then_ hb1 hb2
    have he : ((bs (Sha.sum s.data.toList)).toList == (bs (Sha.sum s.data.toList)).toList) = true := by simp
    generalize bs (Sha.sum s.data.toList) = t at *
    go_wp2_with fail
    refine (shaHex_any s _ (by omega)).mono ?_
    rintro e w3 ⟨rfl, hb3⟩
    have hb3 := then_ hb2 hb3
    go_wp2_with fail
    refine (refHex_any s _ (by omega)).mono ?_
    rintro e w4 ⟨rfl, hb4⟩
    have hb4 := then_ hb3 hb4
    generalize bs (Sha.digits (Sha.sum s.data.toList)) = u at *
    go_wp2_with fail
    refine (awake02_any _).mono ?_
    rintro e w5 ⟨rfl, hb5⟩
    go_wp2
    go_ret
    exact ⟨rfl, then_ hb4 hb5⟩

theorem lists_inj {ss ts : List ByteArray} (h : (ss.map fun s => s.data.toList) = ts.map fun s => s.data.toList) : ss = ts := by
  have h1 := congrArg (List.map bs) h
  rw [List.map_map, List.map_map] at h1
  have : (bs ∘ fun s : ByteArray => s.data.toList) = id := by funext x; exact bs_of x
  rwa [this, List.map_id, List.map_id] at h1
theorem textsB_inj {ss ts : List ByteArray} (h1 : ss.length ≤ 20) (h2 : ∀ s ∈ ss, s.size ≤ 1024) (h3 : ts.length ≤ 20) (h4 : ∀ s ∈ ts, s.size ≤ 1024) (h : textsB ss = textsB ts) : ss = ts := by
  have key : ∀ {us : List ByteArray}, us.length ≤ 20 → (∀ s ∈ us, s.size ≤ 1024) → rdTexts (textsB us, true) = (us.map fun s => s.data.toList, ([], true)) := by
    intro us h1 h2
    have := rdTexts_app (us.map fun s => s.data.toList) [] (fun t ht => by
      obtain ⟨x, hx, rfl⟩ := List.mem_map.1 ht
      have := h2 x hx
      simp
      omega) (by rw [List.length_map]; omega)
    rw [List.append_nil, ← textsB_tx] at this
    exact this
  have k1 := key h1 h2
  have k2 := key h3 h4
  rw [h, k2] at k1
  injection k1 with k1
  exact (lists_inj k1).symm

set_option maxRecDepth 100000 in
set_option maxHeartbeats 1000000 in
theorem shaLists_walk (A : Option Addr) (m c : Nat) (ss : List ByteArray) (w : World) (hr : Rd w A (ss.map Value.string)) (hm : ss.length = m) (hm' : m ≤ maxLen) :
    Calls Try.prog 12 #[.slice A m c] w fun e w' => e = .returned (.bool true) ∧ Below w.heap.size w w' := by
  have HM := Lib.hid hm; clear hm
  go_enter Try.func12, Try.ntmps12
  go_wp2_with fail
  refine (few01_any A m c ss _ hr HM.out hm').mono ?_
  rintro e w1 ⟨few, hfew, rfl, rfl⟩
  cases few
  · clear hfew
    go_wp2_with fail
    refine (awake02_any _).mono ?_
    rintro e w1 ⟨rfl, hb1⟩
    go_wp2
    go_ret
    exact ⟨rfl, hb1⟩
  · obtain ⟨hl20, hall⟩ := hfew.1 rfl
    have hsum := sumSize_le ss 1024 hall
    have HS : Hid (4 * ss.length + sumSize ss + 16 ≤ 1099511627776) := Lib.hid (by omega)
    clear hfew hsum hall hl20
    go_wp2_with fail
    refine (shaOf_any A m c ss _ hr HM.out HS.out).mono ?_
    rintro e w2 ⟨rfl, hb2⟩
    go_wp2_with fail
    refine (refOf_any A m c ss _ (hr.below hb2) HM.out HS.out).mono ?_
    rintro e w3 ⟨rfl, hb3⟩
    have hb3 := then_ hb2 hb3
    generalize bs (Sha.sum (textsB ss)) = t at *
    go_wp2_with fail
    refine (awake02_any _).mono ?_
    rintro e w5 ⟨rfl, hb5⟩
    go_wp2
    go_ret
    exact ⟨rfl, then_ hb3 hb5⟩

set_option maxRecDepth 100000 in
set_option maxHeartbeats 2000000 in
theorem shaApart_walk (A : Option Addr) (m c : Nat) (ss : List ByteArray) (A' : Option Addr) (m' c' : Nat) (ts : List ByteArray) (w : World) (hr : Rd w A (ss.map Value.string)) (hm : ss.length = m) (hm1 : m ≤ maxLen) (hr' : Rd w A' (ts.map Value.string)) (hm' : ts.length = m') (hm1' : m' ≤ maxLen) :
    Calls Try.prog 13 #[.slice A m c, .slice A' m' c'] w fun e w' => e = .returned (.bool true) ∧ Below w.heap.size w w' := by
  have HM := Lib.hid hm; clear hm
  have HM' := Lib.hid hm'; clear hm'
  go_enter Try.func13, Try.ntmps13
  go_wp2_with fail
  refine (few01_any A m c ss _ hr HM.out hm1).mono ?_
  rintro e w1 ⟨few, hfew, rfl, rfl⟩
  cases few
  · clear hfew
    go_wp2_with fail
    refine (awake02_any _).mono ?_
    rintro e w1 ⟨rfl, hb1⟩
    go_wp2
    go_ret
    exact ⟨rfl, hb1⟩
  · have HF := Lib.hid (hfew.1 rfl); clear hfew
    go_wp2_with fail
    refine (few01_any A' m' c' ts _ hr' HM'.out hm1').mono ?_
    rintro e w1 ⟨few, hfew, rfl, rfl⟩
    cases few
    · clear hfew
      go_wp2_with fail
      refine (awake02_any _).mono ?_
      rintro e w1 ⟨rfl, hb1⟩
      go_wp2
      go_ret
      exact ⟨rfl, hb1⟩
    · have HF' := Lib.hid (hfew.1 rfl); clear hfew
      have HS : Hid (4 * ss.length + sumSize ss + 16 ≤ 1099511627776) := Lib.hid (by have h := HF.out; have := sumSize_le ss 1024 h.2; omega)
      have HS' : Hid (4 * ts.length + sumSize ts + 16 ≤ 1099511627776) := Lib.hid (by have h := HF'.out; have := sumSize_le ts 1024 h.2; omega)
      have hz1 : (bs (textsB ss)).size ≤ 1099511627776 := by have := HS.out; rw [bs_size]; unfold textsB; rw [List.length_append, be_length, flat_text_length]; omega
      have hz2 : (bs (textsB ts)).size ≤ 1099511627776 := by have := HS'.out; rw [bs_size]; unfold textsB; rw [List.length_append, be_length, flat_text_length]; omega
      have hd1 : (bs (textsB ss)).data.toList = textsB ss := bs_toList _
      have hd2 : (bs (textsB ts)).data.toList = textsB ts := bs_toList _
      have hiff : decide (ss = ts) = ((bs (textsB ss)).toList == (bs (textsB ts)).toList) := by
        rw [str_beq, decide_eq_decide]
        constructor
        · rintro rfl; rfl
        · intro h; exact textsB_inj HF.out.1 HF.out.2 HF'.out.1 HF'.out.2 (bs_inj h)
      have HIFF := Lib.hid hiff; clear hiff
      go_wp2_with fail
      refine (refTexts_any A m c ss _ hr HM.out (Nat.le_trans HS.out (by decide))).mono ?_
      rintro e w2 ⟨rfl, hb2⟩
      go_wp2_with fail
      refine (refTexts_any A' m' c' ts _ (hr'.below hb2) HM'.out (Nat.le_trans HS'.out (by decide))).mono ?_
      rintro e w3 ⟨rfl, hb3⟩
      have hb3 := then_ hb2 hb3
      generalize hx : bs (textsB ss) = x at *
      generalize hy : bs (textsB ts) = y at *
      have HX := Lib.hid hx; have HY := Lib.hid hy; have HD1 := Lib.hid hd1; have HD2 := Lib.hid hd2
      clear hx hy hd1 hd2
      go_wp2_with fail
      refine (sameTexts_any A m c ss A' m' c' ts _ (hr.below hb3) HM.out hm1 (hr'.below hb3) HM'.out hm1').mono ?_
      rintro e w4 ⟨rfl, hb4⟩
      have hb4 := then_ hb3 hb4
      rw [HIFF.out]
      have hne : ((x.toList == y.toList) != (x.toList == y.toList)) = false := by simp
      go_wp2_with fail
      refine (shaOf_any A m c ss _ (hr.below hb4) HM.out HS.out).mono ?_
      rintro e w5 ⟨rfl, hb5⟩
      have hb5 := then_ hb4 hb5
      go_wp2_with fail
      refine (shaOf_any A' m' c' ts _ (hr'.below hb5) HM'.out HS'.out).mono ?_
      rintro e w6 ⟨rfl, hb6⟩
      have hb6 := then_ hb5 hb6
      generalize hu : bs (Sha.sum (textsB ss)) = u at *
      generalize hv : bs (Sha.sum (textsB ts)) = v at *
      have HU := Lib.hid hu; have HV := Lib.hid hv; clear hu hv
      go_wp2_with fail
      refine (shaSum_any x _ hz1).mono ?_
      rintro e w7 ⟨rfl, hb7⟩
      have hb7 := then_ hb6 hb7
      rw [HD1.out, HU.out]
      go_wp2_with fail
      refine (shaSum_any y _ hz2).mono ?_
      rintro e w8 ⟨rfl, hb8⟩
      have hb8 := then_ hb7 hb8
      rw [HD2.out, HV.out]
      have hee : ((u.toList == v.toList) == (u.toList == v.toList)) = true := by simp
      go_wp2_with fail
      refine (awake02_any _).mono ?_
      rintro e w9 ⟨rfl, hb9⟩
      go_wp2
      go_ret
      exact ⟨rfl, then_ hb8 hb9⟩
end Go.Proofs.Ytejfnkialhlkmaa
