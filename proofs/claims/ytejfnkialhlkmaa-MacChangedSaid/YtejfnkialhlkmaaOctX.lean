/- The walks of OctetWrites and OctetNobody. -/
import Derived.Test.YtejfnkialhlkmaaOctW
namespace Go.Proofs.Ytejfnkialhlkmaa
open Go.RowKit Go.Mem Go.Num
set_option linter.unusedVariables false

theorem sumSize_le (ss : List ByteArray) (k : Nat) (h : ∀ s ∈ ss, s.size ≤ k) : sumSize ss ≤ ss.length * k := by
  induction ss with
  | nil => simp [sumSize]
  | cons s ss ih =>
    have h1 := h s (by simp)
    have h2 := ih (fun x hx => h x (by simp [hx]))
    simp only [sumSize, List.map_cons, List.sum_cons, List.length_cons] at *
    rw [Nat.add_mul]
    omega
theorem rd_lt {w : World} {A : Option Addr} {ss : List ByteArray} (hr : Rd w A (ss.map Value.string)) (hne : 0 < ss.length) : ∀ ad, A = some ad → ad.block < w.heap.size := by
  intro ad hA
  obtain ⟨b, off, e, hc⟩ := hr.at_ 0 (by simpa using hne)
  rw [e] at hA
  injection hA with hA
  subst hA
  exact World.block_lt_of_cell? w _ hc

set_option maxRecDepth 100000 in
set_option maxHeartbeats 4000000 in
theorem octetWrites_walk (n : Int) (s : ByteArray) (A : Option Addr) (m c : Nat) (ss : List ByteArray) (w : World) (hs : s.size ≤ maxLen) (hr : Rd w A (ss.map Value.string)) (hm : ss.length = m) (hm' : m ≤ maxLen) :
    Calls Try.prog 3 #[.int .i64 n, .string s, .slice A m c] w fun e w' => e = .returned (.bool true) ∧ Below w.heap.size w w' := by
  unfold maxLen at hs
  have HM := Lib.hid hm; clear hm
  have hW := Wr.new w
  have hb0 : Below w.heap.size w (w.alloc (.cells #[.pointer none, .slice none 0 0] 31)) := (Below.refl _ _).alloc (Nat.le_refl _) _
  generalize hw0 : w.alloc (.cells #[.pointer none, .slice none 0 0] 31) = w0 at hW hb0
  have HW0 := Lib.hid hw0; clear hw0
  go_enter Try.func3, Try.ntmps3
  by_cases hbig : 1024 < s.size
  · go_wp2_with fail
    refine (awake01_any _).mono ?_
    rintro e w1 ⟨rfl, hb1⟩
    go_wp2
    go_ret
    exact ⟨rfl, hb1⟩
  · go_wp2_with fail
    refine (few01_any A m c ss _ hr HM.out hm').mono ?_
    rintro e w1 ⟨few, hfew, rfl, rfl⟩
    cases few
    · clear hfew
      go_wp2_with fail
      refine (awake01_any _).mono ?_
      rintro e w1 ⟨rfl, hb1⟩
      go_wp2
      go_ret
      exact ⟨rfl, hb1⟩
    · obtain ⟨hl20, hall⟩ := hfew.1 rfl
      have hsum := sumSize_le ss 1024 hall
      clear hfew
      have HS : Hid (sumSize ss ≤ 20480) := Lib.hid (by omega)
      have HL : Hid (ss.length ≤ 20) := Lib.hid hl20
      have hm20 : m ≤ 20 := by rw [← HM.out]; exact hl20
      clear hsum hall hl20
      go_wp2_with fail
      rw [HW0.out]
      refine (wByte_any w.heap.size w.heap.size _ n _ hW (by simp) hb0.size).mono ?_
      rintro e w1 ⟨rfl, hW1, hb1⟩
      have hb1 := hb0.trans hb1
      go_wp2_with fail
      refine (wInt_any w.heap.size w.heap.size _ n _ hW1 (by simp [be_length]) hb1.size).mono ?_
      rintro e w2 ⟨rfl, hW2, hb2⟩
      have hb2 := hb1.trans hb2
      go_wp2_with fail
      refine (wCount_any w.heap.size w.heap.size _ n _ hW2 (by simp [be_length]) hb2.size).mono ?_
      rintro e w3 ⟨rfl, hW3, hb3⟩
      have hb3 := hb2.trans hb3
      go_wp2_with fail
      refine (wText_any w.heap.size w.heap.size _ s _ hW3 (by simp [be_length]; omega) hb3.size).mono ?_
      rintro e w4 ⟨rfl, hW4, hb4⟩
      have hb4 := hb3.trans hb4
      have HTS : Hid (∀ (z : World), Below w.heap.size w z → ∀ (L : List UInt8), L.length ≤ 10000 → Wr w.heap.size w.heap.size L z → Calls Try.prog 20 #[.pointer (some ⟨w.heap.size, 0, none⟩), .slice A m c] z fun e w' => e = .returned (.tuple #[]) ∧ Wr w.heap.size w.heap.size (L ++ textsB ss) w' ∧ Below w.heap.size z w') := by
        intro z hz L hL hWz
        exact wTexts_any w.heap.size w.heap.size L A m c ss z hWz (hr.below hz) (rd_lt hr) HM.out (by have := HS.out; have := HL.out; omega) hz.size
      go_wp2_with fail
      refine (HTS.out _ hb4 _ (by simp [be_length, textB_length]; omega) hW4).mono ?_
      rintro e w5 ⟨rfl, hW5, hb5⟩
      have hb5 := hb4.trans hb5
      have hH := hW5.holds
      rw [List.nil_append] at hH
      clear hW hW1 hW2 hW3 hW4 hW5 HTS HW0
      go_wp2_with fail
      refine (wByte_none _ _).mono ?_
      rintro e w6 ⟨rfl, rfl⟩
      go_wp2_with fail
      refine (wText_none _ _).mono ?_
      rintro e w6 ⟨rfl, rfl⟩
      go_wp2_with fail
      refine (wBytes_any w.heap.size w.heap.size _ _ hH hb5.size).mono ?_
      rintro e w6 ⟨rfl, hb6, _, _⟩
      have hb6 := hb5.trans hb6
      generalize hT : (⟨(be 1 n ++ be 8 n ++ be 4 n ++ textB s ++ textsB ss).toArray⟩ : ByteArray) = t
      have HT := Lib.hid hT; clear hT
      go_wp2_with fail
      refine (refByte_any _ _).mono ?_
      rintro e w7 ⟨rfl, hb7⟩
      have hb7 := then_ hb6 hb7
      have z1 : (bs [lowB n]).size ≤ 1 := by rw [bs_size]; simp
      generalize h1 : bs [lowB n] = s1 at z1
      have H1 := Lib.hid h1; clear h1
      go_wp2_with fail
      refine (refInt_any _ _).mono ?_
      rintro e w8 ⟨rfl, hb8⟩
      have hb8 := then_ hb7 hb8
      have z2 : (bs (be 8 n)).size ≤ 8 := by rw [bs_size, be_length]; omega
      generalize h1 : bs (be 8 n) = s2 at z2
      have H2 := Lib.hid h1; clear h1
      go_wp2_with fail
      refine (refCount_any _ _).mono ?_
      rintro e w9 ⟨rfl, hb9⟩
      have hb9 := then_ hb8 hb9
      have z3 : (bs (be 4 n)).size ≤ 4 := by rw [bs_size, be_length]; omega
      generalize h1 : bs (be 4 n) = s3 at z3
      have H3 := Lib.hid h1; clear h1
      go_wp2_with fail
      refine (refText_any s _ (by omega)).mono ?_
      rintro e w10 ⟨rfl, hb10⟩
      have hb10 := then_ hb9 hb10
      have z4 : (bs (textB s)).size ≤ 2000 := by rw [bs_size, textB_length]; omega
      generalize h1 : bs (textB s) = s4 at z4
      have H4 := Lib.hid h1; clear h1
      go_wp2_with fail
      refine (refTexts_any A m c ss _ (hr.below hb10) HM.out (by have := HS.out; have := HL.out; omega)).mono ?_
      rintro e w11 ⟨rfl, hb11⟩
      have hb11 := then_ hb10 hb11
      have z5 : (bs (textsB ss)).size ≤ 30000 := by
        have := HS.out
        have := HL.out
        unfold textsB
        rw [bs_size, List.length_append, be_length, flat_text_length]
        omega
      generalize h1 : bs (textsB ss) = s5 at z5
      have H5 := Lib.hid h1; clear h1
      have htt : t = s1 ++ s2 ++ s3 ++ s4 ++ s5 := by
        rw [← HT.out, ← H1.out, ← H2.out, ← H3.out, ← H4.out, ← H5.out, bs_append, bs_append, bs_append, bs_append]
        have : be 1 n = [lowB n] := by simp [be]
        rw [this]
        rfl
      rw [htt]
      clear htt HT H1 H2 H3 H4 H5 hH
      go_wp2_with fail
      refine (wBytes_none _).mono ?_
      rintro e w12 ⟨rfl, rfl⟩
      go_wp2_with fail
      refine (awake01_any _).mono ?_
      rintro e w12 ⟨rfl, hb12⟩
      go_wp2
      go_ret
      exact ⟨rfl, then_ hb11 hb12⟩
end Go.Proofs.Ytejfnkialhlkmaa
