/- ScriptOf's walk. -/
import Derived.Test.YtlmplibdfhamjaaScrOf
import Derived.Test.YtlmplibdfhamjaaScrJ
attribute [local go_sem ↓] Go.wp_at_zero Go.wp_at_succ
namespace Go.Proofs.Ytlmplibdfhamjaa
open Go.RowKit Go.Mem Go.Num
set_option linter.unusedVariables false
set_option linter.unusedSimpArgs false

theorem fin47 (w W : World) (h : Below w.heap.size w W) : Calls Try.prog 13 #[] W fun e w' => e = .returned (.bool true) ∧ Below w.heap.size w w' := (awake47_any W).mono fun _ _ ⟨h1, h2⟩ => ⟨h1, then_ h h2⟩
theorem scrL_le (s : ByteArray) : (scrL s).length ≤ 16384 := by
  unfold scrL
  split
  · unfold scr0 rdScr rdSev
    simp only
    refine Nat.le_trans (sevG_count _ _ _) ?_
    have := (rdCount_range 16384 (rdAll rdEnt 65536 (sevG rdMem (rdCount 65536 (s.data.toList, true)).1.toNat (rdCount 65536 (s.data.toList, true)).2).2).2).2.2 (by omega)
    omega
  · simp
set_option maxRecDepth 100000 in
set_option maxHeartbeats 4000000 in
theorem scriptOf_walk (s : ByteArray) (w : World) (hs : s.size ≤ maxLen) :
    Calls Try.prog 3 #[.string s] w (TrueW w) := by
  by_cases hbig : 2048 < s.size
  · have hd : decide ((2048 : Int) < (s.size : Int)) = true := by simp; omega
    go_enter Try.func3, Try.ntmps3
    go_wp2_with fail
    refine (fin47 w _ (Below.refl _ _)).mono ?_
    rintro e w1 ⟨rfl, hb1⟩
    go_wp2
    go_ret
    exact ⟨rfl, hb1⟩
  have hd : decide ((2048 : Int) < (s.size : Int)) = false := by simp; omega
  have H1 := Lib.hid (fun W => sOf_any s W (by omega))
  have H2 := Lib.hid (fun W => rOf47_any s W (by omega))
  have HLL := Lib.hid (scrL_le s)
  clear hs
  go_enter Try.func3, Try.ntmps3
  go_wp2_with fail
  refine (H1.out _).mono ?_
  rintro e w1 ⟨⟨mA, mn, mc, ms⟩, ⟨eA, en, ec, es⟩, ⟨xA, xn, xc, xs⟩, rfl, hm, he, hx, g1, g2, g3, hb1⟩
  simp only at g1 g2 g3
  have HM := Lib.hid hm; have HE := Lib.hid he; have HV := Lib.hid hx; have HB := Lib.hid hb1
  have G1 := Lib.hid g1; have G2 := Lib.hid g2; have G3 := Lib.hid g3
  clear hm he hx hb1 g1 g2 g3
  simp only [setup, Evs.v]
  have HS := Lib.hid (SBox.new w1 26 #[.slice mA mn mc, .slice eA en ec])
  have ha : Below w1.heap.size w1 (w1.alloc (.cells #[.slice mA mn mc, .slice eA en ec] 26)) := (Below.refl _ _).alloc (Nat.le_refl _) _
  have HM := Lib.hid (HM.out.below ha); have HE := Lib.hid (HE.out.below ha); have HV := Lib.hid (HV.out.below ha); have HB := Lib.hid (then_ HB.out ha)
  clear ha
  go_wp2_with fail
  generalize w1.alloc (.cells #[.slice mA mn mc, .slice eA en ec] 26) = W1 at HS HM HE HV HB ⊢
  refine (H2.out _).mono ?_
  rintro e w2 ⟨⟨mA', mn', mc', ms'⟩, ⟨eA', en', ec', es'⟩, ⟨xA', xn', xc', xs'⟩, rfl, hm, he, hx, g1, g2, g3, hb2⟩
  simp only at g1 g2 g3
  have HM := Lib.hid (HM.out.below hb2); have HE := Lib.hid (HE.out.below hb2); have HV := Lib.hid (HV.out.below hb2); have HB := Lib.hid (then_ HB.out hb2); have HS := Lib.hid (HS.out.below hb2)
  have hn5 : xn ≤ 100000 := by
    have a1 := HV.out.len; have a2 := congrArg List.length G3.out; have a3 := HLL.out
    simp only [List.length_map] at a1 a2; omega
  have HSM := Lib.hid (fun (W : World) (hW : Below w2.heap.size w2 W) => same47_any ⟨mA, mn, mc, ms⟩ ⟨mA', mn', mc', ms'⟩ ⟨eA, en, ec, es⟩ ⟨eA', en', ec', es'⟩ ⟨xA, xn, xc, xs⟩ ⟨xA', xn', xc', xs'⟩ W (HM.out.below hW) (hm.below hW) (HE.out.below hW) (he.below hW) (HV.out.below hW) (hx.below hW) (G1.out.trans g1.symm) (G2.out.trans g2.symm) (G3.out.trans g3.symm) hn5)
  clear hm he hx g1 g2 g3 hb2 hn5 HM HE HV G1 G2 G3
  simp only [setup, Evs.v] at HSM ⊢
  have HS2 := Lib.hid (SBox.new w2 26 #[.slice mA' mn' mc', .slice eA' en' ec'])
  have ha : Below w2.heap.size w2 (w2.alloc (.cells #[.slice mA' mn' mc', .slice eA' en' ec'] 26)) := (Below.refl _ _).alloc (Nat.le_refl _) _
  have HB := Lib.hid (then_ HB.out ha); have HS := Lib.hid (HS.out.below ha); have HSM := Lib.hid (HSM.out _ ha)
  clear ha
  have s0 := HS.out.cell 0 rfl; have s1 := HS.out.cell 1 rfl
  have hee : (scrErr s == scrErr s) = true := by rw [beq_iff_eq]
  generalize scrErr s = er at hee ⊢
  go_wp2_with fail
  refine HSM.out.mono ?_
  clear s0 s1
  rintro e w3 ⟨rfl, hb3⟩
  go_wp2_with fail
  refine (fin47 w _ (then_ HB.out hb3)).mono ?_
  rintro e w4 ⟨rfl, hb4⟩
  go_wp2
  go_ret
  exact ⟨rfl, hb4⟩
end Go.Proofs.Ytlmplibdfhamjaa
