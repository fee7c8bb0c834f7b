/- ScriptBack's walk. -/
import Derived.Test.YtlmplibdfhamjaaScrM
import Derived.Test.YtlmplibdfhamjaaScrPl
attribute [local go_sem ↓] Go.wp_at_zero Go.wp_at_succ
namespace Go.Proofs.Ytlmplibdfhamjaa
open Go.RowKit Go.Mem Go.Num
set_option linter.unusedVariables false
set_option linter.unusedSimpArgs false

theorem fin47 (w W : World) (h : Below w.heap.size w W) : Calls Try.prog 13 #[] W fun e w' => e = .returned (.bool true) ∧ Below w.heap.size w w' := (awake47_any W).mono fun _ _ ⟨h1, h2⟩ => ⟨h1, then_ h h2⟩
set_option maxRecDepth 100000 in
set_option maxHeartbeats 8000000 in
theorem scriptBack_walk (sp : Stp) (A : Option Addr) (n c : Nat) (l : List Ev) (cut : Int) (w : World) (hsp : sp.ok w) (hr : Rd w A (l.flatMap fun m : Ev => m.arr.toList)) (hn : l.length = n) (hmx : n ≤ maxLen) (hok : ∀ m ∈ l, m.ok w) (hc : (Lit.int .u16 cut).wf = true) :
    Calls Try.prog 4 #[.agg sp.arr, .slice A n c, .int .u16 cut] w (TrueW w) := by
  obtain ⟨m, e⟩ := sp
  obtain ⟨hm, he⟩ := hsp
  simp only at hm he
  have hx : Evs.ok w ⟨A, n, c, l⟩ := ⟨hr, hn, hmx, hok⟩
  obtain ⟨ct, rfl, hct⟩ : ∃ ct : Nat, cut = (ct : Int) ∧ ct ≤ 65535 := by
    rw [Lit.wf_int_iff] at hc
    have h1 := hc.1; have h2 := hc.2
    exact ⟨cut.toNat, by simp [IntKind.min, IntKind.signed] at h1; omega, by simp [IntKind.max, IntKind.signed, IntKind.bits] at h2; omega⟩
  clear hc hr hn hmx hok
  have H1 := Lib.hid (fun (W : World) (hW : Below w.heap.size w W) => few47_any m e ⟨A, n, c, l⟩ W (hm.below hW) (he.below hW) (hx.below hW))
  have H2 := Lib.hid (fun (W : World) (hW : Below w.heap.size w W) => plain_any ⟨A, n, c, l⟩ W (hx.below hW))
  have HM := Lib.hid hm; have HE := Lib.hid he; have HV := Lib.hid hx
  clear hm he hx
  have HMV : Hid (Stp.arr ⟨m, e⟩ = #[.slice m.A m.n m.c, .slice e.A e.n e.c]) := Lib.hid rfl
  rw [HMV.out]
  have hbel := (Below.refl w.heap.size w).alloc (Nat.le_refl _) (.cells #[.slice m.A m.n m.c, .slice e.A e.n e.c] 26)
  have q0 := SBox.new w 26 #[.slice m.A m.n m.c, .slice e.A e.n e.c]
  have HB := Lib.hid hbel; have HS := Lib.hid q0
  clear hbel q0
  simp only [setup, Evs.v] at H1 H2
  have s0 := HS.out.cell 0 rfl; have s1 := HS.out.cell 1 rfl
  go_enter Try.func4, Try.ntmps4
  go_wp2_with fail
  generalize w.alloc (.cells #[.slice m.A m.n m.c, .slice e.A e.n e.c] 26) = W0 at *
  refine (H1.out _ HB.out).mono ?_
  clear s0 s1
  rintro e1 w1 ⟨b1, hp1, rfl, hb1⟩
  have HP1 := Lib.hid hp1
  have HB := Lib.hid (then_ HB.out hb1); have HS := Lib.hid (HS.out.below hb1)
  clear hp1 hb1
  cases b1
  · go_wp2_with fail
    refine (fin47 w _ HB.out).mono ?_
    rintro e w2 ⟨rfl, hb2⟩
    go_wp2
    go_ret
    exact ⟨rfl, hb2⟩
  go_wp2_with fail
  refine (H2.out _ HB.out).mono ?_
  rintro e2 w2 ⟨b2, hp2, rfl, hb2⟩
  have HP2 := Lib.hid hp2
  have HB := Lib.hid (then_ HB.out hb2); have HS := Lib.hid (HS.out.below hb2)
  clear hp2 hb2
  cases b2
  · go_wp2_with fail
    refine (fin47 w _ HB.out).mono ?_
    rintro e w3 ⟨rfl, hb3⟩
    go_wp2
    go_ret
    exact ⟨rfl, hb3⟩
  have hfew := HP1.out trivial
  have hpl := HP2.out rfl
  have hlen := few_len hfew HM.out.len HV.out.len
  have hback := scr_back hfew HM.out HE.out HV.out hpl
  have hcut := scr_cut hfew HM.out HE.out HV.out hpl
  have hge := scr_ge m.l e.l l
  have hnn : n ≤ 20 := hfew.2.2.1
  simp only at hlen hback hcut
  have hby := sBytes_any m e ⟨A, n, c, l⟩ w2 (HM.out.below HB.out) (HE.out.below HB.out) (HV.out.below HB.out) (by simp only; omega)
  simp only [setup, Evs.v] at hby
  unfold SaysT at hby
  obtain ⟨L, hL⟩ : ∃ L, L = scrB m.l e.l l := ⟨_, rfl⟩
  rw [← hL] at hlen hback hcut hge hby
  obtain ⟨t, ht⟩ : ∃ t, t = bs L := ⟨_, rfl⟩
  rw [← ht] at hback hby
  have hts : t.size = L.length := by rw [ht, bs_size]
  have HTL : Hid (∀ k : Nat, (t.extract 0 k).data.toList = L.take k) := Lib.hid fun k => by rw [ht, bs_extract L 0 k]; rfl
  have HBY := Lib.hid hby; have HBK := Lib.hid hback; have HCT := Lib.hid hcut
  have HO1 := Lib.hid (fun W => sOf_any t W (by omega))
  have HTS := Lib.hid hts
  have hnn2 : n ≤ 100000 := by omega
  have ht12 : 12 ≤ t.size := by omega
  have htm : t.size ≤ 1000000 := by omega
  have HNN := Lib.hid hnn2
  clear hL ht hts hby hback hcut hlen hge hfew hpl HP1 HP2 H1 H2 HMV hnn hnn2
  have s0 := HS.out.cell 0 rfl; have s1 := HS.out.cell 1 rfl
  go_wp2_with fail
  refine HBY.out.mono ?_
  clear s0 s1
  rintro e3 w3 ⟨rfl, hb3⟩
  have HB := Lib.hid (then_ HB.out hb3); have HS := Lib.hid (HS.out.below hb3)
  clear hb3
  go_wp2_with fail
  refine (HO1.out _).mono ?_
  rintro e4 w4 ⟨⟨mA, mn, mc, ms⟩, ⟨eA, en, ec, es⟩, ⟨xA, xn, xc, xs⟩, rfl, hm, he, hx, g1, g2, g3, hb4⟩
  obtain ⟨-, k1, k2, k3, k4⟩ := HBK.out
  rw [k1] at g1; rw [k2] at g2; rw [k3] at g3
  rw [k4]
  clear k1 k2 k3 k4 HBK
  have HB := Lib.hid (then_ HB.out hb4); have HS := Lib.hid (HS.out.below hb4)
  have HSM := Lib.hid (fun (W : World) (hW : Below w4.heap.size w4 W) => same47_any m ⟨mA, mn, mc, ms⟩ e ⟨eA, en, ec, es⟩ ⟨A, n, c, l⟩ ⟨xA, xn, xc, xs⟩ W (HM.out.below (then_ HB.out hW)) (hm.below hW) (HE.out.below (then_ HB.out hW)) (he.below hW) (HV.out.below (then_ HB.out hW)) (hx.below hW) g1.symm g2.symm g3.symm HNN.out)
  clear hb4 hm he hx g1 g2 g3
  simp only [setup, Evs.v] at HSM ⊢
  have HS2 := Lib.hid (SBox.new w4 26 #[.slice mA mn mc, .slice eA en ec])
  have ha : Below w4.heap.size w4 (w4.alloc (.cells #[.slice mA mn mc, .slice eA en ec] 26)) := (Below.refl _ _).alloc (Nat.le_refl _) _
  have HB := Lib.hid (then_ HB.out ha); have HS := Lib.hid (HS.out.below ha); have HSM := Lib.hid (HSM.out _ ha)
  clear ha
  have s0 := HS.out.cell 0 rfl; have s1 := HS.out.cell 1 rfl
  go_wp2_with fail
  refine HSM.out.mono ?_
  clear s0 s1 HS2 HSM
  rintro e5 w5 ⟨rfl, hb5⟩
  have HB := Lib.hid (then_ HB.out hb5)
  clear hb5
  obtain ⟨k, hk⟩ : ∃ k : Nat, ct % t.size = k := ⟨_, rfl⟩
  have hkt : k < t.size := by rw [← hk]; exact Nat.mod_lt _ (by omega)
  have hki : (k : Int) ≤ (t.size : Int) := by omega
  have hl0 : ((t.size : Int) == 0) = false := beq_eq_false_iff_ne.2 (by omega)
  have hl12 : decide ((t.size : Int) < 12) = false := by simp; omega
  have HK := Lib.hid hk; have HKT := Lib.hid hkt
  have hm0 : (0 : Int) ≤ (ct : Int) % (t.size : Int) := by rw [← Int.natCast_emod]; omega
  have hm1 : (ct : Int) % (t.size : Int) ≤ (t.size : Int) := by rw [← Int.natCast_emod, hk]; omega
  clear hk hkt
  go_wp2_with fail
  rw [HK.out]
  clear hm0 hm1 hki hl0 hl12
  obtain ⟨c1, c2, c3⟩ := HCT.out k (by rw [← HTS.out]; exact HKT.out) (t.extract 0 k) (HTL.out k)
  have hus : (t.extract 0 k).size ≤ 1048576 := by rw [ByteArray.size_extract]; omega
  generalize t.extract 0 k = u at c1 c2 c3 hus ⊢
  refine (sOf_any u _ hus).mono ?_
  rintro e6 w6 ⟨⟨mA', mn', mc', ms'⟩, ⟨eA', en', ec', es'⟩, ⟨xA', xn', xc', xs'⟩, rfl, hm, he, hx, g1, g2, g3, hb6⟩
  rw [c1] at g1; rw [c2] at g3
  rw [c3]
  simp only at g1 g3
  obtain rfl : mn' = 0 := by have h := hm.len; simp only at h; rw [g1] at h; exact h.symm
  obtain rfl : xn' = 0 := by have h := hx.len; simp only at h; rw [List.map_eq_nil_iff.1 g3] at h; exact h.symm
  clear c1 c2 c3 hus hm he hx g1 g2 g3 HCT HTL
  have HB := Lib.hid ((then_ HB.out hb6).alloc (by have := (then_ HB.out hb6).size; omega) (.cells #[.slice mA' 0 mc', .slice eA' en' ec'] 26))
  clear hb6
  simp only [setup, Evs.v]
  go_wp2_with fail
  refine (fin47 w _ HB.out).mono ?_
  rintro e7 w7 ⟨rfl, hb7⟩
  go_wp2
  go_ret
  exact ⟨rfl, hb7⟩
end Go.Proofs.Ytlmplibdfhamjaa
