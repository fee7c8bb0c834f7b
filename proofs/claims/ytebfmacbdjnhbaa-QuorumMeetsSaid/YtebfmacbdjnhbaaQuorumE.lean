/- The document's answers for quorum (pantlerref34.Write, Read). -/
import Derived.Test.YtebfmacbdjnhbaaQuorumD
namespace Go.Proofs.Ytebfmacbdjnhbaa
open Go.RowKit Go.Mem
set_option linter.unusedVariables false

theorem mem_app (s : ByteArray) (a b : List ByteArray) : mem s (a ++ b) = (mem s a || mem s b) := by unfold mem; rw [List.any_append]
theorem cnt_congr {p q : ByteArray → Bool} {l : List Ch} (h : ∀ x ∈ l, p x.node = q x.node) : cnt p l = cnt q l ∧ cntP p l = cntP q l :=
  ⟨by unfold cnt; rw [List.filter_congr h], by unfold cntP; rw [List.filter_congr fun x hx => by rw [h x hx]]⟩
theorem mem_open {l : List Ch} {x : Ch} (hx : x ∈ l) (ns : List ByteArray) : mem x.node (openL l ns) = !mem x.node ns := by
  rw [Bool.eq_iff_iff, mem_iff]; unfold openL; rw [List.mem_filter]
  constructor
  · exact fun h => h.2
  · exact fun h => ⟨List.mem_map.2 ⟨x, hx, rfl⟩, h⟩

set_option maxRecDepth 100000 in
set_option maxHeartbeats 4000000 in
theorem rwrite_any (p : Pr) (A : Option Addr) (n c : Nat) (l : List Ch) (yes no : Sl) (w : World) (hr : Rd w A (l.flatMap Ch.cells)) (hn : l.length = n) (hm : n ≤ 1000) (hy : yes.ok w) (ho : no.ok w) (hy1 : yes.n ≤ 1000) (ho1 : no.n ≤ 1000) :
    Calls Try.prog 44 #[.agg p.arr, .slice A n c, yes.v, no.v] w fun e w' => e = .returned (.int .i64 (writeL p l yes.ss no.ss)) ∧ Below w.heap.size w w' := by
  have HN := Lib.hid hn; clear hn
  have HM : Hid (n ≤ 1000000) := Lib.hid (by omega)
  obtain ⟨a1, ha1⟩ : ∃ x, cnt (fun s => mem s yes.ss) l = x := ⟨_, rfl⟩
  obtain ⟨b1, hb1⟩ : ∃ x, cntP (fun s => mem s yes.ss) l = x := ⟨_, rfl⟩
  obtain ⟨a2, ha2⟩ : ∃ x, cnt (fun s => mem s yes.ss || !(mem s yes.ss || mem s no.ss)) l = x := ⟨_, rfl⟩
  obtain ⟨b2, hb2⟩ : ∃ x, cntP (fun s => mem s yes.ss || !(mem s yes.ss || mem s no.ss)) l = x := ⟨_, rfl⟩
  have hres : writeL p l yes.ss no.ss = if decide (p.w ≤ (a1 : Int)) && decide (p.pw ≤ (b1 : Int)) then 1 else if decide (p.w ≤ (a2 : Int)) && decide (p.pw ≤ (b2 : Int)) then 0 else 2 := by unfold writeL enoughB; rw [ha1, hb1, ha2, hb2]
  have hc2 := cnt_congr (p := fun s => mem s (yes.ss ++ openL l (yes.ss ++ no.ss))) (q := fun s => mem s yes.ss || !(mem s yes.ss || mem s no.ss)) (l := l) (fun x hx => by rw [mem_app, mem_open hx, mem_app])
  rw [ha2, hb2] at hc2
  have HA1 := Lib.hid ha1; have HB1 := Lib.hid hb1; have HC2 := Lib.hid hc2; have HRES := Lib.hid hres; clear ha1 hb1 ha2 hb2 hc2 hres
  obtain ⟨pn, pr, pw, ppr, ppw, sv, ms, bs⟩ := p
  obtain ⟨Y, yn, yc, ys⟩ := yes
  obtain ⟨Z, zn, zc, zs⟩ := no
  unfold Pr.arr Sl.v
  simp only at hy1 ho1 ⊢
  have hpx : ∀ W : World, Below (w.alloc (.cells #[.int .i64 pn, .int .i64 pr, .int .i64 pw, .int .i64 ppr, .int .i64 ppw, .bool sv, .bool ms, .bool bs] 58)).heap.size (w.alloc (.cells #[.int .i64 pn, .int .i64 pr, .int .i64 pw, .int .i64 ppr, .int .i64 ppw, .bool sv, .bool ms, .bool bs] 58)) W → W.cell? ⟨w.heap.size, 2, none⟩ = some (.int .i64 pw) ∧ W.cell? ⟨w.heap.size, 4, none⟩ = some (.int .i64 ppw) :=
    fun W hb => ⟨(hb.cell (by simp)).trans (by simp), (hb.cell (by simp)).trans (by simp)⟩
  have HPX := Lib.hid hpx; clear hpx
  generalize hW0 : w.alloc (.cells #[.int .i64 pn, .int .i64 pr, .int .i64 pw, .int .i64 ppr, .int .i64 ppw, .bool sv, .bool ms, .bool bs] 58) = W0 at HPX
  have hb0 : Below w.heap.size w W0 := by rw [← hW0]; exact (Below.refl _ _).alloc (Nat.le_refl _) _
  have HW0 := Lib.hid hW0
  clear hW0
  go_enter Try.func44, Try.ntmps44
  go_wp2_with fail
  rw [HW0.out]
  refine (rcount_any A n c l ⟨Y, yn, yc, ys⟩ _ (hr.below hb0) HN.out HM.out (hy.below hb0)).mono ?_
  rintro e w1 ⟨rfl, rfl⟩
  rw [HA1.out, HB1.out]
  obtain ⟨hx2, hx4⟩ := HPX.out W0 (Below.refl _ _)
  by_cases h1 : pw ≤ (a1 : Int) ∧ ppw ≤ (b1 : Int)
  · have hd1 : decide (pw ≤ (a1 : Int)) = true := by simp; exact h1.1
    have hd2 : decide (ppw ≤ (b1 : Int)) = true := by simp; exact h1.2
    go_wp2
    go_ret
    exact ⟨ret_int (by rw [HRES.out, hd1, hd2]; rfl), hb0⟩
  · have hfin := HRES.out.trans (if_neg (by rw [Bool.and_eq_true, decide_eq_true_eq, decide_eq_true_eq]; exact h1))
    have HFIN := Lib.hid hfin; clear hfin HRES
    have hd : (decide (pw ≤ (a1 : Int)) = true ∧ decide (ppw ≤ (b1 : Int)) = false) ∨ decide (pw ≤ (a1 : Int)) = false := by
      by_cases h2 : pw ≤ (a1 : Int)
      · exact .inl ⟨by simpa using h2, by simp; by_cases h3 : ppw ≤ (b1 : Int); exact absurd ⟨h2, h3⟩ h1; omega⟩
      · exact .inr (by simpa using h2)
    rcases hd with ⟨hd1, hd2⟩ | hd1
    all_goals
      go_wp2_with fail
      refine (both_any ⟨Y, yn, yc, ys⟩ ⟨Z, zn, zc, zs⟩ _ (hy.below hb0) (ho.below hb0) (by simp; omega)).mono ?_
      rintro e w2 ⟨hq2, ⟨B1, bn, bc, bs1⟩, rfl, hs1, hok1⟩
      simp only at hs1
      subst hs1
      unfold Sl.v
      have hbw2 := then_ hb0 hq2
      go_wp2_with fail
      refine (open_any A n c l ⟨B1, bn, bc, ys ++ zs⟩ _ (hr.below hbw2) HN.out (by omega) hok1).mono ?_
      rintro e w3 ⟨hq3, ⟨B2, cn, cc, cs1⟩, rfl, hs2, hok2⟩
      simp only at hs2
      subst hs2
      unfold Sl.v
      have hbw3 := then_ hbw2 hq3
      have hcn : cn ≤ n := by have h5 : (openL l (ys ++ zs)).length = cn := hok2.len; rw [← h5, ← HN.out]; exact openL_le _ _
      go_wp2_with fail
      refine (both_any ⟨Y, yn, yc, ys⟩ ⟨B2, cn, cc, openL l (ys ++ zs)⟩ _ (hy.below hbw3) hok2 (by simp; omega)).mono ?_
      rintro e w4 ⟨hq4, ⟨B3, dn, dc, ds1⟩, rfl, hs3, hok3⟩
      simp only at hs3
      subst hs3
      unfold Sl.v
      have hbw4 := then_ hbw3 hq4
      go_wp2_with fail
      refine (rcount_any A n c l ⟨B3, dn, dc, ys ++ openL l (ys ++ zs)⟩ _ (hr.below hbw4) HN.out HM.out hok3).mono ?_
      rintro e w5 ⟨rfl, rfl⟩
      simp only
      rw [HC2.out.1, HC2.out.2]
      obtain ⟨hy2, hy4⟩ := HPX.out w4 (then_ (then_ hq2 hq3) hq4)
      by_cases h2 : pw ≤ (a2 : Int)
      · have he1 : decide ((a2 : Int) < pw) = false := by simp; omega
        by_cases h3 : ppw ≤ (b2 : Int)
        · have he2 : decide ((b2 : Int) < ppw) = false := by simp; omega
          go_wp2
          go_ret
          exact ⟨ret_int (by rw [HFIN.out, if_pos (by simp [h2, h3])]), hbw4⟩
        · have he2 : decide ((b2 : Int) < ppw) = true := by simp; omega
          go_wp2
          go_ret
          exact ⟨ret_int (by rw [HFIN.out, if_neg (by simp [h2, h3])]), hbw4⟩
      · have he1 : decide ((a2 : Int) < pw) = true := by simp; omega
        go_wp2
        go_ret
        exact ⟨ret_int (by rw [HFIN.out, if_neg (by rw [Bool.and_eq_true, decide_eq_true_eq]; rintro ⟨h, _⟩; omega)]), hbw4⟩

set_option maxRecDepth 100000 in
set_option maxHeartbeats 4000000 in
theorem rread_any (p : Pr) (A : Option Addr) (n c : Nat) (l : List Ch) (found missing no : Sl) (w : World) (hr : Rd w A (l.flatMap Ch.cells)) (hn : l.length = n) (hm : n ≤ 1000) (hy : found.ok w) (hg : missing.ok w) (ho : no.ok w) (hy1 : found.n ≤ 1000) (hg1 : missing.n ≤ 1000) (ho1 : no.n ≤ 1000) :
    Calls Try.prog 46 #[.agg p.arr, .slice A n c, found.v, missing.v, no.v] w fun e w' => e = .returned (.int .i64 (readL p l found.ss missing.ss no.ss)) ∧ Below w.heap.size w w' := by
  have HN := Lib.hid hn; clear hn
  have HM : Hid (n ≤ 1000000) := Lib.hid (by omega)
  obtain ⟨who, hwho⟩ : ∃ x, whoL p found.ss missing.ss = x := ⟨_, rfl⟩
  obtain ⟨a1, ha1⟩ : ∃ x, cnt who l = x := ⟨_, rfl⟩
  obtain ⟨b1, hb1⟩ : ∃ x, cntP who l = x := ⟨_, rfl⟩
  obtain ⟨a2, ha2⟩ : ∃ x, cnt (fun s => who s || !(mem s found.ss || mem s missing.ss || mem s no.ss)) l = x := ⟨_, rfl⟩
  obtain ⟨b2, hb2⟩ : ∃ x, cntP (fun s => who s || !(mem s found.ss || mem s missing.ss || mem s no.ss)) l = x := ⟨_, rfl⟩
  obtain ⟨cf, hcf⟩ : ∃ x, cnt (fun s => mem s found.ss) l = x := ⟨_, rfl⟩
  obtain ⟨cm, hcm⟩ : ∃ x, cnt (fun s => mem s missing.ss) l = x := ⟨_, rfl⟩
  have hres : readL p l found.ss missing.ss no.ss = if decide (p.r ≤ (a1 : Int)) && decide (p.pr ≤ (b1 : Int)) then (if 0 < cf then 1 else 3) else if p.basic && decide (cf = 0) && decide (n / 2 < cm) then 3 else if decide (p.r ≤ (a2 : Int)) && decide (p.pr ≤ (b2 : Int)) then 0 else 2 := by unfold readL enoughB; rw [hwho, ha1, hb1, ha2, hb2, hcf, hcm, HN.out]
  have hc2 : ∀ ws : List ByteArray, (∀ s, mem s ws = who s) → cnt (fun s => mem s ws) l = a1 ∧ cntP (fun s => mem s ws) l = b1 ∧ cnt (fun s => mem s (ws ++ openL l (found.ss ++ missing.ss ++ no.ss))) l = a2 ∧ cntP (fun s => mem s (ws ++ openL l (found.ss ++ missing.ss ++ no.ss))) l = b2 := by
    intro ws hws
    have e1 := cnt_congr (p := fun s => mem s ws) (q := who) (l := l) (fun x hx => hws _)
    have e2 := cnt_congr (p := fun s => mem s (ws ++ openL l (found.ss ++ missing.ss ++ no.ss))) (q := fun s => who s || !(mem s found.ss || mem s missing.ss || mem s no.ss)) (l := l) (fun x hx => by rw [mem_app, mem_open hx, mem_app, mem_app, hws])
    exact ⟨e1.1.trans ha1, e1.2.trans hb1, e2.1.trans ha2, e2.2.trans hb2⟩
  have hcfl : cf ≤ 1000 := by rw [← hcf]; exact Nat.le_trans (cnt_le _ _) (by rw [HN.out]; exact hm)
  have hcml : cm ≤ 1000 := by rw [← hcm]; exact Nat.le_trans (cnt_le _ _) (by rw [HN.out]; exact hm)
  have HC2 := Lib.hid hc2; have HRES := Lib.hid hres; have HCF := Lib.hid hcf; have HCM := Lib.hid hcm; have HWHO := Lib.hid hwho; clear ha1 hb1 ha2 hb2 hc2 hres hcf hcm hwho
  obtain ⟨pn, pr, pw, ppr, ppw, sv, ms, bs⟩ := p
  obtain ⟨Y, yn, yc, ys⟩ := found
  obtain ⟨M, mn, mc, mss⟩ := missing
  obtain ⟨Z, zn, zc, zs⟩ := no
  unfold Pr.arr Sl.v
  simp only at hy1 hg1 ho1 ⊢
  have hpx : ∀ W : World, Below (w.alloc (.cells #[.int .i64 pn, .int .i64 pr, .int .i64 pw, .int .i64 ppr, .int .i64 ppw, .bool sv, .bool ms, .bool bs] 58)).heap.size (w.alloc (.cells #[.int .i64 pn, .int .i64 pr, .int .i64 pw, .int .i64 ppr, .int .i64 ppw, .bool sv, .bool ms, .bool bs] 58)) W → W.cell? ⟨w.heap.size, 1, none⟩ = some (.int .i64 pr) ∧ W.cell? ⟨w.heap.size, 3, none⟩ = some (.int .i64 ppr) ∧ W.cell? ⟨w.heap.size, 6, none⟩ = some (.bool ms) ∧ W.cell? ⟨w.heap.size, 7, none⟩ = some (.bool bs) :=
    fun W hb => ⟨(hb.cell (by simp)).trans (by simp), (hb.cell (by simp)).trans (by simp), (hb.cell (by simp)).trans (by simp), (hb.cell (by simp)).trans (by simp)⟩
  have HPX := Lib.hid hpx; clear hpx
  generalize hW0 : w.alloc (.cells #[.int .i64 pn, .int .i64 pr, .int .i64 pw, .int .i64 ppr, .int .i64 ppw, .bool sv, .bool ms, .bool bs] 58) = W0 at HPX
  have hb0 : Below w.heap.size w W0 := by rw [← hW0]; exact (Below.refl _ _).alloc (Nat.le_refl _) _
  have HW0 := Lib.hid hW0
  clear hW0
  go_enter Try.func46, Try.ntmps46
  go_upto_region 2 with fail
  rw [HW0.out]
  obtain ⟨hx1, hx3, hx6, hx7⟩ := HPX.out W0 (Below.refl _ _)
  cases ms
  rotate_left
  go_wp2_with fail
  refine (both_any ⟨Y, yn, yc, ys⟩ ⟨M, mn, mc, mss⟩ _ (hy.below hb0) (hg.below hb0) (by simp; omega)).mono ?_
  rintro e W1 ⟨hq1, ⟨H, hn, hc, hs⟩, rfl, hs1, hokH⟩
  simp only at hs1
  have hH : ∀ s, mem s hs = who s := by intro s; rw [← HWHO.out, hs1, mem_app]; rfl
  have hlH : hn ≤ 2000 := by have h5 : hs.length = hn := hokH.len; have h6 : ys.length = yn := hy.len; have h7 : mss.length = mn := hg.len; rw [hs1, List.length_append] at h5; omega
  clear hs1
  rotate_left
  obtain ⟨W1, hW1⟩ : ∃ W1, W1 = W0 := ⟨_, rfl⟩
  have hq1 : Below W0.heap.size W0 W1 := by rw [hW1]; exact Below.refl _ _
  have hokH : Sl.ok W1 ⟨Y, yn, yc, ys⟩ := by rw [hW1]; exact hy.below hb0
  have hH : ∀ s, mem s ys = who s := by intro s; rw [← HWHO.out]; rfl
  have hlH : yn ≤ 2000 := by omega
  rw [← hW1] at hx1 hx3 hx6 hx7
  rw [← hW1]
  clear hW1
  · have hbW := then_ hb0 hq1
    obtain ⟨ec1, ec2, ec3, ec4⟩ := HC2.out ys hH
    have E1 := Lib.hid ec1; have E2 := Lib.hid ec2; have E3 := Lib.hid ec3; have E4 := Lib.hid ec4; clear ec1 ec2 ec3 ec4
    clear hx1 hx3 hx6 hx7
    obtain ⟨hx1, hx3, hx6, hx7⟩ := HPX.out W1 hq1
    go_wp2_with fail
    refine (rcount_any A n c l ⟨Y, yn, yc, ys⟩ _ (hr.below hbW) HN.out HM.out (hy.below hbW)).mono ?_
    rintro e w1 ⟨rfl, rfl⟩
    rw [HCF.out]
    go_wp2_with fail
    refine (rcount_any A n c l ⟨Y, yn, yc, ys⟩ _ (hr.below hbW) HN.out HM.out hokH).mono ?_
    rintro e w1 ⟨rfl, rfl⟩
    simp only
    rw [E1.out, E2.out]
    by_cases h1 : pr ≤ (a1 : Int) ∧ ppr ≤ (b1 : Int)
    · have hd1 : decide (pr ≤ (a1 : Int)) = true := by simp; exact h1.1
      have hd2 : decide (ppr ≤ (b1 : Int)) = true := by simp; exact h1.2
      have HFIN := Lib.hid (HRES.out.trans (if_pos (by rw [hd1, hd2]; rfl)))
      clear HRES
      by_cases h0 : 0 < cf
      · have hd : decide (0 < (cf : Int)) = true := by simp; omega
        go_wp2
        go_ret
        exact ⟨ret_int (by rw [HFIN.out, if_pos h0]), hbW⟩
      · have hd : decide (0 < (cf : Int)) = false := by simp; omega
        go_wp2
        go_ret
        exact ⟨ret_int (by rw [HFIN.out, if_neg h0]), hbW⟩
    · have HFIN := Lib.hid (HRES.out.trans (if_neg (by rw [Bool.and_eq_true, decide_eq_true_eq, decide_eq_true_eq]; exact h1)))
      clear HRES
      have hd : (decide (pr ≤ (a1 : Int)) = true ∧ decide (ppr ≤ (b1 : Int)) = false) ∨ decide (pr ≤ (a1 : Int)) = false := by
        by_cases h2 : pr ≤ (a1 : Int)
        · exact .inl ⟨by simpa using h2, by simp; by_cases h3 : ppr ≤ (b1 : Int); exact absurd ⟨h2, h3⟩ h1; omega⟩
        · exact .inr (by simpa using h2)
      rcases hd with ⟨hd1, hd2⟩ | hd1
      all_goals
        go_wp2_with fail
        refine (rcount_any A n c l ⟨M, mn, mc, mss⟩ _ (hr.below hbW) HN.out HM.out (hg.below hbW)).mono ?_
        rintro e w1 ⟨rfl, rfl⟩
        rw [HCM.out]
        by_cases hab : bs = true ∧ cf = 0 ∧ n / 2 < cm
        · obtain ⟨rfl, rfl, hnm⟩ := hab
          have hd : decide ((n : Int) / 2 < (cm : Int)) = true := by simp; omega
          go_wp2
          go_ret
          exact ⟨ret_int (by rw [HFIN.out]; simp [hnm]), hbW⟩
        · have HFIN2 := Lib.hid (HFIN.out.trans (if_neg (by simp only [Bool.and_eq_true, decide_eq_true_eq]; rintro ⟨⟨h1, h2⟩, h3⟩; exact hab ⟨h1, h2, h3⟩)))
          clear HFIN
          cases bs
          all_goals go_wp2_with fail
          all_goals first | (show Calls _ _ _ _ _; skip) | (exfalso; exact hab ⟨trivial, by omega, by omega⟩)
          all_goals
            refine (both_any ⟨Y, yn, yc, ys⟩ ⟨M, mn, mc, mss⟩ _ (hy.below hbW) (hg.below hbW) (by simp; omega)).mono ?_
            rintro e w2 ⟨hq2, ⟨B1, bn, bc, bs1⟩, rfl, hs1, hok1⟩
            simp only at hs1
            subst hs1
            unfold Sl.v
            have hbw2 := then_ hbW hq2
            have hbn : bn ≤ 2000 := by have h5 : (ys ++ mss).length = bn := hok1.len; have h6 : ys.length = yn := hy.len; have h7 : mss.length = mn := hg.len; rw [List.length_append] at h5; omega
            go_wp2_with fail
            refine (both_any ⟨B1, bn, bc, ys ++ mss⟩ ⟨Z, zn, zc, zs⟩ _ hok1 (ho.below hbw2) (by simp; omega)).mono ?_
            rintro e w3 ⟨hq3, ⟨B2, cn, cc, cs1⟩, rfl, hs2, hok2⟩
            simp only at hs2
            subst hs2
            unfold Sl.v
            have hbw3 := then_ hbw2 hq3
            go_wp2_with fail
            refine (open_any A n c l ⟨B2, cn, cc, ys ++ mss ++ zs⟩ _ (hr.below hbw3) HN.out (by omega) hok2).mono ?_
            rintro e w4 ⟨hq4, ⟨B3, dn, dc, ds1⟩, rfl, hs3, hok3⟩
            simp only at hs3
            subst hs3
            unfold Sl.v
            have hbw4 := then_ hbw3 hq4
            have hdn : dn ≤ n := by have h5 : (openL l (ys ++ mss ++ zs)).length = dn := hok3.len; rw [← h5, ← HN.out]; exact openL_le _ _
            go_wp2_with fail
            refine (both_any ⟨Y, yn, yc, ys⟩ ⟨B3, dn, dc, openL l (ys ++ mss ++ zs)⟩ _ (((hokH.below hq2).below hq3).below hq4) hok3 (by simp; omega)).mono ?_
            rintro e w5 ⟨hq5, ⟨B4, en, ec, es1⟩, rfl, hs4, hok4⟩
            simp only at hs4
            subst hs4
            unfold Sl.v
            have hbw5 := then_ hbw4 hq5
            go_wp2_with fail
            refine (rcount_any A n c l ⟨B4, en, ec, ys ++ openL l (ys ++ mss ++ zs)⟩ _ (hr.below hbw5) HN.out HM.out hok4).mono ?_
            rintro e w6 ⟨rfl, rfl⟩
            simp only
            rw [E3.out, E4.out]
            clear hx1 hx3 hx6 hx7
            obtain ⟨hx1, hx3, hx6, hx7⟩ := HPX.out w5 (then_ hq1 (then_ (then_ (then_ hq2 hq3) hq4) hq5))
            by_cases h2 : pr ≤ (a2 : Int)
            · have he1 : decide ((a2 : Int) < pr) = false := by simp; omega
              by_cases h3 : ppr ≤ (b2 : Int)
              · have he2 : decide ((b2 : Int) < ppr) = false := by simp; omega
                go_wp2
                go_ret
                exact ⟨ret_int (by rw [HFIN2.out, if_pos (by simp [h2, h3])]), hbw5⟩
              · have he2 : decide ((b2 : Int) < ppr) = true := by simp; omega
                go_wp2
                go_ret
                exact ⟨ret_int (by rw [HFIN2.out, if_neg (by simp [h2, h3])]), hbw5⟩
            · have he1 : decide ((a2 : Int) < pr) = true := by simp; omega
              go_wp2
              go_ret
              exact ⟨ret_int (by rw [HFIN2.out, if_neg (by rw [Bool.and_eq_true, decide_eq_true_eq]; rintro ⟨h, _⟩; omega)]), hbw5⟩
  · have hbW := then_ hb0 hq1
    unfold Sl.v
    obtain ⟨ec1, ec2, ec3, ec4⟩ := HC2.out hs hH
    have E1 := Lib.hid ec1; have E2 := Lib.hid ec2; have E3 := Lib.hid ec3; have E4 := Lib.hid ec4; clear ec1 ec2 ec3 ec4
    clear hx1 hx3 hx6 hx7
    obtain ⟨hx1, hx3, hx6, hx7⟩ := HPX.out W1 hq1
    go_wp2_with fail
    refine (rcount_any A n c l ⟨Y, yn, yc, ys⟩ _ (hr.below hbW) HN.out HM.out (hy.below hbW)).mono ?_
    rintro e w1 ⟨rfl, rfl⟩
    rw [HCF.out]
    go_wp2_with fail
    refine (rcount_any A n c l ⟨H, hn, hc, hs⟩ _ (hr.below hbW) HN.out HM.out hokH).mono ?_
    rintro e w1 ⟨rfl, rfl⟩
    simp only
    rw [E1.out, E2.out]
    by_cases h1 : pr ≤ (a1 : Int) ∧ ppr ≤ (b1 : Int)
    · have hd1 : decide (pr ≤ (a1 : Int)) = true := by simp; exact h1.1
      have hd2 : decide (ppr ≤ (b1 : Int)) = true := by simp; exact h1.2
      have HFIN := Lib.hid (HRES.out.trans (if_pos (by rw [hd1, hd2]; rfl)))
      clear HRES
      by_cases h0 : 0 < cf
      · have hd : decide (0 < (cf : Int)) = true := by simp; omega
        go_wp2
        go_ret
        exact ⟨ret_int (by rw [HFIN.out, if_pos h0]), hbW⟩
      · have hd : decide (0 < (cf : Int)) = false := by simp; omega
        go_wp2
        go_ret
        exact ⟨ret_int (by rw [HFIN.out, if_neg h0]), hbW⟩
    · have HFIN := Lib.hid (HRES.out.trans (if_neg (by rw [Bool.and_eq_true, decide_eq_true_eq, decide_eq_true_eq]; exact h1)))
      clear HRES
      have hd : (decide (pr ≤ (a1 : Int)) = true ∧ decide (ppr ≤ (b1 : Int)) = false) ∨ decide (pr ≤ (a1 : Int)) = false := by
        by_cases h2 : pr ≤ (a1 : Int)
        · exact .inl ⟨by simpa using h2, by simp; by_cases h3 : ppr ≤ (b1 : Int); exact absurd ⟨h2, h3⟩ h1; omega⟩
        · exact .inr (by simpa using h2)
      rcases hd with ⟨hd1, hd2⟩ | hd1
      all_goals
        go_wp2_with fail
        refine (rcount_any A n c l ⟨M, mn, mc, mss⟩ _ (hr.below hbW) HN.out HM.out (hg.below hbW)).mono ?_
        rintro e w1 ⟨rfl, rfl⟩
        rw [HCM.out]
        by_cases hab : bs = true ∧ cf = 0 ∧ n / 2 < cm
        · obtain ⟨rfl, rfl, hnm⟩ := hab
          have hd : decide ((n : Int) / 2 < (cm : Int)) = true := by simp; omega
          go_wp2
          go_ret
          exact ⟨ret_int (by rw [HFIN.out]; simp [hnm]), hbW⟩
        · have HFIN2 := Lib.hid (HFIN.out.trans (if_neg (by simp only [Bool.and_eq_true, decide_eq_true_eq]; rintro ⟨⟨h1, h2⟩, h3⟩; exact hab ⟨h1, h2, h3⟩)))
          clear HFIN
          cases bs
          all_goals go_wp2_with fail
          all_goals first | (show Calls _ _ _ _ _; skip) | (exfalso; exact hab ⟨trivial, by omega, by omega⟩)
          all_goals
            refine (both_any ⟨Y, yn, yc, ys⟩ ⟨M, mn, mc, mss⟩ _ (hy.below hbW) (hg.below hbW) (by simp; omega)).mono ?_
            rintro e w2 ⟨hq2, ⟨B1, bn, bc, bs1⟩, rfl, hs1, hok1⟩
            simp only at hs1
            subst hs1
            unfold Sl.v
            have hbw2 := then_ hbW hq2
            have hbn : bn ≤ 2000 := by have h5 : (ys ++ mss).length = bn := hok1.len; have h6 : ys.length = yn := hy.len; have h7 : mss.length = mn := hg.len; rw [List.length_append] at h5; omega
            go_wp2_with fail
            refine (both_any ⟨B1, bn, bc, ys ++ mss⟩ ⟨Z, zn, zc, zs⟩ _ hok1 (ho.below hbw2) (by simp; omega)).mono ?_
            rintro e w3 ⟨hq3, ⟨B2, cn, cc, cs1⟩, rfl, hs2, hok2⟩
            simp only at hs2
            subst hs2
            unfold Sl.v
            have hbw3 := then_ hbw2 hq3
            go_wp2_with fail
            refine (open_any A n c l ⟨B2, cn, cc, ys ++ mss ++ zs⟩ _ (hr.below hbw3) HN.out (by omega) hok2).mono ?_
            rintro e w4 ⟨hq4, ⟨B3, dn, dc, ds1⟩, rfl, hs3, hok3⟩
            simp only at hs3
            subst hs3
            unfold Sl.v
            have hbw4 := then_ hbw3 hq4
            have hdn : dn ≤ n := by have h5 : (openL l (ys ++ mss ++ zs)).length = dn := hok3.len; rw [← h5, ← HN.out]; exact openL_le _ _
            go_wp2_with fail
            refine (both_any ⟨H, hn, hc, hs⟩ ⟨B3, dn, dc, openL l (ys ++ mss ++ zs)⟩ _ (((hokH.below hq2).below hq3).below hq4) hok3 (by simp; omega)).mono ?_
            rintro e w5 ⟨hq5, ⟨B4, en, ec, es1⟩, rfl, hs4, hok4⟩
            simp only at hs4
            subst hs4
            unfold Sl.v
            have hbw5 := then_ hbw4 hq5
            go_wp2_with fail
            refine (rcount_any A n c l ⟨B4, en, ec, hs ++ openL l (ys ++ mss ++ zs)⟩ _ (hr.below hbw5) HN.out HM.out hok4).mono ?_
            rintro e w6 ⟨rfl, rfl⟩
            simp only
            rw [E3.out, E4.out]
            clear hx1 hx3 hx6 hx7
            obtain ⟨hx1, hx3, hx6, hx7⟩ := HPX.out w5 (then_ hq1 (then_ (then_ (then_ hq2 hq3) hq4) hq5))
            by_cases h2 : pr ≤ (a2 : Int)
            · have he1 : decide ((a2 : Int) < pr) = false := by simp; omega
              by_cases h3 : ppr ≤ (b2 : Int)
              · have he2 : decide ((b2 : Int) < ppr) = false := by simp; omega
                go_wp2
                go_ret
                exact ⟨ret_int (by rw [HFIN2.out, if_pos (by simp [h2, h3])]), hbw5⟩
              · have he2 : decide ((b2 : Int) < ppr) = true := by simp; omega
                go_wp2
                go_ret
                exact ⟨ret_int (by rw [HFIN2.out, if_neg (by simp [h2, h3])]), hbw5⟩
            · have he1 : decide ((a2 : Int) < pr) = true := by simp; omega
              go_wp2
              go_ret
              exact ⟨ret_int (by rw [HFIN2.out, if_neg (by rw [Bool.and_eq_true, decide_eq_true_eq]; rintro ⟨h, _⟩; omega)]), hbw5⟩
end Go.Proofs.Ytebfmacbdjnhbaa
