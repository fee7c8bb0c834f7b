/- quorum.Read: what it returns, for every argument. -/
import Derived.Test.YtebfmacbdjnhbaaQuorumB
namespace Go.Proofs.Ytebfmacbdjnhbaa
open Go.RowKit Go.Mem
set_option linter.unusedVariables false

def whoL (p : Pr) (found missing : List ByteArray) : ByteArray → Bool := if p.missing then (fun s => mem s found || mem s missing) else (fun s => mem s found)
def readL (p : Pr) (l : List Ch) (found missing no : List ByteArray) : Int :=
  if enoughB p.r p.pr (whoL p found missing) l then (if 0 < cnt (fun s => mem s found) l then 1 else 3)
  else if p.basic && decide (cnt (fun s => mem s found) l = 0) && decide (l.length / 2 < cnt (fun s => mem s missing) l) then 3
  else if enoughB p.r p.pr (fun s => whoL p found missing s || !(mem s found || mem s missing || mem s no)) l then 0 else 2

theorem fv_three {P : Program} {w : World} {f : FuncId} {caps : Array Value} {a b c : Sl} (h : Fv P w f caps (fun s => [a, b, c].any fun l => mem s l.ss)) : Fv P w f caps (fun s => mem s a.ss || mem s b.ss || mem s c.ss) := by
  have : (fun s => [a, b, c].any fun l => mem s l.ss) = fun s => mem s a.ss || mem s b.ss || mem s c.ss := by funext s; simp [Bool.or_assoc]
  rw [this] at h; exact h

set_option maxRecDepth 100000 in
set_option maxHeartbeats 4000000 in
theorem qread_any (p : Pr) (A : Option Addr) (n c : Nat) (l : List Ch) (found missing no : Sl) (w : World) (hr : Rd w A (l.flatMap Ch.cells)) (hn : l.length = n) (hm : n ≤ 1000000) (hy : found.ok w) (hg : missing.ok w) (ho : no.ok w) :
    Calls Try.prog 45 #[.agg p.arr, .slice A n c, found.v, missing.v, no.v] w fun e w' => e = .returned (.int .i64 (readL p l found.ss missing.ss no.ss)) ∧ Below w.heap.size w w' := by
  have HN := Lib.hid hn; clear hn
  obtain ⟨b1, hE1⟩ : ∃ b, enoughB p.r p.pr (whoL p found.ss missing.ss) l = b := ⟨_, rfl⟩
  obtain ⟨b2, hE2⟩ : ∃ b, enoughB p.r p.pr (fun s => whoL p found.ss missing.ss s || !(mem s found.ss || mem s missing.ss || mem s no.ss)) l = b := ⟨_, rfl⟩
  obtain ⟨cf, hcf⟩ : ∃ x, cnt (fun s => mem s found.ss) l = x := ⟨_, rfl⟩
  obtain ⟨cm, hcm⟩ : ∃ x, cnt (fun s => mem s missing.ss) l = x := ⟨_, rfl⟩
  have hcfl : cf ≤ 1000000 := by rw [← hcf]; exact Nat.le_trans (cnt_le _ _) (by rw [HN.out]; exact hm)
  have hcml : cm ≤ 1000000 := by rw [← hcm]; exact Nat.le_trans (cnt_le _ _) (by rw [HN.out]; exact hm)
  have hres : readL p l found.ss missing.ss no.ss = if b1 then (if 0 < cf then 1 else 3) else if p.basic && decide (cf = 0) && decide (n / 2 < cm) then 3 else if b2 then 0 else 2 := by unfold readL; rw [hE1, hE2, hcf, hcm, HN.out]
  obtain ⟨who, hwho⟩ : ∃ x, whoL p found.ss missing.ss = x := ⟨_, rfl⟩
  rw [hwho] at hE1 hE2
  have HE1 := Lib.hid hE1; have HE2 := Lib.hid hE2; have HRES := Lib.hid hres; have HCF := Lib.hid hcf; have HCM := Lib.hid hcm; have HWHO := Lib.hid hwho; clear hE1 hE2 hres hcf hcm hwho
  obtain ⟨pn, pr, pw, ppr, ppw, sv, ms, bs⟩ := p
  obtain ⟨Y, yn, yc, ys⟩ := found
  obtain ⟨M, mn, mc, mss⟩ := missing
  obtain ⟨Z, zn, zc, zs⟩ := no
  unfold Pr.arr Sl.v
  simp only
  have hpx : ∀ W : World, Below (w.alloc (.cells #[.int .i64 pn, .int .i64 pr, .int .i64 pw, .int .i64 ppr, .int .i64 ppw, .bool sv, .bool ms, .bool bs] 58)).heap.size (w.alloc (.cells #[.int .i64 pn, .int .i64 pr, .int .i64 pw, .int .i64 ppr, .int .i64 ppw, .bool sv, .bool ms, .bool bs] 58)) W → W.cell? ⟨w.heap.size, 1, none⟩ = some (.int .i64 pr) ∧ W.cell? ⟨w.heap.size, 3, none⟩ = some (.int .i64 ppr) ∧ W.cell? ⟨w.heap.size, 6, none⟩ = some (.bool ms) ∧ W.cell? ⟨w.heap.size, 7, none⟩ = some (.bool bs) :=
    fun W hb => ⟨(hb.cell (by simp)).trans (by simp), (hb.cell (by simp)).trans (by simp), (hb.cell (by simp)).trans (by simp), (hb.cell (by simp)).trans (by simp)⟩
  have HPX := Lib.hid hpx; clear hpx
  generalize hW0 : w.alloc (.cells #[.int .i64 pn, .int .i64 pr, .int .i64 pw, .int .i64 ppr, .int .i64 ppw, .bool sv, .bool ms, .bool bs] 58) = W0 at HPX
  have hb0 : Below w.heap.size w W0 := by rw [← hW0]; exact (Below.refl _ _).alloc (Nat.le_refl _) _
  have hsz0 : W0.heap.size = w.heap.size + 1 := by rw [← hW0]; simp
  have HW0 := Lib.hid hW0; have HSZ := Lib.hid hsz0
  clear hW0 hsz0
  go_enter Try.func45, Try.ntmps45
  go_upto_region 1 with fail
  rw [HW0.out]
  have hlt0 : w.heap.size < W0.heap.size := by have := HSZ.out; omega
  go_wp2_with fail
  refine (of_any _ 1 1 [⟨Y, yn, yc, ys⟩] _ (by exact rd_at _ _ rfl rfl) rfl (by omega) (by intro l hl; rw [List.mem_singleton] at hl; subst hl; exact (hy.below hb0).below ((Below.refl _ _).alloc (Nat.le_refl _) _))).mono ?_
  rintro e w1 ⟨hb1, caps1, rfl, hfv1⟩
  have hq1 := ba hb1
  have hfv1 := fv_one hfv1
  obtain ⟨hx1, hx3, hx6, hx7⟩ := HPX.out w1 hq1
  have hbw1 := then_ hb0 hq1
  clear hb1
  clear hx1 hx3 hx7
  cases ms
  rotate_left
  go_wp2_with fail
  refine (of_any _ 2 2 [⟨Y, yn, yc, ys⟩, ⟨M, mn, mc, mss⟩] _ (by exact rd_at _ _ rfl rfl) rfl (by omega) (by intro l hl; simp only [List.mem_cons, List.not_mem_nil, or_false] at hl; rcases hl with rfl | rfl; exact (hy.below hbw1).below ((Below.refl _ _).alloc (Nat.le_refl _) _); exact (hg.below hbw1).below ((Below.refl _ _).alloc (Nat.le_refl _) _))).mono ?_
  rintro e w2 ⟨hb2, caps2, rfl, hfv2⟩
  have hqW := then_ hq1 (ba hb2)
  have hfvW : Fv Try.prog w2 106 caps2 who := by rw [← HWHO.out]; exact fv_two hfv2
  clear hb2 hfv2 hfv1 hq1 hbw1 hx6
  rotate_left
  have hqW := hq1
  have hfvW : Fv Try.prog w1 106 caps1 who := by rw [← HWHO.out]; exact hfv1
  clear hfv1 hq1 hbw1
  all_goals
    have hbW := then_ hb0 hqW
    go_wp2_with fail
    refine (qcount_any A n c l ⟨Y, yn, yc, ys⟩ _ (hr.below hbW) HN.out hm (hy.below hbW)).mono ?_
    rintro e w3 ⟨rfl, hb3⟩
    rw [HCF.out]
    have hqW := then_ hqW hb3
    have hbW := then_ hbW hb3
    have hfvW := hfvW.below hb3
    clear hb3
    go_wp2_with fail
    refine (qcount_any A n c l ⟨M, mn, mc, mss⟩ _ (hr.below hbW) HN.out hm (hg.below hbW)).mono ?_
    rintro e w4 ⟨rfl, hb4⟩
    rw [HCM.out]
    have hqW := then_ hqW hb4
    have hbW := then_ hbW hb4
    have hfvW := hfvW.below hb4
    clear hb4
    obtain ⟨hx1, hx3, hx6', hx7⟩ := HPX.out w4 hqW
    go_wp2_with fail
    refine (enoughE_any A n c l _ _ who pr ppr _ (hr.below hbW) HN.out hm hfvW).mono ?_
    rintro e w5 ⟨rfl, hb5⟩
    rw [HE1.out]
    have hqW := then_ hqW hb5
    have hbW := then_ hbW hb5
    have hfvW := hfvW.below hb5
    clear hb5 hx1 hx3 hx7
    obtain ⟨hx1, hx3, hx6'', hx7⟩ := HPX.out w5 hqW
    cases b1
    · go_wp2_with fail
      refine (enoughE_any A n c l _ _ who pr ppr _ (hr.below hbW) HN.out hm hfvW).mono ?_
      rintro e w6 ⟨rfl, hb6⟩
      rw [HE1.out]
      have hqW := then_ hqW hb6
      have hbW := then_ hbW hb6
      have hfvW := hfvW.below hb6
      clear hb6 hx1 hx3 hx7 hx6' hx6''
      obtain ⟨hx1, hx3, hx6', hx7⟩ := HPX.out w6 hqW
      have hlt6 : w.heap.size < w6.heap.size := by have := hqW.size; omega
      by_cases hab : bs = true ∧ cf = 0 ∧ n / 2 < cm
      · obtain ⟨rfl, rfl, hnm⟩ := hab
        have hd : decide ((n : Int) / 2 < (cm : Int)) = true := by simp; omega
        go_wp2
        go_ret
        exact ⟨ret_int (by rw [HRES.out]; simp [hnm]), hbW⟩
      · have HFIN := Lib.hid (HRES.out.trans (show _ = (if b2 then 0 else 2 : Int) by
          rw [if_neg (by simp), if_neg]
          simp only [Bool.and_eq_true, decide_eq_true_eq]
          rintro ⟨⟨h1, h2⟩, h3⟩
          exact hab ⟨h1, h2, h3⟩))
        clear HRES
        cases bs
        all_goals try go_upto_region 11 with fail
        all_goals first | (show Code.wp _ _ _ _ _; skip) | (exfalso; exact hab ⟨trivial, by omega, by omega⟩)
        all_goals
          have hry := hy.below hbW
          have hrm := hg.below hbW
          have hrz := ho.below hbW
          have hrl := hr.below hbW
          have HPC : Hid (∀ W : World, Below w6.heap.size w6 W → W.cell? ⟨w.heap.size, 1, none⟩ = some (.int .i64 pr) ∧ W.cell? ⟨w.heap.size, 3, none⟩ = some (.int .i64 ppr)) := fun W hb => ⟨(HPX.out W (then_ hqW hb)).1, (HPX.out W (then_ hqW hb)).2.1⟩
          go_cut [70] (fun s70 wx => s70 = .bool (!b2) ∧ Below w6.heap.size w6 wx)
          case first =>
            go_region_held3 (fun w' => w'.cell? ⟨w.heap.size, 1, none⟩ = some (.int .i64 pr) ∧ w'.cell? ⟨w.heap.size, 3, none⟩ = some (.int .i64 ppr)) (first | go_keep | (exact HPC.out _ hbq4) | (exact HPC.out _ (then_ hbq4 hb5)))
              (first | (go_at_call 82; (with_reducible refine (of_any _ 3 3 [⟨Y, yn, yc, ys⟩, ⟨M, mn, mc, mss⟩, ⟨Z, zn, zc, zs⟩] _ ?_ ?_ ?_ ?_).mono ?_); (exact (rd_at _ _ rfl rfl).drew); rfl; omega; (intro l hl; simp only [List.mem_cons, List.not_mem_nil, or_false] at hl; rcases hl with rfl | rfl | rfl; exact hry.below ((Below.refl _ _).alloc (Nat.le_refl _) _).drew; exact hrm.below ((Below.refl _ _).alloc (Nat.le_refl _) _).drew; exact hrz.below ((Below.refl _ _).alloc (Nat.le_refl _) _).drew); rintro e w7 ⟨hb7, caps7, rfl, hfv7⟩; have hbq4 : Below w6.heap.size w6 w7 := (((Below.refl _ _).alloc (Nat.le_refl _) _).drew).trans (hb7.mono (by simp))) | (go_at_call 85; refine (possibleE_any A n c l _ _ _ _ who (fun s => mem s ys || mem s mss || mem s zs) pr ppr _ (by exact hrl.below hbq4) HN.out hm (hfvW.below hbq4) (fv_three hfv7)).mono ?_; rintro e w8 ⟨rfl, hb5⟩; rw [HE2.out]))
            all_goals (go_wp2_with fail; go_meet; exact ⟨rfl, then_ hbq4 hb5⟩)
          case rest =>
            obtain ⟨rfl, hbw3⟩ := hcut
            have hbw5 := then_ hbW hbw3
            cases b2
            all_goals
              go_wp2
              go_ret
              exact ⟨ret_int (by rw [HFIN.out]; rfl), hbw5⟩
    · by_cases h0 : 0 < cf
      · have hd : decide (0 < (cf : Int)) = true := by simp; omega
        go_wp2
        go_ret
        exact ⟨ret_int (by rw [HRES.out]; simp [h0]), hbW⟩
      · have hd : decide (0 < (cf : Int)) = false := by simp; omega
        go_wp2_with fail
        refine (enoughE_any A n c l _ _ who pr ppr _ (hr.below hbW) HN.out hm hfvW).mono ?_
        rintro e w6 ⟨rfl, hb6⟩
        rw [HE1.out]
        go_wp2
        go_ret
        exact ⟨ret_int (by rw [HRES.out]; simp [h0]), then_ hbW hb6⟩
end Go.Proofs.Ytebfmacbdjnhbaa
