/- pantlerlaw34.QuorumIs: the walk. -/
import Derived.Test.YtebfmacbdjnhbaaQuorumG
namespace Go.Proofs.Ytebfmacbdjnhbaa
open Go.RowKit Go.Mem
set_option linter.unusedVariables false

theorem Sl.wide.ok {w w' : World} {s : Sl} (h : s.wide w) (hb : Below w.heap.size w w') (hn : s.n ≤ 20) : s.ok w' := ⟨h.rd.below hb, h.len, by omega⟩

set_option maxRecDepth 100000 in
set_option maxHeartbeats 4000000 in
theorem quorumIs_walk (p : Pr) (A : Option Addr) (n c : Nat) (l : List Ch) (l0 l1 l2 : Sl) (w : World) (hr : Rd w A (l.flatMap Ch.cells)) (hn : l.length = n) (hm : n ≤ maxLen) (h0 : l0.wide w) (h1 : l1.wide w) (h2 : l2.wide w) :
    Calls Try.prog 8 #[.agg p.arr, .slice A n c, .agg #[l0.v, l1.v, l2.v]] w fun e w' => e = .returned (.bool true) ∧ Below w.heap.size w w' := by
  have HN := Lib.hid hn; clear hn
  obtain ⟨pn, pr, pw, ppr, ppw, sv, ms, bs⟩ := p
  obtain ⟨Y, yn, yc, ys⟩ := l0
  obtain ⟨M, mn, mc, mss⟩ := l1
  obtain ⟨Z, zn, zc, zs⟩ := l2
  unfold Pr.arr Sl.v
  simp only
  have hpx : ∀ W : World, Below ((w.alloc (.cells #[.int .i64 pn, .int .i64 pr, .int .i64 pw, .int .i64 ppr, .int .i64 ppw, .bool sv, .bool ms, .bool bs] 58)).alloc (.cells #[.slice Y yn yc, .slice M mn mc, .slice Z zn zc] 60)).heap.size ((w.alloc (.cells #[.int .i64 pn, .int .i64 pr, .int .i64 pw, .int .i64 ppr, .int .i64 ppw, .bool sv, .bool ms, .bool bs] 58)).alloc (.cells #[.slice Y yn yc, .slice M mn mc, .slice Z zn zc] 60)) W → (W.cell? ⟨w.heap.size, 0, none⟩ = some (.int .i64 pn) ∧ W.cell? ⟨w.heap.size, 1, none⟩ = some (.int .i64 pr) ∧ W.cell? ⟨w.heap.size, 2, none⟩ = some (.int .i64 pw) ∧ W.cell? ⟨w.heap.size, 3, none⟩ = some (.int .i64 ppr) ∧ W.cell? ⟨w.heap.size, 4, none⟩ = some (.int .i64 ppw) ∧ W.cell? ⟨w.heap.size, 5, none⟩ = some (.bool sv) ∧ W.cell? ⟨w.heap.size, 6, none⟩ = some (.bool ms) ∧ W.cell? ⟨w.heap.size, 7, none⟩ = some (.bool bs)) ∧ (W.cell? ⟨w.heap.size + 1, 0, none⟩ = some (.slice Y yn yc) ∧ W.cell? ⟨w.heap.size + 1, 1, none⟩ = some (.slice M mn mc) ∧ W.cell? ⟨w.heap.size + 1, 2, none⟩ = some (.slice Z zn zc)) ∧ Below w.heap.size w W := by
    intro W hb
    exact ⟨⟨(hb.cell (by simp; omega)).trans (by simp), (hb.cell (by simp; omega)).trans (by simp), (hb.cell (by simp; omega)).trans (by simp), (hb.cell (by simp; omega)).trans (by simp), (hb.cell (by simp; omega)).trans (by simp), (hb.cell (by simp; omega)).trans (by simp), (hb.cell (by simp; omega)).trans (by simp), (hb.cell (by simp; omega)).trans (by simp)⟩, ⟨(hb.cell (by simp)).trans (by simp), (hb.cell (by simp)).trans (by simp), (hb.cell (by simp)).trans (by simp)⟩, then_ (((Below.refl _ _).alloc (Nat.le_refl _) _).alloc (by simp) _) hb⟩
  have HPX := Lib.hid hpx; clear hpx
  generalize hW2 : (w.alloc (.cells #[.int .i64 pn, .int .i64 pr, .int .i64 pw, .int .i64 ppr, .int .i64 ppw, .bool sv, .bool ms, .bool bs] 58)).alloc (.cells #[.slice Y yn yc, .slice M mn mc, .slice Z zn zc] 60) = W2 at HPX
  have hsz : W2.heap.size = w.heap.size + 1 + 1 := by rw [← hW2]; simp
  have HW2 := Lib.hid hW2; have HSZ := Lib.hid hsz; clear hW2 hsz
  have hb2 := (HPX.out W2 (Below.refl _ _)).2.2
  have hw3 : ∀ o s, Sl.wide w s → Sl.wide (W2.alloc o) s := fun o s h => ⟨(h.rd.below hb2).alloc _, h.len, h.le⟩
  have HW3 := Lib.hid hw3; clear hw3
  go_enter Try.func8, Try.ntmps8
  go_wp2_with fail
  rw [HW2.out]
  refine (few34_any A n c l _ 3 3 [⟨Y, yn, yc, ys⟩, ⟨M, mn, mc, mss⟩, ⟨Z, zn, zc, zs⟩] _ (by exact (hr.below hb2).alloc _) HN.out hm (by exact rd_at _ _ HSZ.out.symm rfl) rfl (by omega) (by intro x hx; simp only [List.mem_cons, List.not_mem_nil, or_false] at hx; rcases hx with rfl | rfl | rfl; exact HW3.out _ _ h0; exact HW3.out _ _ h1; exact HW3.out _ _ h2)).mono ?_
  rintro e w1 ⟨b, hfew, rfl, hw1⟩
  have hq1 : Below W2.heap.size W2 w1 := by rw [← hw1]; exact (Below.refl _ _).alloc (Nat.le_refl _) _
  clear hw1
  obtain ⟨⟨c0, c1, c2, c3, c4, c5, c6, c7⟩, ⟨d0, d1, d2⟩, hbw1⟩ := HPX.out w1 hq1
  cases b
  · clear hfew
    go_wp2_with fail
    refine (awake34_any _).mono ?_
    rintro e w2 ⟨rfl, hb3⟩
    go_wp2
    go_ret
    exact ⟨rfl, then_ hbw1 hb3⟩
  · obtain ⟨hn20, hl20⟩ := hfew rfl
    have hk0 : yn ≤ 20 := hl20 ⟨Y, yn, yc, ys⟩ (by simp)
    have hk1 : mn ≤ 20 := hl20 ⟨M, mn, mc, mss⟩ (by simp)
    have hk2 : zn ≤ 20 := hl20 ⟨Z, zn, zc, zs⟩ (by simp)
    clear hfew hl20
    obtain ⟨a, ha⟩ : ∃ x, cnt (fun s => mem s ys) l = x := ⟨_, rfl⟩
    obtain ⟨b, hb⟩ : ∃ x, cntP (fun s => mem s ys) l = x := ⟨_, rfl⟩
    obtain ⟨x, hx⟩ : ∃ x, writeL ⟨pn, pr, pw, ppr, ppw, sv, ms, bs⟩ l ys zs = x := ⟨_, rfl⟩
    obtain ⟨y, hy⟩ : ∃ x, readL ⟨pn, pr, pw, ppr, ppw, sv, ms, bs⟩ l ys mss zs = x := ⟨_, rfl⟩
    have HA := Lib.hid ha; have HB := Lib.hid hb; have HX := Lib.hid hx; have HY := Lib.hid hy; clear ha hb hx hy
    go_wp2_with fail
    refine (qcount_any A n c l ⟨Y, yn, yc, ys⟩ _ (hr.below hbw1) HN.out (by omega) (h0.ok hbw1 hk0)).mono ?_
    rintro e w2 ⟨rfl, hb11⟩
    have hq2 := then_ hq1 hb11
    clear c0 c1 c2 c3 c4 c5 c6 c7 d0 d1 d2
    simp only
    rw [HA.out, HB.out]
    obtain ⟨⟨c0, c1, c2, c3, c4, c5, c6, c7⟩, ⟨d0, d1, d2⟩, hbw2⟩ := HPX.out w2 hq2
    go_wp2_with fail
    refine (rcount_any A n c l ⟨Y, yn, yc, ys⟩ _ (hr.below hbw2) HN.out (by omega) (h0.ok hbw2 hk0)).mono ?_
    rintro e w3 ⟨rfl, rfl⟩
    simp only
    rw [HA.out, HB.out]
    go_upto_region 5 with fail
    have HPC : Hid (∀ W : World, Below w2.heap.size w2 W → (W.cell? ⟨w.heap.size, 0, none⟩ = some (.int .i64 pn) ∧ W.cell? ⟨w.heap.size, 1, none⟩ = some (.int .i64 pr) ∧ W.cell? ⟨w.heap.size, 2, none⟩ = some (.int .i64 pw) ∧ W.cell? ⟨w.heap.size, 3, none⟩ = some (.int .i64 ppr) ∧ W.cell? ⟨w.heap.size, 4, none⟩ = some (.int .i64 ppw) ∧ W.cell? ⟨w.heap.size, 5, none⟩ = some (.bool sv) ∧ W.cell? ⟨w.heap.size, 6, none⟩ = some (.bool ms) ∧ W.cell? ⟨w.heap.size, 7, none⟩ = some (.bool bs)) ∧ (W.cell? ⟨w.heap.size + 1, 0, none⟩ = some (.slice Y yn yc) ∧ W.cell? ⟨w.heap.size + 1, 1, none⟩ = some (.slice M mn mc) ∧ W.cell? ⟨w.heap.size + 1, 2, none⟩ = some (.slice Z zn zc))) := fun W hb => ⟨(HPX.out W (then_ hq2 hb)).1, (HPX.out W (then_ hq2 hb)).2.1⟩
    go_cut [6] (fun s6 wx => s6 = .bool true ∧ Below w2.heap.size w2 wx)
    case first =>
      go_region_held3 (fun W => (W.cell? ⟨w.heap.size, 0, none⟩ = some (.int .i64 pn) ∧ W.cell? ⟨w.heap.size, 1, none⟩ = some (.int .i64 pr) ∧ W.cell? ⟨w.heap.size, 2, none⟩ = some (.int .i64 pw) ∧ W.cell? ⟨w.heap.size, 3, none⟩ = some (.int .i64 ppr) ∧ W.cell? ⟨w.heap.size, 4, none⟩ = some (.int .i64 ppw) ∧ W.cell? ⟨w.heap.size, 5, none⟩ = some (.bool sv) ∧ W.cell? ⟨w.heap.size, 6, none⟩ = some (.bool ms) ∧ W.cell? ⟨w.heap.size, 7, none⟩ = some (.bool bs)) ∧ (W.cell? ⟨w.heap.size + 1, 0, none⟩ = some (.slice Y yn yc) ∧ W.cell? ⟨w.heap.size + 1, 1, none⟩ = some (.slice M mn mc) ∧ W.cell? ⟨w.heap.size + 1, 2, none⟩ = some (.slice Z zn zc))) (first | go_keep | (exact HPC.out _ hz5) | (exact HPC.out _ hz4) | (exact HPC.out _ hz3) | (exact HPC.out _ hz2) | (exact HPC.out _ hz1))
        (first
          | (go_at_call 43; refine (qwrite_any ⟨pn, pr, pw, ppr, ppw, sv, ms, bs⟩ A n c l ⟨Y, yn, yc, ys⟩ ⟨Z, zn, zc, zs⟩ _ (by exact (hr.below hbw2).drew) HN.out (by omega) (by exact (h0.ok hbw2 hk0).below (Below.refl _ _).drew) (by exact (h2.ok hbw2 hk2).below (Below.refl _ _).drew)).mono ?_; rintro e x1 ⟨rfl, hy1⟩; have hz1 : Below w2.heap.size w2 x1 := ((Below.refl _ _).drew).trans hy1; rw [HX.out])
          | (go_at_call 44; refine (rwrite_any ⟨pn, pr, pw, ppr, ppw, sv, ms, bs⟩ A n c l ⟨Y, yn, yc, ys⟩ ⟨Z, zn, zc, zs⟩ _ (by exact hr.below (then_ hbw2 hz1)) HN.out (by omega) (by exact h0.ok (then_ hbw2 hz1) hk0) (by exact h2.ok (then_ hbw2 hz1) hk2) (by simp; omega) (by simp; omega)).mono ?_; rintro e x2 ⟨rfl, hy2⟩; have hz2 := then_ hz1 hy2; rw [HX.out])
          | (go_at_call 45; refine (qread_any ⟨pn, pr, pw, ppr, ppw, sv, ms, bs⟩ A n c l ⟨Y, yn, yc, ys⟩ ⟨M, mn, mc, mss⟩ ⟨Z, zn, zc, zs⟩ _ (by exact hr.below (then_ hbw2 hz2)) HN.out (by omega) (by exact h0.ok (then_ hbw2 hz2) hk0) (by exact h1.ok (then_ hbw2 hz2) hk1) (by exact h2.ok (then_ hbw2 hz2) hk2)).mono ?_; rintro e x3 ⟨rfl, hy3⟩; have hz3 := then_ hz2 hy3; rw [HY.out])
          | (go_at_call 46; refine (rread_any ⟨pn, pr, pw, ppr, ppw, sv, ms, bs⟩ A n c l ⟨Y, yn, yc, ys⟩ ⟨M, mn, mc, mss⟩ ⟨Z, zn, zc, zs⟩ _ (by exact hr.below (then_ hbw2 hz3)) HN.out (by omega) (by exact h0.ok (then_ hbw2 hz3) hk0) (by exact h1.ok (then_ hbw2 hz3) hk1) (by exact h2.ok (then_ hbw2 hz3) hk2) (by simp; omega) (by simp; omega) (by simp; omega)).mono ?_; rintro e x4 ⟨rfl, hy4⟩; have hz4 := then_ hz3 hy4; rw [HY.out])
          | (go_at_call 40; refine (awake34_any _).mono ?_; rintro e x5 ⟨rfl, hy5⟩; have hz5 := then_ hz4 hy5))
      all_goals (go_wp2_with fail; go_meet; exact ⟨rfl, hz5⟩)
    case rest =>
      obtain ⟨rfl, hbc⟩ := hcut
      go_wp2
      go_ret
      exact ⟨rfl, then_ hbw2 hbc⟩
end Go.Proofs.Ytebfmacbdjnhbaa
