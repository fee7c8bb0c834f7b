/- writer: what the answers come to is decided. -/
import Derived.Test.YtebfmacbdjnhbaaWriterA
attribute [local go_sem ↓] Go.wp_at_zero Go.wp_at_succ
namespace Go.Proofs.Ytebfmacbdjnhbaa
open Go.RowKit Go.Mem
set_option linter.unusedVariables false
/-- two blocks may have turned, no other one -/
structure Keeps2 (g M : Nat) (w w' : World) : Prop where
  os : w'.os = w.os
  tape : w'.tape = w.tape
  output : w'.output = w.output
  size : w.heap.size ≤ w'.heap.size
  block : ∀ i, i < w.heap.size → i ≠ g → i ≠ M → w'.heap[i]? = w.heap[i]?
theorem Keeps2.refl (g M : Nat) (w : World) : Keeps2 g M w w := ⟨rfl, rfl, rfl, Nat.le_refl _, fun _ _ _ _ => rfl⟩
theorem Keeps2.of_below {g M : Nat} {w w' : World} (h : Below w.heap.size w w') : Keeps2 g M w w' := ⟨h.os, h.tape, h.output, h.size, fun i hi _ _ => h.block i hi⟩
theorem Keeps2.then_ {g M : Nat} {w w1 w2 : World} (h : Keeps2 g M w w1) (k : Keeps2 g M w1 w2) : Keeps2 g M w w2 :=
  ⟨k.os.trans h.os, k.tape.trans h.tape, k.output.trans h.output, Nat.le_trans h.size k.size, fun i hi h1 h2 => (k.block i (Nat.lt_of_lt_of_le hi h.size) h1 h2).trans (h.block i hi h1 h2)⟩
theorem Keeps2.setCell (g M i : Nat) (w : World) (v : Value) : Keeps2 g M w (w.setCell ⟨g, i, none⟩ v) := ⟨rfl, rfl, rfl, by simp, fun k _ h _ => Below.heap_setCell w _ v k h⟩
theorem Keeps2.grown {g M : Nat} {w w' : World} (h : w.grownBy w' (some M)) : Keeps2 g M w w' := ⟨h.os, h.tape, h.output, h.size, fun i hi _ h2 => h.block i hi (fun e => by injection e with e; exact h2 e)⟩
theorem Keeps2.below {g M B : Nat} {w w' : World} (h : Keeps2 g M w w') (hg : B ≤ g) (hM : B ≤ M) (hB : B ≤ w.heap.size) : Below B w w' := ⟨h.os, h.tape, h.output, h.size, fun i hi => h.block i (by omega) (by omega) (by omega)⟩
/-- what a call on a writer leaves that hands nothing back -/
def LeavesW (base T g M K : Nat) (X : Wt) (w : World) (e : Ending) (w' : World) : Prop := e = .returned (.tuple #[]) ∧ WrAt w' base T g M K X ∧ Keeps2 g M w w'
/-- a cell of the writer's own is written -/
theorem WrAt.set {w : World} {base T g M K : Nat} {X Y : Wt} (h : WrAt w base T g M K X) (i : Nat) (v : Value) (hc : ∀ lv, (X.cells lv M).setIfInBounds i v = Y.cells lv M) (hl : Y.l = X.l) (hf : Y.f = X.f) : WrAt (w.setCell ⟨g, i, none⟩ v) base T g M K Y := by
  obtain ⟨LA, ln, lc, n, c, h1, h2, h3, h4, h5, h6, h7⟩ := h
  refine ⟨LA, ln, lc, n, c, ?_, ownsRow_setCell_other (hl ▸ h2) h6.2.1 _, by rw [hl]; exact h3, by rw [hf]; exact h4.setCell (fun e => h6.1 e.symm) _, h5, h6, h7⟩
  rw [block_setCell h1, hc]
theorem ok_names {l : List Ch} {f : ByteArray → Option Int} {k : Int} : (namesL l f k).length ≤ l.length := namesL_le l f k
set_option maxRecDepth 100000 in
set_option maxHeartbeats 4000000 in
theorem decide_any (w : World) (base T g M K : Nat) (X : Wt) (h : WrAt w base T g M K X) (hm : X.l.length ≤ 1000) (hs : ∀ s ∈ nodes X.l, txOk s) :
    Calls Try.prog 95 #[.pointer (some ⟨g, 0, none⟩)] w (LeavesW base T g M K X.dec w) := by
  by_cases h0 : X.state = 0
  · have HX := Lib.hid (Wt.dec_eq h0)
    have hW := h
    have hlt := h.lt
    obtain ⟨LA, ln, lc, n, c, hg, hl, hn, hd, hnK, _⟩ := h
    have hr := Rd.of_own hl
    obtain ⟨⟨pn, pr, pw, ppr, ppw, sv, ms, bs⟩, l, f, fu, st, er⟩ := X
    simp only at h0 hm
    subst h0
    have c0 : w.cell? ⟨g, 0, none⟩ = some (.int .i64 pn) := (cell_of_block hg 0).trans rfl
    have c1 : w.cell? ⟨g, 1, none⟩ = some (.int .i64 pr) := (cell_of_block hg 1).trans rfl
    have c2 : w.cell? ⟨g, 2, none⟩ = some (.int .i64 pw) := (cell_of_block hg 2).trans rfl
    have c3 : w.cell? ⟨g, 3, none⟩ = some (.int .i64 ppr) := (cell_of_block hg 3).trans rfl
    have c4 : w.cell? ⟨g, 4, none⟩ = some (.int .i64 ppw) := (cell_of_block hg 4).trans rfl
    have c5 : w.cell? ⟨g, 5, none⟩ = some (.bool sv) := (cell_of_block hg 5).trans rfl
    have c6 : w.cell? ⟨g, 6, none⟩ = some (.bool ms) := (cell_of_block hg 6).trans rfl
    have c7 : w.cell? ⟨g, 7, none⟩ = some (.bool bs) := (cell_of_block hg 7).trans rfl
    have c8 : w.cell? ⟨g, 8, none⟩ = some (.slice LA ln lc) := (cell_of_block hg 8).trans rfl
    have c11 : w.cell? ⟨g, 11, none⟩ = some (.int .i64 0) := (cell_of_block hg 11).trans rfl
    have hfz := fun i => free_of_block hg i
    have HW := Lib.hid hW; have HL := Lib.hid hn; have HS := Lib.hid hs
    simp only at hn hr hs
    have hln : ln ≤ 1000 := by omega
    clear hg hl hd hW hs
    obtain ⟨oc, hoc⟩ : ∃ o, Wt.outc ⟨⟨pn, pr, pw, ppr, ppw, sv, ms, bs⟩, l, f, fu, 0, er⟩ = o := ⟨_, rfl⟩
    have HOC := Lib.hid hoc
    have HPC : Hid (∀ W : World, Below w.heap.size w W → (W.cell? ⟨g, 0, none⟩ = some (.int .i64 pn) ∧ W.cell? ⟨g, 1, none⟩ = some (.int .i64 pr) ∧ W.cell? ⟨g, 2, none⟩ = some (.int .i64 pw) ∧ W.cell? ⟨g, 3, none⟩ = some (.int .i64 ppr) ∧ W.cell? ⟨g, 4, none⟩ = some (.int .i64 ppw) ∧ W.cell? ⟨g, 5, none⟩ = some (.bool sv) ∧ W.cell? ⟨g, 6, none⟩ = some (.bool ms) ∧ W.cell? ⟨g, 7, none⟩ = some (.bool bs)) ∧ W.cell? ⟨g, 8, none⟩ = some (.slice LA ln lc)) :=
      Lib.hid (fun W hb => ⟨⟨cell_below hb c0, cell_below hb c1, cell_below hb c2, cell_below hb c3, cell_below hb c4, cell_below hb c5, cell_below hb c6, cell_below hb c7⟩, cell_below hb c8⟩)
    have HPE : Hid (∀ W : World, Below w.heap.size w W → W.cell? ⟨g, 11, none⟩ = some (.int .i64 0) ∧ W.frozen? ⟨g, 11, none⟩ = false) := Lib.hid (fun W hb => ⟨cell_below hb c11, (hb.frozen (p := ⟨g, 11, none⟩) hlt).trans (hfz 11)⟩)
    have HPT : Hid (∀ (W : World) v, Below w.heap.size w W → ((W.setCell ⟨g, 11, none⟩ v).cell? ⟨g, 0, none⟩ = some (.int .i64 pn) ∧ (W.setCell ⟨g, 11, none⟩ v).cell? ⟨g, 1, none⟩ = some (.int .i64 pr) ∧ (W.setCell ⟨g, 11, none⟩ v).cell? ⟨g, 2, none⟩ = some (.int .i64 pw) ∧ (W.setCell ⟨g, 11, none⟩ v).cell? ⟨g, 3, none⟩ = some (.int .i64 ppr) ∧ (W.setCell ⟨g, 11, none⟩ v).cell? ⟨g, 4, none⟩ = some (.int .i64 ppw) ∧ (W.setCell ⟨g, 11, none⟩ v).cell? ⟨g, 5, none⟩ = some (.bool sv) ∧ (W.setCell ⟨g, 11, none⟩ v).cell? ⟨g, 6, none⟩ = some (.bool ms) ∧ (W.setCell ⟨g, 11, none⟩ v).cell? ⟨g, 7, none⟩ = some (.bool bs)) ∧ (W.setCell ⟨g, 11, none⟩ v).cell? ⟨g, 8, none⟩ = some (.slice LA ln lc)) := Lib.hid (fun W v hb => by
      obtain ⟨⟨d0, d1, d2, d3, d4, d5, d6, d7⟩, d8⟩ := HPC.out W hb
      have k : ∀ i u, i ≠ 11 → W.cell? ⟨g, i, none⟩ = some u → (W.setCell ⟨g, 11, none⟩ v).cell? ⟨g, i, none⟩ = some u := fun i u hi hc => by rw [World.cell?_setCell_other _ _ _ _ (fun e => by injection e with _ e; exact hi e.symm)]; exact hc
      exact ⟨⟨k 0 _ (by omega) d0, k 1 _ (by omega) d1, k 2 _ (by omega) d2, k 3 _ (by omega) d3, k 4 _ (by omega) d4, k 5 _ (by omega) d5, k 6 _ (by omega) d6, k 7 _ (by omega) d7⟩, k 8 _ (by omega) d8⟩)
    have HFZ := Lib.hid hfz
    clear hoc hn hfz
    go_enter Try.func95, Try.ntmps95
    go_wp2_with fail
    have f11 := HFZ.out 11
    go_region_held3 (fun W => (W.cell? ⟨g, 0, none⟩ = some (.int .i64 pn) ∧ W.cell? ⟨g, 1, none⟩ = some (.int .i64 pr) ∧ W.cell? ⟨g, 2, none⟩ = some (.int .i64 pw) ∧ W.cell? ⟨g, 3, none⟩ = some (.int .i64 ppr) ∧ W.cell? ⟨g, 4, none⟩ = some (.int .i64 ppw) ∧ W.cell? ⟨g, 5, none⟩ = some (.bool sv) ∧ W.cell? ⟨g, 6, none⟩ = some (.bool ms) ∧ W.cell? ⟨g, 7, none⟩ = some (.bool bs)) ∧ W.cell? ⟨g, 8, none⟩ = some (.slice LA ln lc)) (first | go_keep | (exact HPT.out _ _ hy3) | (exact HPC.out _ hy3) | (exact HPC.out _ (then_ hy1 hb2)) | (exact HPC.out _ (then_ hy2 hb1)) | (exact HPC.out _ hy1) | (exact HPC.out _ hy2))
      (first
        | (go_at_call 114; (with_reducible refine (names_any _ base T g M K ⟨⟨pn, pr, pw, ppr, ppw, sv, ms, bs⟩, l, f, fu, 0, er⟩ 1 ?_ hm HS.out).mono ?_); (first | exact HW.out.below (Below.refl _ _).drew | exact HW.out.below hy2); rintro e x1 ⟨hb1, s1, rfl, hs1, ho1⟩; have hy1 : Below w.heap.size w x1 := (by first | exact ((Below.refl _ _).drew).trans hb1 | exact then_ hy2 hb1))
        | (go_at_call 114; (with_reducible refine (names_any _ base T g M K ⟨⟨pn, pr, pw, ppr, ppw, sv, ms, bs⟩, l, f, fu, 0, er⟩ 2 ?_ hm HS.out).mono ?_); (first | exact HW.out.below (Below.refl _ _).drew | exact HW.out.below hy1); rintro e x2 ⟨hb2, s2, rfl, hs2, ho2⟩; have hy2 : Below w.heap.size w x2 := (by first | exact ((Below.refl _ _).drew).trans hb2 | exact then_ hy1 hb2))
        | (go_at_call 43; refine (qwrite_any ⟨pn, pr, pw, ppr, ppw, sv, ms, bs⟩ LA ln lc l s1 s2 _ (by first | exact hr.below (then_ hy1 hb2) | exact hr.below (then_ hy2 hb1)) HL.out (by omega) (by first | exact ho1 | exact ho1.below hb2) (by first | exact ho2 | exact ho2.below hb1)).mono ?_; rintro e x3 ⟨rfl, hb3⟩; have hy3 : Below w.heap.size w x3 := (by first | exact then_ (then_ hy1 hb2) hb3 | exact then_ (then_ hy2 hb1) hb3); rw [show writeL ⟨pn, pr, pw, ppr, ppw, sv, ms, bs⟩ l s1.ss s2.ss = oc by rw [hs1, hs2]; exact HOC.out]; obtain ⟨e11, g11⟩ := HPE.out x3 hy3))
    all_goals
      have hW4 : WrAt (x3.setCell ⟨g, 11, none⟩ (.int .i64 oc)) base T g M K ⟨⟨pn, pr, pw, ppr, ppw, sv, ms, bs⟩, l, f, fu, oc, er⟩ := (HW.out.below hy3).set 11 _ (fun lv => rfl) rfl rfl
      have hk4 : Keeps2 g M w (x3.setCell ⟨g, 11, none⟩ (.int .i64 oc)) := (Keeps2.of_below hy3).then_ (Keeps2.setCell g M 11 _ _)
      have HW4 := Lib.hid hW4; have HK4 := Lib.hid hk4
      clear hW4 hk4
      generalize x3.setCell ⟨g, 11, none⟩ (.int .i64 oc) = w4 at *
      clear c0 c1 c2 c3 c4 c5 c6 c7 c8 c11 e11 g11 f11
      have hf4 : (∃ LA ln lc, w4.heap[g]? = some (.cells (Wt.cells ⟨⟨pn, pr, pw, ppr, ppw, sv, ms, bs⟩, l, f, fu, oc, er⟩ (.slice LA ln lc) M) 100 (0, 0))) := by
        obtain ⟨LA, ln, lc, _, _, h, _⟩ := HW4.out; exact ⟨LA, ln, lc, h⟩
      obtain ⟨LA', ln', lc', hg4⟩ := hf4
      have c10 : w4.cell? ⟨g, 10, none⟩ = some (.bool fu) := (cell_of_block hg4 10).trans rfl
      have c11 : w4.cell? ⟨g, 11, none⟩ = some (.int .i64 oc) := (cell_of_block hg4 11).trans rfl
      have c12 : w4.cell? ⟨g, 12, none⟩ = some (.int .i64 er) := (cell_of_block hg4 12).trans rfl
      have f12 : w4.frozen? ⟨g, 12, none⟩ = false := free_of_block hg4 12
      clear hg4
      by_cases h2 : oc = 2
      · subst h2
        cases fu
        · have hW5 := HW4.out.set (Y := ⟨⟨pn, pr, pw, ppr, ppw, sv, ms, bs⟩, l, f, false, 2, 12⟩) 12 (.int .i64 12) (fun lv => rfl) rfl rfl
          go_wp2
          go_end0
          exact ⟨rfl, by rw [HX.out]; simp only [HOC.out]; exact hW5, HK4.out.then_ (Keeps2.setCell g M 12 _ _)⟩
        · have hW5 := HW4.out.set (Y := ⟨⟨pn, pr, pw, ppr, ppw, sv, ms, bs⟩, l, f, true, 2, 10⟩) 12 (.int .i64 10) (fun lv => rfl) rfl rfl
          go_wp2
          go_end0
          exact ⟨rfl, by rw [HX.out]; simp only [HOC.out]; exact hW5, HK4.out.then_ (Keeps2.setCell g M 12 _ _)⟩
      · have hne : (oc != 2) = true := by rw [bne_iff_ne]; exact h2
        have hW5 : WrAt w4 base T g M K (Wt.dec ⟨⟨pn, pr, pw, ppr, ppw, sv, ms, bs⟩, l, f, fu, 0, er⟩) := by rw [HX.out]; simp only [HOC.out, if_neg h2]; exact HW4.out
        have HW5 := Lib.hid hW5; clear hW5 h2
        go_wp2
        go_end0
        exact ⟨rfl, HW5.out, HK4.out⟩
  · have e := Wt.dec_ne h0
    rw [e]
    have hW := Lib.hid h
    obtain ⟨LA, ln, lc, n, c, hg, _⟩ := h
    have c11 : w.cell? ⟨g, 11, none⟩ = some (.int .i64 X.state) := (cell_of_block hg 11).trans rfl
    have hne : (X.state != 0) = true := by rw [bne_iff_ne]; exact h0
    clear hg e h0 hs
    go_enter Try.func95, Try.ntmps95
    go_wp2
    go_end0
    exact ⟨rfl, hW.out, Keeps2.refl _ _ _⟩
end Go.Proofs.Ytebfmacbdjnhbaa
