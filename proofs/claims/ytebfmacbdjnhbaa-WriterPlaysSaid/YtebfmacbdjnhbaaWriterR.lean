/- writer: the document's writer in memory; it decides. -/
import Derived.Test.YtebfmacbdjnhbaaWriterG
attribute [local go_sem ↓] Go.wp_at_zero Go.wp_at_succ
namespace Go.Proofs.Ytebfmacbdjnhbaa
open Go.RowKit Go.Mem
set_option linter.unusedVariables false
/-- block r may have turned, and those from rb on, no other one -/
structure KeepsR (r rb : Nat) (w w' : World) : Prop where
  os : w'.os = w.os
  tape : w'.tape = w.tape
  output : w'.output = w.output
  size : w.heap.size ≤ w'.heap.size
  block : ∀ i, i < w.heap.size → i < rb → i ≠ r → w'.heap[i]? = w.heap[i]?
theorem KeepsR.refl (r rb : Nat) (w : World) : KeepsR r rb w w := ⟨rfl, rfl, rfl, Nat.le_refl _, fun _ _ _ _ => rfl⟩
theorem KeepsR.of_below {r rb : Nat} {w w' : World} (h : Below w.heap.size w w') : KeepsR r rb w w' := ⟨h.os, h.tape, h.output, h.size, fun i hi _ _ => h.block i hi⟩
theorem KeepsR.then_ {r rb : Nat} {w w1 w2 : World} (h : KeepsR r rb w w1) (k : KeepsR r rb w1 w2) : KeepsR r rb w w2 :=
  ⟨k.os.trans h.os, k.tape.trans h.tape, k.output.trans h.output, Nat.le_trans h.size k.size, fun i hi h1 h2 => (k.block i (Nat.lt_of_lt_of_le hi h.size) h1 h2).trans (h.block i hi h1 h2)⟩
theorem KeepsR.setCell (r rb i : Nat) (w : World) (v : Value) : KeepsR r rb w (w.setCell ⟨r, i, none⟩ v) := ⟨rfl, rfl, rfl, by simp, fun k _ _ h => Below.heap_setCell w _ v k h⟩
theorem KeepsR.grown {r rb : Nat} {w w' : World} {row : Option Nat} (h : w.grownBy w' row) (hr : ∀ i, row = some i → rb ≤ i) : KeepsR r rb w w' := ⟨h.os, h.tape, h.output, h.size, fun i hi h1 _ => h.block i hi (fun e => by have := hr i e.symm; omega)⟩
theorem KeepsR.below {r rb B : Nat} {w w' : World} (h : KeepsR r rb w w') (hr : B ≤ r) (hb : B ≤ rb) (hB : B ≤ w.heap.size) : Below B w w' := ⟨h.os, h.tape, h.output, h.size, fun i hi => h.block i (by omega) (by omega) (by omega)⟩
def Rw.cells (R : Rw) (lv yv nv : Value) : Array Value := #[.int .i64 R.p.n, .int .i64 R.p.r, .int .i64 R.p.w, .int .i64 R.p.pr, .int .i64 R.p.pw, .bool R.p.several, .bool R.p.missing, .bool R.p.basic, lv, yv, nv, .bool R.full, .int .i64 R.state, .int .i64 R.err]
/-- block r is the document's writer R, whose lists of names lie from rb on, with K names at most -/
def RwAt (w : World) (rb r K : Nat) (lv : Value) (R : Rw) : Prop :=
  ∃ (YA : Option Addr) (yc : Nat) (NA : Option Addr) (nc : Nat), w.heap[r]? = some (.cells (R.cells lv (.slice YA R.yes.length yc) (.slice NA R.no.length nc)) 90 (0, 0)) ∧
    w.ownsRow rb 9 1 (.slice YA R.yes.length yc) R.yes.length (R.yes.map Value.string) ∧ w.ownsRow rb 9 1 (.slice NA R.no.length nc) R.no.length (R.no.map Value.string) ∧
    (∀ i, (Value.slice YA R.yes.length yc).ownBlock = some i → (Value.slice NA R.no.length nc).ownBlock ≠ some i) ∧ r < rb ∧ rb ≤ w.heap.size ∧ R.yes.length ≤ K ∧ R.no.length ≤ K
theorem RwAt.lt {w : World} {rb r K : Nat} {lv : Value} {R : Rw} (h : RwAt w rb r K lv R) : r < rb ∧ rb ≤ w.heap.size := by
  obtain ⟨_, _, _, _, _, _, _, _, h1, h2, _⟩ := h; exact ⟨h1, h2⟩
/-- it stays while blocks other than r below rb alone turn -/
theorem RwAt.kept {w w' : World} {rb r K : Nat} {lv : Value} {R : Rw} (h : RwAt w rb r K lv R) (hs : w.heap.size ≤ w'.heap.size) (hb : ∀ i, i < w.heap.size → (i = r ∨ rb ≤ i) → w'.heap[i]? = w.heap[i]?) : RwAt w' rb r K lv R := by
  obtain ⟨YA, yc, NA, nc, h1, h2, h3, h4, h5, h6, h7⟩ := h
  exact ⟨YA, yc, NA, nc, (hb r (by omega) (.inl rfl)).trans h1, own_block h2 (fun i hi => by have := h2.lt i hi; exact hb i this.2 (.inr this.1)), own_block h3 (fun i hi => by have := h3.lt i hi; exact hb i this.2 (.inr this.1)), h4, h5, by omega, h7⟩
theorem RwAt.below {w w' : World} {rb r K : Nat} {lv : Value} {R : Rw} (h : RwAt w rb r K lv R) (hb : Below w.heap.size w w') : RwAt w' rb r K lv R := h.kept hb.size (fun i hi _ => hb.block i hi)
theorem RwAt.set {w : World} {rb r K : Nat} {lv : Value} {R Y : Rw} (h : RwAt w rb r K lv R) (i : Nat) (v : Value) (hc : ∀ yv nv, (R.cells lv yv nv).setIfInBounds i v = Y.cells lv yv nv) (hy : Y.yes = R.yes) (hn : Y.no = R.no) : RwAt (w.setCell ⟨r, i, none⟩ v) rb r K lv Y := by
  obtain ⟨YA, yc, NA, nc, h1, h2, h3, h4, h5, h6, h7⟩ := h
  have hne : ∀ {A : Option Addr} {n c : Nat} {cs : List Value}, w.ownsRow rb 9 1 (.slice A n c) n cs → (Value.slice A n c).ownBlock ≠ some r := fun h e => by have := (h.lt r e).1; omega
  refine ⟨YA, yc, NA, nc, ?_, ?_, ?_, by rw [hy, hn]; exact h4, h5, by simpa using h6, by rw [hy, hn]; exact h7⟩
  · rw [block_setCell h1, hy, hn, hc]
  · rw [hy]; exact ownsRow_setCell_other h2 (hne h2) _
  · rw [hn]; exact ownsRow_setCell_other h3 (hne h3) _
def LeavesR (rb r K : Nat) (lv : Value) (R : Rw) (w : World) (e : Ending) (w' : World) : Prop := e = .returned (.tuple #[]) ∧ RwAt w' rb r K lv R ∧ KeepsR r rb w w'
set_option maxRecDepth 100000 in
set_option maxHeartbeats 4000000 in
theorem rdecide_any (w : World) (rb r K : Nat) (A : Option Addr) (n c : Nat) (R : Rw) (h : RwAt w rb r K (.slice A n c) R) (hr : Rd w A (R.l.flatMap Ch.cells)) (hn : R.l.length = n) (hm : n ≤ 1000) (hK : K ≤ 1000) :
    Calls Try.prog 61 #[.pointer (some ⟨r, 0, none⟩)] w (LeavesR rb r K (.slice A n c) R.dec w) := by
  by_cases h0 : R.state = 0
  · have HX := Lib.hid (Rw.dec_eq h0)
    have hW := h
    obtain ⟨YA, yc, NA, nc, hg, hy, hno, hd, hrb, hrs, hk1, hk2⟩ := h
    have hlt : r < w.heap.size := by omega
    obtain ⟨⟨pn, pr, pw, ppr, ppw, sv, ms, bs⟩, l, yes, no, fu, st, er⟩ := R
    simp only at h0 hr hn hg hy hno hd hk1 hk2
    subst h0
    have oky : Sl.ok w ⟨YA, yes.length, yc, yes⟩ := ⟨Rd.of_own hy, rfl, by show yes.length ≤ 1000000; omega⟩
    have okn : Sl.ok w ⟨NA, no.length, nc, no⟩ := ⟨Rd.of_own hno, rfl, by show no.length ≤ 1000000; omega⟩
    have c0 : w.cell? ⟨r, 0, none⟩ = some (.int .i64 pn) := (cell_of_block hg 0).trans rfl
    have c1 : w.cell? ⟨r, 1, none⟩ = some (.int .i64 pr) := (cell_of_block hg 1).trans rfl
    have c2 : w.cell? ⟨r, 2, none⟩ = some (.int .i64 pw) := (cell_of_block hg 2).trans rfl
    have c3 : w.cell? ⟨r, 3, none⟩ = some (.int .i64 ppr) := (cell_of_block hg 3).trans rfl
    have c4 : w.cell? ⟨r, 4, none⟩ = some (.int .i64 ppw) := (cell_of_block hg 4).trans rfl
    have c5 : w.cell? ⟨r, 5, none⟩ = some (.bool sv) := (cell_of_block hg 5).trans rfl
    have c6 : w.cell? ⟨r, 6, none⟩ = some (.bool ms) := (cell_of_block hg 6).trans rfl
    have c7 : w.cell? ⟨r, 7, none⟩ = some (.bool bs) := (cell_of_block hg 7).trans rfl
    have c8 : w.cell? ⟨r, 8, none⟩ = some (.slice A n c) := (cell_of_block hg 8).trans rfl
    have c9 : w.cell? ⟨r, 9, none⟩ = some (.slice YA yes.length yc) := (cell_of_block hg 9).trans rfl
    have c10 : w.cell? ⟨r, 10, none⟩ = some (.slice NA no.length nc) := (cell_of_block hg 10).trans rfl
    have c12 : w.cell? ⟨r, 12, none⟩ = some (.int .i64 0) := (cell_of_block hg 12).trans rfl
    have hfz := free_of_block hg 12
    have HW := Lib.hid hW; have HN := Lib.hid hn
    clear hg hy hno hd hW hn
    obtain ⟨oc, hoc⟩ : ∃ o, writeL ⟨pn, pr, pw, ppr, ppw, sv, ms, bs⟩ l yes no = o := ⟨_, rfl⟩
    have HOC := Lib.hid hoc
    have HPC : Hid (∀ W : World, Below w.heap.size w W → (W.cell? ⟨r, 0, none⟩ = some (.int .i64 pn) ∧ W.cell? ⟨r, 1, none⟩ = some (.int .i64 pr) ∧ W.cell? ⟨r, 2, none⟩ = some (.int .i64 pw) ∧ W.cell? ⟨r, 3, none⟩ = some (.int .i64 ppr) ∧ W.cell? ⟨r, 4, none⟩ = some (.int .i64 ppw) ∧ W.cell? ⟨r, 5, none⟩ = some (.bool sv) ∧ W.cell? ⟨r, 6, none⟩ = some (.bool ms) ∧ W.cell? ⟨r, 7, none⟩ = some (.bool bs)) ∧ W.cell? ⟨r, 8, none⟩ = some (.slice A n c) ∧ W.cell? ⟨r, 9, none⟩ = some (.slice YA yes.length yc) ∧ W.cell? ⟨r, 10, none⟩ = some (.slice NA no.length nc)) :=
      Lib.hid (fun W hb => ⟨⟨cell_below hb c0, cell_below hb c1, cell_below hb c2, cell_below hb c3, cell_below hb c4, cell_below hb c5, cell_below hb c6, cell_below hb c7⟩, cell_below hb c8, cell_below hb c9, cell_below hb c10⟩)
    have HPE : Hid (∀ W : World, Below w.heap.size w W → W.cell? ⟨r, 12, none⟩ = some (.int .i64 0) ∧ W.frozen? ⟨r, 12, none⟩ = false) := Lib.hid (fun W hb => ⟨cell_below hb c12, (hb.frozen (p := ⟨r, 12, none⟩) hlt).trans hfz⟩)
    have HPT : Hid (∀ (W : World) v, Below w.heap.size w W → ((W.setCell ⟨r, 12, none⟩ v).cell? ⟨r, 0, none⟩ = some (.int .i64 pn) ∧ (W.setCell ⟨r, 12, none⟩ v).cell? ⟨r, 1, none⟩ = some (.int .i64 pr) ∧ (W.setCell ⟨r, 12, none⟩ v).cell? ⟨r, 2, none⟩ = some (.int .i64 pw) ∧ (W.setCell ⟨r, 12, none⟩ v).cell? ⟨r, 3, none⟩ = some (.int .i64 ppr) ∧ (W.setCell ⟨r, 12, none⟩ v).cell? ⟨r, 4, none⟩ = some (.int .i64 ppw) ∧ (W.setCell ⟨r, 12, none⟩ v).cell? ⟨r, 5, none⟩ = some (.bool sv) ∧ (W.setCell ⟨r, 12, none⟩ v).cell? ⟨r, 6, none⟩ = some (.bool ms) ∧ (W.setCell ⟨r, 12, none⟩ v).cell? ⟨r, 7, none⟩ = some (.bool bs)) ∧ (W.setCell ⟨r, 12, none⟩ v).cell? ⟨r, 8, none⟩ = some (.slice A n c) ∧ (W.setCell ⟨r, 12, none⟩ v).cell? ⟨r, 9, none⟩ = some (.slice YA yes.length yc) ∧ (W.setCell ⟨r, 12, none⟩ v).cell? ⟨r, 10, none⟩ = some (.slice NA no.length nc)) := Lib.hid (fun W v hb => by
      obtain ⟨⟨d0, d1, d2, d3, d4, d5, d6, d7⟩, d8, d9, d10⟩ := HPC.out W hb
      have k : ∀ i u, i ≠ 12 → W.cell? ⟨r, i, none⟩ = some u → (W.setCell ⟨r, 12, none⟩ v).cell? ⟨r, i, none⟩ = some u := fun i u hi hc => by rw [World.cell?_setCell_other _ _ _ _ (fun e => by injection e with _ e; exact hi e.symm)]; exact hc
      exact ⟨⟨k 0 _ (by omega) d0, k 1 _ (by omega) d1, k 2 _ (by omega) d2, k 3 _ (by omega) d3, k 4 _ (by omega) d4, k 5 _ (by omega) d5, k 6 _ (by omega) d6, k 7 _ (by omega) d7⟩, k 8 _ (by omega) d8, k 9 _ (by omega) d9, k 10 _ (by omega) d10⟩)
    have HFZ := Lib.hid hfz
    clear hoc hfz
    go_enter Try.func61, Try.ntmps61
    go_wp2_with fail
    go_region_held3 (fun W => (W.cell? ⟨r, 0, none⟩ = some (.int .i64 pn) ∧ W.cell? ⟨r, 1, none⟩ = some (.int .i64 pr) ∧ W.cell? ⟨r, 2, none⟩ = some (.int .i64 pw) ∧ W.cell? ⟨r, 3, none⟩ = some (.int .i64 ppr) ∧ W.cell? ⟨r, 4, none⟩ = some (.int .i64 ppw) ∧ W.cell? ⟨r, 5, none⟩ = some (.bool sv) ∧ W.cell? ⟨r, 6, none⟩ = some (.bool ms) ∧ W.cell? ⟨r, 7, none⟩ = some (.bool bs)) ∧ W.cell? ⟨r, 8, none⟩ = some (.slice A n c) ∧ W.cell? ⟨r, 9, none⟩ = some (.slice YA yes.length yc) ∧ W.cell? ⟨r, 10, none⟩ = some (.slice NA no.length nc)) (first | go_keep | (exact HPT.out _ _ hy3) | (exact HPC.out _ hy3))
      ((go_at_call 44; refine (rwrite_any ⟨pn, pr, pw, ppr, ppw, sv, ms, bs⟩ A n c l ⟨YA, yes.length, yc, yes⟩ ⟨NA, no.length, nc, no⟩ _ (by exact hr.drew) HN.out hm (by exact oky.below (Below.refl _ _).drew) (by exact okn.below (Below.refl _ _).drew) (by show yes.length ≤ 1000; omega) (by show no.length ≤ 1000; omega)).mono ?_; rintro e x3 ⟨rfl, hb3⟩; have hy3 : Below w.heap.size w x3 := ((Below.refl _ _).drew).trans hb3; rw [show writeL ⟨pn, pr, pw, ppr, ppw, sv, ms, bs⟩ l yes no = oc from HOC.out]; obtain ⟨e11, g11⟩ := HPE.out x3 hy3))
    have hW4 : RwAt (x3.setCell ⟨r, 12, none⟩ (.int .i64 oc)) rb r K (.slice A n c) ⟨⟨pn, pr, pw, ppr, ppw, sv, ms, bs⟩, l, yes, no, fu, oc, er⟩ := (HW.out.below hy3).set 12 _ (fun _ _ => rfl) rfl rfl
    have hk4 : KeepsR r rb w (x3.setCell ⟨r, 12, none⟩ (.int .i64 oc)) := (KeepsR.of_below hy3).then_ (KeepsR.setCell r rb 12 _ _)
    have HW4 := Lib.hid hW4; have HK4 := Lib.hid hk4
    clear hW4 hk4
    generalize x3.setCell ⟨r, 12, none⟩ (.int .i64 oc) = w4 at *
    clear c0 c1 c2 c3 c4 c5 c6 c7 c8 c9 c10 c12 e11 g11
    have hf4 : (∃ lv yv nv, w4.heap[r]? = some (.cells (Rw.cells ⟨⟨pn, pr, pw, ppr, ppw, sv, ms, bs⟩, l, yes, no, fu, oc, er⟩ lv yv nv) 90 (0, 0))) := by
      obtain ⟨_, _, _, _, h, _⟩ := HW4.out; exact ⟨_, _, _, h⟩
    obtain ⟨lv', yv', nv', hg4⟩ := hf4
    have c11 : w4.cell? ⟨r, 11, none⟩ = some (.bool fu) := (cell_of_block hg4 11).trans rfl
    have c12 : w4.cell? ⟨r, 12, none⟩ = some (.int .i64 oc) := (cell_of_block hg4 12).trans rfl
    have c13 : w4.cell? ⟨r, 13, none⟩ = some (.int .i64 er) := (cell_of_block hg4 13).trans rfl
    have f13 : w4.frozen? ⟨r, 13, none⟩ = false := free_of_block hg4 13
    clear hg4
    by_cases h2 : oc = 2
    · subst h2
      have hW5 := HW4.out.set (Y := ⟨⟨pn, pr, pw, ppr, ppw, sv, ms, bs⟩, l, yes, no, fu, 2, 12⟩) 13 (.int .i64 12) (fun _ _ => rfl) rfl rfl
      cases fu
      · have HW5 := Lib.hid hW5; clear hW5
        go_wp2
        go_end0
        exact ⟨rfl, by rw [HX.out]; simp only [HOC.out]; exact HW5.out, HK4.out.then_ (KeepsR.setCell r rb 13 _ _)⟩
      · have hW6 := hW5.set (Y := ⟨⟨pn, pr, pw, ppr, ppw, sv, ms, bs⟩, l, yes, no, true, 2, 10⟩) 13 (.int .i64 10) (fun _ _ => rfl) rfl rfl
        have HW6 := Lib.hid hW6; clear hW5 hW6
        have HW7 := Lib.hid (HW4.out.set (Y := ⟨⟨pn, pr, pw, ppr, ppw, sv, ms, bs⟩, l, yes, no, true, 2, 10⟩) 13 (.int .i64 10) (fun _ _ => rfl) rfl rfl)
        go_wp2
        go_end0
        refine ⟨rfl, ?_, ?_⟩
        · rw [HX.out]; simp only [HOC.out]; first | exact HW6.out | exact HW7.out
        · first | exact HK4.out.then_ (KeepsR.setCell r rb 13 _ _) | exact (HK4.out.then_ (KeepsR.setCell r rb 13 _ _)).then_ (KeepsR.setCell r rb 13 _ _)
    · have hne : (oc == 2) = false := by rw [beq_eq_false_iff_ne]; exact h2
      have hW5 : RwAt w4 rb r K (.slice A n c) (Rw.dec ⟨⟨pn, pr, pw, ppr, ppw, sv, ms, bs⟩, l, yes, no, fu, 0, er⟩) := by rw [HX.out]; simp only [HOC.out, if_neg h2]; exact HW4.out
      have HW5 := Lib.hid hW5; clear hW5 h2
      go_wp2
      go_end0
      exact ⟨rfl, HW5.out, HK4.out⟩
  · have e := Rw.dec_ne h0
    rw [e]
    have hW := Lib.hid h
    obtain ⟨YA, yc, NA, nc, hg, _⟩ := h
    have c12 : w.cell? ⟨r, 12, none⟩ = some (.int .i64 R.state) := (cell_of_block hg 12).trans rfl
    have hne : (R.state != 0) = true := by rw [bne_iff_ne]; exact h0
    clear hg e h0 hr hn
    go_enter Try.func61, Try.ntmps61
    go_wp2
    first | go_end0 | refine bodyPost_ret (results_none rfl _ _ _) rfl ?_
    exact ⟨rfl, hW.out, KeepsR.refl _ _ _⟩
end Go.Proofs.Ytebfmacbdjnhbaa
