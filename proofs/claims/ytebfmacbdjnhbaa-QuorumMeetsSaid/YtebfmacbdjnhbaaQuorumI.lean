/- The arguments of the quorum's statements: properties, entries, three lists of texts. -/
import Derived.Test.YtebfmacbdjnhbaaQuorumH
import Derived.Test.YtebfmacbdjnhbaaOpen
namespace Go.Proofs.Ytebfmacbdjnhbaa
open Go.RowKit Go.Mem
set_option linter.unusedVariables false
theorem cells_bool : Try.prog.cellsOf 4 = 1 := by kernel_rfl
theorem cells_strs : Try.prog.cellsOf 42 = 1 := by kernel_rfl
theorem cells_choice : Try.prog.cellsOf 71 = 2 := by kernel_rfl
theorem cells_props : Try.prog.cellsOf 58 = 8 := by kernel_rfl
theorem cells_arr3 : Try.prog.cellsOf 60 = 3 := by kernel_rfl
section
variable {H : Type} {enc : TypeId × Value → H} {w : World} {cs : List Value}
theorem is_choice (h : Is enc Try.prog w 71 cs) : ∃ m : Ch, cs = m.cells ∧ True := by
  obtain ⟨hl, hf⟩ := is_struct Try.underlying71 h
  rw [cells_choice] at hl
  obtain ⟨c0, r0, rfl, hl0⟩ := cons_of hl
  obtain ⟨c1, r1, rfl, hl1⟩ := cons_of hl0
  obtain rfl := nil_of hl1
  have f0 := hf 0 _ rfl
  have f1 := hf 1 _ rfl
  obtain ⟨a, h0, _⟩ := is_string Try.underlying9 f0
  obtain ⟨b, h1⟩ := is_bool Try.underlying4 f1
  simp [cells_string, cells_bool] at h0 h1
  subst h0 h1
  exact ⟨⟨a, b⟩, rfl, trivial⟩
def Pr.wf (p : Pr) : Prop := (Lit.int .i64 p.n).wf = true ∧ (Lit.int .i64 p.r).wf = true ∧ (Lit.int .i64 p.w).wf = true ∧ (Lit.int .i64 p.pr).wf = true ∧ (Lit.int .i64 p.pw).wf = true
theorem is_props (h : Is enc Try.prog w 58 cs) : ∃ m : Pr, cs = m.arr.toList ∧ m.wf := by
  obtain ⟨hl, hf⟩ := is_struct Try.underlying58 h
  rw [cells_props] at hl
  obtain ⟨c0, r0, rfl, hl0⟩ := cons_of hl
  obtain ⟨c1, r1, rfl, hl1⟩ := cons_of hl0
  obtain ⟨c2, r2, rfl, hl2⟩ := cons_of hl1
  obtain ⟨c3, r3, rfl, hl3⟩ := cons_of hl2
  obtain ⟨c4, r4, rfl, hl4⟩ := cons_of hl3
  obtain ⟨c5, r5, rfl, hl5⟩ := cons_of hl4
  obtain ⟨c6, r6, rfl, hl6⟩ := cons_of hl5
  obtain ⟨c7, r7, rfl, hl7⟩ := cons_of hl6
  obtain rfl := nil_of hl7
  obtain ⟨a0, h0, w0⟩ := is_int Try.underlying3 (hf 0 _ rfl)
  obtain ⟨a1, h1, w1⟩ := is_int Try.underlying3 (hf 1 _ rfl)
  obtain ⟨a2, h2, w2⟩ := is_int Try.underlying3 (hf 2 _ rfl)
  obtain ⟨a3, h3, w3⟩ := is_int Try.underlying3 (hf 3 _ rfl)
  obtain ⟨a4, h4, w4⟩ := is_int Try.underlying3 (hf 4 _ rfl)
  obtain ⟨a5, h5⟩ := is_bool Try.underlying4 (hf 5 _ rfl)
  obtain ⟨a6, h6⟩ := is_bool Try.underlying4 (hf 6 _ rfl)
  obtain ⟨a7, h7⟩ := is_bool Try.underlying4 (hf 7 _ rfl)
  simp [cells_int, cells_bool] at h0 h1 h2 h3 h4 h5 h6 h7
  subst h0 h1 h2 h3 h4 h5 h6 h7
  exact ⟨⟨a0, a1, a2, a3, a4, a5, a6, a7⟩, rfl, w0, w1, w2, w3, w4⟩
theorem is_sl {t : TypeId} (h : Is enc Try.prog w 42 cs) : ∃ s : Sl, cs = [s.v] ∧ s.wide w := by
  obtain ⟨A, n, c, ss, h1, h2, h3, _, h5, h6⟩ := is_strs Try.underlying42 Try.underlying9 h
  exact ⟨⟨A, n, c, ss⟩, h1, h3, h2, Nat.le_trans h5 h6⟩
def arr3 (x : Sl × Sl × Sl) : Array Value := #[x.1.v, x.2.1.v, x.2.2.v]
def wide3 (w : World) (x : Sl × Sl × Sl) : Prop := x.1.wide w ∧ x.2.1.wide w ∧ x.2.2.wide w
theorem is_arr3 (h : Is enc Try.prog w 60 cs) : ∃ x : Sl × Sl × Sl, cs = (arr3 x).toList ∧ wide3 w x := by
  obtain ⟨hl, hf⟩ := is_array Try.underlying60 h
  rw [cells_arr3] at hl
  obtain ⟨c0, r0, rfl, hl0⟩ := cons_of hl
  obtain ⟨c1, r1, rfl, hl1⟩ := cons_of hl0
  obtain ⟨c2, r2, rfl, hl2⟩ := cons_of hl1
  obtain rfl := nil_of hl2
  obtain ⟨s0, h0, w0⟩ := is_sl (t := 0) (hf 0 (by omega))
  obtain ⟨s1, h1, w1⟩ := is_sl (t := 0) (hf 1 (by omega))
  obtain ⟨s2, h2, w2⟩ := is_sl (t := 0) (hf 2 (by omega))
  simp [cells_strs] at h0 h1 h2
  subst h0 h1 h2
  exact ⟨⟨s0, s1, s2⟩, rfl, w0, w1, w2⟩
end
end Go.Proofs.Ytebfmacbdjnhbaa
