/- Members, calls, administrators' deeds, events read of bytes by the document. -/
import Derived.Test.YtlmplibdfhamjaaScrO
import Derived.Test.YtlmplibdfhamjaaScrE
attribute [local go_sem ↓] Go.wp_at_zero Go.wp_at_succ
namespace Go.Proofs.Ytlmplibdfhamjaa
open Go.RowKit Go.Mem Go.Num
set_option linter.unusedVariables false
set_option linter.unusedSimpArgs false

theorem rdf_setCells {b g : Nat} {st : St} {w : World} (h : RdF b st w) (hg : b ≠ g) (o : Nat) (vs : List Value) : RdF b st (w.setCells g o vs) := (setCells_other g b hg vs o w).trans h
/-- a struct that is read, part by part, by the document: the result's block, the block of what is read -/
structure RY (T : TypeId) (z : Array Value) (b g : Nat) (w W : World) (x : Array Value) : Prop where
  only : Only b w W
  r : W.heap[g]? = some (.cells z T (0, 0))
  x : W.heap[g + 1]? = some (.cells x T (0, 0))
section
variable {T : TypeId} {z : Array Value} {b g : Nat} {w W W' : World} {x : Array Value}
theorem RY.call (h : RY T z b g w W x) (hg : b < g) (ho : Only b W W') : RY T z b g w W' x :=
  ⟨h.only.then_ ho, (ho.block _ (Array.getElem?_eq_some_iff.1 h.r).1 (fun e => by injection e; omega)).trans h.r, (ho.block _ (Array.getElem?_eq_some_iff.1 h.x).1 (fun e => by injection e; omega)).trans h.x⟩
theorem RY.set (h : RY T z b g w W x) (hg : w.heap.size ≤ g) (i : Nat) (u : Value) : RY T z b g w (W.setCell ⟨g + 1, i, none⟩ u) (x.setIfInBounds i u) :=
  ⟨only_new h.only (by omega) i u, (heap_setCell_other W _ _ u (by simp)).trans h.r, heap_setCell_same W _ i _ _ u h.x⟩
theorem RY.cell (h : RY T z b g w W x) (i : Nat) {u : Value} (hu : x[i]? = some u) : W.cell? ⟨g + 1, i, none⟩ = some u := by rw [cell_of_row _ _ _ _ _ _ h.x]; exact hu
theorem RY.froz (h : RY T z b g w W x) (i : Nat) : W.frozen? ⟨g + 1, i, none⟩ = false := frozen_of_row _ _ _ _ _ h.x
theorem RY.range (h : RY T z b g w W x) : W.rangeAt (g + 1) 0 x.toList := fun j v hv => by rw [Nat.zero_add, cell_of_row _ _ _ _ _ _ h.x]; simpa using hv
theorem RY.res (h : RY T z b g w W x) (hz : z.size = x.size) : (W.setCells g 0 x.toList).heap[g]? = some (.cells x T (0, 0)) := by
  rw [setCells_row _ _ _ 0 W z h.r, setL_all _ _ (by simpa using hz)]
theorem RY.end_ (h : RY T z b g w W x) (hg : w.heap.size ≤ g) (c : List Value) : Only b w (W.setCells g 0 c) := onlyB_setCells h.only hg c 0
theorem RY.under (h : RY T z b g w W x) (hg : w.heap.size ≤ g) : g + 1 < W.heap.size := (Array.getElem?_eq_some_iff.1 h.x).1
end
set_option maxRecDepth 100000 in
set_option maxHeartbeats 4000000 in
theorem fMem_any (b : Nat) (st : St) (w : World) (h : RdF b st w) (hs : st.1.length ≤ 140737488355328) :
    Calls Try.prog 57 #[.pointer (some ⟨b, 0, none⟩)] w (fun e w' => e = .returned (.agg (rdMem st).1.arr) ∧ RdF b (rdMem st).2 w' ∧ Only b w w') := by
  obtain ⟨v1, s1, e1⟩ : ∃ v s, rdText st = (v, s) := ⟨_, _, rfl⟩
  have l1 := (rdText_len st).1
  have t1 := fun W hW => fText_any b st W hW (by omega)
  rw [e1] at l1 t1
  simp only at l1 t1
  have m1 : (bs v1).size ≤ maxLen := by have h9 := text_max st (by omega); rw [e1] at h9; exact h9
  obtain ⟨v2, s2, e2⟩ : ∃ v s, rdText s1 = (v, s) := ⟨_, _, rfl⟩
  have l2 := (rdText_len s1).1
  have t2 := fun W hW => fText_any b s1 W hW (by omega)
  rw [e2] at l2 t2
  simp only at l2 t2
  have m2 : (bs v2).size ≤ maxLen := by have h9 := text_max s1 (by omega); rw [e2] at h9; exact h9
  obtain ⟨v3, s3, e3⟩ : ∃ v s, rdText s2 = (v, s) := ⟨_, _, rfl⟩
  have l3 := (rdText_len s2).1
  have t3 := fun W hW => fText_any b s2 W hW (by omega)
  rw [e3] at l3 t3
  simp only at l3 t3
  have m3 : (bs v3).size ≤ maxLen := by have h9 := text_max s2 (by omega); rw [e3] at h9; exact h9
  obtain ⟨v4, s4, e4⟩ : ∃ v s, rdNum 1 s3 = (v, s) := ⟨_, _, rfl⟩
  have l4 := rdNum_len 1 s3
  have t4 := fun W hW => fByte_any b s3 W hW (by omega)
  rw [e4] at l4 t4
  simp only at l4 t4
  have m4 : (Lit.int .i64 v4).wf = true := by have h9 : (Lit.int .i64 (rdNum 1 s3).1).wf = true := numWf _; rw [e4] at h9; exact h9
  have hV : rdMem st = (⟨bs v1, bs v2, bs v3, v4 != 0⟩, s4) := by unfold rdMem rd3; simp only [e1, e2, e3, e4]
  generalize bs v1 = u1 at t1 m1 hV
  have T1 := Lib.hid t1; have M1 := Lib.hid m1; clear t1 m1
  generalize bs v2 = u2 at t2 m2 hV
  have T2 := Lib.hid t2; have M2 := Lib.hid m2; clear t2 m2
  generalize bs v3 = u3 at t3 m3 hV
  have T3 := Lib.hid t3; have M3 := Lib.hid m3; clear t3 m3
  have T4 := Lib.hid t4; have M4 := Lib.hid m4; clear t4 m4
  have HV := Lib.hid hV; clear hV
  clear e1 l1 e2 l2 e3 l3 e4 l4
  have hbg : b < w.heap.size := h.lt
  have hr0 : RdF b st (w.alloc (.cells #[.string ⟨#[]⟩, .string ⟨#[]⟩, .string ⟨#[]⟩, .bool false] 82)) := Two.alloc h _
  have hg0 : (w.alloc (.cells #[.string ⟨#[]⟩, .string ⟨#[]⟩, .string ⟨#[]⟩, .bool false] 82)).heap[w.heap.size]? = some (.cells #[.string ⟨#[]⟩, .string ⟨#[]⟩, .string ⟨#[]⟩, .bool false] 82 (0, 0)) := heap_alloc_new w _
  have ho0 : Only b w (w.alloc (.cells #[.string ⟨#[]⟩, .string ⟨#[]⟩, .string ⟨#[]⟩, .bool false] 82)) := Only.rfl_.alloc _
  have HG := Lib.hid hg0; have HO := Lib.hid ho0; clear h hs hg0 ho0
  go_enter Try.func57, Try.ntmps57
  go_wp2_with fail
  generalize w.alloc (.cells #[.string ⟨#[]⟩, .string ⟨#[]⟩, .string ⟨#[]⟩, .bool false] 82) = W0 at hr0 HG HO ⊢
  refine (T1.out _ hr0).mono ?_
  rintro e w1 ⟨rfl, hr0, ho1⟩
  have HG := Lib.hid ((ho1.block _ (Array.getElem?_eq_some_iff.1 HG.out).1 (fun e => by injection e; omega)).trans HG.out)
  have HO := Lib.hid (HO.out.then_ ho1)
  clear ho1
  go_wp2_with fail
  refine (T2.out _ hr0).mono ?_
  rintro e w2 ⟨rfl, hr0, ho1⟩
  have HG := Lib.hid ((ho1.block _ (Array.getElem?_eq_some_iff.1 HG.out).1 (fun e => by injection e; omega)).trans HG.out)
  have HO := Lib.hid (HO.out.then_ ho1)
  clear ho1
  go_wp2_with fail
  refine (T3.out _ hr0).mono ?_
  rintro e w3 ⟨rfl, hr0, ho1⟩
  have HG := Lib.hid ((ho1.block _ (Array.getElem?_eq_some_iff.1 HG.out).1 (fun e => by injection e; omega)).trans HG.out)
  have HO := Lib.hid (HO.out.then_ ho1)
  clear ho1
  go_wp2_with fail
  refine (T4.out _ hr0).mono ?_
  rintro e w4 ⟨rfl, hr0, ho1⟩
  have HG := Lib.hid ((ho1.block _ (Array.getElem?_eq_some_iff.1 HG.out).1 (fun e => by injection e; omega)).trans HG.out)
  have HO := Lib.hid (HO.out.then_ ho1)
  clear ho1
  have HR := Lib.hid hr0; clear hr0
  have r0 : w4.cell? ⟨w.heap.size, 0, none⟩ = some (.string ⟨#[]⟩) := cell_of_row _ _ _ _ _ _ HG.out
  have r1 : w4.cell? ⟨w.heap.size, 1, none⟩ = some (.string ⟨#[]⟩) := cell_of_row _ _ _ _ _ _ HG.out
  have r2 : w4.cell? ⟨w.heap.size, 2, none⟩ = some (.string ⟨#[]⟩) := cell_of_row _ _ _ _ _ _ HG.out
  have r3 : w4.cell? ⟨w.heap.size, 3, none⟩ = some (.bool false) := cell_of_row _ _ _ _ _ _ HG.out
  have q0 : w4.frozen? ⟨w.heap.size, 0, none⟩ = false := frozen_of_row _ _ _ _ _ HG.out
  have q1 : w4.frozen? ⟨w.heap.size, 1, none⟩ = false := frozen_of_row _ _ _ _ _ HG.out
  have q2 : w4.frozen? ⟨w.heap.size, 2, none⟩ = false := frozen_of_row _ _ _ _ _ HG.out
  have q3 : w4.frozen? ⟨w.heap.size, 3, none⟩ = false := frozen_of_row _ _ _ _ _ HG.out
  go_wp2
  refine bodyPost_ret (results_cell_row rfl _ _ w.heap.size _ #[.string u1, .string u2, .string u3, .bool (v4 != 0)] (0, 0) _ rfl (set4 HG.out _ _ _ _) Try.underlying82 rfl row_memb.hi) rfl ?_
  rw [HV.out]
  have hne : b ≠ w.heap.size := by omega
  exact ⟨rfl, rdf_set (rdf_set (rdf_set (rdf_set HR.out hne _ _) hne _ _) hne _ _) hne _ _, only_new (only_new (only_new (only_new HO.out (Nat.le_refl _) _ _) (Nat.le_refl _) _ _) (Nat.le_refl _) _ _) (Nat.le_refl _) _ _⟩
set_option maxRecDepth 100000 in
set_option maxHeartbeats 8000000 in
theorem fCal_any (b : Nat) (st : St) (w : World) (h : RdF b st w) (hs : st.1.length ≤ 140737488355328) :
    Calls Try.prog 103 #[.pointer (some ⟨b, 0, none⟩)] w (RdS (fun x => .agg x.arr) Cal.bare Cal.ok RdF b (rdCal st) w) := by
  obtain ⟨v1, s1, e1⟩ : ∃ v s, rdNum 1 st = (v, s) := ⟨_, _, rfl⟩
  have l1 := rdNum_len 1 st
  have t1 := fun W hW => fByte_any b st W hW (by omega)
  rw [e1] at l1 t1
  simp only at l1 t1
  have m1 : (Lit.int .i64 v1).wf = true := by have h9 : (Lit.int .i64 (rdNum 1 st).1).wf = true := numWf _; rw [e1] at h9; exact h9
  obtain ⟨v2, s2, e2⟩ : ∃ v s, rdText s1 = (v, s) := ⟨_, _, rfl⟩
  have l2 := (rdText_len s1).1
  have t2 := fun W hW => fText_any b s1 W hW (by omega)
  rw [e2] at l2 t2
  simp only at l2 t2
  have m2 : (bs v2).size ≤ maxLen := by have h9 := text_max s1 (by omega); rw [e2] at h9; exact h9
  obtain ⟨v3, s3, e3⟩ : ∃ v s, rdText s2 = (v, s) := ⟨_, _, rfl⟩
  have l3 := (rdText_len s2).1
  have t3 := fun W hW => fText_any b s2 W hW (by omega)
  rw [e3] at l3 t3
  simp only at l3 t3
  have m3 : (bs v3).size ≤ maxLen := by have h9 := text_max s2 (by omega); rw [e3] at h9; exact h9
  obtain ⟨v4, s4, e4⟩ : ∃ v s, rdText s3 = (v, s) := ⟨_, _, rfl⟩
  have l4 := (rdText_len s3).1
  have t4 := fun W hW => fText_any b s3 W hW (by omega)
  rw [e4] at l4 t4
  simp only at l4 t4
  have m4 : (bs v4).size ≤ maxLen := by have h9 := text_max s3 (by omega); rw [e4] at h9; exact h9
  obtain ⟨v5, s5, e5⟩ : ∃ v s, rdText s4 = (v, s) := ⟨_, _, rfl⟩
  have l5 := (rdText_len s4).1
  have t5 := fun W hW => fText_any b s4 W hW (by omega)
  rw [e5] at l5 t5
  simp only at l5 t5
  have m5 : (bs v5).size ≤ maxLen := by have h9 := text_max s4 (by omega); rw [e5] at h9; exact h9
  have hV : rdCal st = (⟨v1, bs v2, bs v3, bs v4, bs v5, (rdCtx s5).1, (rdNum 8 (rdCtx s5).2).1⟩, (rdNum 8 (rdCtx s5).2).2) := by unfold rdCal rd4 rd3; simp only [e1, e2, e3, e4, e5]
  have lc := rdCtx_len s5
  have t6 := fun W hW => rCtxF_any b s5 W hW (by omega)
  generalize hcx : rdCtx s5 = cx at lc t6 hV
  obtain ⟨cx, s6⟩ := cx
  simp only at lc t6 hV
  obtain ⟨v7, s7, e7⟩ : ∃ v s, rdNum 8 s6 = (v, s) := ⟨_, _, rfl⟩
  have t7 := fun W hW => fInt_any b s6 W hW (by omega)
  have m7 : (Lit.int .i64 (rdNum 8 s6).1).wf = true := numWf _
  rw [e7] at t7 m7 hV
  simp only at t7 m7 hV
  have T6 := Lib.hid t6; have T7 := Lib.hid t7; have M7 := Lib.hid m7; clear t6 t7 m7 hcx e7 lc
  have T1 := Lib.hid t1; have M1 := Lib.hid m1; clear t1 m1
  generalize bs v2 = u2 at t2 m2 hV
  have T2 := Lib.hid t2; have M2 := Lib.hid m2; clear t2 m2
  generalize bs v3 = u3 at t3 m3 hV
  have T3 := Lib.hid t3; have M3 := Lib.hid m3; clear t3 m3
  generalize bs v4 = u4 at t4 m4 hV
  have T4 := Lib.hid t4; have M4 := Lib.hid m4; clear t4 m4
  generalize bs v5 = u5 at t5 m5 hV
  have T5 := Lib.hid t5; have M5 := Lib.hid m5; clear t5 m5
  have HV := Lib.hid hV; clear hV
  clear e1 l1 e2 l2 e3 l3 e4 l4 e5 l5
  have hwg : w.heap.size ≤ w.heap.size := Nat.le_refl _
  have hbg : b < w.heap.size := h.lt
  have HR := Lib.hid ((show RdF b st (w.alloc (.cells #[.int .i64 0, .string ⟨#[]⟩, .string ⟨#[]⟩, .string ⟨#[]⟩, .string ⟨#[]⟩, .slice none 0 0, .int .i64 0] 85)) from Two.alloc h _).alloc (.cells #[.int .i64 0, .string ⟨#[]⟩, .string ⟨#[]⟩, .string ⟨#[]⟩, .string ⟨#[]⟩, .slice none 0 0, .int .i64 0] 85))
  have HX : Hid (RY 85 #[.int .i64 0, .string ⟨#[]⟩, .string ⟨#[]⟩, .string ⟨#[]⟩, .string ⟨#[]⟩, .slice none 0 0, .int .i64 0] b w.heap.size w ((w.alloc (.cells #[.int .i64 0, .string ⟨#[]⟩, .string ⟨#[]⟩, .string ⟨#[]⟩, .string ⟨#[]⟩, .slice none 0 0, .int .i64 0] 85)).alloc (.cells #[.int .i64 0, .string ⟨#[]⟩, .string ⟨#[]⟩, .string ⟨#[]⟩, .string ⟨#[]⟩, .slice none 0 0, .int .i64 0] 85)) #[.int .i64 0, .string ⟨#[]⟩, .string ⟨#[]⟩, .string ⟨#[]⟩, .string ⟨#[]⟩, .slice none 0 0, .int .i64 0]) := Lib.hid ⟨(Only.rfl_.alloc _).alloc _, heap_alloc2_old w _ _, heap_alloc2_new w _ _⟩
  clear h hs
  go_enter Try.func103, Try.ntmps103
  go_wp2_with fail
  generalize ((w.alloc (.cells #[.int .i64 0, .string ⟨#[]⟩, .string ⟨#[]⟩, .string ⟨#[]⟩, .string ⟨#[]⟩, .slice none 0 0, .int .i64 0] 85)).alloc (.cells #[.int .i64 0, .string ⟨#[]⟩, .string ⟨#[]⟩, .string ⟨#[]⟩, .string ⟨#[]⟩, .slice none 0 0, .int .i64 0] 85)) = W0 at HX HR ⊢
  refine (T1.out _ HR.out).mono ?_
  rintro e w1 ⟨rfl, hr1, ho1⟩
  have HX := Lib.hid (HX.out.call hbg ho1)
  have HR := Lib.hid hr1
  clear hr1 ho1
  have y0 := HX.out.cell 0 rfl; have f0 := HX.out.froz 0
  have hx := HX.out.set hwg 0 (.int .i64 v1)
  simp only [List.setIfInBounds_toArray, List.set_cons_zero, List.set_cons_succ] at hx
  have HX := Lib.hid hx
  have HR := Lib.hid (rdf_set HR.out (show b ≠ w.heap.size + 1 by omega) 0 (.int .i64 v1))
  clear hx
  go_wp2_with fail
  clear y0 f0
  refine (T2.out _ HR.out).mono ?_
  rintro e w1 ⟨rfl, hr1, ho1⟩
  have HX := Lib.hid (HX.out.call hbg ho1)
  have HR := Lib.hid hr1
  clear hr1 ho1
  have y1 := HX.out.cell 1 rfl; have f1 := HX.out.froz 1
  have hx := HX.out.set hwg 1 (.string u2)
  simp only [List.setIfInBounds_toArray, List.set_cons_zero, List.set_cons_succ] at hx
  have HX := Lib.hid hx
  have HR := Lib.hid (rdf_set HR.out (show b ≠ w.heap.size + 1 by omega) 1 (.string u2))
  clear hx
  go_wp2_with fail
  clear y1 f1
  refine (T3.out _ HR.out).mono ?_
  rintro e w1 ⟨rfl, hr1, ho1⟩
  have HX := Lib.hid (HX.out.call hbg ho1)
  have HR := Lib.hid hr1
  clear hr1 ho1
  have y2 := HX.out.cell 2 rfl; have f2 := HX.out.froz 2
  have hx := HX.out.set hwg 2 (.string u3)
  simp only [List.setIfInBounds_toArray, List.set_cons_zero, List.set_cons_succ] at hx
  have HX := Lib.hid hx
  have HR := Lib.hid (rdf_set HR.out (show b ≠ w.heap.size + 1 by omega) 2 (.string u3))
  clear hx
  go_wp2_with fail
  clear y2 f2
  refine (T4.out _ HR.out).mono ?_
  rintro e w1 ⟨rfl, hr1, ho1⟩
  have HX := Lib.hid (HX.out.call hbg ho1)
  have HR := Lib.hid hr1
  clear hr1 ho1
  have y3 := HX.out.cell 3 rfl; have f3 := HX.out.froz 3
  have hx := HX.out.set hwg 3 (.string u4)
  simp only [List.setIfInBounds_toArray, List.set_cons_zero, List.set_cons_succ] at hx
  have HX := Lib.hid hx
  have HR := Lib.hid (rdf_set HR.out (show b ≠ w.heap.size + 1 by omega) 3 (.string u4))
  clear hx
  go_wp2_with fail
  clear y3 f3
  refine (T5.out _ HR.out).mono ?_
  rintro e w1 ⟨rfl, hr1, ho1⟩
  have HX := Lib.hid (HX.out.call hbg ho1)
  have HR := Lib.hid hr1
  clear hr1 ho1
  have y4 := HX.out.cell 4 rfl; have f4 := HX.out.froz 4
  have hx := HX.out.set hwg 4 (.string u5)
  simp only [List.setIfInBounds_toArray, List.set_cons_zero, List.set_cons_succ] at hx
  have HX := Lib.hid hx
  have HR := Lib.hid (rdf_set HR.out (show b ≠ w.heap.size + 1 by omega) 4 (.string u5))
  clear hx
  go_wp2_with fail
  clear y4 f4
  have hwu := HX.out.under hwg
  refine (T6.out _ HR.out).mono ?_
  rintro e w1 ⟨⟨cA, cn, cc, cl⟩, rfl, hbare, hlast, hr1, ho1⟩
  have HX := Lib.hid (HX.out.call hbg ho1)
  have HR := Lib.hid hr1
  clear hr1 ho1
  have HL1 : Hid (∃ B, w.heap.size + 1 < B ∧ b < B ∧ w.heap.size ≤ B ∧ ∀ W, Agr B w1 W → Ctx.ok W ⟨cA, cn, cc, cl⟩) := Lib.hid ⟨_, hwu, by omega, by omega, hlast⟩
  obtain ⟨BHL1, hgHL1, hbHL1, hwHL1, hlast⟩ := HL1.out
  have hrHL1 : w.heap.size < BHL1 := by omega
  have HL1 := Lib.hid hlast; clear hlast hwu
  simp only [Ctx.v]
  have HB := Lib.hid hbare; clear hbare
  have y5 := HX.out.cell 5 rfl; have f5 := HX.out.froz 5
  have hx := HX.out.set hwg 5 (.slice cA cn cc)
  simp only [List.setIfInBounds_toArray, List.set_cons_zero, List.set_cons_succ] at hx
  have HX := Lib.hid hx
  have HR := Lib.hid (rdf_set HR.out (show b ≠ w.heap.size + 1 by omega) 5 (.slice cA cn cc))
  have HL1 := Lib.hid (fun (W : World) hW => HL1.out W (Agr.setCell (i := 5) (u := .slice cA cn cc) hgHL1 hW))
  clear hx
  go_wp2_with fail
  clear y5 f5
  refine (T7.out _ HR.out).mono ?_
  rintro e w1 ⟨rfl, hr1, ho1⟩
  have HX := Lib.hid (HX.out.call hbg ho1)
  have HR := Lib.hid hr1
  have HL1 := Lib.hid (fun (W : World) hW => HL1.out W (Agr.only hW ho1 hbHL1))
  clear hr1 ho1
  have y6 := HX.out.cell 6 rfl; have f6 := HX.out.froz 6
  have hx := HX.out.set hwg 6 (.int .i64 v7)
  simp only [List.setIfInBounds_toArray, List.set_cons_zero, List.set_cons_succ] at hx
  have HX := Lib.hid hx
  have HR := Lib.hid (rdf_set HR.out (show b ≠ w.heap.size + 1 by omega) 6 (.int .i64 v7))
  have HL1 := Lib.hid (fun (W : World) hW => HL1.out W (Agr.setCell (i := 6) (u := .int .i64 v7) hgHL1 hW))
  clear hx
  go_upto_region 9 with fail
  clear y6 f6
  generalize (w1.setCell ⟨w.heap.size + 1, 6, none⟩ (.int .i64 v7)) = wy at HX HR HL1 ⊢
  have HI : Hid ((Try.prog.info? 85).map (·.size) = some (#[.int .i64 v1, .string u2, .string u3, .string u4, .string u5, .slice cA cn cc, .int .i64 v7] : Array Value).size) := Lib.hid row_cal.hi
  have H1 : Hid (∀ u ∈ (#[.int .i64 v1, .string u2, .string u3, .string u4, .string u5, .slice cA cn cc, .int .i64 v7] : Array Value).toList, u.oneCell' = true) := Lib.hid (by intro u hu; simp only [List.mem_cons, List.not_mem_nil, or_false] at hu; rcases hu with rfl | rfl | rfl | rfl | rfl | rfl | rfl <;> rfl)
  refine wp_region_lit ?_
  refine wpList_load_arr (by rfl) _ (by rfl) (w.heap.size + 1) 0 (by rfl) #[.int .i64 v1, .string u2, .string u3, .string u4, .string u5, .slice cA cn cc, .int .i64 v7] HX.out.range row_cal.d HI.out ?_
  try dsimp only [Act.put, List.getElem_toArray, List.getElem_cons_zero, List.getElem_cons_succ]; try simp only [List.setIfInBounds_toArray, List.set_cons_zero, List.set_cons_succ]
  refine wpList_store_part (by rfl) _ _ (by rfl) (w.heap.size) 0 #[.int .i64 0, .string ⟨#[]⟩, .string ⟨#[]⟩, .string ⟨#[]⟩, .string ⟨#[]⟩, .slice none 0 0, .int .i64 0] #[.int .i64 v1, .string u2, .string u3, .string u4, .string u5, .slice cA cn cc, .int .i64 v7] 85 (by rfl) (by rfl) HX.out.r (by simp) HI.out H1.out (fun wz hwz => ?_)
  try dsimp only [Act.put, List.getElem_toArray, List.getElem_cons_zero, List.getElem_cons_succ]; try simp only [List.setIfInBounds_toArray, List.set_cons_zero, List.set_cons_succ]
  have hres := HX.out.res (by rfl)
  have hend := HX.out.end_ hwg (#[.int .i64 v1, .string u2, .string u3, .string u4, .string u5, .slice cA cn cc, .int .i64 v7] : Array Value).toList
  have hrd := rdf_setCells HR.out (show b ≠ w.heap.size by omega) 0 (#[.int .i64 v1, .string u2, .string u3, .string u4, .string u5, .slice cA cn cc, .int .i64 v7] : Array Value).toList
  have HL1 := Lib.hid (fun (W : World) hW => HL1.out W (Agr.setCells (g := w.heap.size) 0 (#[.int .i64 v1, .string u2, .string u3, .string u4, .string u5, .slice cA cn cc, .int .i64 v7] : Array Value).toList hrHL1 hW))
  rw [← hwz] at hres hend hrd
  have HL1 := Lib.hid (fun (W : World) (hW : Agr BHL1 wz W) => HL1.out W (by rw [← hwz]; exact hW))
  have hsz := hend.size
  have HRES := Lib.hid hres; have HEND := Lib.hid hend; have HRD := Lib.hid hrd
  clear hres hend hrd hwz HX HR
  refine wpList_nil ?_
  go_wp2_with fail
  have hrd := HRD.out; have hend := HEND.out
  refine bodyPost_ret (results_cell_row rfl _ _ (w.heap.size) _ #[.int .i64 v1, .string u2, .string u3, .string u4, .string u5, .slice cA cn cc, .int .i64 v7] (0, 0) _ rfl HRES.out Try.underlying85 rfl HI.out) rfl ?_
  refine ⟨⟨v1, u2, u3, u4, u5, ⟨cA, cn, cc, cl⟩, v7⟩, rfl, ?_, fun W hW => ⟨M1.out, M2.out, M3.out, M4.out, M5.out, HL1.out W (hW.mono hwHL1), M7.out⟩, ?_, hend⟩
  · rw [HV.out]; exact congrArg (fun c => Cal.mk v1 u2 u3 u4 u5 c v7) HB.out
  · rw [HV.out]; exact hrd
set_option maxRecDepth 100000 in
set_option maxHeartbeats 8000000 in
theorem fAdm_any (b : Nat) (st : St) (w : World) (h : RdF b st w) (hs : st.1.length ≤ 140737488355328) :
    Calls Try.prog 104 #[.pointer (some ⟨b, 0, none⟩)] w (fun e w' => e = .returned (.agg (rdAdm st).1.arr) ∧ RdF b (rdAdm st).2 w' ∧ Only b w w') := by
  obtain ⟨v1, s1, e1⟩ : ∃ v s, rdNum 1 st = (v, s) := ⟨_, _, rfl⟩
  have l1 := rdNum_len 1 st
  have t1 := fun W hW => fByte_any b st W hW (by omega)
  rw [e1] at l1 t1
  simp only at l1 t1
  have m1 : (Lit.int .i64 v1).wf = true := by have h9 : (Lit.int .i64 (rdNum 1 st).1).wf = true := numWf _; rw [e1] at h9; exact h9
  obtain ⟨v2, s2, e2⟩ : ∃ v s, rdText s1 = (v, s) := ⟨_, _, rfl⟩
  have l2 := (rdText_len s1).1
  have t2 := fun W hW => fText_any b s1 W hW (by omega)
  rw [e2] at l2 t2
  simp only at l2 t2
  have m2 : (bs v2).size ≤ maxLen := by have h9 := text_max s1 (by omega); rw [e2] at h9; exact h9
  obtain ⟨v3, s3, e3⟩ : ∃ v s, rdText s2 = (v, s) := ⟨_, _, rfl⟩
  have l3 := (rdText_len s2).1
  have t3 := fun W hW => fText_any b s2 W hW (by omega)
  rw [e3] at l3 t3
  simp only at l3 t3
  have m3 : (bs v3).size ≤ maxLen := by have h9 := text_max s2 (by omega); rw [e3] at h9; exact h9
  obtain ⟨v4, s4, e4⟩ : ∃ v s, rdText s3 = (v, s) := ⟨_, _, rfl⟩
  have l4 := (rdText_len s3).1
  have t4 := fun W hW => fText_any b s3 W hW (by omega)
  rw [e4] at l4 t4
  simp only at l4 t4
  have m4 : (bs v4).size ≤ maxLen := by have h9 := text_max s3 (by omega); rw [e4] at h9; exact h9
  obtain ⟨v5, s5, e5⟩ : ∃ v s, rdText s4 = (v, s) := ⟨_, _, rfl⟩
  have l5 := (rdText_len s4).1
  have t5 := fun W hW => fText_any b s4 W hW (by omega)
  rw [e5] at l5 t5
  simp only at l5 t5
  have m5 : (bs v5).size ≤ maxLen := by have h9 := text_max s4 (by omega); rw [e5] at h9; exact h9
  obtain ⟨v6, s6, e6⟩ : ∃ v s, rdNum 8 s5 = (v, s) := ⟨_, _, rfl⟩
  have l6 := rdNum_len 8 s5
  have t6 := fun W hW => fInt_any b s5 W hW (by omega)
  rw [e6] at l6 t6
  simp only at l6 t6
  have m6 : (Lit.int .i64 v6).wf = true := by have h9 : (Lit.int .i64 (rdNum 8 s5).1).wf = true := numWf _; rw [e6] at h9; exact h9
  have hV : rdAdm st = (⟨v1, bs v2, bs v3, bs v4, bs v5, v6, (rdMem s6).1⟩, (rdMem s6).2) := by unfold rdAdm rd4 rd3; simp only [e1, e2, e3, e4, e5, e6]
  have t7 := fun W hW => fMem_any b s6 W hW (by omega)
  generalize rdMem s6 = mm at t7 hV
  obtain ⟨⟨mn, mr, mz, mu⟩, s7⟩ := mm
  simp only [Memb.arr] at t7 hV
  have T7 := Lib.hid t7; clear t7
  have T1 := Lib.hid t1; have M1 := Lib.hid m1; clear t1 m1
  generalize bs v2 = u2 at t2 m2 hV
  have T2 := Lib.hid t2; have M2 := Lib.hid m2; clear t2 m2
  generalize bs v3 = u3 at t3 m3 hV
  have T3 := Lib.hid t3; have M3 := Lib.hid m3; clear t3 m3
  generalize bs v4 = u4 at t4 m4 hV
  have T4 := Lib.hid t4; have M4 := Lib.hid m4; clear t4 m4
  generalize bs v5 = u5 at t5 m5 hV
  have T5 := Lib.hid t5; have M5 := Lib.hid m5; clear t5 m5
  have T6 := Lib.hid t6; have M6 := Lib.hid m6; clear t6 m6
  have HV := Lib.hid hV; clear hV
  clear e1 l1 e2 l2 e3 l3 e4 l4 e5 l5 e6 l6
  have hwg : w.heap.size ≤ w.heap.size := Nat.le_refl _
  have hbg : b < w.heap.size := h.lt
  have HR := Lib.hid ((show RdF b st (w.alloc (.cells #[.int .i64 0, .string ⟨#[]⟩, .string ⟨#[]⟩, .string ⟨#[]⟩, .string ⟨#[]⟩, .int .i64 0, .string ⟨#[]⟩, .string ⟨#[]⟩, .string ⟨#[]⟩, .bool false] 87)) from Two.alloc h _).alloc (.cells #[.int .i64 0, .string ⟨#[]⟩, .string ⟨#[]⟩, .string ⟨#[]⟩, .string ⟨#[]⟩, .int .i64 0, .string ⟨#[]⟩, .string ⟨#[]⟩, .string ⟨#[]⟩, .bool false] 87))
  have HX : Hid (RY 87 #[.int .i64 0, .string ⟨#[]⟩, .string ⟨#[]⟩, .string ⟨#[]⟩, .string ⟨#[]⟩, .int .i64 0, .string ⟨#[]⟩, .string ⟨#[]⟩, .string ⟨#[]⟩, .bool false] b w.heap.size w ((w.alloc (.cells #[.int .i64 0, .string ⟨#[]⟩, .string ⟨#[]⟩, .string ⟨#[]⟩, .string ⟨#[]⟩, .int .i64 0, .string ⟨#[]⟩, .string ⟨#[]⟩, .string ⟨#[]⟩, .bool false] 87)).alloc (.cells #[.int .i64 0, .string ⟨#[]⟩, .string ⟨#[]⟩, .string ⟨#[]⟩, .string ⟨#[]⟩, .int .i64 0, .string ⟨#[]⟩, .string ⟨#[]⟩, .string ⟨#[]⟩, .bool false] 87)) #[.int .i64 0, .string ⟨#[]⟩, .string ⟨#[]⟩, .string ⟨#[]⟩, .string ⟨#[]⟩, .int .i64 0, .string ⟨#[]⟩, .string ⟨#[]⟩, .string ⟨#[]⟩, .bool false]) := Lib.hid ⟨(Only.rfl_.alloc _).alloc _, heap_alloc2_old w _ _, heap_alloc2_new w _ _⟩
  clear h hs
  go_enter Try.func104, Try.ntmps104
  go_wp2_with fail
  generalize ((w.alloc (.cells #[.int .i64 0, .string ⟨#[]⟩, .string ⟨#[]⟩, .string ⟨#[]⟩, .string ⟨#[]⟩, .int .i64 0, .string ⟨#[]⟩, .string ⟨#[]⟩, .string ⟨#[]⟩, .bool false] 87)).alloc (.cells #[.int .i64 0, .string ⟨#[]⟩, .string ⟨#[]⟩, .string ⟨#[]⟩, .string ⟨#[]⟩, .int .i64 0, .string ⟨#[]⟩, .string ⟨#[]⟩, .string ⟨#[]⟩, .bool false] 87)) = W0 at HX HR ⊢
  refine (T1.out _ HR.out).mono ?_
  rintro e w1 ⟨rfl, hr1, ho1⟩
  have HX := Lib.hid (HX.out.call hbg ho1)
  have HR := Lib.hid hr1
  clear hr1 ho1
  have y0 := HX.out.cell 0 rfl; have f0 := HX.out.froz 0
  have hx := HX.out.set hwg 0 (.int .i64 v1)
  simp only [List.setIfInBounds_toArray, List.set_cons_zero, List.set_cons_succ] at hx
  have HX := Lib.hid hx
  have HR := Lib.hid (rdf_set HR.out (show b ≠ w.heap.size + 1 by omega) 0 (.int .i64 v1))
  clear hx
  go_wp2_with fail
  clear y0 f0
  refine (T2.out _ HR.out).mono ?_
  rintro e w1 ⟨rfl, hr1, ho1⟩
  have HX := Lib.hid (HX.out.call hbg ho1)
  have HR := Lib.hid hr1
  clear hr1 ho1
  have y1 := HX.out.cell 1 rfl; have f1 := HX.out.froz 1
  have hx := HX.out.set hwg 1 (.string u2)
  simp only [List.setIfInBounds_toArray, List.set_cons_zero, List.set_cons_succ] at hx
  have HX := Lib.hid hx
  have HR := Lib.hid (rdf_set HR.out (show b ≠ w.heap.size + 1 by omega) 1 (.string u2))
  clear hx
  go_wp2_with fail
  clear y1 f1
  refine (T3.out _ HR.out).mono ?_
  rintro e w1 ⟨rfl, hr1, ho1⟩
  have HX := Lib.hid (HX.out.call hbg ho1)
  have HR := Lib.hid hr1
  clear hr1 ho1
  have y2 := HX.out.cell 2 rfl; have f2 := HX.out.froz 2
  have hx := HX.out.set hwg 2 (.string u3)
  simp only [List.setIfInBounds_toArray, List.set_cons_zero, List.set_cons_succ] at hx
  have HX := Lib.hid hx
  have HR := Lib.hid (rdf_set HR.out (show b ≠ w.heap.size + 1 by omega) 2 (.string u3))
  clear hx
  go_wp2_with fail
  clear y2 f2
  refine (T4.out _ HR.out).mono ?_
  rintro e w1 ⟨rfl, hr1, ho1⟩
  have HX := Lib.hid (HX.out.call hbg ho1)
  have HR := Lib.hid hr1
  clear hr1 ho1
  have y3 := HX.out.cell 3 rfl; have f3 := HX.out.froz 3
  have hx := HX.out.set hwg 3 (.string u4)
  simp only [List.setIfInBounds_toArray, List.set_cons_zero, List.set_cons_succ] at hx
  have HX := Lib.hid hx
  have HR := Lib.hid (rdf_set HR.out (show b ≠ w.heap.size + 1 by omega) 3 (.string u4))
  clear hx
  go_wp2_with fail
  clear y3 f3
  refine (T5.out _ HR.out).mono ?_
  rintro e w1 ⟨rfl, hr1, ho1⟩
  have HX := Lib.hid (HX.out.call hbg ho1)
  have HR := Lib.hid hr1
  clear hr1 ho1
  have y4 := HX.out.cell 4 rfl; have f4 := HX.out.froz 4
  have hx := HX.out.set hwg 4 (.string u5)
  simp only [List.setIfInBounds_toArray, List.set_cons_zero, List.set_cons_succ] at hx
  have HX := Lib.hid hx
  have HR := Lib.hid (rdf_set HR.out (show b ≠ w.heap.size + 1 by omega) 4 (.string u5))
  clear hx
  go_wp2_with fail
  clear y4 f4
  refine (T6.out _ HR.out).mono ?_
  rintro e w1 ⟨rfl, hr1, ho1⟩
  have HX := Lib.hid (HX.out.call hbg ho1)
  have HR := Lib.hid hr1
  clear hr1 ho1
  have y5 := HX.out.cell 5 rfl; have f5 := HX.out.froz 5
  have hx := HX.out.set hwg 5 (.int .i64 v6)
  simp only [List.setIfInBounds_toArray, List.set_cons_zero, List.set_cons_succ] at hx
  have HX := Lib.hid hx
  have HR := Lib.hid (rdf_set HR.out (show b ≠ w.heap.size + 1 by omega) 5 (.int .i64 v6))
  clear hx
  go_wp2_with fail
  clear y5 f5
  refine (T7.out _ HR.out).mono ?_
  rintro e w1 ⟨rfl, hr1, ho1⟩
  have HX := Lib.hid (HX.out.call hbg ho1)
  have HR := Lib.hid hr1
  clear hr1 ho1
  have y6 := HX.out.cell 6 rfl; have f6 := HX.out.froz 6
  have y7 := HX.out.cell 7 rfl; have f7 := HX.out.froz 7
  have y8 := HX.out.cell 8 rfl; have f8 := HX.out.froz 8
  have y9 := HX.out.cell 9 rfl; have f9 := HX.out.froz 9
  have hx := HX.out.set hwg 6 (.string mn)
  simp only [List.setIfInBounds_toArray, List.set_cons_zero, List.set_cons_succ] at hx
  have HX := Lib.hid hx
  have HR := Lib.hid (rdf_set HR.out (show b ≠ w.heap.size + 1 by omega) 6 (.string mn))
  clear hx
  have hx := HX.out.set hwg 7 (.string mr)
  simp only [List.setIfInBounds_toArray, List.set_cons_zero, List.set_cons_succ] at hx
  have HX := Lib.hid hx
  have HR := Lib.hid (rdf_set HR.out (show b ≠ w.heap.size + 1 by omega) 7 (.string mr))
  clear hx
  have hx := HX.out.set hwg 8 (.string mz)
  simp only [List.setIfInBounds_toArray, List.set_cons_zero, List.set_cons_succ] at hx
  have HX := Lib.hid hx
  have HR := Lib.hid (rdf_set HR.out (show b ≠ w.heap.size + 1 by omega) 8 (.string mz))
  clear hx
  have hx := HX.out.set hwg 9 (.bool mu)
  simp only [List.setIfInBounds_toArray, List.set_cons_zero, List.set_cons_succ] at hx
  have HX := Lib.hid hx
  have HR := Lib.hid (rdf_set HR.out (show b ≠ w.heap.size + 1 by omega) 9 (.bool mu))
  clear hx
  go_upto_region 9 with fail
  clear y6 f6 y7 f7 y8 f8 y9 f9
  generalize ((((w1.setCell ⟨w.heap.size + 1, 6, none⟩ (.string mn)).setCell ⟨w.heap.size + 1, 7, none⟩ (.string mr)).setCell ⟨w.heap.size + 1, 8, none⟩ (.string mz)).setCell ⟨w.heap.size + 1, 9, none⟩ (.bool mu)) = wy at HX HR ⊢
  have HI : Hid ((Try.prog.info? 87).map (·.size) = some (#[.int .i64 v1, .string u2, .string u3, .string u4, .string u5, .int .i64 v6, .string mn, .string mr, .string mz, .bool mu] : Array Value).size) := Lib.hid row_adm.hi
  have H1 : Hid (∀ u ∈ (#[.int .i64 v1, .string u2, .string u3, .string u4, .string u5, .int .i64 v6, .string mn, .string mr, .string mz, .bool mu] : Array Value).toList, u.oneCell' = true) := Lib.hid (by intro u hu; simp only [List.mem_cons, List.not_mem_nil, or_false] at hu; rcases hu with rfl | rfl | rfl | rfl | rfl | rfl | rfl | rfl | rfl | rfl <;> rfl)
  refine wp_region_lit ?_
  refine wpList_load_arr (by rfl) _ (by rfl) (w.heap.size + 1) 0 (by rfl) #[.int .i64 v1, .string u2, .string u3, .string u4, .string u5, .int .i64 v6, .string mn, .string mr, .string mz, .bool mu] HX.out.range row_adm.d HI.out ?_
  try dsimp only [Act.put, List.getElem_toArray, List.getElem_cons_zero, List.getElem_cons_succ]; try simp only [List.setIfInBounds_toArray, List.set_cons_zero, List.set_cons_succ]
  refine wpList_store_part (by rfl) _ _ (by rfl) (w.heap.size) 0 #[.int .i64 0, .string ⟨#[]⟩, .string ⟨#[]⟩, .string ⟨#[]⟩, .string ⟨#[]⟩, .int .i64 0, .string ⟨#[]⟩, .string ⟨#[]⟩, .string ⟨#[]⟩, .bool false] #[.int .i64 v1, .string u2, .string u3, .string u4, .string u5, .int .i64 v6, .string mn, .string mr, .string mz, .bool mu] 87 (by rfl) (by rfl) HX.out.r (by simp) HI.out H1.out (fun wz hwz => ?_)
  try dsimp only [Act.put, List.getElem_toArray, List.getElem_cons_zero, List.getElem_cons_succ]; try simp only [List.setIfInBounds_toArray, List.set_cons_zero, List.set_cons_succ]
  have hres := HX.out.res (by rfl)
  have hend := HX.out.end_ hwg (#[.int .i64 v1, .string u2, .string u3, .string u4, .string u5, .int .i64 v6, .string mn, .string mr, .string mz, .bool mu] : Array Value).toList
  have hrd := rdf_setCells HR.out (show b ≠ w.heap.size by omega) 0 (#[.int .i64 v1, .string u2, .string u3, .string u4, .string u5, .int .i64 v6, .string mn, .string mr, .string mz, .bool mu] : Array Value).toList
  rw [← hwz] at hres hend hrd
  have hsz := hend.size
  have HRES := Lib.hid hres; have HEND := Lib.hid hend; have HRD := Lib.hid hrd
  clear hres hend hrd hwz HX HR
  refine wpList_nil ?_
  go_wp2_with fail
  have hrd := HRD.out; have hend := HEND.out
  refine bodyPost_ret (results_cell_row rfl _ _ (w.heap.size) _ #[.int .i64 v1, .string u2, .string u3, .string u4, .string u5, .int .i64 v6, .string mn, .string mr, .string mz, .bool mu] (0, 0) _ rfl HRES.out Try.underlying87 rfl HI.out) rfl ?_
  rw [HV.out]
  exact ⟨rfl, hrd, hend⟩
end Go.Proofs.Ytlmplibdfhamjaa
