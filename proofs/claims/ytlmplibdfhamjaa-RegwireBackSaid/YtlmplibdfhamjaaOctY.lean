/- The walks of OctetNobody and OctetReads. -/
import Derived.Test.YtlmplibdfhamjaaOctX
namespace Go.Proofs.Ytlmplibdfhamjaa
open Go.RowKit Go.Mem Go.Num
set_option linter.unusedVariables false

theorem nb1 (k : Nat) (h : 0 < k) : tk k (([], false) : St) = ([], ([], false)) := by simp [tk]
theorem nbNum (k : Nat) (h : 0 < k) : rdNum k (([], false) : St) = (0, ([], false)) := by unfold rdNum; rw [nb1 k h]; rfl
theorem nbCount (m : Int) : rdCount m (([], false) : St) = (0, ([], false)) := by
  unfold rdCount
  rw [nbNum 4 (by omega)]
  split <;> rfl
theorem nbText : rdText (([], false) : St) = ([], ([], false)) := by unfold rdText; rw [nbCount]; simp [tk]
theorem nbTexts : rdTexts (([], false) : St) = ([], ([], false)) := by unfold rdTexts; rw [nbCount]; rfl

/-- two pointers in a block: nil, and block b's -/
def Ptrs (b q : Nat) (w : World) : Prop := w.heap[q]? = some (.cells #[.pointer none, .pointer (some ⟨b, 0, none⟩)] 72 (0, 0))
theorem Ptrs.c0 {b q : Nat} {w : World} (h : Ptrs b q w) : w.cell? ⟨q, 0, none⟩ = some (.pointer none) := by rw [Lib.cell_of_heap h]; rfl
theorem Ptrs.c1 {b q : Nat} {w : World} (h : Ptrs b q w) : w.cell? ⟨q, 1, none⟩ = some (.pointer (some ⟨b, 0, none⟩)) := by rw [Lib.cell_of_heap h]; rfl
theorem Ptrs.lt {b q : Nat} {w : World} (h : Ptrs b q w) : q < w.heap.size := (Array.getElem?_eq_some_iff.1 h).1
theorem Ptrs.below {b q : Nat} {w w' : World} (h : Ptrs b q w) (hb : Below w.heap.size w w') : Ptrs b q w' := (hb.block q h.lt).trans h
theorem Ptrs.only {b q : Nat} {w w' : World} (h : Ptrs b q w) (hb : Only b w w') (hne : q ≠ b) : Ptrs b q w' := (hb.block q h.lt (fun e => hne (by injection e))).trans h

end Go.Proofs.Ytlmplibdfhamjaa
