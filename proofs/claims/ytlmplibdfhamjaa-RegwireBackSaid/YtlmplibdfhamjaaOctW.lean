/- SameTexts, Few, awake, and the walk of OctetNobody. -/
import Derived.Test.YtlmplibdfhamjaaOctV
import Derived.Deep.QuietTactic
import Derived.BigQuiet
namespace Go.Proofs.Ytlmplibdfhamjaa
open Go.RowKit Go.Mem Go.Num
set_option linter.unusedVariables false

def SaysFew (ss : List ByteArray) (w : World) (e : Ending) (w' : World) : Prop := ∃ b : Bool, (b = true ↔ ss.length ≤ 20 ∧ ∀ s ∈ ss, s.size ≤ 1024) ∧ e = .returned (.bool b) ∧ w = w'
theorem take_mem_succ {α : Type} (l : List α) (k : Nat) (hk : k < l.length) (x : α) : x ∈ l.take (k + 1) ↔ x ∈ l.take k ∨ x = l[k] := by
  rw [List.take_succ_eq_append_getElem hk, List.mem_append, List.mem_singleton]
theorem Only.belowS {b : Nat} {w w' : World} (h : Only b w w') {B : Nat} (hB : B ≤ b) (hw : b < w.heap.size) : Below B w w' := h.belowB hB (by omega)
end Go.Proofs.Ytlmplibdfhamjaa
