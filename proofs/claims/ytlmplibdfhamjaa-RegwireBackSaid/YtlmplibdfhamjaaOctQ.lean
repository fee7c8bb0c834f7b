/- The walk of OctetBack. -/
import Derived.Test.YtlmplibdfhamjaaOctZ
import Derived.Test.YtlmplibdfhamjaaOctP
import Derived.Test.YtlmplibdfhamjaaOpen
import Derived.Deep.DeepCutAuto
namespace Go.Proofs.Ytlmplibdfhamjaa
open Go.RowKit Go.Mem Go.Num
set_option linter.unusedVariables false
theorem textB_tx (s : ByteArray) : textB s = tx s.data.toList := by
  unfold textB tx
  have : s.data.toList.length = s.size := by simp
  rw [this]
theorem textsB_tx (ss : List ByteArray) : textsB ss = be 4 ((ss.map fun s => s.data.toList).length) ++ (ss.map fun s => s.data.toList).flatMap tx := by
  unfold textsB
  rw [List.length_map]
  congr 1
  induction ss with
  | nil => rfl
  | cons s ss ih => simp only [List.flatMap_cons, List.map_cons, ih, textB_tx]
/-- what is read, one behind the other: texts, a number, a text -/
def rd3 (st : St) : (List (List UInt8) × Int × List UInt8) × St :=
  (((rdTexts st).1, (rdNum 8 (rdTexts st).2).1, (rdText (rdNum 8 (rdTexts st).2).2).1), (rdText (rdNum 8 (rdTexts st).2).2).2)
theorem rd3_mono : Mono rd3 := by
  have h1 : Mono (fun st => (fun (a : List (List UInt8)) (st1 : St) => (((a, (rdNum 8 st1).1, (rdText (rdNum 8 st1).2).1), (rdText (rdNum 8 st1).2).2) : (List (List UInt8) × Int × List UInt8) × St)) (rdTexts st).1 (rdTexts st).2) := by
    have h2 : ∀ a : List (List UInt8), Mono (fun st1 : St => ((a, (rdNum 8 st1).1, (rdText (rdNum 8 st1).2).1), (rdText (rdNum 8 st1).2).2)) := by
      intro a
      refine mono_then (f := rdNum 8) (g := fun (m : Int) (st2 : St) => (((a, m, (rdText st2).1), (rdText st2).2) : (List (List UInt8) × Int × List UInt8) × St)) (rdNum_mono 8) (fun m st h => rdText_stays st h) ?_
      intro m p d h
      have := rdText_mono p d h
      simp only
      rw [this]
    exact mono_then (f := rdTexts) (g := fun (a : List (List UInt8)) (st1 : St) => (((a, (rdNum 8 st1).1, (rdText (rdNum 8 st1).2).1), (rdText (rdNum 8 st1).2).2) : (List (List UInt8) × Int × List UInt8) × St)) rdTexts_mono (fun a st h => rdText_stays _ (rdNum_stays 8 st h)) h2
  exact h1
theorem rd3_app (ts : List (List UInt8)) (n : Int) (s : List UInt8) (h : ∀ t ∈ ts, t.length ≤ 1048576) (hl : ts.length ≤ 65536) (h0 : -9223372036854775808 ≤ n) (h1 : n ≤ 9223372036854775807) (hs : s.length ≤ 1048576) :
    rdTexts (be 4 ts.length ++ ts.flatMap tx ++ be 8 n ++ tx s, true) = (ts, (be 8 n ++ tx s, true)) ∧ rdNum 8 (be 8 n ++ tx s, true) = (n, (tx s, true)) ∧ rdText (tx s, true) = (s, ([], true)) := by
  refine ⟨?_, rdNum8_app n _ h0 h1, ?_⟩
  · rw [List.append_assoc]
    exact rdTexts_app ts _ h hl
  · have := rdText_app s [] hs
    rwa [List.append_nil] at this

theorem szB {B : Nat} {a w : World} (h : Below B a w) (e : a.heap.size = B) : B ≤ w.heap.size := by have := h.size; omega
def arr2i (x : Int × Int) : Array Value := #[.int .i64 x.1, .int .i64 x.2]
def wf2i (x : Int × Int) : Prop := (Lit.int .i64 x.1).wf = true ∧ (Lit.int .i64 x.2).wf = true
theorem cells_int : Try.prog.cellsOf 3 = 1 := by kernel_rfl
end Go.Proofs.Ytlmplibdfhamjaa
