/- The walk of OctetBack. -/
import Derived.Test.YtgmafnpkhmlnnaaOctZ
import Derived.Test.YtgmafnpkhmlnnaaOctP
import Derived.Test.YtgmafnpkhmlnnaaOpen
import Derived.Deep.DeepCutAuto
namespace Go.Proofs.Ytgmafnpkhmlnnaa
open Go.RowKit Go.Mem Go.Num
set_option linter.unusedVariables false
theorem textB_tx (s : ByteArray) : textB s = tx s.data.toList := by
  unfold textB tx
  have : s.data.toList.length = s.size := by simp
  rw [this]
theorem textsB_tx (ss : List ByteArray) : textsB ss = be 4 ((ss.map fun s => s.data.toList).length) ++ (ss.map fun s => s.data.toList).flatMap tx := by
  unfold textsB
  rw [List.length_map]
  congr 1
  induction ss with
  | nil => rfl
  | cons s ss ih => simp only [List.flatMap_cons, List.map_cons, ih, textB_tx]
/-- what is read, one behind the other: texts, a number, a text -/
def rd3 (st : St) : (List (List UInt8) × Int × List UInt8) × St :=
  (((rdTexts st).1, (rdNum 8 (rdTexts st).2).1, (rdText (rdNum 8 (rdTexts st).2).2).1), (rdText (rdNum 8 (rdTexts st).2).2).2)
theorem rd3_mono : Mono rd3 := by
  have h1 : Mono (fun st => (fun (a : List (List UInt8)) (st1 : St) => (((a, (rdNum 8 st1).1, (rdText (rdNum 8 st1).2).1), (rdText (rdNum 8 st1).2).2) : (List (List UInt8) × Int × List UInt8) × St)) (rdTexts st).1 (rdTexts st).2) := by
    have h2 : ∀ a : List (List UInt8), Mono (fun st1 : St => ((a, (rdNum 8 st1).1, (rdText (rdNum 8 st1).2).1), (rdText (rdNum 8 st1).2).2)) := by
      intro a
      refine mono_then (f := rdNum 8) (g := fun (m : Int) (st2 : St) => (((a, m, (rdText st2).1), (rdText st2).2) : (List (List UInt8) × Int × List UInt8) × St)) (rdNum_mono 8) (fun m st h => rdText_stays st h) ?_
      intro m p d h
      have := rdText_mono p d h
      simp only
      rw [this]
    exact mono_then (f := rdTexts) (g := fun (a : List (List UInt8)) (st1 : St) => (((a, (rdNum 8 st1).1, (rdText (rdNum 8 st1).2).1), (rdText (rdNum 8 st1).2).2) : (List (List UInt8) × Int × List UInt8) × St)) rdTexts_mono (fun a st h => rdText_stays _ (rdNum_stays 8 st h)) h2
  exact h1
theorem rd3_app (ts : List (List UInt8)) (n : Int) (s : List UInt8) (h : ∀ t ∈ ts, t.length ≤ 1048576) (hl : ts.length ≤ 65536) (h0 : -9223372036854775808 ≤ n) (h1 : n ≤ 9223372036854775807) (hs : s.length ≤ 1048576) :
    rdTexts (be 4 ts.length ++ ts.flatMap tx ++ be 8 n ++ tx s, true) = (ts, (be 8 n ++ tx s, true)) ∧ rdNum 8 (be 8 n ++ tx s, true) = (n, (tx s, true)) ∧ rdText (tx s, true) = (s, ([], true)) := by
  refine ⟨?_, rdNum8_app n _ h0 h1, ?_⟩
  · rw [List.append_assoc]
    exact rdTexts_app ts _ h hl
  · have := rdText_app s [] hs
    rwa [List.append_nil] at this

theorem szB {B : Nat} {a w : World} (h : Below B a w) (e : a.heap.size = B) : B ≤ w.heap.size := by have := h.size; omega
def arr2i (x : Int × Int) : Array Value := #[.int .i64 x.1, .int .i64 x.2]
def wf2i (x : Int × Int) : Prop := (Lit.int .i64 x.1).wf = true ∧ (Lit.int .i64 x.2).wf = true
theorem cells_int : Try.prog.cellsOf 3 = 1 := by kernel_rfl
theorem cells_arr2i : Try.prog.cellsOf 43 = 2 := by kernel_rfl
theorem is_arr2i {H : Type} {enc : TypeId × Value → H} {w : World} {cs : List Value} (h : Is enc Try.prog w 43 cs) : ∃ x : Int × Int, cs = (arr2i x).toList ∧ wf2i x := by
  obtain ⟨hl, hf⟩ := is_array Try.underlying43 h
  rw [cells_arr2i] at hl
  obtain ⟨c0, r0, rfl, hl0⟩ := cons_of hl
  obtain ⟨c1, r1, rfl, hl1⟩ := cons_of hl0
  obtain rfl := nil_of hl1
  obtain ⟨s0, h0, w0⟩ := is_int Try.underlying3 (hf 0 (by omega))
  obtain ⟨s1, h1, w1⟩ := is_int Try.underlying3 (hf 1 (by omega))
  simp [cells_int] at h0 h1
  subst h0 h1
  exact ⟨⟨s0, s1⟩, rfl, w0, w1⟩
end Go.Proofs.Ytgmafnpkhmlnnaa
