/- The data of leaves: their cells, and what an argument's reading tells of them. -/
import Derived.Test.YtgmafnpkhmlnnaaChecked
import Derived.Test.YtgmafnpkhmlnnaaOpen
import Derived.Test.YtgmafnpkhmlnnaaRowK
import Derived.WalkLawsBesides
import Derived.WalkSpells
namespace Go.Proofs.Ytgmafnpkhmlnnaa
open Go.RowKit Go.Mem
set_option linter.unusedVariables false
set_option maxRecDepth 100000
set_option linter.unusedSimpArgs false
/-- a leaf -/
@[ext] structure Leaf where
  place : ByteArray
  digest : ByteArray
def Leaf.arr (x : Leaf) : Array Value := #[.string x.place, .string x.digest]
def Leaf.ok (w : World) (x : Leaf) : Prop := x.place.size ≤ maxLen ∧ x.digest.size ≤ maxLen
theorem cells_leaf : Try.prog.cellsOf 48 = 2 := by kernel_rfl
theorem is_leaf {H : Type} {enc : TypeId × Value → H} {w : World} {cs : List Value} (h : Is enc Try.prog w 48 cs) : ∃ m : Leaf, cs = m.arr.toList ∧ m.ok w := by
  obtain ⟨hl, hf⟩ := is_struct Try.underlying48 h
  rw [cells_leaf] at hl
  obtain ⟨c0, r0, rfl, hl0⟩ := cons_of hl
  obtain ⟨c1, r1, rfl, hl1⟩ := cons_of hl0
  obtain rfl := nil_of hl1
  have f0 : Is enc Try.prog w 9 (List.take (Try.prog.cellsOf 9) (List.drop 0 _)) := hf 0 _ rfl
  rw [(show Try.prog.cellsOf 9 = 1 by kernel_rfl)] at f0
  simp only [List.drop_succ_cons, List.drop_zero, List.take_succ_cons, List.take_zero, List.take_nil] at f0
  obtain ⟨a0, h0, w0⟩ := is_string Try.underlying9 f0
  simp only [List.cons.injEq, and_true] at h0
  subst h0
  have f1 : Is enc Try.prog w 9 (List.take (Try.prog.cellsOf 9) (List.drop 1 _)) := hf 1 _ rfl
  rw [(show Try.prog.cellsOf 9 = 1 by kernel_rfl)] at f1
  simp only [List.drop_succ_cons, List.drop_zero, List.take_succ_cons, List.take_zero, List.take_nil] at f1
  obtain ⟨a1, h1, w1⟩ := is_string Try.underlying9 f1
  simp only [List.cons.injEq, and_true] at h1
  subst h1
  exact ⟨⟨a0, a1⟩, rfl, w0, w1⟩
theorem Leaf.ok.below {w w' : World} {x : Leaf} (h : x.ok w) (hb : Below w.heap.size w w') : x.ok w' := by
  obtain ⟨h0, h1⟩ := h; exact ⟨h0, h1⟩
theorem row_leaf : RowK Try.prog 48 Leaf.arr 2 where
  d := ⟨_, Try.underlying48, rfl⟩
  hi := by kernel_rfl
  size m := rfl
  one m u hu := by simp only [Leaf.arr, List.mem_cons, List.not_mem_nil, or_false] at hu; rcases hu with rfl | rfl <;> rfl
  pos := by decide
end Go.Proofs.Ytgmafnpkhmlnnaa
