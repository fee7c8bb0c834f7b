/- The data of objects: api.Dot, Sib, Obj, Item, and slices of them: their cells, and what an argument's reading tells of them. -/
import Derived.Test.YtgmafnpkhmlnnaaSeen
namespace Go.Proofs.Ytgmafnpkhmlnnaa
open Go.RowKit Go.Mem
set_option linter.unusedVariables false
set_option maxRecDepth 100000
set_option linter.unusedSimpArgs false
/-- a dot -/
structure Dot where
  node : ByteArray
  n : Int
def Dot.arr (x : Dot) : Array Value := #[.string x.node, .int .i64 x.n]
def Dot.ok (w : World) (x : Dot) : Prop := x.node.size ≤ maxLen ∧ (Lit.int .i64 x.n).wf = true
theorem cells_dot : Try.prog.cellsOf 81 = 2 := by kernel_rfl
theorem is_dot {H : Type} {enc : TypeId × Value → H} {w : World} {cs : List Value} (h : Is enc Try.prog w 81 cs) : ∃ m : Dot, cs = m.arr.toList ∧ m.ok w := by
  obtain ⟨hl, hf⟩ := is_struct Try.underlying81 h
  rw [cells_dot] at hl
  obtain ⟨c0, r0, rfl, hl0⟩ := cons_of hl
  obtain ⟨c1, r1, rfl, hl1⟩ := cons_of hl0
  obtain rfl := nil_of hl1
  have f0 : Is enc Try.prog w 9 (List.take (Try.prog.cellsOf 9) (List.drop 0 _)) := hf 0 _ rfl
  rw [(show Try.prog.cellsOf 9 = 1 by kernel_rfl)] at f0
  simp only [List.drop_succ_cons, List.drop_zero, List.take_succ_cons, List.take_zero, List.take_nil] at f0
  obtain ⟨a0, h0, w0⟩ := is_string Try.underlying9 f0
  simp only [List.cons.injEq, and_true] at h0
  subst h0
  have f1 : Is enc Try.prog w 3 (List.take (Try.prog.cellsOf 3) (List.drop 1 _)) := hf 1 _ rfl
  rw [(show Try.prog.cellsOf 3 = 1 by kernel_rfl)] at f1
  simp only [List.drop_succ_cons, List.drop_zero, List.take_succ_cons, List.take_zero, List.take_nil] at f1
  obtain ⟨a1, h1, w1⟩ := is_int Try.underlying3 f1
  simp only [List.cons.injEq, and_true] at h1
  subst h1
  exact ⟨⟨a0, a1⟩, rfl, w0, w1⟩
theorem Dot.ok.below {w w' : World} {x : Dot} (h : x.ok w) (hb : Below w.heap.size w w') : x.ok w' := by
  obtain ⟨h0, h1⟩ := h; exact ⟨h0, h1⟩
/-- a value -/
structure Sib where
  dot : Dot
  value : ByteArray
  gone : Bool
  time : Int
def Sib.arr (x : Sib) : Array Value := #[.string x.dot.node, .int .i64 x.dot.n, .string x.value, .bool x.gone, .int .i64 x.time]
def Sib.ok (w : World) (x : Sib) : Prop := x.dot.ok w ∧ x.value.size ≤ maxLen ∧ (Lit.int .i64 x.time).wf = true
theorem cells_sib : Try.prog.cellsOf 83 = 5 := by kernel_rfl
theorem is_sib {H : Type} {enc : TypeId × Value → H} {w : World} {cs : List Value} (h : Is enc Try.prog w 83 cs) : ∃ m : Sib, cs = m.arr.toList ∧ m.ok w := by
  obtain ⟨hl, hf⟩ := is_struct Try.underlying83 h
  rw [cells_sib] at hl
  obtain ⟨c0, r0, rfl, hl0⟩ := cons_of hl
  obtain ⟨c1, r1, rfl, hl1⟩ := cons_of hl0
  obtain ⟨c2, r2, rfl, hl2⟩ := cons_of hl1
  obtain ⟨c3, r3, rfl, hl3⟩ := cons_of hl2
  obtain ⟨c4, r4, rfl, hl4⟩ := cons_of hl3
  obtain rfl := nil_of hl4
  have f0 : Is enc Try.prog w 81 (List.take (Try.prog.cellsOf 81) (List.drop 0 _)) := hf 0 _ rfl
  rw [(show Try.prog.cellsOf 81 = 2 by kernel_rfl)] at f0
  simp only [List.drop_succ_cons, List.drop_zero, List.take_succ_cons, List.take_zero, List.take_nil] at f0
  obtain ⟨a0, h0, w0⟩ := is_dot f0
  simp only [Dot.arr, List.cons.injEq, and_true] at h0
  obtain ⟨rfl, rfl⟩ := h0
  have f1 : Is enc Try.prog w 9 (List.take (Try.prog.cellsOf 9) (List.drop 2 _)) := hf 1 _ rfl
  rw [(show Try.prog.cellsOf 9 = 1 by kernel_rfl)] at f1
  simp only [List.drop_succ_cons, List.drop_zero, List.take_succ_cons, List.take_zero, List.take_nil] at f1
  obtain ⟨a1, h1, w1⟩ := is_string Try.underlying9 f1
  simp only [List.cons.injEq, and_true] at h1
  subst h1
  have f2 : Is enc Try.prog w 4 (List.take (Try.prog.cellsOf 4) (List.drop 3 _)) := hf 2 _ rfl
  rw [(show Try.prog.cellsOf 4 = 1 by kernel_rfl)] at f2
  simp only [List.drop_succ_cons, List.drop_zero, List.take_succ_cons, List.take_zero, List.take_nil] at f2
  obtain ⟨a2, h2⟩ := is_bool Try.underlying4 f2
  simp only [List.cons.injEq, and_true] at h2
  subst h2
  have f3 : Is enc Try.prog w 3 (List.take (Try.prog.cellsOf 3) (List.drop 4 _)) := hf 3 _ rfl
  rw [(show Try.prog.cellsOf 3 = 1 by kernel_rfl)] at f3
  simp only [List.drop_succ_cons, List.drop_zero, List.take_succ_cons, List.take_zero, List.take_nil] at f3
  obtain ⟨a3, h3, w3⟩ := is_int Try.underlying3 f3
  simp only [List.cons.injEq, and_true] at h3
  subst h3
  exact ⟨⟨a0, a1, a2, a3⟩, rfl, w0, w1, w3⟩
theorem Sib.ok.below {w w' : World} {x : Sib} (h : x.ok w) (hb : Below w.heap.size w w') : x.ok w' := by
  obtain ⟨h0, h1, h2⟩ := h; exact ⟨h0.below hb, h1, h2⟩
theorem row_sib : RowK Try.prog 83 Sib.arr 5 where
  d := ⟨_, Try.underlying83, rfl⟩
  hi := by kernel_rfl
  size m := rfl
  one m u hu := by simp only [Sib.arr, List.mem_cons, List.not_mem_nil, or_false] at hu; rcases hu with rfl | rfl | rfl | rfl | rfl <;> rfl
  pos := by decide
/-- values -/
structure Sibs where
  A : Option Addr
  n : Nat
  c : Nat
  l : List Sib
def Sibs.v (x : Sibs) : Value := .slice x.A x.n x.c
structure Sibs.ok (w : World) (x : Sibs) : Prop where
  rd : Rd w x.A (x.l.flatMap (fun m : Sib => m.arr.toList))
  len : x.l.length = x.n
  le : x.n ≤ maxLen
  all : ∀ m ∈ x.l, m.ok w
theorem Sibs.ok.below {w w' : World} {x : Sibs} (h : x.ok w) (hb : Below w.heap.size w w') : x.ok w' := ⟨h.rd.below hb, h.len, h.le, fun m hm => (h.all m hm).below hb⟩
theorem is_sibs {H : Type} {enc : TypeId × Value → H} {w : World} {cs : List Value} (h : Is enc Try.prog w 61 cs) : ∃ m : Sibs, cs = [m.v] ∧ m.ok w := by
  obtain ⟨A, n, c, rows, h1, h2, h3, h4, h5, h6⟩ := is_slice Try.underlying61 h
  obtain ⟨ms, rfl, hms⟩ := rows_typed (f := (fun m : Sib => m.arr.toList)) (ok := fun m : Sib => m.ok w) rows (fun r hr => is_sib (h4 r hr).2)
  refine ⟨⟨A, n, c, ms⟩, h1, by rw [List.flatMap_def]; exact h3, by simpa using h2, Nat.le_trans h5 h6, hms⟩
/-- an object -/
structure Ob where
  ctx : Ctx
  sibs : Sibs
def Ob.arr (x : Ob) : Array Value := #[x.ctx.v, x.sibs.v]
def Ob.ok (w : World) (x : Ob) : Prop := x.ctx.ok w ∧ x.sibs.ok w
theorem cells_ob : Try.prog.cellsOf 63 = 2 := by kernel_rfl
theorem is_ob {H : Type} {enc : TypeId × Value → H} {w : World} {cs : List Value} (h : Is enc Try.prog w 63 cs) : ∃ m : Ob, cs = m.arr.toList ∧ m.ok w := by
  obtain ⟨hl, hf⟩ := is_struct Try.underlying63 h
  rw [cells_ob] at hl
  obtain ⟨c0, r0, rfl, hl0⟩ := cons_of hl
  obtain ⟨c1, r1, rfl, hl1⟩ := cons_of hl0
  obtain rfl := nil_of hl1
  have f0 : Is enc Try.prog w 60 (List.take (Try.prog.cellsOf 60) (List.drop 0 _)) := hf 0 _ rfl
  rw [(show Try.prog.cellsOf 60 = 1 by kernel_rfl)] at f0
  simp only [List.drop_succ_cons, List.drop_zero, List.take_succ_cons, List.take_zero, List.take_nil] at f0
  obtain ⟨a0, h0, w0⟩ := is_ctx f0
  simp only [List.cons.injEq, and_true] at h0
  subst h0
  have f1 : Is enc Try.prog w 61 (List.take (Try.prog.cellsOf 61) (List.drop 1 _)) := hf 1 _ rfl
  rw [(show Try.prog.cellsOf 61 = 1 by kernel_rfl)] at f1
  simp only [List.drop_succ_cons, List.drop_zero, List.take_succ_cons, List.take_zero, List.take_nil] at f1
  obtain ⟨a1, h1, w1⟩ := is_sibs f1
  simp only [List.cons.injEq, and_true] at h1
  subst h1
  exact ⟨⟨a0, a1⟩, rfl, w0, w1⟩
theorem Ob.ok.below {w w' : World} {x : Ob} (h : x.ok w) (hb : Below w.heap.size w w') : x.ok w' := by
  obtain ⟨h0, h1⟩ := h; exact ⟨h0.below hb, h1.below hb⟩
theorem row_ob : RowK Try.prog 63 Ob.arr 2 where
  d := ⟨_, Try.underlying63, rfl⟩
  hi := by kernel_rfl
  size m := rfl
  one m u hu := by simp only [Ob.arr, List.mem_cons, List.not_mem_nil, or_false] at hu; rcases hu with rfl | rfl <;> rfl
  pos := by decide
/-- an item -/
structure Item where
  place : ByteArray
  obj : Ob
def Item.arr (x : Item) : Array Value := #[.string x.place, x.obj.ctx.v, x.obj.sibs.v]
def Item.ok (w : World) (x : Item) : Prop := x.place.size ≤ maxLen ∧ x.obj.ok w
theorem cells_item : Try.prog.cellsOf 65 = 3 := by kernel_rfl
theorem is_item {H : Type} {enc : TypeId × Value → H} {w : World} {cs : List Value} (h : Is enc Try.prog w 65 cs) : ∃ m : Item, cs = m.arr.toList ∧ m.ok w := by
  obtain ⟨hl, hf⟩ := is_struct Try.underlying65 h
  rw [cells_item] at hl
  obtain ⟨c0, r0, rfl, hl0⟩ := cons_of hl
  obtain ⟨c1, r1, rfl, hl1⟩ := cons_of hl0
  obtain ⟨c2, r2, rfl, hl2⟩ := cons_of hl1
  obtain rfl := nil_of hl2
  have f0 : Is enc Try.prog w 9 (List.take (Try.prog.cellsOf 9) (List.drop 0 _)) := hf 0 _ rfl
  rw [(show Try.prog.cellsOf 9 = 1 by kernel_rfl)] at f0
  simp only [List.drop_succ_cons, List.drop_zero, List.take_succ_cons, List.take_zero, List.take_nil] at f0
  obtain ⟨a0, h0, w0⟩ := is_string Try.underlying9 f0
  simp only [List.cons.injEq, and_true] at h0
  subst h0
  have f1 : Is enc Try.prog w 63 (List.take (Try.prog.cellsOf 63) (List.drop 1 _)) := hf 1 _ rfl
  rw [(show Try.prog.cellsOf 63 = 2 by kernel_rfl)] at f1
  simp only [List.drop_succ_cons, List.drop_zero, List.take_succ_cons, List.take_zero, List.take_nil] at f1
  obtain ⟨a1, h1, w1⟩ := is_ob f1
  simp only [Ob.arr, List.cons.injEq, and_true] at h1
  obtain ⟨rfl, rfl⟩ := h1
  exact ⟨⟨a0, a1⟩, rfl, w0, w1⟩
theorem Item.ok.below {w w' : World} {x : Item} (h : x.ok w) (hb : Below w.heap.size w w') : x.ok w' := by
  obtain ⟨h0, h1⟩ := h; exact ⟨h0, h1.below hb⟩
theorem row_item : RowK Try.prog 65 Item.arr 3 where
  d := ⟨_, Try.underlying65, rfl⟩
  hi := by kernel_rfl
  size m := rfl
  one m u hu := by simp only [Item.arr, List.mem_cons, List.not_mem_nil, or_false] at hu; rcases hu with rfl | rfl | rfl <;> rfl
  pos := by decide
end Go.Proofs.Ytgmafnpkhmlnnaa
