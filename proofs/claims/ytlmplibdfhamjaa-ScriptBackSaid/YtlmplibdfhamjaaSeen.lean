/- The data of contexts: slices of numbers, api.Seen, slices of them: their cells, and what an argument's reading tells of them. -/
import Derived.Test.YtlmplibdfhamjaaChecked
import Derived.Test.YtlmplibdfhamjaaOpen
import Derived.Test.YtlmplibdfhamjaaRowK
namespace Go.Proofs.Ytlmplibdfhamjaa
open Go.RowKit Go.Mem
set_option linter.unusedVariables false
set_option maxRecDepth 100000
set_option linter.unusedSimpArgs false
/-- a slice of numbers -/
structure Nums where
  A : Option Addr
  n : Nat
  c : Nat
  l : List Int
def Nums.v (x : Nums) : Value := .slice x.A x.n x.c
structure Nums.ok (w : World) (x : Nums) : Prop where
  rd : Rd w x.A (x.l.map (Value.int .i64))
  len : x.l.length = x.n
  le : x.n ≤ maxLen
  all : ∀ z ∈ x.l, (Lit.int .i64 z).wf = true
theorem Nums.ok.below {w w' : World} {x : Nums} (h : x.ok w) (hb : Below w.heap.size w w') : x.ok w' := ⟨h.rd.below hb, h.len, h.le, h.all⟩
theorem is_nums {H : Type} {enc : TypeId × Value → H} {w : World} {cs : List Value} (h : Is enc Try.prog w 171 cs) : ∃ m : Nums, cs = [m.v] ∧ m.ok w := by
  obtain ⟨A, n, c, rows, h1, h2, h3, h4, h5, h6⟩ := is_slice Try.underlying171 h
  obtain ⟨ms, rfl, hms⟩ := rows_typed (f := fun z : Int => [Value.int .i64 z]) (ok := fun z => (Lit.int .i64 z).wf = true) rows (fun r hr => is_int Try.underlying3 (h4 r hr).2)
  refine ⟨⟨A, n, c, ms⟩, h1, ?_, by simpa using h2, Nat.le_trans h5 h6, hms⟩
  rw [← List.flatMap_def, flatMap_one] at h3
  exact h3
/-- what is known of a node's dots -/
structure Seen where
  node : ByteArray
  base : Int
  more : Nums
def Seen.arr (x : Seen) : Array Value := #[.string x.node, .int .i64 x.base, x.more.v]
def Seen.ok (w : World) (x : Seen) : Prop := x.node.size ≤ maxLen ∧ (Lit.int .i64 x.base).wf = true ∧ x.more.ok w
theorem cells_seen : Try.prog.cellsOf 173 = 3 := by kernel_rfl
theorem is_seen {H : Type} {enc : TypeId × Value → H} {w : World} {cs : List Value} (h : Is enc Try.prog w 173 cs) : ∃ m : Seen, cs = m.arr.toList ∧ m.ok w := by
  obtain ⟨hl, hf⟩ := is_struct Try.underlying173 h
  rw [cells_seen] at hl
  obtain ⟨c0, r0, rfl, hl0⟩ := cons_of hl
  obtain ⟨c1, r1, rfl, hl1⟩ := cons_of hl0
  obtain ⟨c2, r2, rfl, hl2⟩ := cons_of hl1
  obtain rfl := nil_of hl2
  have f0 : Is enc Try.prog w 9 (List.take (Try.prog.cellsOf 9) (List.drop 0 _)) := hf 0 _ rfl
  rw [(show Try.prog.cellsOf 9 = 1 by kernel_rfl)] at f0
  simp only [List.drop_succ_cons, List.drop_zero, List.take_succ_cons, List.take_zero, List.take_nil] at f0
  obtain ⟨a0, h0, w0⟩ := is_string Try.underlying9 f0
  simp only [List.cons.injEq, and_true] at h0
  subst h0
  have f1 : Is enc Try.prog w 3 (List.take (Try.prog.cellsOf 3) (List.drop 1 _)) := hf 1 _ rfl
  rw [(show Try.prog.cellsOf 3 = 1 by kernel_rfl)] at f1
  simp only [List.drop_succ_cons, List.drop_zero, List.take_succ_cons, List.take_zero, List.take_nil] at f1
  obtain ⟨a1, h1, w1⟩ := is_int Try.underlying3 f1
  simp only [List.cons.injEq, and_true] at h1
  subst h1
  have f2 : Is enc Try.prog w 171 (List.take (Try.prog.cellsOf 171) (List.drop 2 _)) := hf 2 _ rfl
  rw [(show Try.prog.cellsOf 171 = 1 by kernel_rfl)] at f2
  simp only [List.drop_succ_cons, List.drop_zero, List.take_succ_cons, List.take_zero, List.take_nil] at f2
  obtain ⟨a2, h2, w2⟩ := is_nums f2
  simp only [List.cons.injEq, and_true] at h2
  subst h2
  exact ⟨⟨a0, a1, a2⟩, rfl, w0, w1, w2⟩
theorem Seen.ok.below {w w' : World} {x : Seen} (h : x.ok w) (hb : Below w.heap.size w w') : x.ok w' := by
  obtain ⟨h0, h1, h2⟩ := h; exact ⟨h0, h1, h2.below hb⟩
theorem row_seen : RowK Try.prog 173 Seen.arr 3 where
  d := ⟨_, Try.underlying173, rfl⟩
  hi := by kernel_rfl
  size m := rfl
  one m u hu := by simp only [Seen.arr, List.mem_cons, List.not_mem_nil, or_false] at hu; rcases hu with rfl | rfl | rfl <;> rfl
  pos := by decide
/-- a context -/
structure Ctx where
  A : Option Addr
  n : Nat
  c : Nat
  l : List Seen
def Ctx.v (x : Ctx) : Value := .slice x.A x.n x.c
structure Ctx.ok (w : World) (x : Ctx) : Prop where
  rd : Rd w x.A (x.l.flatMap (fun m : Seen => m.arr.toList))
  len : x.l.length = x.n
  le : x.n ≤ maxLen
  all : ∀ m ∈ x.l, m.ok w
theorem Ctx.ok.below {w w' : World} {x : Ctx} (h : x.ok w) (hb : Below w.heap.size w w') : x.ok w' := ⟨h.rd.below hb, h.len, h.le, fun m hm => (h.all m hm).below hb⟩
theorem is_ctx {H : Type} {enc : TypeId × Value → H} {w : World} {cs : List Value} (h : Is enc Try.prog w 83 cs) : ∃ m : Ctx, cs = [m.v] ∧ m.ok w := by
  obtain ⟨A, n, c, rows, h1, h2, h3, h4, h5, h6⟩ := is_slice Try.underlying83 h
  obtain ⟨ms, rfl, hms⟩ := rows_typed (f := (fun m : Seen => m.arr.toList)) (ok := fun m : Seen => m.ok w) rows (fun r hr => is_seen (h4 r hr).2)
  refine ⟨⟨A, n, c, ms⟩, h1, by rw [List.flatMap_def]; exact h3, by simpa using h2, Nat.le_trans h5 h6, hms⟩
end Go.Proofs.Ytlmplibdfhamjaa
