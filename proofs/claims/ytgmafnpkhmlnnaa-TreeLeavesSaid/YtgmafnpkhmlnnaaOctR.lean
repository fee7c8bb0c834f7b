/- Readers: octet.Reader and the document's (pantlerref01.Reader), as one machine on bytes. -/
import Derived.Test.YtgmafnpkhmlnnaaOctD
import Derived.Deep.OwnRows
import Derived.WalkSpells
namespace Go.Num
/-- a reader: the bytes that are left, and whether it may go on -/
abbrev St := List UInt8 × Bool
def tk (n : Nat) (st : St) : List UInt8 × St := if st.2 = true ∧ n ≤ st.1.length then (st.1.take n, (st.1.drop n, true)) else ([], (st.1, false))
def rdNum (k : Nat) (st : St) : Int × St := (num (tk k st).1, (tk k st).2)
def rdCount (most : Int) (st : St) : Int × St := if most < (rdNum 4 st).1 then (0, ((rdNum 4 st).2.1, false)) else rdNum 4 st
def rdText (st : St) : List UInt8 × St := tk (rdCount 1048576 st).1.toNat (rdCount 1048576 st).2
def sev : Nat → St → List (List UInt8) × St
  | 0, st => ([], st)
  | n + 1, st => if st.2 then ((rdText st).1 :: (sev n (rdText st).2).1, (sev n (rdText st).2).2) else ([], st)
def outT {α : Type} (x : List α × St) : List α := if x.2.2 then x.1 else []
def rdTexts (st : St) : List (List UInt8) × St := (outT (sev (rdCount 65536 st).1.toNat (rdCount 65536 st).2), (sev (rdCount 65536 st).1.toNat (rdCount 65536 st).2).2)
theorem tk_len (n : Nat) (st : St) : (tk n st).2.1.length ≤ st.1.length ∧ (tk n st).1.length ≤ st.1.length := by
  unfold tk
  split
  · simp; omega
  · simp
theorem pow256 : ∀ k : Nat, k ≤ 3 → (256 : Int) ^ k ≤ 16777216
  | 0, _ => by decide
  | 1, _ => by decide
  | 2, _ => by decide
  | 3, _ => by decide
  | k + 4, h => by omega
theorem num4 (l : List UInt8) (h : l.length ≤ 4) : 0 ≤ num l ∧ num l < 4294967296 := by
  have key : ∀ (l : List UInt8) (n : Int) (k : Nat), l.length + k ≤ 4 → 0 ≤ n → n < 256 ^ k → 0 ≤ l.foldl (fun n c => IntKind.i64.wrap (n * 256) + c.toNat) n ∧ l.foldl (fun n c => IntKind.i64.wrap (n * 256) + c.toNat) n < 4294967296 := by
    intro l
    induction l with
    | nil =>
      intro n k hk h0 h1
      simp only [List.length_nil, Nat.zero_add] at hk
      have : (256 : Int) ^ k ≤ 4294967296 := by
        rcases Nat.lt_or_ge k 4 with h | h
        · have := pow256 k (by omega); omega
        · obtain rfl : k = 4 := by omega
          decide
      exact ⟨h0, by simp only [List.foldl_nil]; omega⟩
    | cons c l ih =>
      intro n k hk h0 h1
      simp only [List.length_cons] at hk
      have hc : c.toNat < 256 := UInt8.toNat_lt c
      have hp := pow256 k (by omega)
      have hw : IntKind.i64.wrap (n * 256) = n * 256 := IntWalk.i64_in _ (by omega)
      rw [List.foldl_cons]
      refine ih _ (k + 1) (by omega) (by rw [hw]; omega) ?_
      rw [hw, Int.pow_succ]
      omega
  exact key l 0 0 (by omega) (by omega) (by simp)
theorem tk_fst_len (n : Nat) (st : St) : (tk n st).1.length ≤ n := by
  unfold tk
  split
  · simp; omega
  · simp
theorem rdCount_range (most : Int) (st : St) : 0 ≤ (rdCount most st).1 ∧ (rdCount most st).1 < 4294967296 ∧ (0 ≤ most → (rdCount most st).1 ≤ most) := by
  have h := num4 (tk 4 st).1 (tk_fst_len 4 st)
  unfold rdCount
  split
  · simp
  · rename_i h2
    unfold rdNum at *
    simp only at *
    omega
end Go.Num
namespace Go.Proofs.Ytgmafnpkhmlnnaa
open Go.RowKit Go.Mem Go.Num
set_option linter.unusedVariables false

/-- a struct of two cells in a block of its own -/
def Two (T : TypeId) (b : Nat) (x y : Value) (w : World) : Prop := w.heap[b]? = some (.cells #[x, y] T (0, 0))
section
variable {T : TypeId} {b : Nat} {x y : Value} {w w' : World}
theorem Two.c0 (h : Two T b x y w) : w.cell? ⟨b, 0, none⟩ = some x := by rw [Lib.cell_of_heap h]; rfl
theorem Two.c1 (h : Two T b x y w) : w.cell? ⟨b, 1, none⟩ = some y := by rw [Lib.cell_of_heap h]; rfl
theorem Two.f (h : Two T b x y w) (i : Nat) : w.frozen? ⟨b, i, none⟩ = false := Lib.frozen_of_heap h i
theorem Two.lt (h : Two T b x y w) : b < w.heap.size := (Array.getElem?_eq_some_iff.1 h).1
theorem Two.set0 (h : Two T b x y w) (u : Value) : Two T b u y (w.setCell ⟨b, 0, none⟩ u) := by
  unfold Two at h ⊢
  simp [World.setCell, Array.getElem?_modify, h]
theorem Two.set1 (h : Two T b x y w) (u : Value) : Two T b x u (w.setCell ⟨b, 1, none⟩ u) := by
  unfold Two at h ⊢
  simp [World.setCell, Array.getElem?_modify, h]
theorem Two.alloc (h : Two T b x y w) (o : Obj) : Two T b x y (w.alloc o) := (Below.heap_alloc w o b h.lt).trans h
theorem Two.drew (h : Two T b x y w) : Two T b x y w.drew := h
theorem Two.below (h : Two T b x y w) (hb : Below w.heap.size w w') : Two T b x y w' := (hb.block b h.lt).trans h
theorem Two.below_at {B : Nat} (h : Two T b x y w) (hb : Below B w w') (hB : b < B) : Two T b x y w' := (hb.block b hB).trans h
theorem Two.grown {r : Nat} (h : Two T b x y w) (hg : w.grownBy w' (some r)) (hr : b ≠ r) : Two T b x y w' := (hg.block b h.lt (fun e => hr (by injection e))).trans h
theorem Two.new (w : World) (T : TypeId) (x y : Value) : Two T w.heap.size x y (w.alloc (.cells #[x, y] T)) := heap_alloc_new w _
end
/-- only block b, and what is new, has turned -/
abbrev Only (b : Nat) (w w' : World) : Prop := w.grownBy w' (some b)
section
variable {b : Nat} {w w' w'' : World}
theorem Only.rfl_ : Only b w w := World.grownBy.refl w _
theorem Only.then_ (h : Only b w w') (k : Only b w' w'') : Only b w w'' :=
  ⟨k.os.trans h.os, k.tape.trans h.tape, k.output.trans h.output, Nat.le_trans h.size k.size, fun i hi hn => (k.block i (Nat.lt_of_lt_of_le hi h.size) hn).trans (h.block i hi hn)⟩
theorem Only.set (h : Only b w w') (i : Nat) (u : Value) : Only b w (w'.setCell ⟨b, i, none⟩ u) :=
  ⟨h.os, h.tape, h.output, by simpa [World.setCell] using h.size, fun k hk hn => (Below.heap_setCell w' ⟨b, i, none⟩ u k (fun e => hn (by rw [e]))).trans (h.block k hk hn)⟩
theorem Only.alloc (h : Only b w w') (o : Obj) : Only b w (w'.alloc o) :=
  ⟨h.os, h.tape, h.output, Nat.le_trans h.size (by simp), fun i hi hne => (Below.heap_alloc w' o i (Nat.lt_of_lt_of_le hi h.size)).trans (h.block i hi hne)⟩
theorem Only.drew (h : Only b w w') : Only b w w'.drew := ⟨h.os, h.tape, h.output, h.size, h.block⟩
theorem Only.below (h : Only b w w') (k : Below w'.heap.size w' w'') : Only b w w'' :=
  h.then_ ⟨k.os, k.tape, k.output, k.size, fun i hi _ => k.block i hi⟩
theorem Only.belowB {B : Nat} (h : Only b w w') (hB : B ≤ b) (hw : B ≤ w.heap.size) : Below B w w' :=
  ⟨h.os, h.tape, h.output, h.size, fun i hi => h.block i (by omega) (fun e => by injection e with e; omega)⟩
end
end Go.Proofs.Ytgmafnpkhmlnnaa
