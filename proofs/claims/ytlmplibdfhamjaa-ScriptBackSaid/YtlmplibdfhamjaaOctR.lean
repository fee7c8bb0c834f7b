/- Readers: octet.Reader and the document's (pantlerref01.Reader), as one machine on bytes. -/
import Derived.Test.YtlmplibdfhamjaaOctD
import Derived.Deep.OwnRows
import Derived.WalkSpells
namespace Go.Num
/-- a reader: the bytes that are left, and whether it may go on -/
abbrev St := List UInt8 × Bool
def tk (n : Nat) (st : St) : List UInt8 × St := if st.2 = true ∧ n ≤ st.1.length then (st.1.take n, (st.1.drop n, true)) else ([], (st.1, false))
def rdNum (k : Nat) (st : St) : Int × St := (num (tk k st).1, (tk k st).2)
def rdCount (most : Int) (st : St) : Int × St := if most < (rdNum 4 st).1 then (0, ((rdNum 4 st).2.1, false)) else rdNum 4 st
def rdText (st : St) : List UInt8 × St := tk (rdCount 1048576 st).1.toNat (rdCount 1048576 st).2
def sev : Nat → St → List (List UInt8) × St
  | 0, st => ([], st)
  | n + 1, st => if st.2 then ((rdText st).1 :: (sev n (rdText st).2).1, (sev n (rdText st).2).2) else ([], st)
def outT {α : Type} (x : List α × St) : List α := if x.2.2 then x.1 else []
def rdTexts (st : St) : List (List UInt8) × St := (outT (sev (rdCount 65536 st).1.toNat (rdCount 65536 st).2), (sev (rdCount 65536 st).1.toNat (rdCount 65536 st).2).2)
theorem tk_len (n : Nat) (st : St) : (tk n st).2.1.length ≤ st.1.length ∧ (tk n st).1.length ≤ st.1.length := by
  unfold tk
  split
  · simp; omega
  · simp
theorem pow256 : ∀ k : Nat, k ≤ 3 → (256 : Int) ^ k ≤ 16777216
  | 0, _ => by decide
  | 1, _ => by decide
  | 2, _ => by decide
  | 3, _ => by decide
  | k + 4, h => by omega
theorem num4 (l : List UInt8) (h : l.length ≤ 4) : 0 ≤ num l ∧ num l < 4294967296 := by
  have key : ∀ (l : List UInt8) (n : Int) (k : Nat), l.length + k ≤ 4 → 0 ≤ n → n < 256 ^ k → 0 ≤ l.foldl (fun n c => IntKind.i64.wrap (n * 256) + c.toNat) n ∧ l.foldl (fun n c => IntKind.i64.wrap (n * 256) + c.toNat) n < 4294967296 := by
    intro l
    induction l with
    | nil =>
      intro n k hk h0 h1
      simp only [List.length_nil, Nat.zero_add] at hk
      have : (256 : Int) ^ k ≤ 4294967296 := by
        rcases Nat.lt_or_ge k 4 with h | h
        · have := pow256 k (by omega); omega
        · obtain rfl : k = 4 := by omega
          decide
      exact ⟨h0, by simp only [List.foldl_nil]; omega⟩
    | cons c l ih =>
      intro n k hk h0 h1
      simp only [List.length_cons] at hk
      have hc : c.toNat < 256 := UInt8.toNat_lt c
      have hp := pow256 k (by omega)
      have hw : IntKind.i64.wrap (n * 256) = n * 256 := IntWalk.i64_in _ (by omega)
      rw [List.foldl_cons]
      refine ih _ (k + 1) (by omega) (by rw [hw]; omega) ?_
      rw [hw, Int.pow_succ]
      omega
  exact key l 0 0 (by omega) (by omega) (by simp)
theorem tk_fst_len (n : Nat) (st : St) : (tk n st).1.length ≤ n := by
  unfold tk
  split
  · simp; omega
  · simp
theorem rdCount_range (most : Int) (st : St) : 0 ≤ (rdCount most st).1 ∧ (rdCount most st).1 < 4294967296 ∧ (0 ≤ most → (rdCount most st).1 ≤ most) := by
  have h := num4 (tk 4 st).1 (tk_fst_len 4 st)
  unfold rdCount
  split
  · simp
  · rename_i h2
    unfold rdNum at *
    simp only at *
    omega
end Go.Num
namespace Go.Proofs.Ytlmplibdfhamjaa
open Go.RowKit Go.Mem Go.Num
set_option linter.unusedVariables false

/-- a struct of two cells in a block of its own -/
def Two (T : TypeId) (b : Nat) (x y : Value) (w : World) : Prop := w.heap[b]? = some (.cells #[x, y] T (0, 0))
section
variable {T : TypeId} {b : Nat} {x y : Value} {w w' : World}
theorem Two.c0 (h : Two T b x y w) : w.cell? ⟨b, 0, none⟩ = some x := by rw [Lib.cell_of_heap h]; rfl
theorem Two.c1 (h : Two T b x y w) : w.cell? ⟨b, 1, none⟩ = some y := by rw [Lib.cell_of_heap h]; rfl
theorem Two.f (h : Two T b x y w) (i : Nat) : w.frozen? ⟨b, i, none⟩ = false := Lib.frozen_of_heap h i
theorem Two.lt (h : Two T b x y w) : b < w.heap.size := (Array.getElem?_eq_some_iff.1 h).1
theorem Two.set0 (h : Two T b x y w) (u : Value) : Two T b u y (w.setCell ⟨b, 0, none⟩ u) := by
  unfold Two at h ⊢
  simp [World.setCell, Array.getElem?_modify, h]
theorem Two.set1 (h : Two T b x y w) (u : Value) : Two T b x u (w.setCell ⟨b, 1, none⟩ u) := by
  unfold Two at h ⊢
  simp [World.setCell, Array.getElem?_modify, h]
theorem Two.alloc (h : Two T b x y w) (o : Obj) : Two T b x y (w.alloc o) := (Below.heap_alloc w o b h.lt).trans h
theorem Two.drew (h : Two T b x y w) : Two T b x y w.drew := h
theorem Two.below (h : Two T b x y w) (hb : Below w.heap.size w w') : Two T b x y w' := (hb.block b h.lt).trans h
theorem Two.below_at {B : Nat} (h : Two T b x y w) (hb : Below B w w') (hB : b < B) : Two T b x y w' := (hb.block b hB).trans h
theorem Two.grown {r : Nat} (h : Two T b x y w) (hg : w.grownBy w' (some r)) (hr : b ≠ r) : Two T b x y w' := (hg.block b h.lt (fun e => hr (by injection e))).trans h
theorem Two.new (w : World) (T : TypeId) (x y : Value) : Two T w.heap.size x y (w.alloc (.cells #[x, y] T)) := heap_alloc_new w _
end
/-- only block b, and what is new, has turned -/
abbrev Only (b : Nat) (w w' : World) : Prop := w.grownBy w' (some b)
section
variable {b : Nat} {w w' w'' : World}
theorem Only.rfl_ : Only b w w := World.grownBy.refl w _
theorem Only.then_ (h : Only b w w') (k : Only b w' w'') : Only b w w'' :=
  ⟨k.os.trans h.os, k.tape.trans h.tape, k.output.trans h.output, Nat.le_trans h.size k.size, fun i hi hn => (k.block i (Nat.lt_of_lt_of_le hi h.size) hn).trans (h.block i hi hn)⟩
theorem Only.set (h : Only b w w') (i : Nat) (u : Value) : Only b w (w'.setCell ⟨b, i, none⟩ u) :=
  ⟨h.os, h.tape, h.output, by simpa [World.setCell] using h.size, fun k hk hn => (Below.heap_setCell w' ⟨b, i, none⟩ u k (fun e => hn (by rw [e]))).trans (h.block k hk hn)⟩
theorem Only.alloc (h : Only b w w') (o : Obj) : Only b w (w'.alloc o) :=
  ⟨h.os, h.tape, h.output, Nat.le_trans h.size (by simp), fun i hi hne => (Below.heap_alloc w' o i (Nat.lt_of_lt_of_le hi h.size)).trans (h.block i hi hne)⟩
theorem Only.drew (h : Only b w w') : Only b w w'.drew := ⟨h.os, h.tape, h.output, h.size, h.block⟩
theorem Only.below (h : Only b w w') (k : Below w'.heap.size w' w'') : Only b w w'' :=
  h.then_ ⟨k.os, k.tape, k.output, k.size, fun i hi _ => k.block i hi⟩
theorem Only.belowB {B : Nat} (h : Only b w w') (hB : B ≤ b) (hw : B ≤ w.heap.size) : Below B w w' :=
  ⟨h.os, h.tape, h.output, h.size, fun i hi => h.block i (by omega) (fun e => by injection e with e; omega)⟩
end
/-- the program's reader, and the document's, in block b -/
def RdO (b : Nat) (st : St) (w : World) : Prop := Two 126 b (.string (bs st.1)) (.bool st.2) w
def RdF (b : Nat) (st : St) (w : World) : Prop := Two 76 b (.string (bs st.1)) (.bool (!st.2)) w

theorem new_any (s : ByteArray) (w : World) : Calls Try.prog 44 #[.string s] w fun e w' => e = .returned (.pointer (some ⟨w.heap.size, 0, none⟩)) ∧ RdO w.heap.size (s.data.toList, true) w' ∧ Below w.heap.size w w' ∧ w'.heap.size = w.heap.size + 1 := by
  go_enter Try.func44, Try.ntmps44
  go_wp2
  go_ret
  refine ⟨rfl, ?_, (Below.refl _ _).alloc (Nat.le_refl _) _, by simp⟩
  unfold RdO
  simp only [bs_of]
  exact Two.new _ _ _ _

theorem spoil_any (b : Nat) (x y : Value) (w : World) (h : Two 126 b x y w) (hy : ∃ c, y = .bool c) : Calls Try.prog 128 #[.pointer (some ⟨b, 0, none⟩)] w fun e w' => e = .returned (.tuple #[]) ∧ w' = w.setCell ⟨b, 1, none⟩ (.bool false) := by
  obtain ⟨c, rfl⟩ := hy
  have c1 := h.c1
  have f1 := h.f 1
  go_enter Try.func128, Try.ntmps128
  go_wp2
  go_end0
  exact ⟨rfl, rfl⟩
theorem spoil_none (w : World) : Calls Try.prog 128 #[.pointer none] w fun e w' => e = .returned (.tuple #[]) ∧ w = w' := by
  go_enter Try.func128, Try.ntmps128
  go_wp2
  go_end0
  exact ⟨rfl, rfl⟩

set_option maxRecDepth 100000 in
set_option maxHeartbeats 1000000 in
theorem take_any (b n : Nat) (st : St) (w : World) (h : RdO b st w) (hn : n ≤ 140737488355328) (hs : st.1.length ≤ 140737488355328) :
    Calls Try.prog 132 #[.pointer (some ⟨b, 0, none⟩), .int .i64 n] w fun e w' => e = .returned (.string (bs (tk n st).1)) ∧ RdO b (tk n st).2 w' ∧ Only b w w' := by
  obtain ⟨s, g⟩ := st
  unfold RdO at h
  simp only at h hs
  have c0 := h.c0
  have c1 := h.c1
  have f0 := h.f 0
  have hsz : (bs s).size = s.length := bs_size s
  by_cases hg : g = true ∧ n ≤ s.length
  · obtain ⟨rfl, hns⟩ := hg
    have htk : tk n (s, true) = (s.take n, (s.drop n, true)) := by unfold tk; rw [if_pos ⟨rfl, hns⟩]
    rw [htk]
    have hx1 := bs_extract s 0 n
    have hx2 := bs_extract s n s.length
    have hns' : n ≤ (bs s).size := by omega
    have hle : (bs s).size ≤ 140737488355328 := by omega
    have hgt : decide ((bs s).size < n) = false := by simp; omega
    have hst := h.set0 (.string (bs (s.drop n)))
    have HX1 := Lib.hid hx1; have HX2 := Lib.hid hx2; have HSZ := Lib.hid hsz; have HST := Lib.hid hst; clear hx1 hx2 hsz hst h htk
    generalize bs s = t at *
    go_enter Try.func132, Try.ntmps132
    go_wp2
    go_ret
    have he : t.extract n t.size = bs (s.drop n) := by rw [HSZ.out, HX2.out, List.take_length]
    rw [he]
    exact ⟨ret_string (by rw [HX1.out]; rfl), HST.out, Only.rfl_.set _ _⟩
  · have htk : tk n (s, g) = ([], (s, false)) := by unfold tk; rw [if_neg hg]
    rw [htk]
    have HH := Lib.hid h; clear h
    go_enter Try.func132, Try.ntmps132
    cases g
    · go_wp2_with fail
      refine (spoil_any b _ _ _ HH.out ⟨_, rfl⟩).mono ?_
      rintro e w1 ⟨rfl, rfl⟩
      go_wp2
      go_ret
      exact ⟨rfl, HH.out.set1 _, Only.rfl_.set _ _⟩
    · have hgn : ¬ n ≤ s.length := fun h => hg ⟨rfl, h⟩
      have hgt : decide ((bs s).size < n) = true := by simp; omega
      have hgt2 : (bs s).size < n := by omega
      clear hg hgn
      clear hsz htk
      go_wp2_with fail
      refine (spoil_any b _ _ _ HH.out ⟨_, rfl⟩).mono ?_
      rintro e w1 ⟨rfl, rfl⟩
      go_wp2
      go_ret
      exact ⟨rfl, HH.out.set1 _, Only.rfl_.set _ _⟩
end Go.Proofs.Ytlmplibdfhamjaa
