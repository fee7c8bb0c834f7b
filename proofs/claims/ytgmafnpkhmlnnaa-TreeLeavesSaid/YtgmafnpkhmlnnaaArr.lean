/- An array of slices in a block, each slice with a row of its own. No program in sight. -/
import Derived.Test.YtgmafnpkhmlnnaaRowK
import Derived.OneCell
namespace Go.Mem
set_option linter.unusedVariables false
open Go.RowKit

def upd {T : Type} (f : Nat → T) (k : Nat) (x : T) : Nat → T := fun j => if j = k then x else f j
theorem upd_at {T : Type} (f : Nat → T) (k : Nat) (x : T) : upd f k x k = x := if_pos rfl
theorem upd_ne {T : Type} (f : Nat → T) {k j : Nat} (x : T) (h : j ≠ k) : upd f k x j = f j := if_neg h
/-- an array of slices in block b, each slice with a row of its own from base on, no two in one block -/
structure ArrS (W : World) (b base : Nat) (T e : TypeId) (sz N : Nat) (vs : Nat → Value) (num : Nat → Nat) (f : Nat → List Value) : Prop where
  lt : b < base
  blk : ∃ cs : Array Value, W.heap[b]? = some (.cells cs T (0, 0)) ∧ cs.size = N ∧ ∀ j, j < N → cs[j]? = some (vs j)
  own : ∀ j, j < N → W.ownsRow base e sz (vs j) (num j) (f j)
  apart : ∀ i j, i < N → j < N → i ≠ j → (vs i).ownBlock = none ∨ (vs i).ownBlock ≠ (vs j).ownBlock
section
variable {W W' : World} {b base : Nat} {T e : TypeId} {sz N : Nat} {vs : Nat → Value} {num : Nat → Nat} {f : Nat → List Value}
theorem ArrS.blt (h : ArrS W b base T e sz N vs num f) : b < W.heap.size := by obtain ⟨cs, hb, _⟩ := h.blk; exact (Array.getElem?_eq_some_iff.1 hb).1
theorem ArrS.below (h : ArrS W b base T e sz N vs num f) (hb : Below W.heap.size W W') : ArrS W' b base T e sz N vs num f := by
  have hlt := h.blt
  obtain ⟨cs, h1, h2⟩ := h.blk
  exact ⟨h.lt, ⟨cs, (hb.block b hlt).trans h1, h2⟩, fun j hj => own_below (h.own j hj) hb, h.apart⟩
theorem ArrS.cell (h : ArrS W b base T e sz N vs num f) {j : Nat} (hj : j < N) : W.cell? ⟨b, j, none⟩ = some (vs j) := by
  obtain ⟨cs, h1, h2, h3⟩ := h.blk
  simp [World.cell?, h1, h3 j hj]
theorem ArrS.free (h : ArrS W b base T e sz N vs num f) (j : Nat) : W.frozen? ⟨b, j, none⟩ = false := by
  obtain ⟨cs, h1, h2, h3⟩ := h.blk
  simp [World.frozen?, h1]
theorem ArrS.grow (h : ArrS W b base T e sz N vs num f) {k : Nat} (hk : k < N) {v' : Value} {n' : Nat} {xs' : List Value} (hown : W'.ownsRow base e sz v' n' xs') (hg : W.grownBy W' (vs k).ownBlock) (hat : v'.ownBlock = (vs k).ownBlock ∨ v'.ownBlock = some W.heap.size) :
    ArrS (W'.setCell ⟨b, k, none⟩ v') b base T e sz N (upd vs k v') (upd num k n') (upd f k xs') := by
  have hlt := h.blt
  have hbb := h.lt
  obtain ⟨cs, h1, h2, h3⟩ := h.blk
  have hne : ∀ {w : World} {v : Value} {n : Nat} {xs : List Value}, w.ownsRow base e sz v n xs → v.ownBlock ≠ some b := fun ho he => by
    have := (ho.lt b he).1; omega
  have hb' : W'.heap[b]? = some (.cells cs T (0, 0)) := (hg.block b hlt (fun e => hne (h.own k hk) e.symm)).trans h1
  refine ⟨h.lt, ⟨cs.setIfInBounds k v', ?_, by simpa using h2, ?_⟩, ?_, ?_⟩
  · simp [World.setCell, Array.getElem?_modify, hb']
  · intro j hj
    by_cases e : j = k
    · subst e; rw [upd_at, Array.getElem?_setIfInBounds_self_of_lt (by omega)]
    · rw [upd_ne _ _ e, Array.getElem?_setIfInBounds_ne (by omega)]; exact h3 j hj
  · intro j hj
    by_cases e : j = k
    · subst e; simp only [upd_at]; exact ownsRow_setCell_other hown (hne hown) _
    · simp only [upd_ne _ _ e]
      exact ownsRow_setCell_other ((h.own j hj).kept hg (h.apart j k hj hk e)) (hne (h.own j hj)) _
  · have key : ∀ j, j < N → j ≠ k → ((vs j).ownBlock = none ∨ (vs j).ownBlock ≠ v'.ownBlock) := fun j hj e => by
      rcases hat with he | he
      · rw [he]; exact h.apart j k hj hk e
      · rw [he]; right; intro e2; have := ((h.own j hj).lt _ e2).2; omega
    intro i j hi hj hij
    by_cases e1 : i = k
    · subst e1
      rw [upd_at, upd_ne _ _ (fun e => hij e.symm)]
      rcases key j hj (fun e => hij e.symm) with h4 | h4
      · cases hv : v'.ownBlock with
        | none => exact .inl rfl
        | some g => right; rw [h4]; simp
      · exact .inr (fun e => h4 e.symm)
    · rw [upd_ne _ _ e1]
      by_cases e2 : j = k
      · subst e2; rw [upd_at]; exact key i hi e1
      · rw [upd_ne _ _ e2]; exact h.apart i j hi hj hij
/-- an array of nils -/
theorem ArrS.nil (W : World) (T e : TypeId) (sz N : Nat) : ArrS (W.alloc (.cells (Array.replicate N (.slice none 0 0)) T)) W.heap.size (W.heap.size + 1) T e sz N (fun _ => .slice none 0 0) (fun _ => 0) (fun _ => []) where
  lt := Nat.lt_succ_self _
  blk := ⟨Array.replicate N (.slice none 0 0), heap_alloc_new W _, Array.size_replicate, fun j hj => by simp [hj]⟩
  own := fun j hj => World.ownsRow_nil _ _ _ _
  apart := fun i j _ _ _ => .inl rfl
end
end Go.Mem
