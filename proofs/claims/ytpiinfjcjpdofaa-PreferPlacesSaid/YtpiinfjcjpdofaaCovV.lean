/- What the picked ones are. -/
import Derived.Test.YtpiinfjcjpdofaaCovG
import Derived.Test.YtpiinfjcjpdofaaCovS
namespace Go.Proofs.Ytpiinfjcjpdofaa
open Go.RowKit Go.Mem Go.Cov
set_option linter.unusedVariables false
set_option linter.unusedSimpArgs false

/-- what the picked ones are: as many as asked, rising, in range, the best -/
structure Most (l : List Pair) (m : Nat) (p : List Nat) (x y : Nat) : Prop where
  len : p.length = m
  rise : (natI p).Pairwise (· < ·)
  lt : ∀ i ∈ p, i < l.length
  xs : nl [] (sel l p) = x
  ys : nr [] (sel l p) = y
  best : Best l m x y
  left : x = min (nl [] l) m
theorem most_of {l : List Pair} {m : Nat} (hm : m ≤ l.length) {p : List Nat} (h : PickR l (m : Int) p) : ∃ x y, Most l m p x y := by
  obtain ⟨x, y, h1, h2, h3⟩ := h.first m rfl hm
  have h4 : p ∈ ch l.length m := List.mem_of_find?_eq_some h3
  have h5 : okc l x y [] [] p = true := List.find?_some h3
  obtain ⟨h6, h7⟩ := (best_okc h1 h4).1 h5
  obtain ⟨_, _, h8, h9, h10⟩ := ch_props l m p h4
  refine ⟨x, y, h8, ?_, h10, h6, h7, h1, h2⟩
  unfold natI
  rw [List.pairwise_map]
  exact h9.imp (by omega)
theorem both_iff {l : List Pair} {m x y : Nat} {p : List Nat} (h : Most l m p x y) : doesB l m ((min (nl [] l) m : Nat) : Int) ((min (nr [] l) m : Nat) : Int) [] [] = decide (y = min (nr [] l) m) := by
  rw [Bool.eq_iff_iff, doesB_iff, decide_eq_true_iff]
  exact best_right h.best h.left
end Go.Proofs.Ytpiinfjcjpdofaa
