/- The best of all choices, and the first that reaches it: plain. No program in sight. -/
import Derived.Test.YtpiinfjcjpdofaaCovR
namespace Go.Cov
set_option linter.unusedVariables false
set_option linter.unusedSimpArgs false

/-- the choices of a number that may be less than 0 -/
def chz (n : Nat) (many : Int) : List (List Nat) := if 0 ≤ many then ch n many.toNat else []
theorem chz_nat (n m : Nat) : chz n (m : Int) = ch n m := by unfold chz; rw [if_pos (by omega)]; rfl
theorem chz_neg {n : Nat} {many : Int} (h : many < 0) : chz n many = [] := if_neg (by omega)
theorem chz_in {n : Nat} {many : Int} {c : List Nat} (h : c ∈ chz n many) : (c.length : Int) = many ∧ c.length ≤ n ∧ ∀ i ∈ c, i < n := by
  unfold chz at h
  split at h
  · obtain ⟨h1, h2⟩ := ch_in h
    refine ⟨by omega, Nat.le_of_not_lt fun hlt => ?_, h2⟩
    rw [ch_less (by omega)] at h
    cases h
  · cases h
theorem chz_len (n : Nat) (many : Int) : (chz n many).length ≤ 2 ^ n := by
  unfold chz; split
  · exact ch_len _ _
  · simp
theorem does_chz {l : List Pair} {many a b : Int} : Does l many a b [] [] ↔ ∃ c ∈ chz l.length many, okc l a b [] [] c = true := by
  by_cases h : 0 ≤ many
  · obtain ⟨m, rfl⟩ : ∃ m : Nat, many = m := ⟨many.toNat, by omega⟩
    rw [chz_nat]; exact does_ch
  · rw [chz_neg (by omega)]
    constructor
    · rintro ⟨S, h1, h2, _⟩; omega
    · rintro ⟨c, hc, _⟩; cases hc
/-- greater on the left, or there the same and greater on the right -/
def bestS (l : List Pair) (p : Nat × Nat) (c : List Nat) : Nat × Nat :=
  if nl [] (sel l c) > p.1 ∨ (nl [] (sel l c) = p.1 ∧ nr [] (sel l c) > p.2) then (nl [] (sel l c), nr [] (sel l c)) else p
def bestF (l : List Pair) (D : List (List Nat)) : Nat × Nat := D.foldl (bestS l) (0, 0)
theorem bestF_snoc (l : List Pair) (D : List (List Nat)) (c : List Nat) : bestF l (D ++ [c]) = bestS l (bestF l D) c := by unfold bestF; rw [List.foldl_append]; rfl
def lexle (a b : Nat × Nat) : Prop := a.1 < b.1 ∨ (a.1 = b.1 ∧ a.2 ≤ b.2)
theorem best_fold (l : List Pair) : ∀ (D : List (List Nat)) (p : Nat × Nat), lexle p (D.foldl (bestS l) p) ∧ (∀ c ∈ D, lexle (nl [] (sel l c), nr [] (sel l c)) (D.foldl (bestS l) p)) ∧ (D.foldl (bestS l) p = p ∨ ∃ c ∈ D, D.foldl (bestS l) p = (nl [] (sel l c), nr [] (sel l c)))
  | [], p => ⟨.inr ⟨rfl, Nat.le_refl _⟩, fun c h => (by cases h), .inl rfl⟩
  | d :: D, p => by
    obtain ⟨h1, h2, h3⟩ := best_fold l D (bestS l p d)
    rw [List.foldl_cons]
    generalize D.foldl (bestS l) (bestS l p d) = r at h1 h2 h3
    have hp : lexle p (bestS l p d) ∧ lexle (nl [] (sel l d), nr [] (sel l d)) (bestS l p d) ∧ (bestS l p d = p ∨ bestS l p d = (nl [] (sel l d), nr [] (sel l d))) := by
      unfold bestS lexle
      split
      · exact ⟨by simp only; omega, .inr ⟨rfl, Nat.le_refl _⟩, .inr rfl⟩
      · rename_i h; obtain ⟨ha, hb⟩ := not_or.1 h; exact ⟨by omega, by simp only; omega, .inl rfl⟩
    have tr : ∀ a b c : Nat × Nat, lexle a b → lexle b c → lexle a c := by unfold lexle; omega
    refine ⟨tr _ _ _ hp.1 h1, fun c hc => ?_, ?_⟩
    · rcases List.mem_cons.1 hc with rfl | hc
      · exact tr _ _ _ hp.2.1 h1
      · exact h2 c hc
    · rcases h3 with h3 | ⟨c, hc, h3⟩
      · rcases hp.2.2 with h4 | h4
        · exact .inl (h3.trans h4)
        · exact .inr ⟨d, by simp, h3.trans h4⟩
      · exact .inr ⟨c, by simp [hc], h3⟩
theorem ch_some {n m : Nat} (h : m ≤ n) : ∃ c, c ∈ ch n m := by
  have h1 : ((List.replicate n ((0, 0) : Pair)).take m).Sublist (List.replicate n (0, 0)) := List.take_sublist _ _
  obtain ⟨c, h2, _⟩ := sub_ch h1
  rw [List.length_replicate, List.length_take, List.length_replicate, Nat.min_eq_left h] at h2
  exact ⟨c, h2⟩
theorem best_ch {l : List Pair} {m : Nat} (hm : m ≤ l.length) : Best l m (bestF l (ch l.length m)).1 (bestF l (ch l.length m)).2 := by
  obtain ⟨h1, h2, h3⟩ := best_fold l (ch l.length m) (0, 0)
  rw [show (ch l.length m).foldl (bestS l) (0, 0) = bestF l (ch l.length m) from rfl] at h1 h2 h3
  have hex : ∃ c ∈ ch l.length m, bestF l (ch l.length m) = (nl [] (sel l c), nr [] (sel l c)) := by
    rcases h3 with h3 | h3
    · obtain ⟨c, hc⟩ := ch_some hm
      have h4 := h2 c hc
      rw [h3] at h4 ⊢
      unfold lexle at h4
      simp only at h4
      exact ⟨c, hc, by rw [show nl [] (sel l c) = 0 by omega, show nr [] (sel l c) = 0 by omega]⟩
    · exact h3
  obtain ⟨c, hc, he⟩ := hex
  obtain ⟨c1, c2, _⟩ := ch_props l m c hc
  refine ⟨⟨_, c1, c2, by rw [he], by rw [he]⟩, fun S s1 s2 => ?_⟩
  obtain ⟨d, d1, d2⟩ := sub_ch s1
  rw [s2] at d1
  have := h2 d d1
  rw [d2] at this
  exact this
theorem best_min {l : List Pair} {m x y : Nat} (hm : m ≤ l.length) (h : Best l m x y) : x = min (nl [] l) m := by
  obtain ⟨S, s1, s2, s3, s4⟩ := does_left hm
  have h1 := h.most S s1 (by omega)
  obtain ⟨T, t1, t2, t3, t4⟩ := h.some_
  have h2 := nl_mono (L := []) t1
  have h3 := nl_le_len [] T
  omega
theorem sel_all (l : List Pair) : sel l (List.range l.length) = l := by
  unfold sel
  induction l with
  | nil => rfl
  | cons a l ih =>
    rw [List.length_cons, List.range_succ_eq_map, List.filterMap_cons]
    simp only [List.getElem?_cons_zero, List.filterMap_map]
    rw [show ((fun i => (a :: l)[i]?) ∘ Nat.succ) = fun i => l[i]? from by funext i; simp]
    rw [ih]
end Go.Cov
