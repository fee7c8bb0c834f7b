/- quorum: the counting argument of QuorumMeets. -/
import Derived.Test.YtebfmacbdjnhbaaQuorumI
namespace Go.Proofs.Ytebfmacbdjnhbaa
open Go.RowKit Go.Mem
set_option linter.unusedVariables false
/-- the i-th digit of a number to the base 4 -/
def dg (n : Int) (i : Nat) : Int := n / 4 ^ i % 4
theorem dg_range (n : Int) (i : Nat) : 0 ≤ dg n i ∧ dg n i < 4 := ⟨Int.emod_nonneg _ (by omega), Int.emod_lt_of_pos _ (by omega)⟩
/-- those nodes of a list, from a place on, that have a digit -/
def splitFrom (n : Int) (k : Int) : Nat → List Ch → List ByteArray
  | _, [] => []
  | i, x :: l => if dg n i = k then x.node :: splitFrom n k (i + 1) l else splitFrom n k (i + 1) l
def splitL (l : List Ch) (n k : Int) : List ByteArray := splitFrom n k 0 l
theorem splitFrom_snoc (n k : Int) (i : Nat) (l : List Ch) (x : Ch) : splitFrom n k i (l ++ [x]) = splitFrom n k i l ++ (if dg n (i + l.length) = k then [x.node] else []) := by
  induction l generalizing i with
  | nil => simp [splitFrom]
  | cons y l ih =>
    simp only [List.cons_append, splitFrom, ih, List.length_cons]
    rw [show i + 1 + l.length = i + (l.length + 1) by omega]
    split <;> simp
theorem splitL_snoc (l : List Ch) (n k : Int) (x : Ch) : splitL (l ++ [x]) n k = splitL l n k ++ (if dg n l.length = k then [x.node] else []) := by
  unfold splitL; rw [splitFrom_snoc, Nat.zero_add]
theorem splitFrom_mem {n k : Int} {l : List Ch} {i : Nat} {s : ByteArray} : s ∈ splitFrom n k i l ↔ ∃ j, ∃ h : j < l.length, l[j].node = s ∧ dg n (i + j) = k := by
  induction l generalizing i with
  | nil => simp [splitFrom]
  | cons y l ih =>
    unfold splitFrom
    constructor
    · intro h
      split at h
      · rename_i hd
        rcases List.mem_cons.1 h with rfl | h
        · exact ⟨0, by simp, rfl, by simpa using hd⟩
        · obtain ⟨j, hj, h1, h2⟩ := ih.1 h
          exact ⟨j + 1, by simp; omega, by simpa using h1, by rw [show i + (j + 1) = i + 1 + j by omega]; exact h2⟩
      · obtain ⟨j, hj, h1, h2⟩ := ih.1 h
        exact ⟨j + 1, by simp; omega, by simpa using h1, by rw [show i + (j + 1) = i + 1 + j by omega]; exact h2⟩
    · rintro ⟨j, hj, h1, h2⟩
      cases j with
      | zero =>
        simp only [List.getElem_cons_zero, Nat.add_zero] at h1 h2
        rw [if_pos h2]; simp [h1]
      | succ j =>
        have := ih.2 ⟨j, by simpa using hj, by simpa using h1, by rw [show i + 1 + j = i + (j + 1) by omega]; exact h2⟩
        split
        · exact List.mem_cons_of_mem _ this
        · exact this
theorem splitL_mem {l : List Ch} {n k : Int} (hd : (l.map Ch.node).Nodup) {i : Nat} (hi : i < l.length) : mem l[i].node (splitL l n k) = decide (dg n i = k) := by
  rw [Bool.eq_iff_iff, mem_iff, decide_eq_true_eq]
  unfold splitL
  rw [splitFrom_mem]
  constructor
  · rintro ⟨j, hj, h1, h2⟩
    have : j = i := by
      have := (List.getElem_inj (xs := l.map Ch.node) (i := j) (j := i) (h₀ := by simpa using hj) (h₁ := by simpa using hi) hd).1 (by simpa using h1)
      exact this
    subst this
    simpa using h2
  · intro h; exact ⟨i, hi, rfl, by simpa using h⟩
theorem splitL_le (l : List Ch) (n k : Int) : (splitL l n k).length ≤ l.length := by
  have : ∀ i, (splitFrom n k i l).length ≤ l.length := by
    induction l with
    | nil => intro i; exact Nat.le_refl _
    | cons x l ih => intro i; unfold splitFrom; split; simp; exact ih _; exact Nat.le_succ_of_le (ih _)
  exact this 0
/-- how many are there by claim -/
def claimedN (l : List Ch) : Nat := (l.filter Ch.prim).length
theorem meets_count (p q : ByteArray → Bool) (l : List Ch) (h : ∀ x ∈ l, x.prim = true → p x.node = true → q x.node = false) : cntP p l + cntP q l ≤ claimedN l := by
  induction l with
  | nil => exact Nat.le_refl _
  | cons x l ih =>
    have ih := ih (fun y hy => h y (by simp [hy]))
    have hx := h x (by simp)
    unfold cntP claimedN at *
    simp only [List.filter_cons]
    cases hb : x.prim
    · simp only [Bool.and_false, Bool.false_eq_true, if_false]; exact ih
    · cases hp : p x.node
      · cases hq : q x.node <;> simp <;> omega
      · rw [hx hb hp]; simp; omega
/-- with strict properties a read and a write that are met have one in common -/
theorem meets_plain (p : Pr) (l : List Ch) (n0 n1 : Int) (hd : (l.map Ch.node).Nodup) (hstrict : p.n < p.pr + p.pw) (hbasic : p.basic = false) (hcl : (claimedN l : Int) ≤ p.n)
    (hw : writeL p l (splitL l n0 0) (splitL l n0 2) = 1) (hr : readL p l (splitL l n1 0) (splitL l n1 1) (splitL l n1 2) = 1 ∨ readL p l (splitL l n1 0) (splitL l n1 1) (splitL l n1 2) = 3) :
    ∃ i, ∃ h : i < l.length, l[i].prim = true ∧ dg n0 i = 0 ∧ (dg n1 i = 0 ∨ (dg n1 i = 1 ∧ p.missing = true)) := by
  have h1 : p.pw ≤ (cntP (fun s => mem s (splitL l n0 0)) l : Nat) := by
    unfold writeL enoughB at hw
    split at hw
    · rename_i h; rw [Bool.and_eq_true, decide_eq_true_eq, decide_eq_true_eq] at h; exact h.2
    · split at hw <;> cases hw
  have h2 : p.pr ≤ (cntP (whoL p (splitL l n1 0) (splitL l n1 1)) l : Nat) := by
    have hne : enoughB p.r p.pr (whoL p (splitL l n1 0) (splitL l n1 1)) l = true := by
      cases he : enoughB p.r p.pr (whoL p (splitL l n1 0) (splitL l n1 1)) l
      · unfold readL at hr
        rw [he, hbasic] at hr
        simp only [Bool.false_and, Bool.false_eq_true, if_false] at hr
        split at hr <;> simp at hr
      · rfl
    unfold enoughB at hne
    rw [Bool.and_eq_true, decide_eq_true_eq, decide_eq_true_eq] at hne
    exact hne.2
  apply Classical.byContradiction
  intro hno
  have := meets_count (fun s => mem s (splitL l n0 0)) (whoL p (splitL l n1 0) (splitL l n1 1)) l (fun x hx hp hm => by
    obtain ⟨i, hi, rfl⟩ := List.mem_iff_getElem.1 hx
    have hm : mem l[i].node (splitL l n0 0) = true := hm
    rw [splitL_mem hd hi, decide_eq_true_eq] at hm
    cases hq : whoL p (splitL l n1 0) (splitL l n1 1) l[i].node
    · rfl
    · exfalso; apply hno
      refine ⟨i, hi, hp, hm, ?_⟩
      unfold whoL at hq
      cases hms : p.missing
      · rw [hms] at hq
        simp only [Bool.false_eq_true, if_false] at hq
        rw [splitL_mem hd hi, decide_eq_true_eq] at hq
        exact .inl hq
      · rw [hms] at hq
        simp only [if_true] at hq
        rw [splitL_mem hd hi, splitL_mem hd hi, Bool.or_eq_true, decide_eq_true_eq, decide_eq_true_eq] at hq
        exact hq.imp id (fun h => ⟨h, rfl⟩))
  omega
end Go.Proofs.Ytebfmacbdjnhbaa
