/- The choices of so many of some pairs, in their order; the first that covers so many; the best: plain. No program in sight. -/
import Derived.Test.YtpiinfjcjpdofaaCovP
namespace Go.Cov
set_option linter.unusedVariables false

/-- the choices of so many of n places, in their order -/
def ch : Nat → Nat → List (List Nat)
  | 0, 0 => [[]]
  | 0, _ + 1 => []
  | _ + 1, 0 => [[]]
  | n + 1, m + 1 => (ch n m).map (fun c => 0 :: c.map (· + 1)) ++ (ch n (m + 1)).map (fun c => c.map (· + 1))
theorem ch_zero (n : Nat) : ch n 0 = [[]] := by cases n <;> rfl
/-- the pairs of a choice -/
def sel (l : List Pair) (c : List Nat) : List Pair := c.filterMap fun i => l[i]?
theorem sel_nil (l : List Pair) : sel l [] = [] := rfl
theorem sel_zero (e : Pair) (l : List Pair) (c : List Nat) : sel (e :: l) (0 :: c.map (· + 1)) = e :: sel l c := by
  unfold sel; simp [List.filterMap_map, Function.comp_def]
theorem sel_succ (e : Pair) (l : List Pair) (c : List Nat) : sel (e :: l) (c.map (· + 1)) = sel l c := by
  unfold sel; simp [List.filterMap_map, Function.comp_def]
theorem sel_snoc (l : List Pair) (c : List Nat) (i : Nat) (h : i < l.length) : sel l (c ++ [i]) = sel l c ++ [l[i]] := by
  unfold sel; rw [List.filterMap_append]; simp [h]

/-- does a list of places rise, and lie in range? -/
def Rising (n : Nat) (c : List Nat) : Prop := c.Pairwise (· < ·) ∧ ∀ i ∈ c, i < n
theorem rising_map {n : Nat} {c : List Nat} (h : Rising n c) : Rising (n + 1) (c.map (· + 1)) := by
  refine ⟨?_, fun i hi => ?_⟩
  · rw [List.pairwise_map]; exact h.1.imp (by omega)
  · obtain ⟨j, hj, rfl⟩ := List.mem_map.1 hi; have := h.2 j hj; omega
theorem ch_props : ∀ (l : List Pair) (m : Nat) (c : List Nat), c ∈ ch l.length m → (sel l c).Sublist l ∧ (sel l c).length = m ∧ c.length = m ∧ Rising l.length c
  | [], 0, c, h => by simp [ch] at h; subst h; exact ⟨List.Sublist.refl _, rfl, rfl, by simp [Rising]⟩
  | [], m + 1, c, h => by simp [ch] at h
  | e :: l, 0, c, h => by simp [ch] at h; subst h; exact ⟨by simp [sel], rfl, rfl, by simp [Rising]⟩
  | e :: l, m + 1, c, h => by
    rw [List.length_cons, ch, List.mem_append, List.mem_map, List.mem_map] at h
    rcases h with ⟨d, hd, rfl⟩ | ⟨d, hd, rfl⟩
    · obtain ⟨h1, h2, h3, h4⟩ := ch_props l m d hd
      rw [sel_zero]
      refine ⟨List.Sublist.cons_cons _ h1, by simp [h2], by simp [h3], ?_⟩
      have h5 := rising_map h4
      refine ⟨List.pairwise_cons.2 ⟨fun i hi => by obtain ⟨j, _, rfl⟩ := List.mem_map.1 hi; omega, h5.1⟩, fun i hi => ?_⟩
      rcases List.mem_cons.1 hi with rfl | hi
      · simp
      · exact h5.2 i hi
    · obtain ⟨h1, h2, h3, h4⟩ := ch_props l (m + 1) d hd
      rw [sel_succ]
      exact ⟨h1.cons _, h2, by simp [h3], rising_map h4⟩
theorem sub_ch {S l : List Pair} (h : S.Sublist l) : ∃ c ∈ ch l.length S.length, sel l c = S := by
  induction h with
  | slnil => exact ⟨[], by simp [ch], rfl⟩
  | @cons S l a h ih =>
    obtain ⟨c, h1, h2⟩ := ih
    cases hS : S with
    | nil => exact ⟨[], by simp [ch], rfl⟩
    | cons x S' =>
      rw [hS] at h1 h2
      refine ⟨c.map (· + 1), ?_, by rw [sel_succ]; exact h2⟩
      rw [List.length_cons, List.length_cons, ch, List.mem_append]
      exact .inr (List.mem_map_of_mem (by simpa using h1))
  | @cons_cons S l a h ih =>
    obtain ⟨c, h1, h2⟩ := ih
    refine ⟨0 :: c.map (· + 1), ?_, by rw [sel_zero, h2]⟩
    rw [List.length_cons, List.length_cons, ch, List.mem_append]
    exact .inl (List.mem_map.2 ⟨c, h1, rfl⟩)

/-- does a choice cover so many more? -/
def okc (l : List Pair) (a b : Int) (L R : List Int) (c : List Nat) : Bool := decide (a ≤ nl L (sel l c)) && decide (b ≤ nr R (sel l c))
theorem okc_iff {l : List Pair} {a b : Int} {L R : List Int} {c : List Nat} : okc l a b L R c = true ↔ a ≤ nl L (sel l c) ∧ b ≤ nr R (sel l c) := by unfold okc; simp
theorem does_ch {l : List Pair} {m : Nat} {a b : Int} {L R : List Int} : Does l m a b L R ↔ ∃ c ∈ ch l.length m, okc l a b L R c = true := by
  constructor
  · rintro ⟨S, h1, h2, h3, h4⟩
    obtain ⟨c, h5, rfl⟩ := sub_ch h1
    have : (sel l c).length = m := by omega
    rw [this] at h5
    exact ⟨c, h5, okc_iff.2 ⟨h3, h4⟩⟩
  · rintro ⟨c, h1, h2⟩
    obtain ⟨h3, h4, _⟩ := ch_props l m c h1
    obtain ⟨h5, h6⟩ := okc_iff.1 h2
    exact ⟨_, h3, by omega, h5, h6⟩
def one (L : List Int) (x : Int) : Int := if x ∈ L then 0 else 1
theorem okc_zero (e : Pair) (l : List Pair) (a b : Int) (L R : List Int) (c : List Nat) : okc (e :: l) a b L R (0 :: c.map (· + 1)) = okc l (a - one L e.1) (b - one R e.2) (e.1 :: L) (e.2 :: R) c := by
  rw [Bool.eq_iff_iff, okc_iff, okc_iff, sel_zero]
  unfold nl nr one
  rw [List.map_cons, List.map_cons, cn_cons', cn_cons']
  by_cases h1 : e.1 ∈ L <;> by_cases h2 : e.2 ∈ R <;> simp only [h1, h2, if_true, if_false] <;> constructor <;> rintro ⟨h3, h4⟩ <;> constructor <;> omega
theorem okc_succ (e : Pair) (l : List Pair) (a b : Int) (L R : List Int) (c : List Nat) : okc (e :: l) a b L R (c.map (· + 1)) = okc l a b L R c := by unfold okc; rw [sel_succ]
/-- the first choice that covers so many -/
def firstC (l : List Pair) (m : Nat) (a b : Int) (L R : List Int) : Option (List Nat) := (ch l.length m).find? (okc l a b L R)
theorem firstC_none {l : List Pair} {m : Nat} {a b : Int} {L R : List Int} : firstC l m a b L R = none ↔ ¬ Does l m a b L R := by
  unfold firstC; rw [List.find?_eq_none, does_ch]
  constructor
  · rintro h ⟨c, h1, h2⟩; exact h c h1 h2
  · intro h c h1 h2; exact h ⟨c, h1, h2⟩
theorem firstC_zero {l : List Pair} {a b : Int} {L R : List Int} (h : Does l 0 a b L R) : firstC l 0 a b L R = some [] := by
  cases hf : firstC l 0 a b L R with
  | none => exact absurd h (firstC_none.1 hf)
  | some c =>
    have := List.mem_of_find?_eq_some hf
    rw [ch_zero, List.mem_singleton] at this
    rw [this]
theorem firstC_cons (e : Pair) (l : List Pair) (m : Nat) (a b : Int) (L R : List Int) :
    firstC (e :: l) (m + 1) a b L R = ((firstC l m (a - one L e.1) (b - one R e.2) (e.1 :: L) (e.2 :: R)).map fun c => 0 :: c.map (· + 1)).or ((firstC l (m + 1) a b L R).map fun c => c.map (· + 1)) := by
  unfold firstC
  rw [List.length_cons, ch, List.find?_append, List.find?_map, List.find?_map]
  congr 3
  · funext c; exact okc_zero e l a b L R c
  · funext c; exact okc_succ e l a b L R c
theorem firstC_take {e : Pair} {l : List Pair} {m : Nat} {a b : Int} {L R : List Int} (h : Does l m (a - one L e.1) (b - one R e.2) (e.1 :: L) (e.2 :: R)) :
    firstC (e :: l) (m + 1) a b L R = (firstC l m (a - one L e.1) (b - one R e.2) (e.1 :: L) (e.2 :: R)).map fun c => 0 :: c.map (· + 1) := by
  rw [firstC_cons]
  cases hf : firstC l m (a - one L e.1) (b - one R e.2) (e.1 :: L) (e.2 :: R) with
  | none => exact absurd h (firstC_none.1 hf)
  | some c => rfl
theorem firstC_skip {e : Pair} {l : List Pair} {m : Nat} {a b : Int} {L R : List Int} (h : ¬ Does l m (a - one L e.1) (b - one R e.2) (e.1 :: L) (e.2 :: R)) :
    firstC (e :: l) (m + 1) a b L R = (firstC l (m + 1) a b L R).map fun c => c.map (· + 1) := by
  rw [firstC_cons, firstC_none.2 h]; rfl
theorem does_skip {e : Pair} {l : List Pair} {m : Nat} {a b : Int} {L R : List Int} (h : Does (e :: l) ((m + 1 : Nat) : Int) a b L R) (hn : ¬ Does l m (a - one L e.1) (b - one R e.2) (e.1 :: L) (e.2 :: R)) : Does l ((m + 1 : Nat) : Int) a b L R := by
  apply Classical.byContradiction
  intro h2
  have := firstC_skip hn
  rw [firstC_none.2 h2] at this
  exact firstC_none.1 this h
theorem does_nil {m : Nat} {a b : Int} {L R : List Int} (h : Does [] m a b L R) : m = 0 := by
  obtain ⟨S, h1, h2, _⟩ := h
  have := h1.length_le
  simp at this
  subst this
  simp at h2; omega
theorem does_congr {l : List Pair} {m a b : Int} {L R L' R' : List Int} (hL : ∀ z, z ∈ L ↔ z ∈ L') (hR : ∀ z, z ∈ R ↔ z ∈ R') (h : Does l m a b L R) : Does l m a b L' R' := by
  obtain ⟨S, h1, h2, h3, h4⟩ := h
  have e1 : nl L S = nl L' S := cn_congr hL fun _ _ => Iff.rfl
  have e2 : nr R S = nr R' S := cn_congr hR fun _ _ => Iff.rfl
  exact ⟨S, h1, h2, e1 ▸ h3, e2 ▸ h4⟩

/-- the best: so many on the left, and then on the right -/
structure Best (l : List Pair) (m x y : Nat) : Prop where
  some_ : ∃ S, S.Sublist l ∧ S.length = m ∧ nl [] S = x ∧ nr [] S = y
  most : ∀ S, S.Sublist l → S.length = m → nl [] S < x ∨ (nl [] S = x ∧ nr [] S ≤ y)
theorem Best.eq {l : List Pair} {m x y x' y' : Nat} (h : Best l m x y) (k : Best l m x' y') : x = x' ∧ y = y' := by
  obtain ⟨S, a, b, c, d⟩ := h.some_
  obtain ⟨T, a', b', c', d'⟩ := k.some_
  have h1 := h.most T a' b'
  have h2 := k.most S a b
  omega
theorem nl_le_len (L : List Int) (S : List Pair) : nl L S ≤ S.length := by have := cn_le L (S.map (·.1)); rw [List.length_map] at this; exact this
theorem nr_le_len (R : List Int) (S : List Pair) : nr R S ≤ S.length := by have := cn_le R (S.map (·.2)); rw [List.length_map] at this; exact this
theorem exMax (l : List Pair) : ∃ m, IsMax l m := by
  have : ∀ k : Nat, (∀ T : List Pair, T.Sublist l → Apart T → T.length ≤ k) → ∃ m, IsMax l m := by
    intro k
    induction k with
    | zero => exact fun h => ⟨0, ⟨[], by simp, ⟨by simp, by simp⟩, rfl⟩, h⟩
    | succ k ih =>
      intro h
      by_cases hs : ∃ T : List Pair, T.Sublist l ∧ Apart T ∧ T.length = k + 1
      · exact ⟨k + 1, hs, h⟩
      · exact ih fun T h1 h2 => by
          have := h T h1 h2
          by_cases e : T.length = k + 1
          · exact absurd ⟨T, h1, h2, e⟩ hs
          · omega
  exact this l.length fun T h _ => h.length_le
theorem does_left {l : List Pair} {m : Nat} (hm : m ≤ l.length) : Does l m (min (nl [] l) m : Nat) 0 [] [] := by
  obtain ⟨k, hk⟩ := exMax (fresh [] [] l)
  exact (can_iff hk _ _ _).1 ⟨by omega, by omega, by omega, by omega, by omega⟩
theorem best_of {l : List Pair} {m b : Nat} (hm : m ≤ l.length) (h1 : b = 0 ∨ Does l m (min (nl [] l) m : Nat) b [] []) (h2 : ∀ b', b < b' → b' ≤ min (nr [] l) m → ¬ Does l m (min (nl [] l) m : Nat) b' [] []) : Best l m (min (nl [] l) m) b := by
  have hd : Does l m (min (nl [] l) m : Nat) b [] [] := by
    rcases h1 with rfl | h1
    · exact does_left hm
    · exact h1
  have hup : ∀ S : List Pair, S.Sublist l → S.length = m → nl [] S ≤ min (nl [] l) m ∧ nr [] S ≤ min (nr [] l) m := fun S a c => by
    have := nl_mono (L := []) a; have := nr_mono (L := []) a; have := nl_le_len [] S; have := nr_le_len [] S
    omega
  have hno : ∀ S : List Pair, S.Sublist l → S.length = m → nl [] S = min (nl [] l) m → nr [] S ≤ b := fun S a c d => by
    apply Classical.byContradiction
    intro hb
    exact h2 (nr [] S) (by omega) (hup S a c).2 ⟨S, a, by omega, by omega, Int.le_refl _⟩
  obtain ⟨S, s1, s2, s3, s4⟩ := hd
  have s5 := hup S s1 (by omega)
  have s6 := hno S s1 (by omega) (by omega)
  refine ⟨⟨S, s1, by omega, by omega, by omega⟩, fun T t1 t2 => ?_⟩
  have t3 := hup T t1 t2
  by_cases e : nl [] T = min (nl [] l) m
  · exact .inr ⟨e, hno T t1 t2 e⟩
  · exact .inl (by omega)
theorem best_okc {l : List Pair} {m x y : Nat} (h : Best l m x y) {c : List Nat} (hc : c ∈ ch l.length m) : okc l x y [] [] c = true ↔ nl [] (sel l c) = x ∧ nr [] (sel l c) = y := by
  rw [okc_iff]
  obtain ⟨h1, h2, _⟩ := ch_props l m c hc
  have := h.most _ h1 h2
  omega
theorem best_does {l : List Pair} {m x y : Nat} (h : Best l m x y) : Does l m x y [] [] := by
  obtain ⟨S, h1, h2, h3, h4⟩ := h.some_
  exact ⟨S, h1, by omega, by omega, by omega⟩
theorem best_right {l : List Pair} {m x y : Nat} (h : Best l m x y) (hx : x = min (nl [] l) m) : Does l m (min (nl [] l) m : Nat) (min (nr [] l) m : Nat) [] [] ↔ y = min (nr [] l) m := by
  constructor
  · rintro ⟨S, h1, h2, h3, h4⟩
    have h5 := h.most S h1 (by omega)
    obtain ⟨T, t1, t2, t3, t4⟩ := h.some_
    have := nr_mono (L := []) t1; have := nr_le_len [] T
    omega
  · intro hy
    rw [← hx, ← hy]
    exact best_does h
end Go.Cov
