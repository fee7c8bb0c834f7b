/- What so many pairs can cover: the plain law. No program in sight. -/
import Derived.Lib.Hide
namespace Go.Cov
set_option linter.unusedVariables false

/-- how many numbers of a list are not in another one, each once -/
def cn (L : List Int) : List Int → Nat
  | [] => 0
  | x :: xs => cn L xs + if x ∈ L ∨ x ∈ xs then 0 else 1

theorem nodup_le : ∀ (D E : List Int), D.Nodup → (∀ z ∈ D, z ∈ E) → D.length ≤ E.length
  | [], _, _, _ => Nat.zero_le _
  | d :: D, E, h, hs => by
    obtain ⟨h1, h2⟩ := List.nodup_cons.1 h
    have hd : d ∈ E := hs d (by simp)
    have := nodup_le D (E.erase d) h2 (fun z hz => (List.mem_erase_of_ne (by rintro rfl; exact h1 hz)).2 (hs z (by simp [hz])))
    rw [List.length_erase_of_mem hd] at this
    have := List.length_pos_of_mem hd
    simp only [List.length_cons]
    omega

theorem cn_spec (L : List Int) : ∀ xs, ∃ D : List Int, D.Nodup ∧ (∀ z, z ∈ D ↔ z ∈ xs ∧ z ∉ L) ∧ D.length = cn L xs
  | [] => ⟨[], by simp, by simp, rfl⟩
  | x :: xs => by
    obtain ⟨D, h1, h2, h3⟩ := cn_spec L xs
    by_cases h : x ∈ L ∨ x ∈ xs
    · refine ⟨D, h1, fun z => ?_, by simp [cn, h, h3]⟩
      rw [h2, List.mem_cons]
      constructor
      · rintro ⟨a, b⟩; exact ⟨.inr a, b⟩
      · rintro ⟨rfl | a, b⟩
        · rcases h with h | h
          · exact absurd h b
          · exact ⟨h, b⟩
        · exact ⟨a, b⟩
    · have h' := not_or.1 h
      refine ⟨x :: D, List.nodup_cons.2 ⟨fun hx => h'.2 ((h2 x).1 hx).1, h1⟩, fun z => ?_, by simp [cn, h, h3]⟩
      rw [List.mem_cons, List.mem_cons, h2]
      constructor
      · rintro (rfl | ⟨a, b⟩)
        · exact ⟨.inl rfl, h'.1⟩
        · exact ⟨.inr a, b⟩
      · rintro ⟨rfl | a, b⟩
        · exact .inl rfl
        · exact .inr ⟨a, b⟩

theorem cn_of {L xs D : List Int} (h1 : D.Nodup) (h2 : ∀ z, z ∈ D ↔ z ∈ xs ∧ z ∉ L) : D.length = cn L xs := by
  obtain ⟨E, e1, e2, e3⟩ := cn_spec L xs
  rw [← e3]
  exact Nat.le_antisymm (nodup_le _ _ h1 fun z hz => (e2 z).2 ((h2 z).1 hz)) (nodup_le _ _ e1 fun z hz => (h2 z).2 ((e2 z).1 hz))
theorem cn_mono {L xs ys : List Int} (h : ∀ z ∈ xs, z ∉ L → z ∈ ys) : cn L xs ≤ cn L ys := by
  obtain ⟨D, d1, d2, d3⟩ := cn_spec L xs
  obtain ⟨E, e1, e2, e3⟩ := cn_spec L ys
  rw [← d3, ← e3]
  exact nodup_le _ _ d1 fun z hz => (e2 z).2 ⟨h z ((d2 z).1 hz).1 ((d2 z).1 hz).2, ((d2 z).1 hz).2⟩
theorem cn_more {L xs ys : List Int} (h : ∀ z ∈ xs, z ∉ L → z ∈ ys) {x : Int} (h1 : x ∈ ys) (h2 : x ∉ L) (h3 : x ∉ xs) : cn L xs + 1 ≤ cn L ys := by
  have h4 : cn L (x :: xs) ≤ cn L ys := cn_mono fun z hz hl => by
    rcases List.mem_cons.1 hz with rfl | hz
    · exact h1
    · exact h z hz hl
  have h5 : cn L (x :: xs) = cn L xs + 1 := by simp [cn, h2, h3]
  omega
theorem cn_congr {L L' xs ys : List Int} (hL : ∀ z, z ∈ L ↔ z ∈ L') (hx : ∀ z, z ∉ L → (z ∈ xs ↔ z ∈ ys)) : cn L xs = cn L' ys := by
  obtain ⟨D, d1, d2, d3⟩ := cn_spec L xs
  rw [← d3]
  refine cn_of d1 fun z => ?_
  rw [d2, ← hL]
  constructor
  · rintro ⟨a, b⟩; exact ⟨(hx z b).1 a, b⟩
  · rintro ⟨a, b⟩; exact ⟨(hx z b).2 a, b⟩
theorem cn_le (L xs : List Int) : cn L xs ≤ xs.length := by
  induction xs with
  | nil => exact Nat.le_refl _
  | cons x xs ih => unfold cn; simp only [List.length_cons]; split <;> omega
theorem cn_all {L : List Int} : ∀ {xs : List Int}, xs.Nodup → (∀ z ∈ xs, z ∉ L) → cn L xs = xs.length
  | [], _, _ => rfl
  | x :: xs, h1, h2 => by
    obtain ⟨a, b⟩ := List.nodup_cons.1 h1
    have := cn_all (L := L) b (fun z hz => h2 z (by simp [hz]))
    simp [cn, h2 x (by simp), a, this]
theorem cn_cons' (L : List Int) (x : Int) (xs : List Int) : cn L (x :: xs) = (if x ∈ L then 0 else 1) + cn (x :: L) xs := by
  obtain ⟨D, d1, d2, d3⟩ := cn_spec (x :: L) xs
  by_cases h : x ∈ L
  · rw [if_pos h, Nat.zero_add, ← d3]
    refine (cn_of d1 fun z => ?_).symm
    rw [d2, List.mem_cons, List.mem_cons]
    constructor
    · rintro ⟨a, b⟩; exact ⟨.inr a, fun hz => b (.inr hz)⟩
    · rintro ⟨rfl | a, b⟩
      · exact absurd h b
      · exact ⟨a, by rintro (rfl | c); exact b h; exact b c⟩
  · rw [if_neg h, ← d3, ← cn_of (L := L) (xs := x :: xs) (D := x :: D) (List.nodup_cons.2 ⟨fun hx => ((d2 x).1 hx).2 (by simp), d1⟩) fun z => ?_]
    · simp [Nat.add_comm]
    · rw [List.mem_cons, d2, List.mem_cons, List.mem_cons]
      constructor
      · rintro (rfl | ⟨a, b⟩)
        · exact ⟨.inl rfl, h⟩
        · exact ⟨.inr a, fun hz => b (.inr hz)⟩
      · rintro ⟨rfl | a, b⟩
        · exact .inl rfl
        · by_cases e : z = x
          · exact .inl e
          · exact .inr ⟨a, by rintro (c | c); exact e c; exact b c⟩
theorem cn_snoc (L xs : List Int) (x : Int) : cn L (xs ++ [x]) = cn L xs + if x ∈ L ∨ x ∈ xs then 0 else 1 := by
  have : cn L (xs ++ [x]) = cn L (x :: xs) := cn_congr (fun _ => Iff.rfl) fun z _ => by simp [or_comm]
  rw [this]; rfl

abbrev Pair := Int × Int
def nl (L : List Int) (S : List Pair) : Nat := cn L (S.map (·.1))
def nr (R : List Int) (S : List Pair) : Nat := cn R (S.map (·.2))

theorem sub_ins {S l : List Pair} (h : S.Sublist l) {e : Pair} (he : e ∈ l) (hn : e ∉ S) : ∃ S', S.Sublist S' ∧ S'.Sublist l ∧ S'.length = S.length + 1 ∧ e ∈ S' := by
  induction h with
  | slnil => cases he
  | @cons S l a h ih =>
    by_cases ea : e = a
    · subst ea
      exact ⟨e :: S, List.sublist_cons_self _ _, List.Sublist.cons_cons _ h, rfl, by simp⟩
    · obtain ⟨S', h1, h2, h3, h4⟩ := ih ((List.mem_cons.1 he).resolve_left ea) hn
      exact ⟨S', h1, h2.cons _, h3, h4⟩
  | @cons_cons S l a h ih =>
    have ea : e ≠ a := fun x => hn (by simp [x])
    obtain ⟨S', h1, h2, h3, h4⟩ := ih ((List.mem_cons.1 he).resolve_left ea) (fun x => hn (by simp [x]))
    exact ⟨a :: S', List.Sublist.cons_cons _ h1, List.Sublist.cons_cons _ h2, by simp [h3], by simp [h4]⟩
theorem sub_pad {S l : List Pair} (h : S.Sublist l) (hn : S.length < l.length) : ∃ S', S.Sublist S' ∧ S'.Sublist l ∧ S'.length = S.length + 1 := by
  induction h with
  | slnil => simp at hn
  | @cons S l a h ih => exact ⟨a :: S, List.sublist_cons_self _ _, List.Sublist.cons_cons _ h, rfl⟩
  | @cons_cons S l a h ih =>
    obtain ⟨S', h1, h2, h3⟩ := ih (by simpa using hn)
    exact ⟨a :: S', List.Sublist.cons_cons _ h1, List.Sublist.cons_cons _ h2, by simp [h3]⟩
theorem sub_pads {l : List Pair} : ∀ (d : Nat) (S : List Pair), S.Sublist l → S.length + d ≤ l.length → ∃ S', S.Sublist S' ∧ S'.Sublist l ∧ S'.length = S.length + d
  | 0, S, h, _ => ⟨S, List.Sublist.refl _, h, rfl⟩
  | d + 1, S, h, hl => by
    obtain ⟨S', h1, h2, h3⟩ := sub_pad h (by omega)
    obtain ⟨S'', h4, h5, h6⟩ := sub_pads d S' h2 (by omega)
    exact ⟨S'', h1.trans h4, h5, by omega⟩
theorem nl_mono {L : List Int} {S T : List Pair} (h : S.Sublist T) : nl L S ≤ nl L T := cn_mono fun z hz _ => (h.map _).subset hz
theorem nr_mono {L : List Int} {S T : List Pair} (h : S.Sublist T) : nr L S ≤ nr L T := cn_mono fun z hz _ => (h.map _).subset hz
theorem ext_left {L : List Int} {l : List Pair} {t : Nat} (ht : t ≤ nl L l) : ∀ (d : Nat) (S : List Pair), S.Sublist l → t ≤ nl L S + d → ∃ S', S.Sublist S' ∧ S'.Sublist l ∧ S'.length ≤ S.length + d ∧ t ≤ nl L S'
  | 0, S, h, hl => ⟨S, List.Sublist.refl _, h, Nat.le_refl _, hl⟩
  | d + 1, S, h, hl => by
    by_cases hd : t ≤ nl L S
    · exact ⟨S, List.Sublist.refl _, h, by omega, hd⟩
    · have hex : ∃ e ∈ l, e.1 ∉ L ∧ e.1 ∉ S.map (·.1) := by
        apply Classical.byContradiction
        intro hc
        have : nl L l ≤ nl L S := cn_mono fun z hz hzl => by
          obtain ⟨e, he, rfl⟩ := List.mem_map.1 hz
          apply Classical.byContradiction
          intro hz'
          exact hc ⟨e, he, hzl, hz'⟩
        omega
      obtain ⟨e, he, h1, h2⟩ := hex
      obtain ⟨S', s1, s2, s3, s4⟩ := sub_ins h he (fun x => h2 (List.mem_map_of_mem x))
      have hm : nl L S + 1 ≤ nl L S' := cn_more (fun z hz _ => (s1.map _).subset hz) (List.mem_map_of_mem s4) h1 h2
      obtain ⟨S'', t1, t2, t3, t4⟩ := ext_left ht d S' s2 (by omega)
      exact ⟨S'', s1.trans t1, t2, by omega, t4⟩
theorem swap_sub {S l : List Pair} (h : S.Sublist l) : (S.map Prod.swap).Sublist (l.map Prod.swap) := h.map _
theorem nl_swap (L : List Int) (S : List Pair) : nl L (S.map Prod.swap) = nr L S := by unfold nl nr; simp [Function.comp_def]
theorem swap_swap (S : List Pair) : (S.map Prod.swap).map Prod.swap = S := by simp
theorem ext_right {L : List Int} {l : List Pair} {t : Nat} (ht : t ≤ nr L l) (d : Nat) (S : List Pair) (h : S.Sublist l) (hl : t ≤ nr L S + d) : ∃ S', S.Sublist S' ∧ S'.Sublist l ∧ S'.length ≤ S.length + d ∧ t ≤ nr L S' := by
  obtain ⟨S', h1, h2, h3, h4⟩ := ext_left (L := L) (l := l.map Prod.swap) (t := t) (by rw [nl_swap]; exact ht) d (S.map Prod.swap) (swap_sub h) (by rw [nl_swap]; exact hl)
  refine ⟨S'.map Prod.swap, ?_, ?_, by simpa using h3, ?_⟩
  · have := h1.map Prod.swap; rwa [swap_swap] at this
  · have := h2.map Prod.swap; rwa [swap_swap] at this
  · rw [← nl_swap, swap_swap]; exact h4

/-- pairs no two of which share a side -/
def Apart (T : List Pair) : Prop := (T.map (·.1)).Nodup ∧ (T.map (·.2)).Nodup
theorem greedy (L R : List Int) : ∀ S : List Pair, ∃ T, T.Sublist S ∧ Apart T ∧ (∀ e ∈ T, e.1 ∉ L ∧ e.2 ∉ R) ∧ nl L S + nr R S ≤ S.length + T.length
  | [] => ⟨[], List.Sublist.refl _, ⟨by simp, by simp⟩, by simp, Nat.le_refl _⟩
  | e :: S => by
    obtain ⟨T, h1, ⟨h2, h3⟩, h4, h5⟩ := greedy L R S
    have e1 : nl L (e :: S) = nl L S + if e.1 ∈ L ∨ e.1 ∈ S.map (·.1) then 0 else 1 := rfl
    have e2 : nr R (e :: S) = nr R S + if e.2 ∈ R ∨ e.2 ∈ S.map (·.2) then 0 else 1 := rfl
    by_cases hl : e.1 ∈ L ∨ e.1 ∈ S.map (·.1)
    · rw [if_pos hl] at e1
      refine ⟨T, h1.cons _, ⟨h2, h3⟩, h4, ?_⟩
      simp only [List.length_cons]
      split at e2 <;> omega
    · by_cases hr : e.2 ∈ R ∨ e.2 ∈ S.map (·.2)
      · rw [if_pos hr] at e2
        refine ⟨T, h1.cons _, ⟨h2, h3⟩, h4, ?_⟩
        simp only [List.length_cons]
        split at e1 <;> omega
      · rw [if_neg hl] at e1
        rw [if_neg hr] at e2
        have hl' := not_or.1 hl
        have hr' := not_or.1 hr
        refine ⟨e :: T, List.Sublist.cons_cons _ h1, ⟨?_, ?_⟩, ?_, ?_⟩
        · rw [List.map_cons, List.nodup_cons]; exact ⟨fun x => hl'.2 ((h1.map _).subset x), h2⟩
        · rw [List.map_cons, List.nodup_cons]; exact ⟨fun x => hr'.2 ((h1.map _).subset x), h3⟩
        · intro g hg
          rcases List.mem_cons.1 hg with rfl | hg
          · exact ⟨hl'.1, hr'.1⟩
          · exact h4 g hg
        · simp only [List.length_cons]; omega

/-- the most pairs of a list no two of which share a side -/
structure IsMax (l : List Pair) (m : Nat) : Prop where
  some_ : ∃ T, T.Sublist l ∧ Apart T ∧ T.length = m
  most : ∀ T, T.Sublist l → Apart T → T.length ≤ m
theorem IsMax.eq {l : List Pair} {m n : Nat} (h : IsMax l m) (k : IsMax l n) : m = n := by
  obtain ⟨T, a, b, c⟩ := h.some_
  obtain ⟨U, d, e, f⟩ := k.some_
  have := h.most U d e
  have := k.most T a b
  omega
def fresh (L R : List Int) (l : List Pair) : List Pair := l.filter fun e => !decide (e.1 ∈ L) && !decide (e.2 ∈ R)
theorem mem_fresh {L R : List Int} {l : List Pair} {e : Pair} : e ∈ fresh L R l ↔ e ∈ l ∧ e.1 ∉ L ∧ e.2 ∉ R := by unfold fresh; simp

/-- 'can': whether so many of the pairs cover so many numbers more; m: the most fresh ones that are apart -/
def canP (l : List Pair) (m : Nat) (many a b : Int) (L R : List Int) : Prop :=
  0 ≤ many ∧ many ≤ l.length ∧ max a 0 ≤ nl L l ∧ max b 0 ≤ nr R l ∧ max a 0 - min (min (m : Int) (max a 0)) (max b 0) ≤ many - max b 0
/-- some choice does it -/
def Does (l : List Pair) (many a b : Int) (L R : List Int) : Prop := ∃ S, S.Sublist l ∧ (S.length : Int) = many ∧ a ≤ nl L S ∧ b ≤ nr R S

theorem can_iff {l : List Pair} {L R : List Int} {m : Nat} (hM : IsMax (fresh L R l) m) (many a b : Int) : canP l m many a b L R ↔ Does l many a b L R := by
  constructor
  · rintro ⟨h1, h2, h3, h4, h5⟩
    obtain ⟨a', ha⟩ : ∃ x : Nat, max a 0 = x := ⟨(max a 0).toNat, by omega⟩
    obtain ⟨b', hb⟩ : ∃ x : Nat, max b 0 = x := ⟨(max b 0).toNat, by omega⟩
    obtain ⟨n, hn⟩ : ∃ x : Nat, many = x := ⟨many.toNat, by omega⟩
    rw [ha, hb] at h5
    rw [ha] at h3; rw [hb] at h4
    have h3' : a' ≤ nl L l := by omega
    have h4' : b' ≤ nr R l := by omega
    subst hn
    obtain ⟨T, t1, ⟨t2, t3⟩, t4⟩ := hM.some_
    obtain ⟨k, hk⟩ : ∃ k, k = min (min m a') b' := ⟨_, rfl⟩
    have hsub : (T.take k).Sublist T := List.take_sublist _ _
    have hl0 : (T.take k).length = k := by rw [List.length_take]; omega
    have hin : ∀ e ∈ T.take k, e.1 ∉ L ∧ e.2 ∉ R := fun e he => (mem_fresh.1 (t1.subset (hsub.subset he))).2
    have hL0 : nl L (T.take k) = k := by
      unfold nl
      rw [cn_all ((hsub.map _).nodup t2) (fun z hz => by obtain ⟨e, he, rfl⟩ := List.mem_map.1 hz; exact (hin e he).1), List.length_map, hl0]
    have hR0 : nr R (T.take k) = k := by
      unfold nr
      rw [cn_all ((hsub.map _).nodup t3) (fun z hz => by obtain ⟨e, he, rfl⟩ := List.mem_map.1 hz; exact (hin e he).2), List.length_map, hl0]
    have hT : (T.take k).Sublist l := (hsub.trans t1).trans List.filter_sublist
    obtain ⟨S1, a1, a2, a3, a4⟩ := ext_left (L := L) h3' (a' - k) _ hT (by omega)
    have hR1 := nr_mono (L := R) a1
    obtain ⟨S2, b1, b2, b3, b4⟩ := ext_right (L := R) h4' (b' - k) S1 a2 (by omega)
    have hL2 := nl_mono (L := L) b1
    have hlen : S2.length ≤ n := by omega
    obtain ⟨S3, c1, c2, c3⟩ := sub_pads (n - S2.length) S2 b2 (by omega)
    have hL3 := nl_mono (L := L) c1
    have hR3 := nr_mono (L := R) c1
    exact ⟨S3, c2, by omega, by omega, by omega⟩
  · rintro ⟨S, h1, h2, h3, h4⟩
    obtain ⟨T, t1, t2, t3, t4⟩ := greedy L R S
    have hT : T.length ≤ m := hM.most T (by
      have := (t1.trans h1).filter fun e => !decide (e.1 ∈ L) && !decide (e.2 ∈ R)
      rwa [List.filter_eq_self.2 (fun e he => by have := t3 e he; simp [this])] at this) t2
    have l1 : nl L S ≤ S.length := by have := cn_le L (S.map (·.1)); rw [List.length_map] at this; exact this
    have l2 : nr R S ≤ S.length := by have := cn_le R (S.map (·.2)); rw [List.length_map] at this; exact this
    have l3 := nl_mono (L := L) h1
    have l4 := nr_mono (L := R) h1
    have l5 := h1.length_le
    refine ⟨by omega, by omega, by omega, by omega, by omega⟩
end Go.Cov
