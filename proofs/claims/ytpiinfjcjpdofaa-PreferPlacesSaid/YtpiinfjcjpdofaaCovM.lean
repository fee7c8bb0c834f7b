/- Pairs no two of which share a side, and how one more is found: the plain law of a search by ways that change pairs. No program in sight. -/
import Derived.Test.YtpiinfjcjpdofaaCovP
namespace Go.Cov
set_option linter.unusedVariables false

/-- the left and the right number of the pair at a place -/
def lf (l : List Pair) (a : Nat) : Int := (l.getD a (0, 0)).1
def rt (l : List Pair) (a : Nat) : Int := (l.getD a (0, 0)).2
/-- places in range, no two of which share a side -/
structure Ap (l : List Pair) (T : List Nat) : Prop where
  nd : T.Nodup
  lt : ∀ a ∈ T, a < l.length
  left : ∀ a ∈ T, ∀ b ∈ T, lf l a = lf l b → a = b
  right : ∀ a ∈ T, ∀ b ∈ T, rt l a = rt l b → a = b
theorem Ap.nil (l : List Pair) : Ap l [] := ⟨by simp, by simp, by simp, by simp⟩
/-- are all numbers on the right of a number on the left in a list? -/
def Nb (l : List Pair) (u : Int) (D : List Int) : Prop := ∀ x ∈ l, x.1 = u → x.2 ∈ D
/-- numbers on the right all of which are paired, with numbers on the left that have no others -/
def Shut (l : List Pair) (T : List Nat) (D : List Int) : Prop := ∀ y ∈ D, ∃ a ∈ T, rt l a = y ∧ Nb l (lf l a) D
/-- what the search for a number's pair has come to: another one is found -/
structure Won (l : List Pair) (T T' : List Nat) (u : Int) (S : List Int) : Prop where
  ap : Ap l T'
  lefts : ∀ v, (∃ a ∈ T', lf l a = v) ↔ v = u ∨ ∃ a ∈ T, lf l a = v
  old : ∀ a ∈ T, rt l a ∈ S → lf l a ≠ u → a ∈ T'
  shut : ∀ D, Shut l T D → ¬ Nb l u D ∧ ∀ a ∈ T, rt l a ∈ D → a ∈ T'
  gone : ∀ o ∈ T, lf l o = u → ∀ a ∈ T', rt l a ≠ rt l o
  len : T'.length = if ∃ a ∈ T, lf l a = u then T.length else T.length + 1
/-- what it has come to: none is found; S: what was seen ahead, S': what is seen -/
structure Lost (l : List Pair) (T : List Nat) (S S' : List Int) : Prop where
  more : ∀ y ∈ S, y ∈ S'
  shut : ∀ y ∈ S', y ∉ S → ∃ a ∈ T, rt l a = y ∧ Nb l (lf l a) S'
theorem Lost.refl (l : List Pair) (T : List Nat) (S : List Int) : Lost l T S S := ⟨fun _ h => h, fun y h k => absurd h k⟩
theorem Nb.mono {l : List Pair} {u : Int} {D D' : List Int} (h : Nb l u D) (hd : ∀ y ∈ D, y ∈ D') : Nb l u D' := fun x hx e => hd _ (h x hx e)
theorem Lost.trans {l : List Pair} {T : List Nat} {S S' S'' : List Int} (h : Lost l T S S') (k : Lost l T S' S'') : Lost l T S S'' :=
  ⟨fun y hy => k.more y (h.more y hy), fun y hy hn => by
    by_cases e : y ∈ S'
    · obtain ⟨a, h1, h2, h3⟩ := h.shut y e hn
      exact ⟨a, h1, h2, h3.mono k.more⟩
    · exact k.shut y hy e⟩
/-- one more number on the right is seen: it is paired, and the search from there has found none -/
theorem Lost.step {l : List Pair} {T : List Nat} {S S' : List Int} {a : Nat} (ha : a ∈ T) (h : Lost l T (rt l a :: S) S') (hn : Nb l (lf l a) S') : Lost l T S S' :=
  ⟨fun y hy => h.more y (by simp [hy]), fun y hy hs => by
    by_cases e : y = rt l a
    · exact ⟨a, ha, e.symm, hn⟩
    · exact h.shut y hy (by simp [e, hs])⟩

theorem lf_at {l : List Pair} {a : Nat} (h : a < l.length) : lf l a = l[a].1 := by unfold lf; rw [List.getD_eq_getElem?_getD, List.getElem?_eq_getElem h]; rfl
theorem rt_at {l : List Pair} {a : Nat} (h : a < l.length) : rt l a = l[a].2 := by unfold rt; rw [List.getD_eq_getElem?_getD, List.getElem?_eq_getElem h]; rfl

/-- T with the pair at 'a' in the place of that which its left number had -/
def swap (l : List Pair) (T : List Nat) (a : Nat) : List Nat := a :: T.filter fun b => !decide (lf l b = lf l a)
theorem mem_swap {l : List Pair} {T : List Nat} {a b : Nat} : b ∈ swap l T a ↔ b = a ∨ (b ∈ T ∧ lf l b ≠ lf l a) := by
  unfold swap; simp
theorem filter_one {l : List Pair} {T : List Nat} (h : Ap l T) (u : Int) : (T.filter fun b => !decide (lf l b = u)).length + (if ∃ b ∈ T, lf l b = u then 1 else 0) = T.length := by
  have nd := h.nd; have left := h.left; clear h
  revert nd left
  induction T with
  | nil => intro _ _; simp
  | cons b T ih =>
    intro nd left
    have ih := ih (List.nodup_cons.1 nd).2 (fun a ha c hc => left a (by simp [ha]) c (by simp [hc]))
    by_cases e : lf l b = u
    · have hno : ¬ ∃ c ∈ T, lf l c = u := by
        rintro ⟨c, hc, h⟩
        have := left b (by simp) c (by simp [hc]) (e.trans h.symm)
        subst this
        exact (List.nodup_cons.1 nd).1 hc
      rw [if_neg hno] at ih
      rw [if_pos ⟨b, by simp, e⟩, List.filter_cons_of_neg (by simp [e]), List.length_cons]
      omega
    · rw [List.filter_cons_of_pos (by simp [e]), List.length_cons, List.length_cons]
      have hiff : (∃ c ∈ b :: T, lf l c = u) ↔ ∃ c ∈ T, lf l c = u := by
        constructor
        · rintro ⟨c, hc, h⟩
          rcases List.mem_cons.1 hc with rfl | hc
          · exact absurd h e
          · exact ⟨c, hc, h⟩
        · rintro ⟨c, hc, h⟩; exact ⟨c, by simp [hc], h⟩
      by_cases k : ∃ c ∈ T, lf l c = u
      · rw [if_pos k] at ih; rw [if_pos (hiff.2 k)]; omega
      · rw [if_neg k] at ih; rw [if_neg (fun h => k (hiff.1 h))]; omega
theorem ap_swap {l : List Pair} {T : List Nat} {a : Nat} (h : Ap l T) (ha : a < l.length) (hr : ∀ b ∈ T, lf l b ≠ lf l a → rt l b ≠ rt l a) : Ap l (swap l T a) := by
  refine ⟨?_, ?_, ?_, ?_⟩
  · unfold swap; rw [List.nodup_cons]; exact ⟨by simp, h.nd.filter _⟩
  · intro b hb; rcases mem_swap.1 hb with rfl | ⟨hb, _⟩
    · exact ha
    · exact h.lt b hb
  · intro b hb c hc e
    rcases mem_swap.1 hb with rfl | ⟨hb, nb⟩ <;> rcases mem_swap.1 hc with rfl | ⟨hc, nc⟩
    · rfl
    · exact absurd e.symm nc
    · exact absurd e nb
    · exact h.left b hb c hc e
  · intro b hb c hc e
    rcases mem_swap.1 hb with eb | ⟨hb, nb⟩ <;> rcases mem_swap.1 hc with ec | ⟨hc, nc⟩
    · rw [eb, ec]
    · exact absurd (eb ▸ e.symm) (hr c hc nc)
    · exact absurd (ec ▸ e) (hr b hb nb)
    · exact h.right b hb c hc e
theorem swap_len {l : List Pair} {T : List Nat} {a : Nat} (h : Ap l T) : (swap l T a).length = if ∃ b ∈ T, lf l b = lf l a then T.length else T.length + 1 := by
  have := filter_one h (lf l a)
  unfold swap
  rw [List.length_cons]
  split <;> rename_i e
  · rw [if_pos e] at this; omega
  · rw [if_neg e] at this; omega

/-- the pair at 'a' is free on the right -/
theorem won_free {l : List Pair} {T : List Nat} {S : List Int} {a : Nat} (h : Ap l T) (ha : a < l.length) (hS : rt l a ∉ S) (hu : ∀ o ∈ T, lf l o = lf l a → rt l o ∈ S) (hf : ∀ b ∈ T, rt l b ≠ rt l a) : Won l T (swap l T a) (lf l a) S where
  ap := ap_swap h ha fun b hb _ => hf b hb
  lefts v := by
    constructor
    · rintro ⟨b, hb, rfl⟩
      rcases mem_swap.1 hb with rfl | ⟨hb, _⟩
      · exact .inl rfl
      · exact .inr ⟨b, hb, rfl⟩
    · rintro (rfl | ⟨b, hb, rfl⟩)
      · exact ⟨a, mem_swap.2 (.inl rfl), rfl⟩
      · by_cases e : lf l b = lf l a
        · exact ⟨a, mem_swap.2 (.inl rfl), e.symm⟩
        · exact ⟨b, mem_swap.2 (.inr ⟨hb, e⟩), rfl⟩
  old b hb _ hn := mem_swap.2 (.inr ⟨hb, hn⟩)
  shut D hD := by
    have hy : rt l a ∉ D := fun hy => by obtain ⟨b, hb, e, _⟩ := hD _ hy; exact hf b hb e
    have hnb : ¬ Nb l (lf l a) D := fun hn => hy (by rw [rt_at ha]; exact hn _ (List.getElem_mem ha) (lf_at ha).symm)
    refine ⟨hnb, fun b hb hd => mem_swap.2 (.inr ⟨hb, fun e => hnb ?_⟩)⟩
    obtain ⟨c, hc, e1, e2⟩ := hD _ hd
    rw [h.right c hc b hb e1, e] at e2
    exact e2
  gone o ho e b hb hr := by
    rcases mem_swap.1 hb with rfl | ⟨hb, nb⟩
    · exact hf o ho hr.symm
    · exact nb (by rw [h.right b hb o ho hr, e])
  len := swap_len h
/-- the pair at 'a' is not: but for that which meets it, at 'o', another one is found -/
theorem won_take {l : List Pair} {T T' : List Nat} {S : List Int} {a o : Nat} (h : Ap l T) (ha : a < l.length) (hS : rt l a ∉ S) (hu : ∀ p ∈ T, lf l p = lf l a → rt l p ∈ S) (ho : o ∈ T) (he : rt l o = rt l a)
    (hw : Won l T T' (lf l o) (rt l a :: S)) : Won l T (swap l T' a) (lf l a) S := by
  have hne : lf l o ≠ lf l a := fun e => hS (he ▸ hu o ho e)
  have hkeep : ∀ p ∈ T, lf l p = lf l a → p ∈ T' := fun p hp e => hw.old p hp (List.mem_cons_of_mem _ (hu p hp e)) (fun k => hne (k.symm.trans e))
  refine ⟨ap_swap hw.ap ha fun b hb _ => by rw [← he]; exact hw.gone o ho rfl b hb, fun v => ?_, fun b hb hs hn => ?_, fun D hD => ?_, fun p hp e b hb hr => ?_, ?_⟩
  · constructor
    · rintro ⟨b, hb, rfl⟩
      rcases mem_swap.1 hb with rfl | ⟨hb, _⟩
      · exact .inl rfl
      · rcases (hw.lefts _).1 ⟨b, hb, rfl⟩ with e | e
        · exact .inr ⟨o, ho, e.symm⟩
        · exact .inr e
    · intro hv
      by_cases e : v = lf l a
      · exact ⟨a, mem_swap.2 (.inl rfl), e.symm⟩
      · obtain ⟨b, hb, rfl⟩ := (hw.lefts v).2 (.inr (hv.resolve_left e))
        exact ⟨b, mem_swap.2 (.inr ⟨hb, e⟩), rfl⟩
  · by_cases e : lf l b = lf l o
    · exact absurd (h.left b hb o ho e ▸ hs) (he ▸ hS)
    · exact mem_swap.2 (.inr ⟨hw.old b hb (List.mem_cons_of_mem _ hs) e, hn⟩)
  · obtain ⟨h1, h2⟩ := hw.shut D hD
    have hy : rt l a ∉ D := fun hy => by
      obtain ⟨b, hb, e, hn⟩ := hD _ hy
      rw [h.right b hb o ho (e.trans he.symm)] at hn
      exact h1 hn
    have hnb : ¬ Nb l (lf l a) D := fun hn => hy (by rw [rt_at ha]; exact hn _ (List.getElem_mem ha) (lf_at ha).symm)
    refine ⟨hnb, fun b hb hd => mem_swap.2 (.inr ⟨h2 b hb hd, fun e => hnb ?_⟩)⟩
    obtain ⟨c, hc, e1, e2⟩ := hD _ hd
    rw [h.right c hc b hb e1, e] at e2
    exact e2
  · rcases mem_swap.1 hb with rfl | ⟨hb, nb⟩
    · exact hS (hr ▸ hu p hp e)
    · exact nb (by rw [hw.ap.right b hb p (hkeep p hp e) hr, e])
  · have hl := hw.len
    rw [if_pos ⟨o, ho, rfl⟩] at hl
    rw [swap_len hw.ap, hl]
    have hiff : (∃ b ∈ T', lf l b = lf l a) ↔ ∃ b ∈ T, lf l b = lf l a := by
      rw [hw.lefts]
      exact ⟨fun h => h.resolve_left (fun e => hne e.symm), .inr⟩
    by_cases k : ∃ b ∈ T, lf l b = lf l a
    · rw [if_pos k, if_pos (hiff.2 k)]
    · rw [if_neg k, if_neg (fun h => k (hiff.1 h))]

/-- what is known of pairs from the first k on: each of their left numbers is paired, or leads to shut numbers alone -/
structure Upto (l : List Pair) (k : Nat) (T : List Nat) (D : List Int) : Prop where
  ap : Ap l T
  shut : Shut l T D
  all : ∀ x ∈ l.take k, (∃ a ∈ T, lf l a = x.1) ∨ Nb l x.1 D
theorem Upto.start (l : List Pair) : Upto l 0 [] [] := ⟨Ap.nil l, by simp [Shut], by simp⟩
theorem Upto.has {l : List Pair} {k : Nat} {T : List Nat} {D : List Int} (h : Upto l k T D) (hk : k < l.length) (hh : ∃ a ∈ T, lf l a = l[k].1) : Upto l (k + 1) T D :=
  ⟨h.ap, h.shut, fun x hx => by
    rw [List.take_succ_eq_append_getElem hk, List.mem_append, List.mem_singleton] at hx
    rcases hx with hx | rfl
    · exact h.all x hx
    · exact .inl hh⟩
theorem Upto.won {l : List Pair} {k : Nat} {T T' : List Nat} {D : List Int} (h : Upto l k T D) (hk : k < l.length) (hw : Won l T T' l[k].1 []) : Upto l (k + 1) T' D :=
  ⟨hw.ap, fun y hy => by
    obtain ⟨a, ha, e, hn⟩ := h.shut y hy
    exact ⟨a, (hw.shut D h.shut).2 a ha (e ▸ hy), e, hn⟩, fun x hx => by
    rw [List.take_succ_eq_append_getElem hk, List.mem_append, List.mem_singleton] at hx
    rcases hx with hx | rfl
    · rcases h.all x hx with hx | hx
      · exact .inl ((hw.lefts _).2 (.inr hx))
      · exact .inr hx
    · exact .inl ((hw.lefts _).2 (.inl rfl))⟩
theorem Upto.lost {l : List Pair} {k : Nat} {T : List Nat} {D S : List Int} (h : Upto l k T D) (hk : k < l.length) (hw : Lost l T [] S) (hn : Nb l l[k].1 S) : Upto l (k + 1) T (S ++ D) :=
  ⟨h.ap, fun y hy => by
    rcases List.mem_append.1 hy with hy | hy
    · obtain ⟨a, ha, e, hn⟩ := hw.shut y hy (by simp)
      exact ⟨a, ha, e, hn.mono (by simp +contextual)⟩
    · obtain ⟨a, ha, e, hn⟩ := h.shut y hy
      exact ⟨a, ha, e, hn.mono (by simp +contextual)⟩, fun x hx => by
    rw [List.take_succ_eq_append_getElem hk, List.mem_append, List.mem_singleton] at hx
    rcases hx with hx | rfl
    · rcases h.all x hx with hx | hx
      · exact .inl hx
      · exact .inr (hx.mono (by simp +contextual))
    · exact .inr (hn.mono (by simp +contextual))⟩

theorem inj_len : ∀ (U : List Pair) (T : List Nat) (R : Pair → Nat → Prop), U.Nodup → (∀ x ∈ U, ∃ a ∈ T, R x a) → (∀ x ∈ U, ∀ y ∈ U, ∀ a, R x a → R y a → x = y) → U.length ≤ T.length
  | [], _, _, _, _, _ => Nat.zero_le _
  | x :: U, T, R, nd, h, k => by
    obtain ⟨a, ha, hx⟩ := h x (by simp)
    obtain ⟨n1, n2⟩ := List.nodup_cons.1 nd
    have := inj_len U (T.erase a) R n2 (fun y hy => by
      obtain ⟨b, hb, hyb⟩ := h y (by simp [hy])
      refine ⟨b, (List.mem_erase_of_ne ?_).2 hb, hyb⟩
      rintro rfl
      exact n1 (k x (by simp) y (by simp [hy]) b hx hyb ▸ hy)) (fun y hy z hz a h1 h2 => k y (by simp [hy]) z (by simp [hz]) a h1 h2)
    rw [List.length_erase_of_mem ha] at this
    have := List.length_pos_of_mem ha
    simp only [List.length_cons]; omega
theorem apart_nodup {U : List Pair} (h : Apart U) : U.Nodup := by
  have := h.1
  rw [List.nodup_iff_pairwise_ne, List.pairwise_map] at this
  rw [List.nodup_iff_pairwise_ne]
  exact this.imp fun h e => h (by rw [e])
theorem apart_left {U : List Pair} (h : (U.map (·.1)).Nodup) : ∀ x ∈ U, ∀ y ∈ U, x.1 = y.1 → x = y := by
  induction U with
  | nil => simp
  | cons z U ih =>
    rw [List.map_cons, List.nodup_cons] at h
    intro x hx y hy e
    rcases List.mem_cons.1 hx with ex | hx <;> rcases List.mem_cons.1 hy with ey | hy
    · rw [ex, ey]
    · rw [ex] at e; exact absurd (List.mem_map.2 ⟨y, hy, e.symm⟩) h.1
    · rw [ey] at e; exact absurd (List.mem_map.2 ⟨x, hx, e⟩) h.1
    · exact ih h.2 x hx y hy e
theorem apart_right {U : List Pair} (h : (U.map (·.2)).Nodup) : ∀ x ∈ U, ∀ y ∈ U, x.2 = y.2 → x = y := by
  induction U with
  | nil => simp
  | cons z U ih =>
    rw [List.map_cons, List.nodup_cons] at h
    intro x hx y hy e
    rcases List.mem_cons.1 hx with ex | hx <;> rcases List.mem_cons.1 hy with ey | hy
    · rw [ex, ey]
    · rw [ex] at e; exact absurd (List.mem_map.2 ⟨y, hy, e.symm⟩) h.1
    · rw [ey] at e; exact absurd (List.mem_map.2 ⟨x, hx, e⟩) h.1
    · exact ih h.2 x hx y hy e

/-- places of a list, rising: their pairs are a sublist -/
theorem places_sub (l : List Pair) (T : List Nat) (h : Ap l T) : ∃ U, U.Sublist l ∧ Apart U ∧ U.length = T.length := by
  have hsub : ∀ (n : Nat), n ≤ l.length → ∃ U, U.Sublist (l.take n) ∧ U.length = (T.filter fun a => decide (a < n)).length ∧ (∀ x ∈ U, ∃ a ∈ T, a < n ∧ lf l a = x.1 ∧ rt l a = x.2) ∧ Apart U := by
    intro n
    induction n with
    | zero => exact fun _ => ⟨[], by simp, by rw [List.filter_eq_nil_iff.2 (by simp)]; rfl, by simp, by simp [Apart]⟩
    | succ n ih =>
      intro hn
      obtain ⟨U, u1, u2, u3, u4⟩ := ih (by omega)
      have hlt : n < l.length := by omega
      by_cases hin : n ∈ T
      · refine ⟨U ++ [l[n]], ?_, ?_, ?_, ?_⟩
        · rw [List.take_succ_eq_append_getElem hlt]; exact u1.append (List.Sublist.refl _)
        · rw [List.length_append, u2]
          have hc : ∀ (V : List Nat), V.Nodup → n ∈ V → (V.filter fun a => decide (a < n)).length + 1 = (V.filter fun a => decide (a < n + 1)).length := by
            intro V
            induction V with
            | nil => simp
            | cons v V ihV =>
              intro nd hm
              obtain ⟨n1, n2⟩ := List.nodup_cons.1 nd
              rcases List.mem_cons.1 hm with rfl | hm
              · rw [List.filter_cons_of_neg (by simp), List.filter_cons_of_pos (by simp), List.length_cons]
                congr 2
                apply List.filter_congr
                intro x hx
                have : x ≠ n := fun e => n1 (e ▸ hx)
                rw [Bool.eq_iff_iff]; simp; omega
              · have := ihV n2 hm
                have hne : v ≠ n := fun e => n1 (e ▸ hm)
                by_cases hv : v < n
                · rw [List.filter_cons_of_pos (by simp [hv]), List.filter_cons_of_pos (by simp; omega), List.length_cons, List.length_cons]; omega
                · rw [List.filter_cons_of_neg (by simp [hv]), List.filter_cons_of_neg (by simp; omega)]; exact this
          exact hc T h.nd hin
        · intro x hx
          rcases List.mem_append.1 hx with hx | hx
          · obtain ⟨a, h1, h2, h3⟩ := u3 x hx; exact ⟨a, h1, by omega, h3⟩
          · rw [List.mem_singleton] at hx; subst hx
            exact ⟨n, hin, by omega, lf_at hlt, rt_at hlt⟩
        · refine ⟨?_, ?_⟩
          · rw [List.map_append, List.nodup_append]
            refine ⟨u4.1, by simp, fun z hz z' hz' e => ?_⟩
            subst e
            obtain ⟨x, hx, rfl⟩ := List.mem_map.1 hz
            obtain ⟨a, h1, h2, h3, _⟩ := u3 x hx
            simp only [List.map_cons, List.map_nil, List.mem_singleton] at hz'
            have := h.left a h1 n hin (by rw [h3, hz', lf_at hlt])
            omega
          · rw [List.map_append, List.nodup_append]
            refine ⟨u4.2, by simp, fun z hz z' hz' e => ?_⟩
            subst e
            obtain ⟨x, hx, rfl⟩ := List.mem_map.1 hz
            obtain ⟨a, h1, h2, _, h3⟩ := u3 x hx
            simp only [List.map_cons, List.map_nil, List.mem_singleton] at hz'
            have := h.right a h1 n hin (by rw [h3, hz', rt_at hlt])
            omega
      · refine ⟨U, u1.trans (List.take_sublist_take_left (by omega)), ?_, fun x hx => ?_, u4⟩
        · rw [u2]
          congr 1
          apply List.filter_congr
          intro x hx
          have : x ≠ n := fun e => hin (e ▸ hx)
          rw [Bool.eq_iff_iff]; simp; omega
        · obtain ⟨a, h1, h2, h3⟩ := u3 x hx; exact ⟨a, h1, by omega, h3⟩
  obtain ⟨U, u1, u2, _, u4⟩ := hsub l.length (Nat.le_refl _)
  refine ⟨U, by simpa using u1, u4, ?_⟩
  rw [u2, List.filter_eq_self.2 (fun a ha => by simpa using h.lt a ha)]

/-- behind all pairs: there are as many as can be -/
theorem Upto.most {l : List Pair} {T : List Nat} {D : List Int} (h : Upto l l.length T D) : IsMax l T.length := by
  refine ⟨places_sub l T h.ap, fun U hU hap => ?_⟩
  refine inj_len U T (fun x a => (Nb l x.1 D ∧ rt l a = x.2 ∧ a ∈ T) ∨ (¬ Nb l x.1 D ∧ lf l a = x.1)) (apart_nodup hap) (fun x hx => ?_) (fun x hx y hy a h1 h2 => ?_)
  · have hxl := hU.subset hx
    by_cases hn : Nb l x.1 D
    · obtain ⟨a, ha, e, _⟩ := h.shut _ (hn x hxl rfl)
      exact ⟨a, ha, .inl ⟨hn, e, ha⟩⟩
    · rcases h.all x (by simpa using hxl) with ⟨a, ha, e⟩ | k
      · exact ⟨a, ha, .inr ⟨hn, e⟩⟩
      · exact absurd k hn
  · have key : ∀ x ∈ U, Nb l x.1 D → ∀ a ∈ T, rt l a = x.2 → Nb l (lf l a) D := fun x hx hn a ha e => by
      obtain ⟨b, hb, e1, e2⟩ := h.shut _ (hn x (hU.subset hx) rfl)
      rw [h.ap.right b hb a ha (e1.trans e.symm)] at e2
      exact e2
    rcases h1 with ⟨n1, e1, t1⟩ | ⟨n1, e1⟩ <;> rcases h2 with ⟨n2, e2, t2⟩ | ⟨n2, e2⟩
    · exact apart_right hap.2 x hx y hy (e1.symm.trans e2)
    · exact absurd (e2 ▸ key x hx n1 a t1 e1) n2
    · exact absurd (e1 ▸ key y hy n2 a t2 e2) n1
    · exact apart_left hap.1 x hx y hy (e1.symm.trans e2)
end Go.Cov
