/- walk: the order of members as plain functions on lists. No program in sight. -/
namespace Go.WalkL
set_option linter.unusedVariables false
section
variable {α : Type} [DecidableEq α]
/-- where a name stands first -/
def where_ (names : List α) (s : α) : Option Nat := names.findIdx? fun x => decide (x = s)
def add (out : List Nat) (i : Nat) : List Nat := if i ∈ out then out else out ++ [i]
def step (names : List α) (out : List Nat) (s : α) : List Nat := match where_ names s with | none => out | some i => add out i
def own (names owners : List α) : List Nat := owners.foldl (step names) []
def rest (out : List Nat) (n : Nat) : List Nat := (List.range n).foldl add out
def fromN (part : Int) (m : Nat) : Nat := if m = 0 then 0 else (part % (m : Int)).toNat
/-- the owners from a partition on -/
def rot (owners : List α) (d : α) (k : Nat) : List α := (List.range owners.length).map fun i => owners.getD ((k + i) % owners.length) d
def order (names owners : List α) (d : α) (part : Int) : List Nat := rest (own names (rot owners d (fromN part owners.length))) names.length

theorem where_at {names : List α} {s : α} {i : Nat} (h : where_ names s = some i) : ∃ hi : i < names.length, names[i] = s := by
  unfold where_ at h
  rw [List.findIdx?_eq_some_iff_getElem] at h
  obtain ⟨hi, h1, _⟩ := h
  exact ⟨hi, by simpa using h1⟩
theorem where_lt {names : List α} {s : α} {i : Nat} (h : where_ names s = some i) : i < names.length := (where_at h).1
theorem where_none {names : List α} {s : α} : where_ names s = none ↔ s ∉ names := by
  unfold where_
  rw [List.findIdx?_eq_none_iff]
  constructor
  · intro h hs; have := h s hs; simp at this
  · intro h x hx; simp; intro e; exact h (e ▸ hx)
theorem where_cons (a : α) (names : List α) (s : α) : where_ (a :: names) s = if a = s then some 0 else (where_ names s).map (· + 1) := by
  unfold where_
  rw [List.findIdx?_cons]
  simp
theorem mem_add {out : List Nat} {i j : Nat} : j ∈ add out i ↔ j ∈ out ∨ j = i := by
  unfold add
  split
  · constructor
    · exact .inl
    · rintro (h | rfl)
      · exact h
      · assumption
  · simp
theorem add_length_le (out : List Nat) (i : Nat) : (add out i).length ≤ out.length + 1 := by
  unfold add; split
  · omega
  · simp
theorem add_nodup {out : List Nat} {i : Nat} (h : out.Nodup) : (add out i).Nodup := by
  unfold add
  split
  · exact h
  · rw [List.nodup_append]
    refine ⟨h, by simp, ?_⟩
    intro a ha b hb
    simp at hb
    subst hb
    intro e; subst e; contradiction
theorem step_nodup {names : List α} {out : List Nat} {s : α} (h : out.Nodup) : (step names out s).Nodup := by
  unfold step; split
  · exact h
  · exact add_nodup h
theorem step_lt {names : List α} {out : List Nat} {s : α} (h : ∀ i ∈ out, i < names.length) : ∀ i ∈ step names out s, i < names.length := by
  unfold step; split
  · exact h
  · rename_i k hk
    intro i hi
    rcases mem_add.1 hi with h1 | rfl
    · exact h i h1
    · exact where_lt hk
theorem step_mono {names : List α} {out : List Nat} {s : α} {i : Nat} (h : i ∈ out) : i ∈ step names out s := by
  unfold step; split
  · exact h
  · exact mem_add.2 (.inl h)
theorem step_le (names : List α) (out : List Nat) (s : α) : (step names out s).length ≤ out.length + 1 := by
  unfold step; split
  · omega
  · exact add_length_le _ _
/-- one more owner -/
theorem own_snoc (names owners : List α) (s : α) : own names (owners ++ [s]) = step names (own names owners) s := by unfold own; rw [List.foldl_append]; rfl
theorem own_props (names owners : List α) : (own names owners).Nodup ∧ (∀ i ∈ own names owners, i < names.length) := by
  suffices h : ∀ (l : List α) (out : List Nat), out.Nodup → (∀ i ∈ out, i < names.length) → (l.foldl (step names) out).Nodup ∧ ∀ i ∈ l.foldl (step names) out, i < names.length from h owners [] List.nodup_nil (by simp)
  intro l
  induction l with
  | nil => exact fun out h1 h2 => ⟨h1, h2⟩
  | cons s l ih => exact fun out h1 h2 => ih _ (step_nodup h1) (step_lt h2)
theorem mem_own {names owners : List α} {i : Nat} : i ∈ own names owners ↔ ∃ s ∈ owners, where_ names s = some i := by
  suffices h : ∀ (l : List α) (out : List Nat), i ∈ l.foldl (step names) out ↔ i ∈ out ∨ ∃ s ∈ l, where_ names s = some i by
    have := h owners []
    simpa [own] using this
  intro l
  induction l with
  | nil => simp
  | cons s l ih =>
    intro out
    rw [List.foldl_cons, ih]
    unfold step
    split
    · rename_i h; simp [h]
    · rename_i k h
      rw [mem_add]
      constructor
      · rintro ((h1 | rfl) | ⟨t, h2, h3⟩)
        · exact .inl h1
        · exact .inr ⟨s, by simp, h⟩
        · exact .inr ⟨t, by simp [h2], h3⟩
      · rintro (h1 | ⟨t, h2, h3⟩)
        · exact .inl (.inl h1)
        · rcases List.mem_cons.1 h2 with rfl | h2
          · rw [h] at h3; injection h3 with h3; exact .inl (.inr h3.symm)
          · exact .inr ⟨t, h2, h3⟩
theorem rest_succ (out : List Nat) (n : Nat) : rest out (n + 1) = add (rest out n) n := by
  unfold rest; rw [List.range_succ, List.foldl_append]; rfl
theorem mem_rest {out : List Nat} {n i : Nat} : i ∈ rest out n ↔ i ∈ out ∨ i < n := by
  induction n with
  | zero => simp [rest]
  | succ n ih =>
    rw [rest_succ, mem_add, ih, or_assoc]
    have : (i < n ∨ i = n) ↔ i < n + 1 := by omega
    rw [this]
theorem rest_nodup {out : List Nat} {n : Nat} (h : out.Nodup) : (rest out n).Nodup := by
  induction n with
  | zero => exact h
  | succ n ih => rw [rest_succ]; exact add_nodup ih
/-- what is told of the rest: only those that were not told, one behind the other -/
theorem rest_eq (out : List Nat) (n : Nat) : rest out n = out ++ (List.range n).filter fun i => decide (i ∉ out) := by
  induction n with
  | zero => simp [rest]
  | succ n ih =>
    rw [rest_succ, List.range_succ, List.filter_append, ← List.append_assoc, ← ih]
    unfold add
    have : n ∈ rest out n ↔ n ∈ out := by rw [mem_rest]; simp
    by_cases h : n ∈ out
    · rw [if_pos (this.2 h)]; simp [h]
    · rw [if_neg (fun h' => h (this.1 h'))]; simp [h]
theorem rest_le {out : List Nat} {n : Nat} (h : out.Nodup) (hlt : ∀ i ∈ out, i < n) : (rest out n).length = n := by
  have hn := rest_nodup (n := n) h
  have hp : (rest out n).Perm (List.range n) := by
    rw [List.perm_ext_iff_of_nodup hn List.nodup_range]
    intro a
    rw [mem_rest, List.mem_range]
    constructor
    · rintro (h1 | h1)
      · exact hlt a h1
      · exact h1
    · exact .inr
  rw [hp.length_eq, List.length_range]
theorem own_le (names owners : List α) : (own names owners).length ≤ names.length := by
  have h := own_props names owners
  have := rest_le (n := names.length) h.1 h.2
  rw [rest_eq, List.length_append] at this
  omega
theorem rest_len_le (out : List Nat) (n k : Nat) (h : out.Nodup) (hlt : ∀ i ∈ out, i < n) (hk : k ≤ n) : (rest out k).length ≤ n := by
  rw [rest_eq, List.length_append]
  have h1 := rest_le h hlt
  rw [rest_eq, List.length_append] at h1
  have : ((List.range k).filter fun i => decide (i ∉ out)).length ≤ ((List.range n).filter fun i => decide (i ∉ out)).length := by
    apply List.Sublist.length_le
    apply List.Sublist.filter
    exact List.range_sublist.2 hk
  omega
theorem order_perm (names owners : List α) (d : α) (part : Int) : (order names owners d part).Nodup ∧ (∀ i ∈ order names owners d part, i < names.length) ∧ (order names owners d part).length = names.length := by
  have h := own_props names (rot owners d (fromN part owners.length))
  refine ⟨rest_nodup h.1, fun i hi => ?_, rest_le h.1 h.2⟩
  rcases mem_rest.1 hi with h1 | h1
  · exact h.2 i h1
  · exact h1
omit [DecidableEq α] in
theorem rot_mem {owners : List α} {d s : α} {k : Nat} : s ∈ rot owners d k ↔ s ∈ owners := by
  unfold rot
  rw [List.mem_map]
  constructor
  · rintro ⟨i, hi, rfl⟩
    rw [List.mem_range] at hi
    have : (k + i) % owners.length < owners.length := Nat.mod_lt _ (by omega)
    rw [List.getD_eq_getElem?_getD, List.getElem?_eq_getElem this]
    exact List.getElem_mem this
  · intro h
    obtain ⟨j, hj, rfl⟩ := List.mem_iff_getElem.1 h
    have hpos : 0 < owners.length := by omega
    refine ⟨(j + (owners.length - k % owners.length)) % owners.length, List.mem_range.2 (Nat.mod_lt _ hpos), ?_⟩
    have hkm : k % owners.length < owners.length := Nat.mod_lt _ hpos
    have e : (k + (j + (owners.length - k % owners.length)) % owners.length) % owners.length = j := by
      rw [Nat.add_mod, Nat.mod_mod, ← Nat.add_mod]
      have h1 : k + (j + (owners.length - k % owners.length)) = j + owners.length * (k / owners.length + 1) := by
        have h2 := Nat.mod_add_div k owners.length
        rw [Nat.mul_add, Nat.mul_one]
        omega
      rw [h1, Nat.add_mul_mod_self_left, Nat.mod_eq_of_lt hj]
    rw [e, List.getD_eq_getElem?_getD, List.getElem?_eq_getElem hj]
    rfl
theorem fromN_lt (part : Int) {m : Nat} (h : 0 < m) : fromN part m < m := by
  unfold fromN
  rw [if_neg (by omega)]
  have h1 := Int.emod_nonneg part (b := (m : Int)) (by omega)
  have h2 := Int.emod_lt_of_pos part (b := (m : Int)) (by omega)
  omega
theorem fromN_add (part : Int) (m : Nat) : fromN (part + m) m = fromN part m := by
  unfold fromN; rw [Int.add_emod_right]
/-- those that own something stand ahead of those that own nothing -/
theorem order_ahead {names owners : List α} {d : α} {part : Int} (hn : names.Nodup) {i j : Nat} (hij : i < j) {x y : Nat} (hx : (order names owners d part)[i]? = some x) (hy : (order names owners d part)[j]? = some y)
    (hyo : ∃ s ∈ owners, names[y]? = some s) : ∃ s ∈ owners, names[x]? = some s := by
  unfold order at hx hy
  generalize hr : rot owners d (fromN part owners.length) = r at hx hy
  have hmr : ∀ s, s ∈ r ↔ s ∈ owners := fun s => by rw [← hr]; exact rot_mem
  rw [rest_eq] at hx hy
  obtain ⟨s, hs, hys⟩ := hyo
  have hyw : where_ names s = some y := by
    obtain ⟨hyl, hye⟩ := List.getElem?_eq_some_iff.1 hys
    cases hw : where_ names s with
    | none => exact absurd (hye ▸ List.getElem_mem hyl) (where_none.1 hw)
    | some k =>
      obtain ⟨hk, hke⟩ := where_at hw
      rw [(List.getElem_inj hn).1 (hke.trans hye.symm)]
  have hym : y ∈ own names r := mem_own.2 ⟨s, (hmr s).2 hs, hyw⟩
  by_cases hjl : j < (own names r).length
  · rw [List.getElem?_append_left (by omega)] at hx
    have hxm := List.mem_of_getElem? hx
    obtain ⟨t, ht, hw⟩ := mem_own.1 hxm
    obtain ⟨hk, hke⟩ := where_at hw
    exact ⟨t, (hmr t).1 ht, by rw [List.getElem?_eq_getElem hk, hke]⟩
  · rw [List.getElem?_append_right (by omega)] at hy
    have := List.mem_of_getElem? hy
    rw [List.mem_filter] at this
    exact absurd hym (by simpa using this.2)
end
end Go.WalkL
