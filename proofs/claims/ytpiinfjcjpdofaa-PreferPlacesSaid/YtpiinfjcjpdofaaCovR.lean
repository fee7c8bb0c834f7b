/- Numbers, each once; the choices by their first place: plain. No program in sight. -/
import Derived.Test.YtpiinfjcjpdofaaCovQ
namespace Go.Cov
set_option linter.unusedVariables false
set_option linter.unusedSimpArgs false

/-- numbers, each once -/
def uniqA (D xs : List Int) : List Int := xs.foldl (fun D x => if x ∈ D then D else D ++ [x]) D
def uniq (xs : List Int) : List Int := uniqA [] xs
theorem uniq_snoc (xs : List Int) (x : Int) : uniq (xs ++ [x]) = if x ∈ uniq xs then uniq xs else uniq xs ++ [x] := by
  unfold uniq uniqA; rw [List.foldl_append]; rfl
theorem uniqA_mem : ∀ (xs D : List Int) (z : Int), z ∈ uniqA D xs ↔ z ∈ D ∨ z ∈ xs
  | [], D, z => by simp [uniqA]
  | x :: xs, D, z => by
    have := uniqA_mem xs (if x ∈ D then D else D ++ [x]) z
    rw [show uniqA D (x :: xs) = uniqA (if x ∈ D then D else D ++ [x]) xs from rfl, this, List.mem_cons]
    by_cases h : x ∈ D
    · rw [if_pos h]
      exact ⟨fun e => e.imp id .inr, fun e => e.elim .inl fun e => e.elim (fun e => .inl (e ▸ h)) .inr⟩
    · rw [if_neg h, List.mem_append, List.mem_singleton, or_assoc]
theorem uniqA_nodup : ∀ (xs D : List Int), D.Nodup → (uniqA D xs).Nodup
  | [], D, h => h
  | x :: xs, D, h => by
    refine uniqA_nodup xs _ ?_
    by_cases hx : x ∈ D
    · simp only [if_pos hx]; exact h
    · simp only [if_neg hx]
      rw [List.nodup_append]
      exact ⟨h, by simp, by rintro a ha b hb rfl; rw [List.mem_singleton] at hb; subst hb; exact hx ha⟩
theorem uniq_len (xs : List Int) : (uniq xs).length = cn [] xs := cn_of (uniqA_nodup _ _ List.nodup_nil) fun z => by
  unfold uniq; rw [uniqA_mem]; simp
theorem uniq_in {xs : List Int} {x : Int} (h : x ∈ uniq xs) : uniq (xs ++ [x]) = uniq xs := by rw [uniq_snoc, if_pos h]
theorem uniq_out {xs : List Int} {x : Int} (h : x ∉ uniq xs) : uniq (xs ++ [x]) = uniq xs ++ [x] := by rw [uniq_snoc, if_neg h]
theorem uniq_le (xs : List Int) : (uniq xs).length ≤ xs.length := by rw [uniq_len]; exact cn_le _ _

/-- the choices, by their first place -/
def chR (n m k : Nat) : List (List Nat) := (ch (n - k - 1) m).map fun c => k :: c.map (· + (k + 1))
theorem ch_less : ∀ {n m : Nat}, n < m → ch n m = []
  | 0, 0, h => by omega
  | 0, m + 1, _ => rfl
  | n + 1, 0, h => by omega
  | n + 1, m + 1, h => by rw [ch, ch_less (show n < m by omega), ch_less (show n < m + 1 by omega)]; rfl
theorem ch_rows : ∀ (n m : Nat), ch n (m + 1) = (List.range (n - m)).flatMap (chR n m)
  | 0, m => by simp [ch]
  | n + 1, m => by
    by_cases h : n < m
    · rw [ch_less (show n + 1 < m + 1 by omega), show n + 1 - m = 0 by omega]; rfl
    · rw [ch, ch_rows n m, show n + 1 - m = (n - m) + 1 by omega, List.range_succ_eq_map, List.flatMap_cons]
      congr 1
      rw [List.map_flatMap, List.flatMap_map]
      congr 1
      funext k
      unfold chR
      rw [List.map_map, show n + 1 - (k + 1) - 1 = n - k - 1 by omega]
      congr 1
      funext c
      simp [Function.comp_def]
      intro a _; omega
theorem ch_len : ∀ (n m : Nat), (ch n m).length ≤ 2 ^ n
  | 0, 0 => by simp [ch]
  | 0, m + 1 => by simp [ch]
  | n + 1, 0 => by rw [ch_zero]; simp; exact Nat.one_le_two_pow
  | n + 1, m + 1 => by
    rw [ch, List.length_append, List.length_map, List.length_map, Nat.pow_succ]
    have := ch_len n m; have := ch_len n (m + 1); omega
theorem ch_in {n m : Nat} {c : List Nat} (h : c ∈ ch n m) : c.length = m ∧ ∀ i ∈ c, i < n := by
  have h1 := ch_props (List.replicate n (0, 0)) m c (by rwa [List.length_replicate])
  rw [List.length_replicate] at h1
  exact ⟨h1.2.2.1, h1.2.2.2.2⟩
/-- those until the i-th of a first place -/
def chAt (n m k i : Nat) : List (List Nat) := (List.range k).flatMap (chR n m) ++ (chR n m k).take i
theorem chAt_start (n m : Nat) : chAt n m 0 0 = [] := by unfold chAt; simp
theorem chAt_end (n m : Nat) : chAt n m (n - m) 0 = ch n (m + 1) := by unfold chAt; rw [List.take_zero, List.append_nil, ch_rows]
theorem chAt_next (n m k : Nat) : chAt n m k (chR n m k).length = chAt n m (k + 1) 0 := by
  unfold chAt; rw [List.take_length, List.range_succ, List.flatMap_append]; simp
theorem chAt_succ (n m k i : Nat) {c : List Nat} (h : (ch (n - k - 1) m)[i]? = some c) : chAt n m k (i + 1) = chAt n m k i ++ [k :: c.map (· + (k + 1))] := by
  have hi : (chR n m k)[i]? = some (k :: c.map (· + (k + 1))) := by unfold chR; rw [List.getElem?_map, h]; rfl
  obtain ⟨hlt, he⟩ := List.getElem?_eq_some_iff.1 hi
  unfold chAt
  rw [List.take_succ_eq_append_getElem hlt, he, List.append_assoc]
theorem chAt_len (n m k i : Nat) (hk : k < n - m) : (chAt n m k i).length ≤ 2 ^ n := by
  refine Nat.le_trans ?_ (ch_len n (m + 1))
  rw [ch_rows, show n - m = (k + 1) + (n - m - (k + 1)) by omega, List.range_add, List.flatMap_append, List.range_succ, List.flatMap_append]
  unfold chAt
  rw [List.length_append, List.length_append, List.length_append, List.length_take]
  simp only [List.flatMap_cons, List.flatMap_nil, List.append_nil]
  omega

end Go.Cov
