/- Numbers of texts, the first one first; pairs of them: plain. No program in sight. -/
import Derived.Test.YtpiinfjcjpdofaaCovS
namespace Go.Pref
open Go.Cov
set_option linter.unusedVariables false
set_option linter.unusedSimpArgs false

section
variable {α : Type} [DecidableEq α]
/-- one more, if it isn't there -/
def ins (K : List α) (s : α) : List α := if s ∈ K then K else K ++ [s]
def knl (l : List α) : List α := l.foldl ins []
theorem knl_snoc (l : List α) (s : α) : knl (l ++ [s]) = ins (knl l) s := by unfold knl; rw [List.foldl_append]; rfl
theorem mem_ins {K : List α} {s t : α} : t ∈ ins K s ↔ t ∈ K ∨ t = s := by
  unfold ins; split
  · rename_i h; exact ⟨.inl, fun e => e.elim id fun e => e ▸ h⟩
  · rw [List.mem_append, List.mem_singleton]
theorem ins_nodup {K : List α} {s : α} (h : K.Nodup) : (ins K s).Nodup := by
  unfold ins; split
  · exact h
  · rename_i hn; rw [List.nodup_append]; exact ⟨h, by simp, by rintro a ha b hb rfl; rw [List.mem_singleton] at hb; exact hn (hb ▸ ha)⟩
theorem foldl_mem : ∀ (l K : List α) (t : α), t ∈ l.foldl ins K ↔ t ∈ K ∨ t ∈ l
  | [], K, t => by simp
  | s :: l, K, t => by rw [List.foldl_cons, foldl_mem l, mem_ins, List.mem_cons, or_assoc]
theorem foldl_nodup : ∀ (l K : List α), K.Nodup → (l.foldl ins K).Nodup
  | [], K, h => h
  | s :: l, K, h => foldl_nodup l _ (ins_nodup h)
theorem mem_knl {l : List α} {t : α} : t ∈ knl l ↔ t ∈ l := by unfold knl; rw [foldl_mem]; simp
theorem knl_nodup (l : List α) : (knl l).Nodup := foldl_nodup l [] List.nodup_nil
theorem ins_len (K : List α) (s : α) : (ins K s).length ≤ K.length + 1 := by unfold ins; split <;> simp
theorem foldl_len : ∀ (l K : List α), (l.foldl ins K).length ≤ K.length + l.length
  | [], K => Nat.le_refl _
  | s :: l, K => by rw [List.foldl_cons]; have := foldl_len l (ins K s); have := ins_len K s; simp only [List.length_cons]; omega
theorem knl_len (l : List α) : (knl l).length ≤ l.length := by have := foldl_len l ([] : List α); simpa [knl] using this
theorem idx_ins {K : List α} {s t : α} (h : t ∈ K ∨ t = s) : (ins K s).idxOf t = K.idxOf t := by
  unfold ins
  split
  · rfl
  · rename_i hn
    rw [List.idxOf_append]
    by_cases ht : t ∈ K
    · rw [if_pos ht]
    · have e : t = s := h.resolve_left ht
      subst e
      rw [if_neg ht, List.idxOf_eq_length ht]; simp
theorem idx_lt {K : List α} {s : α} (h : s ∈ K) : K.idxOf s < K.length := List.idxOf_lt_length_iff.2 h
theorem idx_inj {K : List α} {s t : α} (hs : s ∈ K) (ht : t ∈ K) (h : K.idxOf s = K.idxOf t) : s = t := by
  have h1 := List.getElem_idxOf (idx_lt hs)
  have h2 := List.getElem_idxOf (idx_lt ht)
  rw [← h1, ← h2]
  congr 1
/-- where a text stands in a list; how long it is, if it isn't there -/
def idx (K : List α) (s : α) : Nat := K.idxOf s
theorem idx_len {K : List α} {s : α} (h : s ∉ K) : idx K s = K.length := List.idxOf_eq_length h
theorem idx_le (K : List α) (s : α) : idx K s ≤ K.length := List.idxOf_le_length
theorem idx_at {K : List α} {s : α} {i : Nat} (h : K[i]? = some s) (hn : s ∉ K.take i) : idx K s = i := by
  obtain ⟨hi, he⟩ := List.getElem?_eq_some_iff.1 h
  have h1 : K = K.take i ++ (s :: K.drop (i + 1)) := by rw [← he, List.getElem_cons_drop, List.take_append_drop]
  unfold idx
  rw [h1, List.idxOf_append, if_neg hn, List.idxOf_cons_self, List.length_take]; omega
def kf (K : List α) (s : α) : Option Int := if s ∈ K then some (idx K s : Int) else none
theorem kf_nil (s : α) : kf [] s = none := by unfold kf; simp
theorem kf_in {K : List α} {s : α} (h : s ∈ K) : kf K s = some (idx K s : Int) := if_pos h
theorem kf_out {K : List α} {s : α} (h : s ∉ K) : kf K s = none := if_neg h
theorem kf_ins {K : List α} {s : α} (h : s ∉ K) (u : α) : kf (K ++ [s]) u = if u = s then some (K.length : Int) else kf K u := by
  unfold kf idx
  by_cases hu : u = s
  · subst hu
    rw [if_pos (by simp), if_pos rfl, List.idxOf_append, if_neg h]; simp
  · rw [if_neg hu]
    by_cases hk : u ∈ K
    · rw [if_pos (by simp [hk]), if_pos hk, List.idxOf_append, if_pos hk]
    · rw [if_neg (by simp [hk, hu]), if_neg hk]
theorem ins_in {K : List α} {s : α} (h : s ∈ K) : ins K s = K := if_pos h
theorem ins_out {K : List α} {s : α} (h : s ∉ K) : ins K s = K ++ [s] := if_neg h
/-- the pairs of numbers of pairs of texts -/
def pairsOf (l : List (α × α)) : List Pair := l.map fun p => ((idx (knl (l.map (·.1))) p.1 : Int), (idx (knl (l.map (·.2))) p.2 : Int))
theorem pairsOf_len (l : List (α × α)) : (pairsOf l).length = l.length := by simp [pairsOf]
theorem pairsOf_snoc (l : List (α × α)) (p : α × α) : pairsOf (l ++ [p]) = pairsOf l ++ [((idx (knl (l.map (·.1))) p.1 : Int), (idx (knl (l.map (·.2))) p.2 : Int))] := by
  unfold pairsOf idx
  rw [List.map_append, List.map_append, List.map_append]
  simp only [List.map_cons, List.map_nil]
  rw [knl_snoc, knl_snoc, idx_ins (.inr rfl), idx_ins (.inr rfl)]
  congr 1
  apply List.map_congr_left
  intro q hq
  rw [idx_ins (.inl (mem_knl.2 (List.mem_map_of_mem hq))), idx_ins (.inl (mem_knl.2 (List.mem_map_of_mem hq)))]
end
end Go.Pref
