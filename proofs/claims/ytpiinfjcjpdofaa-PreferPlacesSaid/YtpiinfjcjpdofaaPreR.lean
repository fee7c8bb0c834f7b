/- What pairs can cover, whatever their order is: plain. -/
import Derived.Test.YtpiinfjcjpdofaaPreI
import Derived.Test.YtpiinfjcjpdofaaPreQ
namespace Go.Proofs.Ytpiinfjcjpdofaa
open Go.RowKit Go.Mem Go.Cov
set_option linter.unusedVariables false
set_option linter.unusedSimpArgs false

theorem fmap_congr {α β : Type} {f g : α → Option β} : ∀ {l : List α}, (∀ x ∈ l, f x = g x) → l.filterMap f = l.filterMap g
  | [], _ => rfl
  | x :: l, h => by rw [List.filterMap_cons, List.filterMap_cons, h x (by simp), fmap_congr fun y hy => h y (by simp [hy])]
/-- how many there are, each once -/
theorem cn_inj {α : Type} [DecidableEq α] {xs : List α} {f : α → Int} (hf : ∀ a ∈ xs, ∀ b ∈ xs, f a = f b → a = b) : cn [] (xs.map f) = (Pref.knl xs).length := by
  have h := cn_of (L := []) (xs := xs.map f) (D := (Pref.knl xs).map f) ?_ fun z => ?_
  · rw [← h, List.length_map]
  · have hn := Pref.knl_nodup xs
    have hm : ∀ a ∈ Pref.knl xs, a ∈ xs := fun a ha => Pref.mem_knl.1 ha
    rw [List.Nodup, List.pairwise_map]
    exact List.Pairwise.imp_of_mem (fun {a b} ha hb hab e => hab (hf a (hm a ha) b (hm b hb) e)) hn
  · simp only [List.mem_map, Pref.mem_knl, List.not_mem_nil, not_false_eq_true, and_true]
/-- those at some places -/
def selT (T : List (ByteArray × ByteArray)) (c : List Nat) : List (ByteArray × ByteArray) := c.filterMap fun i => T[i]?
theorem selT_in {T : List (ByteArray × ByteArray)} {c : List Nat} : ∀ x ∈ selT T c, x ∈ T := fun x hx => by
  unfold selT at hx
  obtain ⟨i, _, h⟩ := List.mem_filterMap.1 hx
  exact List.mem_of_getElem? h
theorem sel_pairs (T : List (ByteArray × ByteArray)) (c : List Nat) : sel (Pref.pairsOf T) c = (selT T c).map fun p => ((Pref.idx (Pref.knl (T.map (·.1))) p.1 : Int), (Pref.idx (Pref.knl (T.map (·.2))) p.2 : Int)) := by
  unfold sel selT Pref.pairsOf
  rw [List.map_filterMap]
  congr 1
  funext i
  rw [List.getElem?_map]
theorem nl_pairs (T : List (ByteArray × ByteArray)) (c : List Nat) : nl [] (sel (Pref.pairsOf T) c) = (Pref.knl ((selT T c).map (·.1))).length := by
  unfold nl
  rw [sel_pairs, List.map_map, show ((fun x : Pair => x.1) ∘ fun p : ByteArray × ByteArray => ((Pref.idx (Pref.knl (T.map (·.1))) p.1 : Int), (Pref.idx (Pref.knl (T.map (·.2))) p.2 : Int))) = (fun s : ByteArray => (Pref.idx (Pref.knl (T.map (·.1))) s : Int)) ∘ (fun p : ByteArray × ByteArray => p.1) from rfl, ← List.map_map]
  refine cn_inj fun a ha b hb e => ?_
  obtain ⟨x, hx, rfl⟩ := List.mem_map.1 ha
  obtain ⟨y, hy, rfl⟩ := List.mem_map.1 hb
  exact Pref.idx_inj (Pref.mem_knl.2 (List.mem_map_of_mem (selT_in x hx))) (Pref.mem_knl.2 (List.mem_map_of_mem (selT_in y hy))) (Int.ofNat.inj e)
theorem nr_pairs (T : List (ByteArray × ByteArray)) (c : List Nat) : nr [] (sel (Pref.pairsOf T) c) = (Pref.knl ((selT T c).map (·.2))).length := by
  unfold nr
  rw [sel_pairs, List.map_map, show ((fun x : Pair => x.2) ∘ fun p : ByteArray × ByteArray => ((Pref.idx (Pref.knl (T.map (·.1))) p.1 : Int), (Pref.idx (Pref.knl (T.map (·.2))) p.2 : Int))) = (fun s : ByteArray => (Pref.idx (Pref.knl (T.map (·.2))) s : Int)) ∘ (fun p : ByteArray × ByteArray => p.2) from rfl, ← List.map_map]
  refine cn_inj fun a ha b hb e => ?_
  obtain ⟨x, hx, rfl⟩ := List.mem_map.1 ha
  obtain ⟨y, hy, rfl⟩ := List.mem_map.1 hb
  exact Pref.idx_inj (Pref.mem_knl.2 (List.mem_map_of_mem (selT_in x hx))) (Pref.mem_knl.2 (List.mem_map_of_mem (selT_in y hy))) (Int.ofNat.inj e)
theorem len_of_mem {c d : List Nat} (h1 : c.Nodup) (h2 : d.Nodup) (h : ∀ i, i ∈ c ↔ i ∈ d) : c.length = d.length := by
  have e : ∀ {x y : List Nat}, x.Nodup → (∀ i ∈ x, i ∈ y) → x.length ≤ y.length := fun {x y} hx hs => by
    have := nodup_le (x.map (fun (i : Nat) => (i : Int))) (y.map (fun (i : Nat) => (i : Int))) (by rw [List.Nodup, List.pairwise_map]; exact hx.imp (by omega)) (fun z hz => by obtain ⟨i, hi, rfl⟩ := List.mem_map.1 hz; exact List.mem_map_of_mem (hs i hi))
    simpa using this
  exact Nat.le_antisymm (e h1 fun i hi => (h i).1 hi) (e h2 fun i hi => (h i).2 hi)
/-- choices may have any order -/
theorem does_idx {l : List Pair} {k a b : Int} : Does l k a b [] [] ↔ ∃ c : List Nat, c.Nodup ∧ (∀ i ∈ c, i < l.length) ∧ (c.length : Int) = k ∧ a ≤ nl [] (sel l c) ∧ b ≤ nr [] (sel l c) := by
  constructor
  · rintro ⟨S, h1, h2, h3, h4⟩
    obtain ⟨c, h5, rfl⟩ := sub_ch h1
    obtain ⟨_, h6, h7, h8, h9⟩ := ch_props l _ c h5
    exact ⟨c, h8.imp (by omega), h9, by omega, h3, h4⟩
  · rintro ⟨c, h1, h2, h3, h4, h5⟩
    have hm : ∀ i, i ∈ (List.range l.length).filter (fun i => decide (i ∈ c)) ↔ i ∈ c := fun i => by
      rw [List.mem_filter, List.mem_range, decide_eq_true_iff]; exact ⟨fun h => h.2, fun h => ⟨h2 i h, h⟩⟩
    have hn : ((List.range l.length).filter (fun i => decide (i ∈ c))).Nodup := List.Pairwise.sublist List.filter_sublist List.nodup_range
    have hs : (sel l ((List.range l.length).filter (fun i => decide (i ∈ c)))).Sublist l := by
      have h9 : (sel l ((List.range l.length).filter (fun i => decide (i ∈ c)))).Sublist (sel l (List.range l.length)) := by
        unfold sel; exact List.Sublist.filterMap _ List.filter_sublist
      rwa [sel_all] at h9
    have hl : ∀ c : List Nat, (∀ i ∈ c, i < l.length) → (sel l c).length = c.length := fun c hc => by
      induction c with
      | nil => rfl
      | cons i c ih =>
        have hi := hc i (by simp)
        unfold sel at ih ⊢
        rw [List.filterMap_cons, List.getElem?_eq_getElem hi]
        simp only [List.length_cons]
        rw [ih fun j hj => hc j (by simp [hj])]
    have hmem : ∀ z, z ∈ sel l ((List.range l.length).filter (fun i => decide (i ∈ c))) ↔ z ∈ sel l c := fun z => by
      unfold sel
      simp only [List.mem_filterMap, hm]
    have e1 : nl [] (sel l ((List.range l.length).filter (fun i => decide (i ∈ c)))) = nl [] (sel l c) := cn_congr (fun _ => Iff.rfl) fun z _ => by simp only [List.mem_map, hmem]
    have e2 : nr [] (sel l ((List.range l.length).filter (fun i => decide (i ∈ c)))) = nr [] (sel l c) := cn_congr (fun _ => Iff.rfl) fun z _ => by simp only [List.mem_map, hmem]
    refine ⟨_, hs, ?_, by rw [e1]; exact h4, by rw [e2]; exact h5⟩
    rw [hl _ fun i hi => h2 i ((hm i).1 hi), len_of_mem hn h1 hm]
    exact h3
theorem rz_at {ms : List Mb} {ord : List Nat} (h : ∀ k ∈ ord, k < ms.length) (i : Nat) : (rz ms ord)[i]? = (ord[i]?).bind fun k => (ms[k]?).map fun x => (x.rack, x.zone) := by
  induction ord generalizing i with
  | nil => simp [rz]
  | cons k ord ih =>
    have hk := h k (by simp)
    have ih := ih fun j hj => h j (by simp [hj])
    have e : rz ms (k :: ord) = (ms[k].rack, ms[k].zone) :: rz ms ord := by unfold rz; rw [List.filterMap_cons, List.getElem?_eq_getElem hk]; rfl
    rw [e]
    cases i with
    | zero => simp [List.getElem?_eq_getElem hk]
    | succ i => simp only [List.getElem?_cons_succ]; exact ih i
theorem perm_mem {ord : List Nat} {m : Nat} (hnd : ord.Nodup) (hlt : ∀ k ∈ ord, k < m) (hl : ord.length = m) {j : Nat} (hj : j < m) : j ∈ ord := by
  apply Classical.byContradiction
  intro hn
  have h1 : (j :: ord).Nodup := List.nodup_cons.2 ⟨hn, hnd⟩
  have h2 := nodup_le ((j :: ord).map (fun (i : Nat) => (i : Int))) ((List.range m).map (fun (i : Nat) => (i : Int))) (by rw [List.Nodup, List.pairwise_map]; exact h1.imp (by omega)) (fun z hz => by
    obtain ⟨i, hi, rfl⟩ := List.mem_map.1 hz
    refine List.mem_map_of_mem (List.mem_range.2 ?_)
    rcases List.mem_cons.1 hi with rfl | hi
    · exact hj
    · exact hlt i hi)
  simp at h2
  omega
theorem rz_range (ms : List Mb) (i : Nat) : (rz ms (List.range ms.length))[i]? = (ms[i]?).map fun x => (x.rack, x.zone) := by
  rw [rz_at fun k hk => List.mem_range.1 hk]
  by_cases h : i < ms.length
  · rw [List.getElem?_range h]; rfl
  · rw [List.getElem?_eq_none (by simp; omega), List.getElem?_eq_none (by omega)]; rfl
/-- whatever the order of members is, the same can be covered -/
theorem does_perm {ms : List Mb} {ord : List Nat} (hnd : ord.Nodup) (hlt : ∀ k ∈ ord, k < ms.length) (hl : ord.length = ms.length) (k a b : Int) :
    Does (Pref.pairsOf (rz ms ord)) k a b [] [] ↔ Does (Pref.pairsOf (rz ms (List.range ms.length))) k a b [] [] := by
  have l1 : (Pref.pairsOf (rz ms ord)).length = ms.length := by rw [Pref.pairsOf_len, rz_len hlt, hl]
  have l2 : (Pref.pairsOf (rz ms (List.range ms.length))).length = ms.length := by rw [Pref.pairsOf_len, rz_len fun k hk => List.mem_range.1 hk, List.length_range]
  rw [does_idx, does_idx, l1, l2]
  constructor
  · rintro ⟨c, h1, h2, h3, h4, h5⟩
    have hs : selT (rz ms (List.range ms.length)) (c.map fun i => ord.getD i 0) = selT (rz ms ord) c := by
      unfold selT
      rw [List.filterMap_map]
      apply fmap_congr
      intro i hi
      have hio : i < ord.length := by have := h2 i hi; omega
      simp only [Function.comp_apply]
      rw [rz_range, rz_at hlt, List.getElem?_eq_getElem hio, List.getD_eq_getElem?_getD, List.getElem?_eq_getElem hio]; rfl
    refine ⟨c.map fun i => ord.getD i 0, ?_, ?_, by simpa using h3, ?_, ?_⟩
    · rw [List.Nodup, List.pairwise_map]
      refine List.Pairwise.imp_of_mem (fun {i j} hi hj hij e => hij ?_) h1
      have hio : i < ord.length := by have := h2 i hi; omega
      have hjo : j < ord.length := by have := h2 j hj; omega
      rw [List.getD_eq_getElem?_getD, List.getElem?_eq_getElem hio, List.getD_eq_getElem?_getD, List.getElem?_eq_getElem hjo] at e
      exact (List.getElem_inj hnd).1 e
    · intro j hj
      obtain ⟨i, hi, rfl⟩ := List.mem_map.1 hj
      have hio : i < ord.length := by have := h2 i hi; omega
      rw [List.getD_eq_getElem?_getD, List.getElem?_eq_getElem hio]
      exact hlt _ (List.getElem_mem hio)
    · rw [nl_pairs, hs, ← nl_pairs]; exact h4
    · rw [nr_pairs, hs, ← nr_pairs]; exact h5
  · rintro ⟨c, h1, h2, h3, h4, h5⟩
    have hin : ∀ j ∈ c, j ∈ ord := fun j hj => perm_mem hnd hlt hl (h2 j hj)
    have hat : ∀ j ∈ c, ord[ord.idxOf j]? = some j := fun j hj => by
      have h9 := List.idxOf_lt_length_iff.2 (hin j hj)
      rw [List.getElem?_eq_getElem h9, List.getElem_idxOf h9]
    have hs : selT (rz ms ord) (c.map fun j => ord.idxOf j) = selT (rz ms (List.range ms.length)) c := by
      unfold selT
      rw [List.filterMap_map]
      apply fmap_congr
      intro j hj
      simp only [Function.comp_apply]
      rw [rz_range, rz_at hlt, hat j hj]; rfl
    refine ⟨c.map fun j => ord.idxOf j, ?_, ?_, by simpa using h3, ?_, ?_⟩
    · rw [List.Nodup, List.pairwise_map]
      refine List.Pairwise.imp_of_mem (fun {i j} hi hj hij e => hij ?_) h1
      have h6 := hat i hi
      have h7 := hat j hj
      rw [e, h7] at h6
      injection h6 with h6
      exact h6.symm
    · intro i hi
      obtain ⟨j, hj, rfl⟩ := List.mem_map.1 hi
      rw [← hl]
      exact List.idxOf_lt_length_iff.2 (hin j hj)
    · rw [nl_pairs, hs, ← nl_pairs]; exact h4
    · rw [nr_pairs, hs, ← nr_pairs]; exact h5
theorem pickR_self {l : List Pair} {m : Nat} (hm : m ≤ l.length) : PickR l (m : Int) (pkL l m) := by
  refine ⟨fun h => absurd ⟨by omega, by omega⟩ h, fun m' e hm' => ?_⟩
  obtain rfl : m = m' := by omega
  have hb := best_ch hm
  refine ⟨_, _, hb, best_min hm hb, ?_⟩
  unfold pkL
  rw [if_pos ⟨by omega, by omega⟩, show ((m : Int)).toNat = m from rfl]
  cases hf : firstC l m (bestF l (ch l.length m)).1 (bestF l (ch l.length m)).2 [] [] with
  | none => exact absurd (best_does hb) (firstC_none.1 hf)
  | some c => rfl
end Go.Proofs.Ytpiinfjcjpdofaa
