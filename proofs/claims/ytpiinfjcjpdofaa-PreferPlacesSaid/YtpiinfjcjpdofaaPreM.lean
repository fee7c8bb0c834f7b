/- Where those of a list stand; how many racks and zones they have: plain. -/
import Derived.Test.YtpiinfjcjpdofaaPreK
namespace Go.Proofs.Ytpiinfjcjpdofaa
open Go.RowKit Go.Mem Go.Cov
set_option linter.unusedVariables false
set_option linter.unusedSimpArgs false

theorem knl_congr {xs ys : List ByteArray} (h : ∀ z, z ∈ xs ↔ z ∈ ys) : (Pref.knl xs).length = (Pref.knl ys).length := by
  have e1 := cn_inj (xs := xs) (f := fun s => (Pref.idx (Pref.knl xs) s : Int)) (fun a ha b hb e => Pref.idx_inj (Pref.mem_knl.2 ha) (Pref.mem_knl.2 hb) (Int.ofNat.inj e))
  have e2 := cn_inj (xs := ys) (f := fun s => (Pref.idx (Pref.knl xs) s : Int)) (fun a ha b hb e => Pref.idx_inj (Pref.mem_knl.2 ((h a).2 ha)) (Pref.mem_knl.2 ((h b).2 hb)) (Int.ofNat.inj e))
  rw [← e1, ← e2]
  exact cn_congr (fun _ => Iff.rfl) fun z _ => by simp only [List.mem_map, h]
/-- the members at places -/
def gotM (U : List Mb) (gi : List Nat) : List Mb := gi.filterMap fun j => U[j]?
theorem gotM_snoc {U : List Mb} {gi : List Nat} {j : Nat} (h : j < U.length) : gotM U (gi ++ [j]) = gotM U gi ++ [U[j]] := by unfold gotM; rw [List.filterMap_append]; simp [h]
theorem gotM_le (U : List Mb) (gi : List Nat) : (gotM U gi).length ≤ gi.length := List.length_filterMap_le _ _
structure Plc (U : List Mb) (k : Nat) (nodes : List ByteArray) (gi : List Nat) : Prop where
  nd : gi.Nodup
  lt : ∀ j ∈ gi, j < U.length
  len : gi.length = k
  nlen : nodes.length = k
  at_ : ∀ (i j : Nat) (s : ByteArray), gi[i]? = some j → nodes[i]? = some s → ∃ x : Mb, U[j]? = some x ∧ x.name = s
  rk : (Pref.knl ((gotM U gi).map Mb.rack)).length = min (Pref.knl (U.map Mb.rack)).length k
  both : doesB (Pref.pairsOf (rz U (List.range U.length))) (k : Int) ((min (Pref.knl (U.map Mb.rack)).length k : Nat) : Int) ((min (Pref.knl (U.map Mb.zone)).length k : Nat) : Int) [] [] = decide ((Pref.knl ((gotM U gi).map Mb.zone)).length = min (Pref.knl (U.map Mb.zone)).length k)
theorem rz_mem {U : List Mb} {ord : List Nat} (hnd : ord.Nodup) (hlt : ∀ k ∈ ord, k < U.length) (hl : ord.length = U.length) (p : ByteArray × ByteArray) : p ∈ rz U ord ↔ p ∈ U.map fun x => (x.rack, x.zone) := by
  unfold rz
  rw [List.mem_filterMap, List.mem_map]
  constructor
  · rintro ⟨k, hk, h⟩
    obtain ⟨x, hx, rfl⟩ := Option.map_eq_some_iff.1 h
    exact ⟨x, List.mem_of_getElem? hx, rfl⟩
  · rintro ⟨x, hx, rfl⟩
    obtain ⟨j, hj, rfl⟩ := List.mem_iff_getElem.1 hx
    exact ⟨j, perm_mem hnd hlt hl hj, by rw [List.getElem?_eq_getElem hj]; rfl⟩
theorem selT_all (T : List (ByteArray × ByteArray)) : selT T (List.range T.length) = T := by
  unfold selT
  induction T with
  | nil => rfl
  | cons a l ih =>
    rw [List.length_cons, List.range_succ_eq_map, List.filterMap_cons]
    simp only [List.getElem?_cons_zero, List.filterMap_map]
    rw [show ((fun i => (a :: l)[i]?) ∘ Nat.succ) = fun i => l[i]? from by funext i; simp]
    rw [ih]
theorem nl_all (T : List (ByteArray × ByteArray)) : nl [] (Pref.pairsOf T) = (Pref.knl (T.map (·.1))).length := by
  have h := nl_pairs T (List.range T.length)
  rw [selT_all] at h
  rw [← h, ← Pref.pairsOf_len T, sel_all]
theorem nr_all (T : List (ByteArray × ByteArray)) : nr [] (Pref.pairsOf T) = (Pref.knl (T.map (·.2))).length := by
  have h := nr_pairs T (List.range T.length)
  rw [selT_all] at h
  rw [← h, ← Pref.pairsOf_len T, sel_all]
theorem places (ss : List ByteArray) (U : List Mb) (part many : Int) (k : Nat) (hk : (k : Int) = min many U.length) : ∃ gi, Plc U k (chN ss U part many) gi := by
  obtain ⟨hnd, hin, hle⟩ := WalkL.order_perm (names U) ss ByteArray.empty part
  unfold chN
  generalize WalkL.order (names U) ss ByteArray.empty part = ord at hnd hin hle ⊢
  have hnl : (names U).length = U.length := by simp [names]
  rw [hnl] at hin hle
  rw [← hk]
  have hPl : (Pref.pairsOf (rz U ord)).length = U.length := by rw [Pref.pairsOf_len, rz_len hin, hle]
  have hku : k ≤ U.length := by omega
  obtain ⟨x, y, hmo⟩ := most_of (by rw [hPl]; exact hku) (pickR_self (l := Pref.pairsOf (rz U ord)) (m := k) (by rw [hPl]; exact hku))
  have hbo := both_iff hmo
  have hleft := hmo.left
  generalize hcs : pkL (Pref.pairsOf (rz U ord)) (k : Int) = cs at hmo ⊢
  have hlt : ∀ i ∈ cs, i < ord.length := fun i hi => by have := hmo.lt i hi; rw [hPl] at this; omega
  have hcn : cs.Nodup := by
    have h := hmo.rise
    unfold natI at h
    rw [List.pairwise_map] at h
    exact h.imp (by omega)
  have hxs := hmo.xs; have hys := hmo.ys
  rw [nl_pairs] at hxs
  rw [nr_pairs] at hys
  have hU1 : nl [] (Pref.pairsOf (rz U ord)) = (Pref.knl (U.map Mb.rack)).length := by
    rw [nl_all]
    refine knl_congr fun z => ?_
    rw [List.mem_map, List.mem_map]
    constructor
    · rintro ⟨p, hp, rfl⟩
      obtain ⟨x, hx, rfl⟩ := List.mem_map.1 ((rz_mem hnd hin hle p).1 hp)
      exact ⟨x, hx, rfl⟩
    · rintro ⟨x, hx, rfl⟩
      exact ⟨(x.rack, x.zone), (rz_mem hnd hin hle _).2 (List.mem_map_of_mem hx), rfl⟩
  have hU2 : nr [] (Pref.pairsOf (rz U ord)) = (Pref.knl (U.map Mb.zone)).length := by
    rw [nr_all]
    refine knl_congr fun z => ?_
    rw [List.mem_map, List.mem_map]
    constructor
    · rintro ⟨p, hp, rfl⟩
      obtain ⟨x, hx, rfl⟩ := List.mem_map.1 ((rz_mem hnd hin hle p).1 hp)
      exact ⟨x, hx, rfl⟩
    · rintro ⟨x, hx, rfl⟩
      exact ⟨(x.rack, x.zone), (rz_mem hnd hin hle _).2 (List.mem_map_of_mem hx), rfl⟩
  have hsel : selT (rz U ord) cs = (gotM U (cs.map fun i => ord.getD i 0)).map fun x => (x.rack, x.zone) := by
    unfold selT gotM
    rw [List.filterMap_map, List.map_filterMap]
    apply fmap_congr
    intro i hi
    have hio := hlt i hi
    simp only [Function.comp_apply]
    rw [rz_at hin, List.getElem?_eq_getElem hio, List.getD_eq_getElem?_getD, List.getElem?_eq_getElem hio]; rfl
  rw [hsel, List.map_map] at hxs hys
  rw [hU1] at hleft hbo
  rw [hU2] at hbo
  have hdp : doesB (Pref.pairsOf (rz U (List.range U.length))) (k : Int) ((min (Pref.knl (U.map Mb.rack)).length k : Nat) : Int) ((min (Pref.knl (U.map Mb.zone)).length k : Nat) : Int) [] [] = doesB (Pref.pairsOf (rz U ord)) (k : Int) ((min (Pref.knl (U.map Mb.rack)).length k : Nat) : Int) ((min (Pref.knl (U.map Mb.zone)).length k : Nat) : Int) [] [] := by
    rw [Bool.eq_iff_iff, doesB_iff, doesB_iff]
    exact (does_perm hnd hin hle _ _ _).symm
  have hgl : ∀ i ∈ cs, ∃ x, U[ord.getD i 0]? = some x := fun i hi => by
    have hio := hlt i hi
    have := hin _ (List.getElem_mem hio)
    rw [List.getD_eq_getElem?_getD, List.getElem?_eq_getElem hio]
    exact ⟨_, List.getElem?_eq_getElem this⟩
  have hnm : ∀ c : List Nat, (∀ i ∈ c, i ∈ cs) → (nmA U ord c).length = c.length ∧ ∀ (i j : Nat) (s : ByteArray), (c.map fun i => ord.getD i 0)[i]? = some j → (nmA U ord c)[i]? = some s → ∃ x : Mb, U[j]? = some x ∧ x.name = s := by
    intro c
    induction c with
    | nil => intro _; exact ⟨rfl, fun i j s h => by simp at h⟩
    | cons a c ih =>
      intro hc
      obtain ⟨ih1, ih2⟩ := ih fun i hi => hc i (by simp [hi])
      have hao := hlt a (hc a (by simp))
      obtain ⟨x, hx⟩ := hgl a (hc a (by simp))
      have e : nmA U ord (a :: c) = x.name :: nmA U ord c := by
        unfold nmA
        rw [List.filterMap_cons]
        rw [List.getD_eq_getElem?_getD, List.getElem?_eq_getElem hao] at hx
        rw [List.getElem?_eq_getElem hao]
        simp only [Option.bind_some, Option.getD_some] at hx ⊢
        rw [hx]; rfl
      rw [e]
      refine ⟨by simp [ih1], fun i j s h1 h2 => ?_⟩
      cases i with
      | zero =>
        simp only [List.map_cons, List.getElem?_cons_zero, Option.some.injEq] at h1 h2
        subst h1 h2
        exact ⟨x, hx, rfl⟩
      | succ i =>
        simp only [List.map_cons, List.getElem?_cons_succ] at h1 h2
        exact ih2 i j s h1 h2
  obtain ⟨hn1, hn2⟩ := hnm cs fun i hi => hi
  refine ⟨cs.map fun i => ord.getD i 0, ?_, ?_, by rw [List.length_map]; exact hmo.len, by rw [hn1]; exact hmo.len, hn2, ?_, ?_⟩
  · rw [List.Nodup, List.pairwise_map]
    refine List.Pairwise.imp_of_mem (fun {i j} hi hj hij e => hij ?_) hcn
    have hio := hlt i hi
    have hjo := hlt j hj
    rw [List.getD_eq_getElem?_getD, List.getElem?_eq_getElem hio, List.getD_eq_getElem?_getD, List.getElem?_eq_getElem hjo] at e
    exact (List.getElem_inj hnd).1 e
  · intro j hj
    obtain ⟨i, hi, rfl⟩ := List.mem_map.1 hj
    obtain ⟨x, hx⟩ := hgl i hi
    exact (List.getElem?_eq_some_iff.1 hx).1
  · rw [← hleft, ← hxs]; rfl
  · rw [hdp, hbo, ← hys]; rfl
theorem nodes_cho (cl nms : List ByteArray) : nodesF (choF cl nms) = nms := by unfold nodesF choF; rw [List.map_map]; simp [Function.comp_def]
theorem gotM_len {U : List Mb} {gi : List Nat} (h : ∀ j ∈ gi, j < U.length) : (gotM U gi).length = gi.length := by
  induction gi with
  | nil => rfl
  | cons j gi ih =>
    have hj := h j (by simp)
    unfold gotM at ih ⊢
    rw [List.filterMap_cons, List.getElem?_eq_getElem hj]
    simp only [List.length_cons]
    rw [ih fun i hi => h i (by simp [hi])]
/-- names of their own -/
def Own_ (ms : List Mb) (k : Nat) : Prop := ∀ (i j : Nat) (x y : Mb), j < i → i < k → ms[i]? = some x → ms[j]? = some y → x.name ≠ y.name
theorem own_names {ms : List Mb} {m : Nat} (hm : ms.length = m) (h : Own_ ms m) : (ms.map Mb.name).Nodup := by
  rw [List.Nodup, List.pairwise_iff_getElem]
  intro i j hi hj hij
  rw [List.length_map] at hi hj
  rw [List.getElem_map, List.getElem_map]
  exact fun e => h j i ms[j] ms[i] hij (by omega) (List.getElem?_eq_getElem hj) (List.getElem?_eq_getElem hi) e.symm
theorem up_inj {ms : List Mb} (h : (ms.map Mb.name).Nodup) {i j : Nat} {x y : Mb} (hi : (upM ms)[i]? = some x) (hj : (upM ms)[j]? = some y) (he : x.name = y.name) : i = j := by
  have hn : ((upM ms).map Mb.name).Nodup := List.Pairwise.sublist ((List.filter_sublist (l := ms)).map _) h
  obtain ⟨h1, rfl⟩ := List.getElem?_eq_some_iff.1 hi
  obtain ⟨h2, rfl⟩ := List.getElem?_eq_some_iff.1 hj
  have := (List.getElem_inj (i := i) (j := j) (h₀ := by rw [List.length_map]; exact h1) (h₁ := by rw [List.length_map]; exact h2) hn).1 (by rw [List.getElem_map, List.getElem_map]; exact he)
  exact this
end Go.Proofs.Ytpiinfjcjpdofaa
