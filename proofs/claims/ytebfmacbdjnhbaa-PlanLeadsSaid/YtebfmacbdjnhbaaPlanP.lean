/- Plain: orders between two lists of names may be done one by one, and lead from the one to the other. -/
import Derived.Test.YtebfmacbdjnhbaaPlanE
import Derived.Test.YtebfmacbdjnhbaaMoveF
namespace Go.Proofs.Ytebfmacbdjnhbaa
open Go.RowKit Go.Mem
set_option linter.unusedVariables false

theorem len_le_of_sub {T : Type} : ∀ (a b : List T), a.Nodup → (∀ x ∈ a, x ∈ b) → a.length ≤ b.length
  | [], _, _, _ => Nat.zero_le _
  | x :: a, b, hn, hs => by
    obtain ⟨s, r, rfl⟩ := List.append_of_mem (hs x (by simp))
    have hn' := List.nodup_cons.1 hn
    have := len_le_of_sub a (s ++ r) hn'.2 (fun y hy => by
      have h1 := hs y (by simp [hy])
      rw [List.mem_append, List.mem_cons] at h1
      rw [List.mem_append]
      rcases h1 with h | rfl | h
      · exact .inl h
      · exact absurd hy hn'.1
      · exact .inr h)
    simp only [List.length_cons, List.length_append] at this ⊢
    omega
theorem nodup_take {T : Type} {l : List T} (h : l.Nodup) (i : Nat) (hi : i < l.length) : l[i] ∉ l.take i := fun hm => by
  have e : l = l.take i ++ l[i] :: l.drop (i + 1) := by rw [← List.drop_eq_getElem_cons, List.take_append_drop]
  rw [e, List.nodup_append] at h
  exact h.2.2 _ hm _ (List.mem_cons_self ..) rfl
theorem nodup_filter {T : Type} (p : T → Bool) {l : List T} (h : l.Nodup) : (l.filter p).Nodup := h.sublist List.filter_sublist
theorem rests_len (was now : List ByteArray) (h1 : was.Nodup) (h2 : now.Nodup) : (restsL now was).length = (restsL was now).length := by
  have key : ∀ a b : List ByteArray, a.Nodup → (restsL b a).length ≤ (restsL a b).length := fun a b ha => by
    unfold restsL
    refine len_le_of_sub _ _ (nodup_filter _ ha) (fun x hx => ?_)
    rw [List.mem_filter, mem_iff] at hx ⊢
    exact ⟨hx.2, hx.1⟩
  exact Nat.le_antisymm (key _ _ h1) (key _ _ h2)

/-- the nodes behind so many orders -/
def nodesL (was now : List ByteArray) (i : Nat) : List ByteArray :=
  (was ++ (gainsL was now).take i).filter fun s => !mem s ((gainsL now was).take (i - (gainsL was now).length))

theorem mem_gains {was now : List ByteArray} {s : ByteArray} : s ∈ gainsL was now ↔ s ∈ now ∧ s ∉ was := by
  unfold gainsL
  rw [List.mem_filter, Bool.not_eq_true', mem_false]
theorem from_mem (was now : List ByteArray) (h : was ≠ []) : fromL was now ∈ was := by
  unfold fromL
  cases hr : restsL now was with
  | nil =>
    cases was with
    | nil => exact absurd rfl h
    | cons a l => simp
  | cons x r =>
    have : x ∈ restsL now was := by rw [hr]; simp
    unfold restsL at this
    rw [List.mem_filter] at this
    simpa using this.1

theorem leads_at (place : ByteArray) (was now : List ByteArray) (h1 : was.Nodup) (h2 : now.Nodup) (e1 : ∀ s ∈ was, s ≠ ByteArray.empty) (n1 : was ≠ []) (n2 : now ≠ []) (i : Nat) (hi : i ≤ (ordersL place was now).length) :
    doL place was ((ordersL place was now).take i) = some (nodesL was now i) := by
  induction i with
  | zero =>
    simp only [List.take_zero, doL, nodesL, List.append_nil, Nat.zero_sub]
    congr 1
    symm
    exact List.filter_eq_self.2 (fun s _ => by simp [mem])
  | succ i ih =>
    have ih := ih (by omega)
    have hlt : i < (ordersL place was now).length := by omega
    rw [List.take_succ_eq_append_getElem hlt, doL_snoc, ih, Option.bind_some]
    have hlen : (ordersL place was now).length = (gainsL was now).length + (gainsL now was).length := by unfold ordersL; simp
    have hgn : (gainsL was now).Nodup := nodup_filter _ h2
    have hln : (gainsL now was).Nodup := nodup_filter _ h1
    by_cases hg : i < (gainsL was now).length
    · have hx : (ordersL place was now)[i] = ⟨place, fromL was now, (gainsL was now)[i]⟩ := by
        have hq : (ordersL place was now)[i]? = some ⟨place, fromL was now, (gainsL was now)[i]⟩ := by
          unfold ordersL
          rw [List.getElem?_append_left (by simpa using hg), List.getElem?_map, List.getElem?_eq_getElem hg]; rfl
        rw [List.getElem?_eq_getElem hlt] at hq
        injection hq
      have hn : nodesL was now i = was ++ (gainsL was now).take i := by
        unfold nodesL
        rw [show i - (gainsL was now).length = 0 by omega]
        exact List.filter_eq_self.2 (fun s _ => by simp [mem])
      have hn' : nodesL was now (i + 1) = was ++ (gainsL was now).take (i + 1) := by
        unfold nodesL
        rw [show i + 1 - (gainsL was now).length = 0 by omega]
        exact List.filter_eq_self.2 (fun s _ => by simp [mem])
      have hgi : (gainsL was now)[i] ∈ gainsL was now := List.getElem_mem hg
      have hfe : fromL was now ≠ ByteArray.empty := e1 _ (from_mem was now n1)
      rw [hx, hn, hn']
      unfold stepL
      rw [if_pos rfl]
      have hmay : mayL (was ++ (gainsL was now).take i) ⟨place, fromL was now, (gainsL was now)[i]⟩ = true := by
        unfold mayL
        rw [if_neg hfe, Bool.and_eq_true, Bool.not_eq_true', mem_false, mem_iff]
        refine ⟨?_, by rw [List.mem_append]; exact .inl (from_mem was now n1)⟩
        rw [List.mem_append]
        rintro (h | h)
        · exact (mem_gains.1 hgi).2 h
        · exact nodup_take hgn i hg h
      rw [if_pos hmay, if_neg hfe, List.take_succ_eq_append_getElem hg, List.append_assoc]
    · obtain ⟨j, rfl⟩ : ∃ j, i = (gainsL was now).length + j := ⟨i - (gainsL was now).length, by omega⟩
      have hj : j < (gainsL now was).length := by omega
      have hx : (ordersL place was now)[(gainsL was now).length + j] = ⟨place, ByteArray.empty, (gainsL now was)[j]⟩ := by
        have hq : (ordersL place was now)[(gainsL was now).length + j]? = some ⟨place, ByteArray.empty, (gainsL now was)[j]⟩ := by
          unfold ordersL
          rw [List.getElem?_append_right (by simp), List.length_map, Nat.add_sub_cancel_left, List.getElem?_map, List.getElem?_eq_getElem hj]; rfl
        rw [List.getElem?_eq_getElem hlt] at hq
        injection hq
      have ht : (gainsL was now).take ((gainsL was now).length + j) = gainsL was now := List.take_of_length_le (by omega)
      have ht' : (gainsL was now).take ((gainsL was now).length + j + 1) = gainsL was now := List.take_of_length_le (by omega)
      have hti : (gainsL now was)[j] ∈ gainsL now was := List.getElem_mem hj
      have hn : nodesL was now ((gainsL was now).length + j) = (was ++ gainsL was now).filter fun s => !mem s ((gainsL now was).take j) := by
        unfold nodesL; rw [ht, Nat.add_sub_cancel_left]
      have hn' : nodesL was now ((gainsL was now).length + j + 1) = (was ++ gainsL was now).filter fun s => !mem s ((gainsL now was).take (j + 1)) := by
        unfold nodesL; rw [ht', show (gainsL was now).length + j + 1 - (gainsL was now).length = j + 1 by omega]
      rw [hx, hn, hn']
      unfold stepL
      rw [if_pos rfl]
      have hmay : mayL ((was ++ gainsL was now).filter fun s => !mem s ((gainsL now was).take j)) ⟨place, ByteArray.empty, (gainsL now was)[j]⟩ = true := by
        unfold mayL
        rw [if_pos rfl, Bool.and_eq_true, mem_iff, List.any_eq_true]
        constructor
        · rw [List.mem_filter, Bool.not_eq_true', mem_false]
          exact ⟨by rw [List.mem_append]; exact .inl (mem_gains.1 hti).1, fun h => nodup_take hln j hj h⟩
        · cases now with
          | nil => exact absurd rfl n2
          | cons y r =>
            refine ⟨y, ?_, ?_⟩
            · rw [List.mem_filter, Bool.not_eq_true', mem_false, List.mem_append]
              refine ⟨?_, fun h => (mem_gains.1 (List.mem_of_mem_take h)).2 (by simp)⟩
              by_cases hy : y ∈ was
              · exact .inl hy
              · exact .inr (mem_gains.2 ⟨by simp, hy⟩)
            · rw [Bool.not_eq_true', decide_eq_false_iff_not]
              intro he
              simp only at he
              rw [← he] at hti
              exact (mem_gains.1 hti).2 (by simp)
      rw [if_pos hmay, if_pos rfl, List.filter_filter]
      congr 1
      apply List.filter_congr
      intro s _
      rw [List.take_succ_eq_append_getElem hj]
      by_cases h1 : s = (gainsL now was)[j]
      · subst h1
        have : mem (gainsL now was)[j] (List.take j (gainsL now was) ++ [(gainsL now was)[j]]) = true := by rw [mem_iff, List.mem_append]; exact .inr (List.mem_singleton.2 rfl)
        rw [this]
        simp
      · have : mem s (List.take j (gainsL now was) ++ [(gainsL now was)[j]]) = mem s (List.take j (gainsL now was)) := by
          rw [Bool.eq_iff_iff, mem_iff, mem_iff, List.mem_append, List.mem_singleton]; exact ⟨fun h => h.resolve_right h1, .inl⟩
        rw [this]
        simp [h1]

theorem nodes_in (was now : List ByteArray) (i : Nat) : ∀ s ∈ nodesL was now i, s ∈ was ∨ s ∈ now := fun s hs => by
  unfold nodesL at hs
  rw [List.mem_filter, List.mem_append] at hs
  rcases hs.1 with h | h
  · exact .inl h
  · exact .inr (mem_gains.1 (List.mem_of_mem_take h)).1
theorem nodes_some (was now : List ByteArray) (n1 : was ≠ []) (n2 : now ≠ []) (i : Nat) : nodesL was now i ≠ [] := by
  by_cases hg : i < (gainsL was now).length
  · have hn : nodesL was now i = was ++ (gainsL was now).take i := by
      unfold nodesL
      rw [show i - (gainsL was now).length = 0 by omega]
      exact List.filter_eq_self.2 (fun s _ => by simp [mem])
    rw [hn]
    simp [n1]
  · cases now with
    | nil => exact absurd rfl n2
    | cons y r =>
      apply List.ne_nil_of_mem (a := y)
      unfold nodesL
      rw [List.mem_filter, Bool.not_eq_true', mem_false, List.mem_append, List.take_of_length_le (by omega)]
      refine ⟨?_, fun h => (mem_gains.1 (List.mem_of_mem_take h)).2 (by simp)⟩
      by_cases hy : y ∈ was
      · exact .inl hy
      · exact .inr (mem_gains.2 ⟨by simp, hy⟩)
theorem nodes_end (was now : List ByteArray) (h1 : was.Nodup) (h2 : now.Nodup) : (nodesL was now ((gainsL was now).length + (gainsL now was).length)).length = now.length ∧ ∀ s ∈ now, s ∈ nodesL was now ((gainsL was now).length + (gainsL now was).length) := by
  have hn : nodesL was now ((gainsL was now).length + (gainsL now was).length) = (was ++ gainsL was now).filter fun s => !mem s (gainsL now was) := by
    unfold nodesL
    rw [Nat.add_sub_cancel_left, List.take_length, List.take_of_length_le (l := gainsL was now) (by omega)]
  rw [hn]
  constructor
  · rw [List.filter_append, List.length_append]
    have e1 : was.filter (fun s => !mem s (gainsL now was)) = restsL now was := by
      unfold restsL
      apply List.filter_congr
      intro s hs
      rw [Bool.eq_iff_iff, Bool.not_eq_true', mem_false, mem_iff, mem_gains]
      constructor
      · intro h; exact Classical.byContradiction fun h' => h ⟨hs, h'⟩
      · intro h h'; exact h'.2 h
    have e2 : (gainsL was now).filter (fun s => !mem s (gainsL now was)) = gainsL was now := List.filter_eq_self.2 (fun s hs => by
      rw [Bool.not_eq_true', mem_false, mem_gains]
      exact fun h => h.2 (mem_gains.1 hs).1)
    rw [e1, e2, rests_len was now h1 h2]
    have := parts_len was now
    omega
  · intro s hs
    rw [List.mem_filter, Bool.not_eq_true', mem_false, List.mem_append]
    refine ⟨?_, fun h => (mem_gains.1 h).2 hs⟩
    by_cases hy : s ∈ was
    · exact .inl hy
    · exact .inr (mem_gains.2 ⟨hs, hy⟩)
end Go.Proofs.Ytebfmacbdjnhbaa
