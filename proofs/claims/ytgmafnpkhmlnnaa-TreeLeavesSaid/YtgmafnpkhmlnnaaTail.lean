/- '[]byte(s)' that is appended to: a row of bytes of the call's own, whose frozen mark lies behind its cells. No program in sight. -/
import Derived.Test.YtgmafnpkhmlnnaaMem
import Derived.Lib.ConvBytes
import Derived.Lib.AppendStr
import Derived.Laws.CopyRow
namespace Go.Mem
set_option linter.unusedVariables false
open Go.RowKit
/-- the slice v of n bytes owns the cells xs; no cell of its row is frozen -/
def Tl (w : World) (base : Nat) (e : TypeId) (v : Value) (n : Nat) (xs : List Value) : Prop :=
  xs.length = n ∧ ∃ g cap cur fz, v = .slice (some ⟨g, 0, none⟩) n cap ∧ base ≤ g ∧ w.heap[g]? = some (.cells cur e fz) ∧ (fz.2 = 0 ∨ cap ≤ fz.1) ∧ n ≤ cap ∧ cap ≤ maxLen ∧ cur.size = cap ∧ cur.toList.take n = xs
section
variable {w w' : World} {base n : Nat} {e : TypeId} {v : Value} {xs : List Value}
theorem Tl.below (h : Tl w base e v n xs) (hb : Below w.heap.size w w') : Tl w' base e v n xs := by
  obtain ⟨h1, g, cap, cur, fz, hv, hg, hh, r⟩ := h
  exact ⟨h1, g, cap, cur, fz, hv, hg, (hb.block g (Array.getElem?_eq_some_iff.1 hh).1).trans hh, r⟩
theorem Tl.below_at {B : Nat} (h : Tl w base e v n xs) (hb : Below B w w') (hv : ∀ k, v.ownBlock = some k → k < B) : Tl w' base e v n xs := by
  obtain ⟨h1, g, cap, cur, fz, rfl, hg, hh, r⟩ := h
  exact ⟨h1, g, cap, cur, fz, rfl, hg, (hb.block g (hv g rfl)).trans hh, r⟩
theorem Tl.lt (h : Tl w base e v n xs) : ∀ k, v.ownBlock = some k → base ≤ k ∧ k < w.heap.size := by
  obtain ⟨h1, g, cap, cur, fz, rfl, hg, hh, r⟩ := h
  intro k hk
  simp [Value.ownBlock] at hk
  subst hk
  exact ⟨hg, (Array.getElem?_eq_some_iff.1 hh).1⟩
theorem Tl.cells {g c : Nat} (h : Tl w base e (.slice (some ⟨g, 0, none⟩) n c) n xs) : ∀ j u, xs[j]? = some u → w.cell? ((⟨g, 0, none⟩ : Addr).add j) = some u := by
  obtain ⟨h1, g', cap, cur, fz, hv, hg, hh, _, _, _, _, htk⟩ := h
  injection hv with ha
  injection ha with ha
  injection ha with ha
  subst ha
  intro j u hu
  rw [add_none, Nat.zero_add, cell_of_row w g j cur e fz hh]
  rw [← htk, List.getElem?_take] at hu
  split at hu
  · simpa using hu
  · cases hu
theorem Tl.form (h : Tl w base e v n xs) : ∃ g c, v = .slice (some ⟨g, 0, none⟩) n c ∧ base ≤ g ∧ g < w.heap.size ∧ n ≤ c ∧ c ≤ maxLen ∧ Rd w (some ⟨g, 0, none⟩) xs := by
  have hl := h.lt
  have hcc := @Tl.cells w base n e xs
  obtain ⟨h1, g, cap, cur, fz, rfl, hg, hh, h2, h3, h4, r⟩ := h
  refine ⟨g, cap, rfl, hg, (hl g rfl).2, h3, h4, fun j u hu => ⟨g, 0, rfl, ?_⟩⟩
  have := hcc (g := g) (c := cap) ⟨h1, g, cap, cur, fz, rfl, hg, hh, h2, h3, h4, r⟩ j u hu
  rwa [add_none] at this
/-- '[]byte(s)' -/
theorem Tl.of_text (w : World) (e : TypeId) (s : ByteArray) (hs : s.size ≤ maxLen) : Tl (Lib.bytesWorld w e s) w.heap.size e (.slice (some ⟨w.heap.size, 0, none⟩) s.size (grownCap w s.size 0 e)) s.size (Lib.strCells s) := by
  have hge := grownCap_ge w s.size 0 e
  have hsz : (Lib.bytesCells w e s).size = grownCap w s.size 0 e := by
    unfold Lib.bytesCells
    have hd : s.data.size = s.size := rfl
    rw [Array.size_append, Array.size_map, Array.size_replicate]
    omega
  refine ⟨Lib.strCells_length s, _, _, _, _, rfl, Nat.le_refl _, Lib.bytesWorld_at_new w e s, .inr (by rw [hsz]; exact Nat.le_refl _), hge, grownCap_le_maxLen w s.size 0 e hs, hsz, ?_⟩
  have hd : s.data.size = s.size := rfl
  unfold Lib.bytesCells Lib.strCells
  rw [Array.toList_append, Array.toList_map, List.take_left' (by simp)]
theorem below_text (w : World) (e : TypeId) (s : ByteArray) : Below w.heap.size w (Lib.bytesWorld w e s) :=
  ⟨rfl, rfl, rfl, by rw [Lib.bytesWorld_size]; omega, fun k hk => Lib.bytesWorld_at_old w e s k hk⟩
end
/-- the cells stored where nothing is frozen -/
theorem run_storeCells_tail (P : Program) (g : Nat) (t : TypeId) (fz : Nat × Nat) (o : Nat) : ∀ (vs : List Value) (i : Nat) (cur : Array Value) (w : World), w.heap[g]? = some (.cells cur t fz) → (fz.2 = 0 ∨ cur.size ≤ fz.1) → o + i + vs.length ≤ cur.size → (∀ v ∈ vs, v.oneCell' = true) →
    (storeCells ⟨g, o, none⟩ vs i).run P w = .ok () (w.setRow g (cur.toList.take (o + i) ++ vs ++ cur.toList.drop (o + i + vs.length)).toArray)
  | [], i, cur, w, hg, _, _, _ => by
    simp only [storeCells, List.append_nil, List.length_nil, Nat.add_zero, List.take_append_drop, Array.toArray_toList]
    rw [setRow_self w g cur t fz hg]
    rfl
  | v :: rest, i, cur, w, hg, hfz, hl, h1 => by
    have hi : o + i < cur.size := by simp at hl; omega
    have hadd : (⟨g, o, none⟩ : Addr).add i = ⟨g, o + i, none⟩ := by unfold Addr.add; split <;> simp_all
    have hcell : w.cell? ⟨g, o + i, none⟩ = some cur[o + i] := by simp [World.cell?, hg, hi]
    have hfro : w.frozen? ⟨g, o + i, none⟩ = false := by
      obtain ⟨lo, hi'⟩ := fz
      simp only [World.frozen?, hg, Bool.and_eq_false_iff, decide_eq_false_iff_not]
      simp only at hfz
      omega
    have hst : (store ((⟨g, o, none⟩ : Addr).add i) v).run P w = .ok () (w.setRow g (cur.setIfInBounds (o + i) v)) := by
      rw [hadd, run_store P w _ v _ (h1 v (by simp)), hcell]
      simp [hfro, setCell_eq_setRow w g (o + i) cur t fz v hg]
    have ih := run_storeCells_tail P g t fz o rest (i + 1) (cur.setIfInBounds (o + i) v) (w.setRow g (cur.setIfInBounds (o + i) v)) (setRow_heap w g cur _ t _ hg) (by simpa using hfz) (by simp at hl ⊢; omega) (fun x hx => h1 x (by simp [hx]))
    simp only [storeCells, Sem.run_bind, hst, Result.andThen_ok, ih, setRow_setRow]
    congr 3
    have e := list_seg_step cur.toList (o + i) v rest (by simp at hl ⊢; omega)
    simpa [Array.toList_setIfInBounds, Nat.add_assoc] using e

section
variable {P : Program} {w : World}
/-- the one law, whatever is appended: 'x' has m first cells 'news' in each world that reads as w does -/
theorem run_tail (base : Nat) (t u ty e : TypeId) (i : TypeInfo) (ht : P.underlying t = some (.slice e)) (hi : P.info? e = some i) (hz : i.zero = some (.int .u8 0)) (hsize : i.size = 1) (hby : i.bytes = 1)
    (v : Value) (n : Nat) (xs : List Value) (hown : Tl w base e v n xs) (x : Value) (m : Nat) (news : List Value) (hl : news.length = m) (h1 : ∀ u ∈ news, u.oneCell' = true)
    (hroomR : ∀ g cap cur fz, v = .slice (some ⟨g, 0, none⟩) n cap → w.heap[g]? = some (.cells cur e fz) → (storeCells ⟨g, n, none⟩ news 0).run P w = .ok () (w.setRow g (cur.toList.take n ++ news ++ cur.toList.drop (n + m)).toArray) → n + m ≤ cap →
      (Builtin.append_ #[t, u] ty #[v, x]).run P w = .ok (.slice (some ⟨g, 0, none⟩) (n + m) cap) (w.setRow g (cur.toList.take n ++ news ++ cur.toList.drop (n + m)).toArray))
    (hgrowR : ∀ g cap, v = .slice (some ⟨g, 0, none⟩) n cap → (∀ j u, xs[j]? = some u → w.cell? ((⟨g, 0, none⟩ : Addr).add j) = some u) → cap < n + m →
      (Builtin.append_ #[t, u] ty #[v, x]).run P w = .ok (.slice (some ⟨w.heap.size, 0, none⟩) (n + m) (grownCap w (n + m) cap e))
        (w.drew.alloc (.cells (xs.toArray ++ news.toArray ++ Builtin.zeroCells (Value.int .u8 0).cells (grownCap w (n + m) cap e - (n + m))) e)))
    (h63 : n + m ≤ maxLen) (hbase : base ≤ w.heap.size) :
    ∃ v' w', (Builtin.append_ #[t, u] ty #[v, x]).run P w = .ok v' w' ∧ Tl w' base e v' (n + m) (xs ++ news) ∧ Below base w w' := by
  have hlt := hown.lt
  have hcl := @Tl.cells w base n e xs
  obtain ⟨hx, g, cap, cur, fz, rfl, hg, hh, hf, hn, hc, hcs, htk⟩ := hown
  have hll : (xs ++ news).length = n + m := by rw [List.length_append, hx, hl]
  by_cases hroom : n + m ≤ cap
  · have hst := run_storeCells_tail P g e fz n news 0 cur w hh (by rw [hcs]; exact hf) (by omega) h1
    simp only [Nat.add_zero, hl] at hst
    refine ⟨_, _, hroomR g cap cur fz rfl hh hst hroom, ⟨hll, g, cap, _, fz, rfl, hg, setRow_heap w g cur _ e _ hh, hf, hroom, hc, ?_, ?_⟩, ?_⟩
    · simp only [List.size_toArray, List.length_append, List.length_take, List.length_drop, Array.length_toList, hl]
      omega
    · rw [htk, ← hll]
      exact List.take_left
    · exact ⟨rfl, rfl, rfl, by simp, fun k hk => setRow_other w g k _ (by omega)⟩
  · have hge := grownCap_ge w (n + m) cap e
    have hcm := grownCap_le_maxLen w (n + m) cap e h63
    refine ⟨_, _, hgrowR g cap rfl (hcl (g := g) (c := cap) ⟨hx, g, cap, cur, fz, rfl, hg, hh, hf, hn, hc, hcs, htk⟩) (by omega), ⟨hll, w.heap.size, _, _, (0, 0), rfl, hbase, heap_alloc_new w.drew _, .inl rfl, hge, hcm, ?_, ?_⟩, (Below.drew (Below.refl base w)).alloc hbase _⟩
    · have hz1 : (Value.int IntKind.u8 0).cells.size = 1 := rfl
      simp only [Array.size_append, List.size_toArray, size_zeroCells, hz1, hx, hl]
      omega
    · simp only [Array.toList_append, List.append_assoc]
      rw [← List.append_assoc, ← hll]
      exact List.take_left
theorem run_tail_slice (base : Nat) (t ty e : TypeId) (i : TypeInfo) (ht : P.underlying t = some (.slice e)) (hi : P.info? e = some i) (hz : i.zero = some (.int .u8 0)) (hsize : i.size = 1) (hby : i.bytes = 1)
    (v : Value) (n : Nat) (xs : List Value) (hown : Tl w base e v n xs) (a : Addr) (m c : Nat) (news : List Value) (hl : news.length = m) (hnews : ∀ j u, news[j]? = some u → w.cell? (a.add j) = some u) (h1 : ∀ u ∈ news, u.oneCell' = true)
    (h63 : n + m ≤ maxLen) (hbytes : n + m ≤ 140737488355328) (hbase : base ≤ w.heap.size) :
    ∃ v' w', (Builtin.append_ #[t, t] ty #[v, .slice (some a) m c]).run P w = .ok v' w' ∧ Tl w' base e v' (n + m) (xs ++ news) ∧ Below base w w' := by
  have hx := hown.1
  refine run_tail base t t ty e i ht hi hz hsize hby v n xs hown (.slice (some a) m c) m news hl h1 ?_ ?_ h63 hbase
  · rintro g cap cur fz rfl hh hst hroom
    have hf := run_firstCells_some (P := P) w i.size m a m c news (by rw [hsize]; omega) hnews
    have hs' : i.size = 1 := hsize
    rw [hs'] at hf
    simp [Builtin.append_, run_underlying ht, sizeOf, typeInfo, hi, hsize, Builtin.lenOf, hroom, hf, Addr.add_lit, hst]
  · rintro g cap rfl hc hg
    exact run_append_grow (P := P) w t ty e i (.int .u8 0) ht hi hz ⟨g, 0, none⟩ n cap xs (by rw [hsize]; omega) hc a m c news (by rw [hsize]; omega) hnews hg (by simp only [maxLen] at h63; omega) (by rw [hby]; exact growslice_fits (by omega) (by omega))
theorem run_tail_text (base : Nat) (t u ty e : TypeId) (i : TypeInfo) (ht : P.underlying t = some (.slice e)) (hu : P.underlying u = some .string) (hi : P.info? e = some i) (hz : i.zero = some (.int .u8 0)) (hsize : i.size = 1) (hby : i.bytes = 1)
    (v : Value) (n : Nat) (xs : List Value) (hown : Tl w base e v n xs) (s : ByteArray)
    (h63 : n + s.size ≤ maxLen) (hbytes : n + s.size ≤ 140737488355328) (hbase : base ≤ w.heap.size) :
    ∃ v' w', (Builtin.append_ #[t, u] ty #[v, .string s]).run P w = .ok v' w' ∧ Tl w' base e v' (n + s.size) (xs ++ Lib.strCells s) ∧ Below base w w' := by
  have hx := hown.1
  refine run_tail base t u ty e i ht hi hz hsize hby v n xs hown (.string s) s.size (Lib.strCells s) (Lib.strCells_length s) (Lib.strCells_oneCell s) ?_ ?_ h63 hbase
  · rintro g cap cur fz rfl hh hst hroom
    have hf := Lib.run_firstCells_string (P := P) w 1 s
    simp [Builtin.append_, run_underlying ht, run_underlying hu, sizeOf, typeInfo, hi, hsize, Builtin.lenOf, hroom, hf, Addr.add_lit, hst]
  · rintro g cap rfl hc hg
    exact Lib.run_append_grow_string (P := P) w t u ty e i (.int .u8 0) ht hu hi hz ⟨g, 0, none⟩ n cap xs (by rw [hsize]; omega) hc s hg (by simp only [maxLen] at h63; omega) (by rw [hby]; exact growslice_fits (by omega) (by omega))
theorem wpList_tail_slice {ops : Array Oper} {rest : List Oper} {o : Oper} {a : Act} {Q : Exit → Act → World → Prop} (hgd : o.guard = none) (s x : Operand) (t : TypeId)
    (ho : o.op = .call { callee := .builtin .append, args := #[s, x], argTypes := #[t, t] })
    (base : Nat) (e : TypeId) (i : TypeInfo) (ht : P.underlying t = some (.slice e)) (hi : P.info? e = some i) (hz : i.zero = some (.int .u8 0)) (hsize : i.size = 1) (hby : i.bytes = 1)
    (v : Value) (n : Nat) (xs : List Value) (hs : a.eval s = v) (hown : Tl w base e v n xs) (ad : Addr) (m c : Nat) (hx : a.eval x = .slice (some ad) m c) (news : List Value) (hl : news.length = m) (hnews : ∀ j u, news[j]? = some u → w.cell? (ad.add j) = some u) (h1 : ∀ u ∈ news, u.oneCell' = true)
    (h63 : n + m ≤ maxLen) (hbytes : n + m ≤ 140737488355328) (hbase : base ≤ w.heap.size)
    (h : ∀ v' w', Tl w' base e v' (n + m) (xs ++ news) → Below base w w' → wpList P ops Q rest (a.put o.dst v') w') : wpList P ops Q (o :: rest) a w :=
  wpList_plain hgd fun _ hK => by
    obtain ⟨v', w', hr, h2, h3⟩ := run_tail_slice (P := P) (w := w) base t o.type e i ht hi hz hsize hby v n xs hown ad m c news hl hnews h1 h63 hbytes hbase
    unfold Oper.wp execOp
    simp only [ho, resolve, invoke, builtin, Sem.run_bind, Sem.run_pure, Result.andThen_ok, List.map_toArray, List.map_cons, List.map_nil, hs, hx, hr]
    exact hK _ _ (h v' w' h2 h3)
theorem wpList_tail_text {ops : Array Oper} {rest : List Oper} {o : Oper} {a : Act} {Q : Exit → Act → World → Prop} (hgd : o.guard = none) (sl x : Operand) (t u : TypeId)
    (ho : o.op = .call { callee := .builtin .append, args := #[sl, x], argTypes := #[t, u] })
    (base : Nat) (e : TypeId) (i : TypeInfo) (ht : P.underlying t = some (.slice e)) (hu : P.underlying u = some .string) (hi : P.info? e = some i) (hz : i.zero = some (.int .u8 0)) (hsize : i.size = 1) (hby : i.bytes = 1)
    (v : Value) (n : Nat) (xs : List Value) (hs : a.eval sl = v) (hown : Tl w base e v n xs) (s : ByteArray) (hx : a.eval x = .string s)
    (h63 : n + s.size ≤ maxLen) (hbytes : n + s.size ≤ 140737488355328) (hbase : base ≤ w.heap.size)
    (h : ∀ v' w', Tl w' base e v' (n + s.size) (xs ++ Lib.strCells s) → Below base w w' → wpList P ops Q rest (a.put o.dst v') w') : wpList P ops Q (o :: rest) a w :=
  wpList_plain hgd fun _ hK => by
    obtain ⟨v', w', hr, h2, h3⟩ := run_tail_text (P := P) (w := w) base t u o.type e i ht hu hi hz hsize hby v n xs hown s h63 hbytes hbase
    unfold Oper.wp execOp
    simp only [ho, resolve, invoke, builtin, Sem.run_bind, Sem.run_pure, Result.andThen_ok, List.map_toArray, List.map_cons, List.map_nil, hs, hx, hr]
    exact hK _ _ (h v' w' h2 h3)
end
end Go.Mem
