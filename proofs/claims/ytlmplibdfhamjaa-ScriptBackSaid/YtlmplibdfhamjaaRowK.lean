/- Rows: the elements of a slice that are structs, the cells of each a letter. No program in sight. -/
import Derived.Test.YtlmplibdfhamjaaMem
import Derived.Deep.MidRow
import Derived.Lib.SliceRun
import Derived.Laws.Rows
import Derived.Laws.NewBlocks
namespace Go.Mem
set_option linter.unusedVariables false
open Go.RowKit

theorem mem_take_succ {T : Type} (l : List T) (k : Nat) (h : k < l.length) (x : T) : x ∈ l.take (k + 1) ↔ x ∈ l.take k ∨ x = l[k] := by
  rw [List.take_succ_eq_append_getElem h, List.mem_append, List.mem_singleton]
/-- a slice that a call made: it owns its cells, and what was there is as it was -/
def MakesR (e : TypeId) (size n : Nat) (cs : List Value) (w : World) (r : Ending) (w' : World) : Prop := ∃ v, r = .returned v ∧ w'.ownsRow w.heap.size e size v n cs ∧ Below w.heap.size w w'
theorem only_of {a w : World} (h : Below a.heap.size a w) (row : Option Nat) : a.grownBy w row := ⟨h.os, h.tape, h.output, h.size, fun i hi _ => h.block i hi⟩
theorem only_then {a b w : World} {row : Option Nat} (h : a.grownBy b row) (k : Below b.heap.size b w) : a.grownBy w row :=
  ⟨k.os.trans h.os, k.tape.trans h.tape, k.output.trans h.output, Nat.le_trans h.size k.size, fun i hi hn => (k.block i (Nat.lt_of_lt_of_le hi h.size)).trans (h.block i hi hn)⟩

theorem below_alloc {w w1 : World} {o : Obj} (h : Below (w.alloc o).heap.size (w.alloc o) w1) : Below w.heap.size w w1 := ((Below.refl _ _).alloc (Nat.le_refl _) o).trans (h.mono (by simp))

/-- a struct type with so many cells, and the cells of each datum -/
structure RowK (P : Program) (ty : TypeId) {T : Type} (arr : T → Array Value) (sz : Nat) : Prop where
  d : ∃ d, P.underlying ty = some d ∧ d.isRow = true
  hi : (P.info? ty).map (·.size) = some sz
  size : ∀ m, (arr m).size = sz
  one : ∀ m, ∀ u ∈ (arr m).toList, u.oneCell' = true
  pos : 0 < sz

section
variable {P : Program} {w w' : World} {T : Type} {arr : T → Array Value} {ty : TypeId} {sz : Nat} {A : Option Addr} {ms : List T}
theorem RowK.len (K : RowK P ty arr sz) : ∀ ms : List T, (ms.flatMap fun m => (arr m).toList).length = ms.length * sz
  | [] => by simp
  | m :: ms => by rw [List.flatMap_cons, List.length_append, RowK.len K ms, Array.length_toList, K.size, List.length_cons, Nat.succ_mul]; omega
theorem RowK.ones (K : RowK P ty arr sz) (ms : List T) : ∀ u ∈ ms.flatMap (fun m => (arr m).toList), u.oneCell' = true := fun u hu => by
  obtain ⟨m, _, h⟩ := List.mem_flatMap.1 hu; exact K.one m u h
theorem RowK.at_ (K : RowK P ty arr sz) (h : Rd w A (ms.flatMap fun m => (arr m).toList)) (k : Nat) (hk : k < ms.length) :
    ∃ b off, A = some ⟨b, off, none⟩ ∧ w.rangeAt b (off + k * sz) (arr ms[k]).toList := by
  rw [List.flatMap_def] at h
  have hs : ∀ r ∈ ms.map (fun m => (arr m).toList), r.length = sz := by intro r hr; obtain ⟨m, _, rfl⟩ := List.mem_map.1 hr; simpa using K.size m
  have hi : (ms.map fun m => (arr m).toList)[k]? = some (arr ms[k]).toList := by simp [hk]
  have hr0 : 0 < (arr ms[k]).toList.length := by rw [Array.length_toList, K.size]; exact K.pos
  obtain ⟨b, off, rfl, _⟩ := h.row hs k _ hi 0 _ (List.getElem?_eq_getElem hr0)
  refine ⟨b, off, rfl, fun j v hv => ?_⟩
  obtain ⟨b', off', e, hc⟩ := h.row hs k _ hi j v hv
  injection e with e; injection e with e1 e2
  subst e1 e2
  rw [Nat.add_assoc]; exact hc
theorem rangeAt_below {b o : Nat} {cs : List Value} (h : w.rangeAt b o cs) (hb : Below w.heap.size w w') : w'.rangeAt b o cs := fun j v hv => cell_below hb (h j v hv)
theorem rangeAt_cell {b o : Nat} {c : Array Value} (h : w.rangeAt b o c.toList) (j : Nat) {v : Value} (hv : c[j]? = some v) : w.cell? ⟨b, o + j, none⟩ = some v := h j v (by simpa using hv)

theorem rangeAt_mid {b o : Nat} {pre cs post : List Value} (h : w.rangeAt b o (pre ++ cs ++ post)) : w.rangeAt b (o + pre.length) cs := fun j v hv => by
  have hj := (List.getElem?_eq_some_iff.1 hv).1
  rw [Nat.add_assoc]
  refine h _ v ?_
  rw [List.append_assoc, List.getElem?_append_right (by omega), Nat.add_sub_cancel_left, List.getElem?_append_left hj]; exact hv
theorem wpList_load_arr {ops : Array Oper} {rest : List Oper} {op : Oper} {a : Act} {Q : Exit → Act → World → Prop} (hgd : op.guard = none) (x : Operand) (ho : op.op = .load ty x)
    (b o : Nat) (hx : a.eval x = .pointer (some ⟨b, o, none⟩)) (c : Array Value) (hc : w.rangeAt b o c.toList) (hd : ∃ d, P.underlying ty = some d ∧ d.isRow = true) (hi : (P.info? ty).map (·.size) = some c.size)
    (h : wpList P ops Q rest (a.put op.dst (.agg c)) w) : wpList P ops Q (op :: rest) a w := by
  obtain ⟨d, hu, hd⟩ := hd
  exact wpList_load_mid hgd ty x ho b o hx c.toList d hc hu hd (by simpa using hi) (by simpa using h)
theorem wpList_load_g {P : Program} {ty : TypeId} {op : Oper} {a : Act} {w : World} {ops : Array Oper} {rest : List Oper} {Q : Exit → Act → World → Prop} (hw : Region.wanted op (yielded ops a.tmps) = true) (x : Operand) (ho : op.op = .load ty x)
    (b o : Nat) (hx : a.eval x = .pointer (some ⟨b, o, none⟩)) (c : Array Value) (hc : w.rangeAt b o c.toList) (hd : ∃ d, P.underlying ty = some d ∧ d.isRow = true) (hi : (P.info? ty).map (·.size) = some c.size)
    (h : wpList P ops Q rest (a.put op.dst (.agg c)) w) : wpList P ops Q (op :: rest) a w := by
  obtain ⟨d, hu, hd⟩ := hd
  exact wpList_step fun K hK => by
    rw [if_pos hw]
    exact wp_load_mid ty x ho b o hx c.toList d hc hu hd (by simpa using hi) (hK _ _ (by simpa using h))
theorem wpList_store_arr {ops : Array Oper} {rest : List Oper} {op : Oper} {a : Act} {Q : Exit → Act → World → Prop} (hgd : op.guard = none) (x y : Operand) (ho : op.op = .store ty x y)
    (b o : Nat) (c : Array Value) (hx : a.eval x = .pointer (some ⟨b, o, none⟩)) (hy : a.eval y = .agg c)
    (ht : w.there b o c.size) (hi : (P.info? ty).map (·.size) = some c.size) (h1 : ∀ u ∈ c.toList, u.oneCell' = true)
    (h : wpList P ops Q rest (a.put op.dst undef) (w.setCells b o c.toList)) : wpList P ops Q (op :: rest) a w :=
  wpList_store_mid hgd ty x y ho b o c hx hy ht hi (Array.all_eq_true_iff_forall_mem.2 fun v hv => h1 v (by simpa using hv)) h

/-- a list with some places turned -/
def setL (cs : List Value) (o : Nat) : List Value → List Value
  | [] => cs
  | v :: vs => setL (cs.set o v) (o + 1) vs
theorem setL_length : ∀ (vs cs : List Value) (o : Nat), (setL cs o vs).length = cs.length
  | [], _, _ => rfl
  | v :: vs, cs, o => by rw [setL, setL_length vs]; simp
theorem setL_get : ∀ (vs cs : List Value) (o j : Nat), o + vs.length ≤ cs.length → (setL cs o vs)[j]? = if o ≤ j ∧ j < o + vs.length then vs[j - o]? else cs[j]?
  | [], cs, o, j, h => by rw [setL, if_neg (by simp only [List.length_nil]; omega)]
  | v :: vs, cs, o, j, h => by
    simp only [List.length_cons] at h
    rw [setL, setL_get vs _ _ _ (by simp; omega)]
    by_cases h1 : j = o
    · subst h1
      rw [if_neg (by omega), if_pos (by simp), List.getElem?_set_self (by omega)]
      simp
    · rw [List.getElem?_set_ne (fun e => h1 e.symm)]
      by_cases h2 : o + 1 ≤ j ∧ j < o + 1 + vs.length
      · rw [if_pos h2, if_pos (by simp; omega)]
        obtain ⟨i, rfl⟩ : ∃ i, j = o + 1 + i := ⟨j - (o + 1), by omega⟩
        rw [show o + 1 + i - (o + 1) = i by omega, show o + 1 + i - o = i + 1 by omega]
        simp
      · rw [if_neg h2, if_neg (by simp; omega)]
/-- a store of a whole struct into the block that was just made for it -/
theorem setCells_alloc (t : TypeId) : ∀ (vs : List Value) (o : Nat) (w : World) (Z : Array Value), (w.alloc (.cells Z t)).setCells w.heap.size o vs = w.alloc (.cells (setL Z.toList o vs).toArray t)
  | [], _, _, _ => by simp [World.setCells, setL]
  | v :: vs, o, w, Z => by
    rw [World.setCells, World.setCell_alloc_at _ _ _ _ _ rfl, setCells_alloc t vs, setL, Array.toList_setIfInBounds]
theorem setL_all (Z c : List Value) (h : Z.length = c.length) : setL Z 0 c = c := by
  apply List.ext_getElem?
  intro j
  rw [setL_get _ _ _ _ (by simp [h])]
  by_cases hj : j < c.length
  · rw [if_pos (by simpa using hj)]; rfl
  · rw [if_neg (by simpa using hj), List.getElem?_eq_none (by omega), List.getElem?_eq_none (by omega)]
theorem setCells_new (w : World) (Z c : Array Value) (t : TypeId) (h : Z.size = c.size) : (w.alloc (.cells Z t)).setCells w.heap.size 0 c.toList = w.alloc (.cells c t) := by
  rw [setCells_alloc, setL_all _ _ (by simpa using h)]
theorem fold_list : ∀ (vs : List Value) (o : Nat) (Z : Array Value), (vs.zipIdx o).foldl (fun cs x => cs.setIfInBounds x.2 x.1) Z = (setL Z.toList o vs).toArray
  | [], _, _ => by simp [setL]
  | v :: vs, o, Z => by rw [List.zipIdx_cons, List.foldl_cons, fold_list vs, setL, Array.toList_setIfInBounds]
/-- a struct that is built of its cells, one by one -/
theorem fold_zip (Z q : Array Value) (h : Z.size = q.size) : Array.foldl (fun cs x => cs.setIfInBounds x.2 x.1) Z (q.zipIdx 0) 0 q.size = q := by
  have hs : q.size = (q.zipIdx 0).size := by simp
  rw [hs, ← Array.foldl_toList, Array.toList_zipIdx, fold_list, setL_all _ _ (by simpa using h)]
theorem range_new (w : World) (c : Array Value) (t : TypeId) : (w.alloc (.cells c t)).rangeAt w.heap.size 0 c.toList := fun j v hv => by
  rw [Nat.zero_add, cell_of_row _ _ _ _ _ _ (heap_alloc_new w _)]; simpa using hv
theorem wpList_store_new {ops : Array Oper} {rest : List Oper} {op : Oper} {a : Act} {Q : Exit → Act → World → Prop} (hgd : op.guard = none) (x y : Operand) (ho : op.op = .store ty x y)
    (w0 : World) (Z : Array Value) (t : TypeId) (hw : w = w0.alloc (.cells Z t)) (c : Array Value) (hx : a.eval x = .pointer (some ⟨w0.heap.size, 0, none⟩)) (hy : a.eval y = .agg c)
    (hZ : Z.size = c.size) (hi : (P.info? ty).map (·.size) = some c.size) (h1 : ∀ u ∈ c.toList, u.oneCell' = true)
    (h : wpList P ops Q rest (a.put op.dst undef) (w0.alloc (.cells c t))) : wpList P ops Q (op :: rest) a w := by
  subst hw
  refine wpList_store_arr hgd x y ho w0.heap.size 0 c hx hy (fun j hj => ?_) hi h1 (by rw [setCells_new _ _ _ _ hZ]; exact h)
  rw [Nat.zero_add]
  refine ⟨?_, ?_⟩
  · rw [cell_of_row _ _ _ _ _ _ (heap_alloc_new w0 _)]; simp [hZ, hj]
  · exact frozen_of_row _ _ _ _ _ (heap_alloc_new w0 _)

theorem setL_flat {rows : List (List Value)} (hs : ∀ r ∈ rows, r.length = sz) (hp : 0 < sz) {i : Nat} (hi : i < rows.length) {vs : List Value} (hv : vs.length = sz) : setL rows.flatten (i * sz) vs = (rows.set i vs).flatten := by
  have hs2 : ∀ r ∈ rows.set i vs, r.length = sz := fun r hr => by
    rcases List.mem_or_eq_of_mem_set hr with h | h
    · exact hs r h
    · rw [h]; exact hv
  have hl := flat_length rows hs
  have hle : i * sz + sz ≤ rows.length * sz := by rw [← Nat.succ_mul]; exact Nat.mul_le_mul_right sz hi
  apply List.ext_getElem?
  intro j
  rw [setL_get _ _ _ _ (by rw [hl, hv]; exact hle), hv]
  have hj' : j = j / sz * sz + j % sz := by rw [Nat.mul_comm]; exact (Nat.div_add_mod j _).symm
  have hm : j % sz < sz := Nat.mod_lt _ hp
  have e2 : (rows.set i vs).flatten[j]? = ((rows.set i vs)[j / sz]?).bind (·[j % sz]?) := by
    conv => lhs; rw [hj']
    exact flat_at _ hs2 _ _ hm
  have e1 : rows.flatten[j]? = (rows[j / sz]?).bind (·[j % sz]?) := by
    conv => lhs; rw [hj']
    exact flat_at _ hs _ _ hm
  rw [e1, e2]
  by_cases e : j / sz = i
  · subst e
    rw [if_pos (by omega), List.getElem?_set_self hi]
    simp only [Option.bind_some]
    congr 1; omega
  · rw [List.getElem?_set_ne (fun h => e h.symm), if_neg]
    rintro ⟨h1, h2⟩
    apply e
    apply Nat.le_antisymm
    · apply Nat.le_of_lt_succ
      rw [Nat.div_lt_iff_lt_mul hp, Nat.succ_mul]; exact h2
    · rw [Nat.le_div_iff_mul_le hp]; exact h1
theorem setL_take : ∀ (vs cs : List Value) (o : Nat), (setL cs o vs).take o = cs.take o
  | [], _, _ => rfl
  | v :: vs, cs, o => by
    have h := congrArg (List.take o) (setL_take vs (cs.set o v) (o + 1))
    have hs : (List.take o cs).set o v = List.take o cs := List.set_eq_of_length_le (by rw [List.length_take]; omega)
    rw [setL]
    simpa [List.take_take, List.take_set, hs] using h
theorem own_setL {base : Nat} {e : TypeId} {g n c : Nat} : ∀ (vs : List Value) (o : Nat) (w : World) (cs : List Value), w.ownsRow base e sz (.slice (some ⟨g, 0, none⟩) n c) n cs → o + vs.length ≤ n * sz →
    (w.setCells g o vs).ownsRow base e sz (.slice (some ⟨g, 0, none⟩) n c) n (setL cs o vs)
  | [], o, w, cs, h, _ => h
  | v :: vs, o, w, cs, h, hl => by
    simp only [List.length_cons] at hl
    exact own_setL vs (o + 1) _ _ (own_set h o (by omega) v) (by omega)
theorem RowK.flat (K : RowK P ty arr sz) (ms : List T) : (ms.flatMap fun m => (arr m).toList) = (ms.map fun m => (arr m).toList).flatten := by rw [List.flatMap_def]
theorem RowK.rlen (K : RowK P ty arr sz) (ms : List T) : ∀ r ∈ ms.map (fun m => (arr m).toList), r.length = sz := by
  intro r hr; obtain ⟨m, _, rfl⟩ := List.mem_map.1 hr; simpa using K.size m
theorem RowK.own_set (K : RowK P ty arr sz) {base g n c : Nat} (h : w.ownsRow base ty sz (.slice (some ⟨g, 0, none⟩) n c) n (ms.flatMap fun m => (arr m).toList)) (hn : ms.length = n) {i : Nat} (hi : i < n) (m : T) :
    (w.setCells g (i * sz) (arr m).toList).ownsRow base ty sz (.slice (some ⟨g, 0, none⟩) n c) n ((ms.set i m).flatMap fun m => (arr m).toList) := by
  have hl : i * sz + (arr m).toList.length ≤ n * sz := by rw [Array.length_toList, K.size, ← Nat.succ_mul]; exact Nat.mul_le_mul_right sz hi
  have := own_setL (arr m).toList (i * sz) w _ h hl
  rw [K.flat, setL_flat (K.rlen ms) K.pos (by simp; omega) (by simpa using K.size m)] at this
  rw [K.flat, List.map_set]; exact this
theorem RowK.own_range (K : RowK P ty arr sz) {base g n c : Nat} (h : w.ownsRow base ty sz (.slice (some ⟨g, 0, none⟩) n c) n (ms.flatMap fun m => (arr m).toList)) {i : Nat} (hi : i < ms.length) :
    w.rangeAt g (i * sz) (arr ms[i]).toList := by
  obtain ⟨b, off, e, hr⟩ := K.at_ (Rd.of_own h) i hi
  injection e with e; injection e with e1 e2
  subst e1 e2
  simpa using hr
theorem RowK.own_there (K : RowK P ty arr sz) {base g n c : Nat} {cs : List Value} (h : w.ownsRow base ty sz (.slice (some ⟨g, 0, none⟩) n c) n cs) {i : Nat} (hi : i < n) (k : Nat) (hk : k = sz) : w.there g (i * sz) k := fun j hj => by
  have hl : i * sz + j < n * sz := Nat.lt_of_lt_of_le (Nat.add_lt_add_left (hk ▸ hj) _) (by rw [← Nat.succ_mul]; exact Nat.mul_le_mul_right sz hi)
  obtain ⟨⟨u, _, hu⟩, hf⟩ := own_cells h (i * sz + j) hl
  exact ⟨by rw [hu]; rfl, hf⟩
theorem RowK.take_flat (K : RowK P ty arr sz) (ms : List T) (i : Nat) (hi : i ≤ ms.length) : (ms.flatMap fun m => (arr m).toList).take (i * sz) = (ms.take i).flatMap fun m => (arr m).toList := by
  have e : ms.flatMap (fun m => (arr m).toList) = (ms.take i).flatMap (fun m => (arr m).toList) ++ (ms.drop i).flatMap (fun m => (arr m).toList) := by rw [← List.flatMap_append, List.take_append_drop]
  have hl : ((ms.take i).flatMap fun m => (arr m).toList).length = i * sz := by rw [K.len, List.length_take, Nat.min_eq_left hi]
  rw [e, ← hl, List.take_left']
  rfl
theorem only_setCells {a : World} (g : Nat) : ∀ (vs : List Value) (o : Nat) {w : World}, a.grownBy w (some g) → a.grownBy (w.setCells g o vs) (some g)
  | [], _, _, h => h
  | v :: vs, o, w, h => only_setCells g vs (o + 1) ⟨h.os, h.tape, h.output, by simpa [World.setCell] using h.size, fun k hk hn => (Below.heap_setCell w _ v k (fun e => hn (by rw [e]))).trans (h.block k hk hn)⟩
theorem RowK.own_take (K : RowK P ty arr sz) {base n c : Nat} (h : w.ownsRow base ty sz (.slice A n c) n (ms.flatMap fun m => (arr m).toList)) (hn : ms.length = n) (hA : ∃ g, A = some ⟨g, 0, none⟩) {i : Nat} (hi : i ≤ n) :
    w.ownsRow base ty sz (.slice A i c) i ((ms.take i).flatMap fun m => (arr m).toList) := by
  obtain ⟨g, rfl⟩ := hA
  have h1 := Go.Mem.own_take h i hi
  have : (ms.flatMap fun m => (arr m).toList).take (i * sz) = (ms.take i).flatMap fun m => (arr m).toList := by
    have e : ms.flatMap (fun m => (arr m).toList) = (ms.take i).flatMap (fun m => (arr m).toList) ++ (ms.drop i).flatMap (fun m => (arr m).toList) := by rw [← List.flatMap_append, List.take_append_drop]
    have hl : ((ms.take i).flatMap fun m => (arr m).toList).length = i * sz := by rw [K.len, List.length_take, Nat.min_eq_left (by omega)]
    rw [e, ← hl, List.take_left']
    rfl
  rwa [this] at h1
theorem run_clear_rows (w : World) (t e ty : TypeId) (z : Value) (ht : P.underlying t = some (.slice e)) (hv : ∀ w, (zeroValue e).run P w = .ok z w) (hz : z.cells.size = sz) (hsz : 0 < sz) (h1 : ∀ v ∈ z.cells, v.oneCell' = true) (b o n c : Nat) (hn : 0 < n)
    (hc : ∀ j, j < n * sz → (w.cell? ⟨b, o + j, none⟩).isSome = true) (hf : ∀ j, j < n * sz → w.frozen? ⟨b, o + j, none⟩ = false) :
    ∃ L : List Value, L.length = n * sz ∧ (Builtin.clear_ #[t] ty #[.slice (some ⟨b, o, none⟩) n c]).run P w = .ok (.tuple #[]) (w.setCells b o L) := by
  have hlen : (Builtin.zeroCells z.cells n).toList.length = n * sz := by simp [Builtin.zeroCells, hz]
  have hone : ∀ v ∈ (Builtin.zeroCells z.cells n).toList, v.oneCell' = true := by
    intro v hv'
    simp only [Builtin.zeroCells, Array.toList_map, List.mem_map, Array.toList_range, List.mem_range] at hv'
    obtain ⟨i, _, rfl⟩ := hv'
    have hlt : i % z.cells.size < z.cells.size := Nat.mod_lt _ (by omega)
    rw [getElem!_pos z.cells (i % z.cells.size) hlt]
    exact h1 _ (Array.getElem_mem hlt)
  refine ⟨_, hlen, ?_⟩
  have hst := run_storeCells_cells (P := P) b o (Builtin.zeroCells z.cells n).toList 0 w (by rw [hlen]; simpa using hc) (by rw [hlen]; simpa using hf) hone
  simp only [Nat.add_zero] at hst
  obtain ⟨m, rfl⟩ : ∃ m, n = m + 1 := ⟨n - 1, by omega⟩
  simp [Builtin.clear_, run_underlying ht, hv, hst]
end
end Go.Mem
