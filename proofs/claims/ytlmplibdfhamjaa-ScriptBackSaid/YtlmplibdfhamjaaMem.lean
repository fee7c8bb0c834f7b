/- Words of my own for memory: a slice that reads as a list of cells; what an argument's reading tells of its cells. No program in sight. -/
import Derived.WalkKit
import Derived.ProofKit
import Derived.Deep.Slices
import Derived.Deep.Draws
import Derived.Lib.Hide
import Derived.Handy
import Derived.Laws.Strings
import Derived.Laws.AppendOwnNone
import Derived.Maps.AppendAt
namespace Go.Mem
set_option linter.unusedVariables false
open Go.RowKit Go.ChangeShapes Go.WideShapes

theorem then_ {w w1 w2 : World} (h : Below w.heap.size w w1) (k : Below w1.heap.size w1 w2) : Below w.heap.size w w2 := h.trans (k.mono h.size)
theorem drewN_ {B : Nat} {a w : World} (h : Below B a w) (n : Nat) : Below B a (w.drewN n) := ⟨h.os, h.tape, h.output, h.size, h.block⟩
theorem ret_int {k : IntKind} {a b : Int} (h : a = b) : Ending.returned (.int k a) = .returned (.int k b) := by rw [h]
theorem ret_bool {a b : Bool} (h : a = b) : Ending.returned (.bool a) = .returned (.bool b) := by rw [h]
theorem ret_string {a b : ByteArray} (h : a = b) : Ending.returned (.string a) = .returned (.string b) := by rw [h]

theorem str_beq (a b : ByteArray) : (a.toList == b.toList) = decide (a = b) := by
  rw [ByteArray.toList_eq, ByteArray.toList_eq, Bool.eq_iff_iff]
  simp only [beq_iff_eq, decide_eq_true_eq]
  exact ⟨bytes_inj, fun h => by rw [h]⟩
theorem str_eq {a b : ByteArray} (h : (a.toList == b.toList) = true) : a = b := by rw [str_beq] at h; exact of_decide_eq_true h
theorem str_ne {a b : ByteArray} (h : (a.toList == b.toList) = false) : a ≠ b := by rw [str_beq] at h; exact of_decide_eq_false h

/-- is a text in a list? -/
def mem (s : ByteArray) (ss : List ByteArray) : Bool := ss.any fun t => decide (t = s)
theorem mem_iff {s : ByteArray} {ss : List ByteArray} : mem s ss = true ↔ s ∈ ss := by
  unfold mem
  rw [List.any_eq_true]
  constructor
  · rintro ⟨x, h1, h2⟩
    rw [decide_eq_true_eq] at h2
    exact h2 ▸ h1
  · exact fun h => ⟨s, h, by simp⟩
theorem mem_false {s : ByteArray} {ss : List ByteArray} : mem s ss = false ↔ s ∉ ss := by
  rw [← mem_iff, Bool.not_eq_true]

theorem add_none (b o j : Nat) : (⟨b, o, none⟩ : Addr).add j = ⟨b, o + j, none⟩ := by
  unfold Addr.add
  split
  · rename_i h; subst h; rfl
  · rfl
theorem add_block (a : Addr) (j : Nat) : (a.add j).block = a.block := by unfold Addr.add; split <;> rfl
theorem add_off (a : Addr) (j : Nat) : (a.add j).off = a.off + j := by
  unfold Addr.add; split
  · rename_i h; subst h; rfl
  · rfl

/-- 'the cells from address A on are cs' (A nil only if there are none) -/
def Rd (w : World) (A : Option Addr) (cs : List Value) : Prop :=
  ∀ j u, cs[j]? = some u → ∃ b off, A = some ⟨b, off, none⟩ ∧ w.cell? ⟨b, off + j, none⟩ = some u

section
variable {w w' : World} {A : Option Addr} {cs : List Value}
theorem Rd.nil : Rd w A [] := fun j u h => by simp at h
theorem Rd.at_ (h : Rd w A cs) (j : Nat) (hj : j < cs.length) : ∃ b off, A = some ⟨b, off, none⟩ ∧ w.cell? ⟨b, off + j, none⟩ = some cs[j] := h j cs[j] (List.getElem?_eq_getElem hj)
theorem Rd.keep (h : Rd w A cs) (hk : ∀ p u, w.cell? p = some u → w'.cell? p = some u) : Rd w' A cs := fun j u hj => by
  obtain ⟨b, off, e, hc⟩ := h j u hj
  exact ⟨b, off, e, hk _ _ hc⟩
theorem cell_below (hb : Below w.heap.size w w') {p : Addr} {u : Value} (h : w.cell? p = some u) : w'.cell? p = some u :=
  (hb.cell (World.block_lt_of_cell? w p h)).trans h
theorem Rd.below (h : Rd w A cs) (hb : Below w.heap.size w w') : Rd w' A cs := h.keep fun _ _ => cell_below hb
theorem Rd.drew (h : Rd w A cs) : Rd w.drew A cs := h
theorem Rd.drewN (h : Rd w A cs) (n : Nat) : Rd (w.drewN n) A cs := h
theorem Rd.alloc (h : Rd w A cs) (o : Obj) : Rd (w.alloc o) A cs := h.below ((Below.refl _ _).alloc (Nat.le_refl _) o)
theorem Rd.of_own {base : Nat} {e : TypeId} {size n c : Nat} (h : w.ownsRow base e size (.slice A n c) n cs) : Rd w A cs := by
  intro j u hj
  rcases h.2 with ⟨hv, hn⟩ | ⟨g, cap, cur, hv, hb, hg, h1, h2, h3, h4⟩
  · have := h.1
    rw [hn] at this
    simp at this
    subst this
    simp at hj
  · have hA : A = some ⟨g, 0, none⟩ := by injection hv
    refine ⟨g, 0, hA, ?_⟩
    have := h.cells (g := g) (by rw [hA]; rfl) j u hj
    rwa [add_none] at this
theorem Rd.take (h : Rd w A cs) (k : Nat) : Rd w A (cs.take k) := fun j u hj => h j u (by
  rw [List.getElem?_take] at hj
  split at hj
  · exact hj
  · cases hj)
theorem Rd.new (w : World) (cs : Array Value) (e : TypeId) : Rd (w.alloc (.cells cs e)) (some ⟨w.heap.size, 0, none⟩) cs.toList := fun j u hj => by
  refine ⟨_, _, rfl, ?_⟩
  rw [Nat.zero_add, World.cell?_alloc_at _ _ _ _ rfl]
  simpa using hj
theorem Rd.none_nil (h : Rd w none cs) : cs = [] := by
  cases cs with
  | nil => rfl
  | cons u cs =>
    obtain ⟨_, _, e, _⟩ := h 0 u rfl
    cases e
theorem Rd.cells (h : Rd w A cs) {ad : Addr} (hA : A = some ad) : ∀ j u, cs[j]? = some u → w.cell? (ad.add j) = some u := fun j u hj => by
  obtain ⟨b, off, e, hc⟩ := h j u hj
  rw [hA] at e
  injection e with e
  subst e
  rw [add_none]
  exact hc

/-- a store into a row of the call's own -/
theorem own_set {w : World} {base : Nat} {e : TypeId} {sz g n c : Nat} {cs : List Value} (h : w.ownsRow base e sz (.slice (some ⟨g, 0, none⟩) n c) n cs) (i : Nat) (hi : i < n * sz) (u : Value) :
    (w.setCell ⟨g, i, none⟩ u).ownsRow base e sz (.slice (some ⟨g, 0, none⟩) n c) n (cs.set i u) := by
  obtain ⟨h1, h2⟩ := h
  refine ⟨by simpa using h1, ?_⟩
  rcases h2 with ⟨h2, _⟩ | ⟨g', cap, cur, hv, hb, hh, hnc, hcm, hcs, htk⟩
  · cases h2
  · injection hv with ha _ hc
    injection ha with ha
    injection ha with ha
    subst ha hc
    refine .inr ⟨g, c, cur.setIfInBounds i u, rfl, hb, ?_, hnc, hcm, by simpa using hcs, ?_⟩
    · simp [World.setCell, Array.getElem?_modify, hh]
    · rw [Array.toList_setIfInBounds, ← htk, List.take_set]
theorem own_cells {base : Nat} {e : TypeId} {sz g n c : Nat} (h : w.ownsRow base e sz (.slice (some ⟨g, 0, none⟩) n c) n cs) (i : Nat) (hi : i < n * sz) :
    (∃ u, cs[i]? = some u ∧ w.cell? ⟨g, i, none⟩ = some u) ∧ w.frozen? ⟨g, i, none⟩ = false := by
  have hl := h.1
  have h1 := h.cells (g := g) rfl i cs[i] (List.getElem?_eq_getElem (by omega))
  rw [add_none, Nat.zero_add] at h1
  refine ⟨⟨_, List.getElem?_eq_getElem (by omega), h1⟩, ?_⟩
  rcases h.2 with ⟨h2, _⟩ | ⟨g', cap, cur, hv, _, hh, _⟩
  · cases h2
  · injection hv with ha _ hc
    injection ha with ha
    injection ha with ha
    subst ha
    simp [World.frozen?, hh]
theorem own_setCells {base : Nat} {e : TypeId} {sz g n c : Nat} : ∀ (vs : List Value) (o : Nat) (w : World) (cs : List Value), w.ownsRow base e sz (.slice (some ⟨g, 0, none⟩) n c) n cs → o + vs.length ≤ n * sz →
    ∃ cs', (w.setCells g o vs).ownsRow base e sz (.slice (some ⟨g, 0, none⟩) n c) n cs' ∧ cs'.take o = cs.take o
  | [], o, w, cs, h, _ => ⟨cs, h, rfl⟩
  | v :: vs, o, w, cs, h, hl => by
    simp only [List.length_cons] at hl
    obtain ⟨cs', h1, h2⟩ := own_setCells vs (o + 1) _ _ (own_set h o (by omega) v) (by omega)
    refine ⟨cs', h1, ?_⟩
    have := congrArg (List.take o) h2
    have hs : (List.take o cs).set o v = List.take o cs := List.set_eq_of_length_le (by rw [List.length_take]; omega)
    simpa [List.take_take, List.take_set, hs] using this
theorem below_setCells {B b : Nat} {a : World} (hb : B ≤ b) : ∀ (vs : List Value) (o : Nat) (w : World), Below B a w → Below B a (w.setCells b o vs)
  | [], _, _, h => h
  | v :: vs, o, w, h => below_setCells hb vs (o + 1) _ (h.setCell hb v)
theorem own_take {base : Nat} {e : TypeId} {sz g n c : Nat} (h : w.ownsRow base e sz (.slice (some ⟨g, 0, none⟩) n c) n cs) (i : Nat) (hi : i ≤ n) :
    w.ownsRow base e sz (.slice (some ⟨g, 0, none⟩) i c) i (cs.take (i * sz)) := by
  obtain ⟨h1, h2⟩ := h
  have hm : i * sz ≤ n * sz := Nat.mul_le_mul_right sz hi
  refine ⟨by rw [List.length_take]; omega, ?_⟩
  rcases h2 with ⟨h2, _⟩ | ⟨g', cap, cur, hv, hb, hh, hnc, hcm, hcs, htk⟩
  · cases h2
  · injection hv with ha _ hc
    injection ha with ha
    injection ha with ha
    subst ha hc
    refine .inr ⟨g, c, cur, rfl, hb, hh, by omega, hcm, hcs, ?_⟩
    rw [← htk, List.take_take]
    congr 1
    omega

theorem own_below {base : Nat} {e : TypeId} {sz n : Nat} {v : Value} (h : w.ownsRow base e sz v n cs) (hb : Below w.heap.size w w') : w'.ownsRow base e sz v n cs := by
  obtain ⟨h1, h2⟩ := h
  refine ⟨h1, ?_⟩
  rcases h2 with h2 | ⟨g, cap, cur, hv, hg, hh, r⟩
  · exact .inl h2
  · have hlt : g < w.heap.size := (Array.getElem?_eq_some_iff.1 hh).1
    exact .inr ⟨g, cap, cur, hv, hg, (hb.block g hlt).trans hh, r⟩
theorem own_drew {base : Nat} {e : TypeId} {sz n : Nat} {v : Value} (h : w.ownsRow base e sz v n cs) : w.drew.ownsRow base e sz v n cs := h
theorem own_drewN {base : Nat} {e : TypeId} {sz n : Nat} {v : Value} (h : w.ownsRow base e sz v n cs) (k : Nat) : (w.drewN k).ownsRow base e sz v n cs := h
theorem own_mono {base base' : Nat} {e : TypeId} {sz n : Nat} {v : Value} (h : w.ownsRow base e sz v n cs) (hb : base' ≤ base) : w.ownsRow base' e sz v n cs := by
  obtain ⟨h1, h2⟩ := h
  refine ⟨h1, ?_⟩
  rcases h2 with h2 | ⟨g, cap, cur, hv, hg, r⟩
  · exact .inl h2
  · exact .inr ⟨g, cap, cur, hv, by omega, r⟩
theorem own_form {base : Nat} {e : TypeId} {sz n : Nat} {v : Value} (h : w.ownsRow base e sz v n cs) : ∃ A c, v = .slice A n c := by
  rcases h.2 with ⟨rfl, rfl⟩ | ⟨g, cap, cur, rfl, _⟩
  · exact ⟨none, 0, rfl⟩
  · exact ⟨_, _, rfl⟩
theorem own_pos {base : Nat} {e : TypeId} {sz n c : Nat} (h : w.ownsRow base e sz (.slice A n c) n cs) (hn : 0 < n) : ∃ g, A = some ⟨g, 0, none⟩ ∧ base ≤ g ∧ g < w.heap.size ∧ n ≤ c := by
  rcases h.2 with ⟨_, h0⟩ | ⟨g, cap, cur, hv, hb, hh, hc, _⟩
  · omega
  · injection hv with h1 h2 h3
    exact ⟨g, h1, hb, (Array.getElem?_eq_some_iff.1 hh).1, by omega⟩
/-- what a call leaves that hands back a slice of its own, in blocks from B on -/
def Gives_ (B : Nat) (e : TypeId) (sz n : Nat) (cs : List Value) (w : World) (r : Ending) (w' : World) : Prop := Below B w w' ∧ ∃ v, r = .returned v ∧ w'.ownsRow B e sz v n cs

/-- a slice type, its element type, how many cells and bytes an element has -/
structure Elem (P : Program) (t e : TypeId) (size bytes : Nat) : Prop where
  ht : P.underlying t = some (.slice e)
  hi : ∃ i z, P.info? e = some i ∧ i.zero = some z ∧ i.size = size ∧ i.bytes = bytes ∧ z.cells.size = size
  hsz : 0 < size

theorem Elem.of {P : Program} {t e : TypeId} {size bytes : Nat} {z : Value} (ht : P.underlying t = some (.slice e)) (h : (P.info? e).map (fun i => (i.zero, i.size, i.bytes)) = some (some z, size, bytes)) (hz : z.cells.size = size) (hsz : 0 < size) :
    Elem P t e size bytes := by
  obtain ⟨i, h1, h2, h3, h4⟩ := info_parts h
  exact ⟨ht, ⟨i, z, h1, h2, h3, h4, hz⟩, hsz⟩

theorem run_app {P : Program} {t e : TypeId} {size bytes : Nat} (E : Elem P t e size bytes) (w : World) (ty : TypeId) (base : Nat) (v : Value) (n : Nat) (xs : List Value) (hown : w.ownsRow base e size v n xs)
    (A : Option Addr) (m c : Nat) (news : List Value) (hl : news.length = m * size) (hr : Rd w A news) (h1 : ∀ u ∈ news, u.oneCell' = true)
    (h63 : n + m ≤ maxLen) (hbytes : (n + m) * bytes ≤ 140737488355328) (hbase : base ≤ w.heap.size) :
    ∃ v' w', (Builtin.append_ #[t, t] ty #[v, .slice A m c]).run P w = .ok v' w' ∧ w'.ownsRow base e size v' (n + m) (xs ++ news) ∧ w.grownBy w' v.ownBlock ∧ (v'.ownBlock = v.ownBlock ∨ v'.ownBlock = some w.heap.size) := by
  obtain ⟨i, z, hi, hz, hsize, hby, hzs⟩ := E.hi
  cases A with
  | none =>
    have hn := hr.none_nil
    subst hn
    have hm : m = 0 := by
      have := E.hsz
      rcases Nat.eq_zero_or_pos m with h0 | h0
      · exact h0
      · have := Nat.mul_pos h0 this
        simp only [List.length_nil] at hl
        omega
    subst hm
    refine ⟨v, w, ?_, by simpa using hown, World.grownBy.refl w _, .inl rfl⟩
    rcases hown.2 with ⟨rfl, rfl⟩ | ⟨g, cap, cur, rfl, _, _, hnc, _⟩
    · simp [Builtin.append_, run_underlying E.ht, sizeOf, typeInfo, hi, Builtin.lenOf, Builtin.firstCells]
    · simp [Builtin.append_, run_underlying E.ht, sizeOf, typeInfo, hi, Builtin.lenOf, Builtin.firstCells, hnc, storeCells]
  | some ad =>
    obtain ⟨v', w', h2, h3, h4, _, h6⟩ := run_append_own_at (P := P) w base t ty e i z size bytes E.ht hi hz hsize hby hzs E.hsz v n xs hown ad m c news hl (hr.cells rfl) h1 h63 hbytes hbase
    exact ⟨v', w', h2, h3, h4, h6⟩

theorem wp_app {P : Program} {t e : TypeId} {size bytes : Nat} (E : Elem P t e size bytes) {w : World} {o : Oper} {a : Act} {K : Act → World → Prop} {Q : Exit → Act → World → Prop} (s x : Operand)
    (ho : o.op = .call { callee := .builtin .append, args := #[s, x], argTypes := #[t, t] }) (base : Nat) (v : Value) (n : Nat) (xs : List Value) (hs : a.eval s = v) (hown : w.ownsRow base e size v n xs)
    (A : Option Addr) (m c : Nat) (news : List Value) (hx : a.eval x = .slice A m c) (hl : news.length = m * size) (hr : Rd w A news) (h1 : ∀ u ∈ news, u.oneCell' = true)
    (h63 : n + m ≤ maxLen) (hbytes : (n + m) * bytes ≤ 140737488355328) (hbase : base ≤ w.heap.size)
    (h : ∀ v' w', w'.ownsRow base e size v' (n + m) (xs ++ news) → Below base w w' → w.grownBy w' v.ownBlock → (v'.ownBlock = v.ownBlock ∨ v'.ownBlock = some w.heap.size) → K (a.put o.dst v') w') : o.wp P a w K Q := by
  obtain ⟨v', w', hr, h2, h3, h4⟩ := run_app E w o.type base v n xs hown A m c news hl hr h1 h63 hbytes hbase
  unfold Oper.wp execOp
  simp only [ho, resolve, invoke, builtin, Sem.run_bind, Sem.run_pure, Result.andThen_ok, List.map_toArray, List.map_cons, List.map_nil, hs, hx, hr]
  exact h v' w' h2 ((Below.refl _ _).grown h3 hbase (fun k hk => (hown.lt k hk).1)) h3 h4

/-- 'append(v, x...)' onto a row of the call's own -/
theorem wpList_app {P : Program} {t e : TypeId} {size bytes : Nat} (E : Elem P t e size bytes) {w : World} {ops : Array Oper} {rest : List Oper} {o : Oper} {a : Act} {Q : Exit → Act → World → Prop} (hgd : o.guard = none) (s x : Operand)
    (ho : o.op = .call { callee := .builtin .append, args := #[s, x], argTypes := #[t, t] }) (base : Nat) (v : Value) (n : Nat) (xs : List Value) (hs : a.eval s = v) (hown : w.ownsRow base e size v n xs)
    (A : Option Addr) (m c : Nat) (news : List Value) (hx : a.eval x = .slice A m c) (hl : news.length = m * size) (hr : Rd w A news) (h1 : ∀ u ∈ news, u.oneCell' = true)
    (h63 : n + m ≤ maxLen) (hbytes : (n + m) * bytes ≤ 140737488355328) (hbase : base ≤ w.heap.size)
    (h : ∀ v' w', w'.ownsRow base e size v' (n + m) (xs ++ news) → Below base w w' → w.grownBy w' v.ownBlock → (v'.ownBlock = v.ownBlock ∨ v'.ownBlock = some w.heap.size) → wpList P ops Q rest (a.put o.dst v') w') : wpList P ops Q (o :: rest) a w :=
  wpList_plain hgd fun _ hK => wp_app E s x ho base v n xs hs hown A m c news hx hl hr h1 h63 hbytes hbase fun v' w' h2 h3 h4 h5 => hK _ _ (h v' w' h2 h3 h4 h5)

theorem step_app {P : Program} {t e : TypeId} {size bytes : Nat} (E : Elem P t e size bytes) {w : World} {ops : Array Oper} {o : Oper} {a : Act} {K : Act → World → Prop} {Q : Exit → Act → World → Prop} {F : Prop} (hgd : o.guard = none) (s x : Operand)
    (ho : o.op = .call { callee := .builtin .append, args := #[s, x], argTypes := #[t, t] }) (base : Nat) (v : Value) (n : Nat) (xs : List Value) (hs : a.eval s = v) (hown : w.ownsRow base e size v n xs)
    (A : Option Addr) (m c : Nat) (news : List Value) (hx : a.eval x = .slice A m c) (hl : news.length = m * size) (hr : Rd w A news) (h1 : ∀ u ∈ news, u.oneCell' = true)
    (h63 : n + m ≤ maxLen) (hbytes : (n + m) * bytes ≤ 140737488355328) (hbase : base ≤ w.heap.size)
    (h : ∀ v' w', w'.ownsRow base e size v' (n + m) (xs ++ news) → Below base w w' → w.grownBy w' v.ownBlock → (v'.ownBlock = v.ownBlock ∨ v'.ownBlock = some w.heap.size) → K (a.put o.dst v') w') :
    if Region.wanted o (yielded ops a.tmps) = true then Oper.wp P o a w K Q else F := by
  have hw : Region.wanted o (yielded ops a.tmps) = true := by simp [Region.wanted, hgd]
  rw [if_pos hw]
  exact wp_app E s x ho base v n xs hs hown A m c news hx hl hr h1 h63 hbytes hbase h

/-- one cell of a row of rows -/
theorem flat_at {sz : Nat} : ∀ (rows : List (List Value)), (∀ r ∈ rows, r.length = sz) → ∀ (i j : Nat), j < sz → rows.flatten[i * sz + j]? = (rows[i]?).bind (·[j]?)
  | [], _, i, j, _ => by simp
  | r :: rows, h, 0, j, hj => by
    have : r.length = sz := h r (by simp)
    simp only [List.flatten_cons, Nat.zero_mul, Nat.zero_add]
    rw [List.getElem?_append_left (by omega)]
    simp
  | r :: rows, h, i + 1, j, hj => by
    have hr : r.length = sz := h r (by simp)
    have ih := flat_at rows (fun x hx => h x (by simp [hx])) i j hj
    simp only [List.flatten_cons]
    rw [List.getElem?_append_right (by rw [hr, Nat.succ_mul]; omega), hr]
    rw [show (i + 1) * sz + j - sz = i * sz + j by rw [Nat.succ_mul]; omega, ih]
    simp
theorem flat_length {sz : Nat} : ∀ (rows : List (List Value)), (∀ r ∈ rows, r.length = sz) → rows.flatten.length = rows.length * sz
  | [], _ => by simp
  | r :: rows, h => by
    have hr : r.length = sz := h r (by simp)
    rw [List.flatten_cons, List.length_append, hr, flat_length rows (fun x hx => h x (by simp [hx])), List.length_cons, Nat.succ_mul]
    omega
theorem Rd.row {sz : Nat} {rows : List (List Value)} (h : Rd w A rows.flatten) (hs : ∀ r ∈ rows, r.length = sz) (i : Nat) (r : List Value) (hi : rows[i]? = some r) (j : Nat) (u : Value) (hj : r[j]? = some u) :
    ∃ b off, A = some ⟨b, off, none⟩ ∧ w.cell? ⟨b, off + (i * sz + j), none⟩ = some u := by
  have hl : r.length = sz := hs r (List.mem_of_getElem? hi)
  have : j < sz := by
    have := (List.getElem?_eq_some_iff.1 hj).1
    omega
  exact h _ u (by rw [flat_at rows hs i j this, hi]; exact hj)
end

section
variable {H : Type} {enc : TypeId × Value → H} {P : Program} {w : World}
/-- 'cells that can be read at a type' -/
def Is (enc : TypeId × Value → H) (P : Program) (w : World) (t : TypeId) (cs : List Value) : Prop := ∃ fuel x, DataW.trod enc P w 0 (fun _ => true) true fuel t cs = some x

theorem is_of {t : TypeId} {v : Value} {d : DataW H} {p : List MemPlace} (h : DataW.Trod enc P w 0 (fun _ => true) true t v d p) : Is enc P w t v.cells.toList := by
  obtain ⟨f, hf⟩ := h
  exact ⟨f, _, hf⟩
theorem is_int {t : TypeId} {k : IntKind} {cs : List Value} (ht : P.underlying t = some (.int k)) (h : Is enc P w t cs) : ∃ n, cs = [.int k n] ∧ (Lit.int k n).wf = true := by
  obtain ⟨f, x, hf⟩ := h
  obtain ⟨n, h1, _, h3⟩ := DataW.trod_int ht hf
  exact ⟨n, h1, h3⟩
theorem is_string {t : TypeId} {cs : List Value} (ht : P.underlying t = some .string) (h : Is enc P w t cs) : ∃ s : ByteArray, cs = [.string s] ∧ s.size ≤ maxLen := by
  obtain ⟨f, x, hf⟩ := h
  obtain ⟨n, h1, _, h3⟩ := DataW.trod_string ht hf
  exact ⟨n, h1, h3⟩
theorem is_bool {t : TypeId} {cs : List Value} (ht : P.underlying t = some .bool) (h : Is enc P w t cs) : ∃ b : Bool, cs = [.bool b] := by
  obtain ⟨f, x, hf⟩ := h
  obtain ⟨n, h1, _⟩ := DataW.trod_bool ht hf
  exact ⟨n, h1⟩
theorem is_struct {t : TypeId} {fs : Array Field} {cs : List Value} (ht : P.underlying t = some (.struct fs)) (h : Is enc P w t cs) :
    cs.length = P.cellsOf t ∧ ∀ (i : Nat) (f : Field), fs[i]? = some f → Is enc P w f.type ((cs.drop f.offset).take (P.cellsOf f.type)) := by
  obtain ⟨fu, x, hf⟩ := h
  obtain ⟨xs, n, _, _, hl, hx, hat⟩ := DataW.trod_struct ht hf
  refine ⟨hl, fun i f hi => ?_⟩
  have := hat i f hi
  have hi' : i < xs.length := by rw [hx]; exact (Array.getElem?_eq_some_iff.1 hi).1
  rw [List.getElem?_eq_getElem hi'] at this
  exact ⟨n, _, this⟩
theorem is_slice {t e : TypeId} {cs : List Value} (ht : P.underlying t = some (.slice e)) (h : Is enc P w t cs) :
    ∃ A n c, ∃ rows : List (List Value), cs = [.slice A n c] ∧ rows.length = n ∧ Rd w A rows.flatten ∧ (∀ r ∈ rows, r.length = P.cellsOf e ∧ Is enc P w e r) ∧ n ≤ c ∧ c ≤ maxLen := by
  obtain ⟨fu, x, hf⟩ := h
  rcases Go.Deep.open_slice ht hf with ⟨rfl, _⟩ | ⟨a, len, cap, m, n, D, Pl, rfl, _, hl, hm, hmm, _, hi⟩
  · exact ⟨none, 0, 0, [], rfl, rfl, Rd.nil, by simp, Nat.le_refl _, Nat.zero_le _⟩
  · simp only [if_true] at hmm
    have hch : ∀ i, i < len → ∃ r, w.cells? 0 (a.add (i * P.cellsOf e)) (P.cellsOf e) = some r ∧ Is enc P w e r := fun i hl' => by
      obtain ⟨r, h1, h2⟩ := hi i (by omega)
      exact ⟨r, h1, n, _, h2⟩
    have hrows : ∀ k, k ≤ len → ∃ rows : List (List Value), rows.length = k ∧ ∀ i r, rows[i]? = some r → w.cells? 0 (a.add (i * P.cellsOf e)) (P.cellsOf e) = some r ∧ Is enc P w e r := by
      intro k
      induction k with
      | zero => exact fun _ => ⟨[], rfl, by simp⟩
      | succ k ih =>
        intro hk
        obtain ⟨rows, h1, h2⟩ := ih (by omega)
        obtain ⟨r, h3, h4⟩ := hch k (by omega)
        refine ⟨rows ++ [r], by simp [h1], fun i r' hr' => ?_⟩
        by_cases hlt : i < rows.length
        · rw [List.getElem?_append_left hlt] at hr'
          exact h2 i r' hr'
        · have hik : i = k := by
            have := (List.getElem?_eq_some_iff.1 hr').1
            simp at this
            omega
          subst hik
          rw [List.getElem?_append_right (by omega)] at hr'
          simp [h1] at hr'
          subst hr'
          exact ⟨h3, h4⟩
    obtain ⟨rows, h1, h2⟩ := hrows len (Nat.le_refl _)
    have hsz : ∀ r ∈ rows, r.length = P.cellsOf e := fun r hr => by
      obtain ⟨i, hi'⟩ := List.getElem?_of_mem hr
      exact (World.cells?_some (h2 i r hi').1).2.1
    refine ⟨some a, len, cap, rows, rfl, h1, ?_, fun r hr => ?_, hl, hm⟩
    · intro j u hj
      have hjl := (List.getElem?_eq_some_iff.1 hj).1
      have hpos : 0 < P.cellsOf e := by
        rcases Nat.eq_zero_or_pos (P.cellsOf e) with h0 | h0
        · rw [flat_length rows hsz, h0] at hjl; simp at hjl
        · exact h0
      have hj' : j = j / P.cellsOf e * P.cellsOf e + j % P.cellsOf e := by rw [Nat.mul_comm]; exact (Nat.div_add_mod j _).symm
      rw [hj', flat_at rows hsz _ _ (Nat.mod_lt _ hpos)] at hj
      obtain ⟨r, hr, hru⟩ := Option.bind_eq_some_iff.1 hj
      have hc := (World.cells?_some (h2 _ r hr).1).2.2 (j % P.cellsOf e) (Nat.mod_lt _ hpos)
      rw [hru] at hc
      have hsp : ((a.add (j / P.cellsOf e * P.cellsOf e)).add (j % P.cellsOf e)).spot = none := World.cell?_spot hc
      have e1 : ((a.add (j / P.cellsOf e * P.cellsOf e)).add (j % P.cellsOf e)) = ⟨a.block, a.off + j, none⟩ := by
        have hb : ((a.add (j / P.cellsOf e * P.cellsOf e)).add (j % P.cellsOf e)).block = a.block := by rw [add_block, add_block]
        have ho : ((a.add (j / P.cellsOf e * P.cellsOf e)).add (j % P.cellsOf e)).off = a.off + j := by rw [add_off, add_off, Nat.add_assoc, ← hj']
        generalize ((a.add (j / P.cellsOf e * P.cellsOf e)).add (j % P.cellsOf e)) = z at hsp hb ho
        obtain ⟨zb, zo, zs⟩ := z
        simp only at hsp hb ho
        subst hsp hb ho
        rfl
      rw [e1] at hc
      have hlt0 : 0 < rows.length := Nat.lt_of_le_of_lt (Nat.zero_le _) (List.getElem?_eq_some_iff.1 hr).1
      have ha : a.spot = none := by
        have h0 := (World.cells?_some (h2 0 rows[0] (List.getElem?_eq_getElem hlt0)).1).2.2 0 hpos
        have hlen0 := hsz rows[0] (List.getElem_mem hlt0)
        rw [List.getElem?_eq_getElem (by omega)] at h0
        have := World.cell?_spot h0
        simpa [Addr.add] using this
      refine ⟨a.block, a.off, ?_, hc⟩
      obtain ⟨ab, ao, as_⟩ := a
      simp only at ha
      subst ha
      rfl
    · obtain ⟨i, hi'⟩ := List.getElem?_of_mem hr
      exact ⟨hsz r hr, (h2 i r hi').2⟩
/-- rows that are all of one form -/
theorem rows_typed {T : Type} {f : T → List Value} {ok : T → Prop} : ∀ (rows : List (List Value)), (∀ r ∈ rows, ∃ m, r = f m ∧ ok m) → ∃ ms : List T, rows = ms.map f ∧ ∀ m ∈ ms, ok m
  | [], _ => ⟨[], rfl, by simp⟩
  | r :: rows, h => by
    obtain ⟨m, rfl, hm⟩ := h r (by simp)
    obtain ⟨ms, rfl, hms⟩ := rows_typed rows (fun x hx => h x (by simp [hx]))
    exact ⟨m :: ms, rfl, by simpa using ⟨hm, hms⟩⟩
/-- a slice as an argument -/
theorem open_rows {T : Type} {f : T → List Value} {ok : T → Prop} {t e : TypeId} {v : Value} {d : DataW H} {p : List MemPlace} {r : Reach} {b0 : Nat} (ht : P.underlying t = some (.slice e))
    (hel : ∀ cs, Is enc P w e cs → ∃ m, cs = f m ∧ ok m) (hv : Value.okWide P w r b0 t v) (h : DataW.Trod enc P w 0 (fun _ => true) true t v d p) :
    ∃ A n c, ∃ ms : List T, v = .slice A n c ∧ ms.length = n ∧ Rd w A (ms.flatMap f) ∧ (∀ m ∈ ms, ok m ∧ (f m).length = P.cellsOf e) ∧ n ≤ c ∧ c ≤ maxLen := by
  obtain ⟨A0, n0, c0, rfl⟩ := okWide_slice ht hv
  obtain ⟨A, n, c, rows, h1, h2, h3, h4, h5, h6⟩ := is_slice ht (is_of h)
  obtain ⟨ms, rfl, hms⟩ := rows_typed (f := f) (ok := fun m => ok m ∧ (f m).length = P.cellsOf e) rows (fun r hr => by
    obtain ⟨m, rfl, hm⟩ := hel r (h4 r hr).2
    exact ⟨m, rfl, hm, (h4 _ hr).1⟩)
  simp only [Value.cells, List.cons.injEq, and_true] at h1
  refine ⟨A, n, c, ms, h1, by simpa using h2, by rw [List.flatMap_def]; exact h3, hms, h5, h6⟩
theorem flatMap_one {T : Type} (f : T → Value) (l : List T) : l.flatMap (fun x => [f x]) = l.map f := by
  induction l with
  | nil => rfl
  | cons x l ih => simp [ih]
/-- a []string as an argument -/
theorem open_strs {t e : TypeId} {v : Value} {d : DataW H} {p : List MemPlace} {r : Reach} {b0 : Nat} (ht : P.underlying t = some (.slice e)) (he : P.underlying e = some .string)
    (hv : Value.okWide P w r b0 t v) (h : DataW.Trod enc P w 0 (fun _ => true) true t v d p) :
    ∃ A n c, ∃ ss : List ByteArray, v = .slice A n c ∧ ss.length = n ∧ Rd w A (ss.map Value.string) ∧ (∀ s ∈ ss, s.size ≤ maxLen) ∧ n ≤ c ∧ c ≤ maxLen := by
  obtain ⟨A, n, c, ms, h1, h2, h3, h4, h5, h6⟩ := open_rows (f := fun s : ByteArray => [Value.string s]) (ok := fun s => s.size ≤ maxLen) ht (fun cs hcs => is_string he hcs) hv h
  refine ⟨A, n, c, ms, h1, h2, ?_, fun m hm => (h4 m hm).1, h5, h6⟩
  rwa [flatMap_one] at h3
/-- a slice of integers as an argument -/
theorem open_nums {t e : TypeId} {k : IntKind} {v : Value} {d : DataW H} {p : List MemPlace} {r : Reach} {b0 : Nat} (ht : P.underlying t = some (.slice e)) (he : P.underlying e = some (.int k))
    (hv : Value.okWide P w r b0 t v) (h : DataW.Trod enc P w 0 (fun _ => true) true t v d p) :
    ∃ A n c, ∃ zs : List Int, v = .slice A n c ∧ zs.length = n ∧ Rd w A (zs.map (Value.int k)) ∧ (∀ z ∈ zs, (Lit.int k z).wf = true) ∧ n ≤ c ∧ c ≤ maxLen := by
  obtain ⟨A, n, c, ms, h1, h2, h3, h4, h5, h6⟩ := open_rows (f := fun z : Int => [Value.int k z]) (ok := fun z => (Lit.int k z).wf = true) ht (fun cs hcs => is_int he hcs) hv h
  refine ⟨A, n, c, ms, h1, h2, ?_, fun m hm => (h4 m hm).1, h5, h6⟩
  rwa [flatMap_one] at h3
end
end Go.Mem
