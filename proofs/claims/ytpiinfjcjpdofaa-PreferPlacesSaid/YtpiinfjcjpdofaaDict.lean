/- Words of my own for maps with integer elements that a call makes: what the map has at each key, and how many keys. No program in sight. -/
import Derived.Test.YtpiinfjcjpdofaaMem
import Derived.Maps.OwnSet
import Derived.Maps.OwnOps
import Derived.StringKeys
import Derived.Carry
namespace Go.Mem
open Go.Maps Go.RowKit
set_option linter.unusedVariables false

/-- how the keys of a type are told -/
structure Keyw (P : Program) (k : TypeId) {κ : Type} (ok : κ → Prop) (kv : κ → Value) (kl : κ → Lit) : Prop where
  K : Keyed P k
  key : ∀ x, ok x → keyOf P k (kv x) = some (kl x)
  inj : ∀ x y, kl x = kl y → x = y
def txOk (s : ByteArray) : Prop := s.size ≤ maxLen
def txLit (s : ByteArray) : Lit := .string s.data.toList
theorem keyw_string {P : Program} {k : TypeId} (hk : P.underlying k = some .string) : Keyw P k txOk Value.string txLit where
  K := string_keyed hk
  key x h := WideMaps.keyOf_string_mk hk h
  inj x y h := by
    unfold txLit at h
    injection h with h
    exact WideShapes.bytes_inj h
def inOk (z : Int) : Prop := (Lit.int .i64 z).wf = true
theorem keyw_int {P : Program} {k : TypeId} (hk : P.underlying k = some (.int .i64)) : Keyw P k inOk (Value.int .i64) (Lit.int .i64) where
  K := int_keyed hk
  key x h := keyOf_int_mk hk h
  inj x y h := by injection h

section
variable {P : Program} {k e t : TypeId} {κ : Type} {ok : κ → Prop} {kv : κ → Value} {kl : κ → Lit} {w w' : World} {b n c : Nat} {f : κ → Option Int}
/-- block b is a map that has at each key what f says, c keys in all (at most n entries) -/
def Dict (P : Program) (k e : TypeId) {κ : Type} (ok : κ → Prop) (kl : κ → Lit) (w : World) (b n : Nat) (f : κ → Option Int) (c : Nat) : Prop :=
  ∃ D : DataW Unit, w.ownsMap P k (plainElem P e) b n D ∧ Maps.size D = c ∧ ∀ x, ok x → Maps.has D (kl x) = (f x).isSome ∧ ∀ z, f x = some z → ∀ zd, D.atKey (kl x) zd = .lit (.int .i64 z)
theorem Dict.made (w : World) (P : Program) (k e : TypeId) (ok : κ → Prop) (kl : κ → Lit) : Dict P k e ok kl (w.alloc (.map #[] 0)) w.heap.size 0 (fun _ => none) 0 :=
  ⟨.map [], World.ownsMap_made _ _ _ _, rfl, fun x _ => ⟨rfl, fun z h => by cases h⟩⟩
theorem Dict.mono (h : Dict P k e ok kl w b n f c) {n' : Nat} (hn : n ≤ n') : Dict P k e ok kl w b n' f c := by
  obtain ⟨D, h1, h2⟩ := h
  exact ⟨D, h1.mono hn, h2⟩
theorem Dict.lt (h : Dict P k e ok kl w b n f c) : b < w.heap.size := by
  obtain ⟨D, h1, h2⟩ := h
  exact h1.lt
theorem Dict.kept {row : Option Nat} (h : Dict P k e ok kl w b n f c) (hg : w.grownBy w' row) (hne : some b ≠ row) : Dict P k e ok kl w' b n f c := by
  obtain ⟨D, h1, h2⟩ := h
  exact ⟨D, h1.kept hg hne, h2⟩
theorem Dict.block (h : Dict P k e ok kl w b n f c) (hb : w'.heap[b]? = w.heap[b]?) : Dict P k e ok kl w' b n f c := by
  obtain ⟨D, ⟨es, cl, h1, h3⟩, h2⟩ := h
  exact ⟨D, ⟨es, cl, hb.trans h1, h3⟩, h2⟩
theorem Dict.below (h : Dict P k e ok kl w b n f c) (hb : Below w.heap.size w w') : Dict P k e ok kl w' b n f c := h.block (hb.block b h.lt)
theorem Dict.alloc (h : Dict P k e ok kl w b n f c) (o : Obj) : Dict P k e ok kl (w.alloc o) b n f c := by
  obtain ⟨D, h1, h2⟩ := h
  exact ⟨D, h1.alloc o, h2⟩
theorem Dict.drew (h : Dict P k e ok kl w b n f c) : Dict P k e ok kl w.drew b n f c := h
theorem Dict.setCell (h : Dict P k e ok kl w b n f c) {a : Addr} (ha : b ≠ a.block) (u : Value) : Dict P k e ok kl (w.setCell a u) b n f c := by
  obtain ⟨D, h1, h2⟩ := h
  exact ⟨D, h1.setCell ha u, h2⟩
theorem Dict.count (h : Dict P k e ok kl w b n f c) : c ≤ n := by
  obtain ⟨D, h1, h2, _⟩ := h
  exact h2 ▸ h1.size_le
theorem Dict.same {g : κ → Option Int} (h : Dict P k e ok kl w b n f c) (hg : ∀ x, ok x → g x = f x) : Dict P k e ok kl w b n g c := by
  obtain ⟨D, h1, h2, h3⟩ := h
  exact ⟨D, h1, h2, fun x hx => by rw [hg x hx]; exact h3 x hx⟩
theorem Dict.look_ok (h : Dict P k e ok kl w b n f c) (W : Keyw P k ok kv kl) (ht : P.underlying t = some (.map k e)) (he : P.underlying e = some (.int .i64)) (hz : (zeroValue e).run P w = .ok (.int .i64 0) w) (x : κ) (hx : ok x) :
    (Instr.lookup t (.map (some b)) (kv x) true).run P w = .ok (.tuple #[.int .i64 ((f x).getD 0), .bool (f x).isSome]) w := by
  obtain ⟨D, h1, h2, h3⟩ := h
  obtain ⟨v, ps, hr, hv⟩ := h1.look_ok W.K ht hz (plainElem_int he (by decide)) (W.key x hx)
  obtain ⟨a, rfl, ha, _⟩ := plainElem_int_inv he hv
  obtain ⟨h4, h5⟩ := h3 x hx
  rw [hr, h4]
  have ha := congrArg Prod.fst ha
  simp only at ha
  cases hf : f x with
  | none =>
    rw [hf] at h4
    rw [Maps.atKey_of_not_has h4] at ha
    injection ha with ha
    injection ha with _ ha
    rw [← ha]; rfl
  | some z =>
    rw [h5 z hf] at ha
    injection ha with ha
    injection ha with _ ha
    rw [← ha]; rfl
theorem Dict.look (h : Dict P k e ok kl w b n f c) (W : Keyw P k ok kv kl) (ht : P.underlying t = some (.map k e)) (he : P.underlying e = some (.int .i64)) (hz : (zeroValue e).run P w = .ok (.int .i64 0) w) (x : κ) (hx : ok x) :
    (Instr.lookup t (.map (some b)) (kv x) false).run P w = .ok (.int .i64 ((f x).getD 0)) w := by
  obtain ⟨D, h1, h2, h3⟩ := h
  obtain ⟨a, hr, ha, _⟩ := h1.lookup_int W.K ht he hz (W.key x hx)
  obtain ⟨h4, h5⟩ := h3 x hx
  rw [hr]
  cases hf : f x with
  | none =>
    rw [hf] at h4
    rw [Maps.atKey_of_not_has h4] at ha
    injection ha with ha
    injection ha with _ ha
    rw [← ha]; rfl
  | some z =>
    rw [h5 z hf] at ha
    injection ha with ha
    injection ha with _ ha
    rw [← ha]; rfl
theorem Dict.len_run (h : Dict P k e ok kl w b n f c) (ht : P.underlying t = some (.map k e)) (ty : TypeId) : (Builtin.len_ #[t] ty #[.map (some b)]).run P w = .ok (.int .i64 c) w := by
  obtain ⟨D, h1, h2, h3⟩ := h
  rw [h1.len ht ty, h2]
variable [DecidableEq κ]
theorem Dict.put (h : Dict P k e ok kl w b n f c) (W : Keyw P k ok kv kl) (ht : P.underlying t = some (.map k e)) (he : P.underlying e = some (.int .i64)) (hn : n < maxLen) (x : κ) (hx : ok x) (z : Int) (hz : (Lit.int .i64 z).wf = true) :
    ∃ w', (Instr.mapUpdate t (.map (some b)) (kv x) (.int .i64 z)).run P w = .ok () w' ∧ Dict P k e ok kl w' b (n + 1) (fun y => if y = x then some z else f y) (if (f x).isSome then c else c + 1) ∧ w.grownBy w' (some b) := by
  obtain ⟨D, h1, h2, h3⟩ := h
  obtain ⟨w', hr, h4, h5⟩ := h1.update W.K ht hn (W.key x hx) (plainElem_int he hz)
  refine ⟨w', hr, ⟨_, h4, ?_, fun y hy => ?_⟩, h5⟩
  · rw [Maps.size_put (h1.tidy W.K), (h3 x hx).1, h2]
  · simp only []
    by_cases e : y = x
    · subst e
      rw [if_pos rfl]
      refine ⟨Maps.has_put_same h1.isMap (W.K.key (W.key y hx)) _, fun z' hz' zd => ?_⟩
      injection hz' with hz'
      subst hz'
      exact Maps.atKey_put_same h1.isMap (W.K.key (W.key y hx)) _ _
    · rw [if_neg e]
      have hne : kl y ≠ kl x := fun h => e (W.inj _ _ h)
      exact ⟨(Maps.has_put_other hne _).trans (h3 y hy).1, fun z' hz' zd => (Maps.atKey_put_other hne _ _).trans ((h3 y hy).2 z' hz' zd)⟩
theorem Dict.del (h : Dict P k e ok kl w b n f c) (W : Keyw P k ok kv kl) (ht : P.underlying t = some (.map k e)) (x : κ) (hx : ok x) (ty : TypeId) :
    ∃ w', (Builtin.delete_ #[t, k] ty #[.map (some b), kv x]).run P w = .ok (.tuple #[]) w' ∧ Dict P k e ok kl w' b n (fun y => if y = x then none else f y) (if (f x).isSome then c - 1 else c) ∧ w.grownBy w' (some b) := by
  obtain ⟨D, h1, h2, h3⟩ := h
  obtain ⟨w', hr, h4, h5⟩ := h1.drop W.K ht (W.key x hx) ty
  refine ⟨w', hr, ⟨_, h4, ?_, fun y hy => ?_⟩, h5.grown⟩
  · have := Maps.size_del (k := kl x) (h1.tidy W.K)
    rw [(h3 x hx).1, h2] at this
    split <;> simp_all <;> omega
  · simp only []
    by_cases e : y = x
    · subst e
      rw [if_pos rfl]
      exact ⟨Maps.has_del_same, fun z' hz' => by cases hz'⟩
    · rw [if_neg e]
      have hne : kl y ≠ kl x := fun h => e (W.inj _ _ h)
      exact ⟨(Maps.has_del_other hne).trans (h3 y hy).1, fun z' hz' zd => (Maps.atKey_del_other hne _).trans ((h3 y hy).2 z' hz' zd)⟩
end
section
variable {P : Program} {k e t : TypeId} {κ : Type} {ok : κ → Prop} {kv : κ → Value} {kl : κ → Lit} {b n c : Nat} {f : κ → Option Int} [DecidableEq κ]
theorem wpList_dict_put {w : World} {ops : Array Oper} {rest : List Oper} {o : Oper} {a : Act} {Q : Exit → Act → World → Prop} (hg : o.guard = none) (m x v : Operand) (hop : o.op = Op.mapUpdate t m x v)
    (h : Dict P k e ok kl w b n f c) (W : Keyw P k ok kv kl) (ht : P.underlying t = some (.map k e)) (he : P.underlying e = some (.int .i64)) (hn : n < maxLen) (hm : a.eval m = .map (some b)) (y : κ) (hy : ok y) (hx : a.eval x = kv y) (z : Int) (hv : a.eval v = .int .i64 z) (hz : (Lit.int .i64 z).wf = true)
    (hK : ∀ w', Dict P k e ok kl w' b (n + 1) (fun u => if u = y then some z else f u) (if (f y).isSome then c else c + 1) → w.grownBy w' (some b) → wpList P ops Q rest (a.put o.dst undef) w') :
    wpList P ops Q (o :: rest) a w := by
  refine wpList_plain hg fun K' hK' => ?_
  obtain ⟨w', hrun, r1, r2⟩ := h.put W ht he hn y hy z hz
  unfold Oper.wp
  simp [execOp, hop, hm, hx, hv, hrun, Result.andThen]
  exact hK' _ _ (hK w' r1 r2)
theorem wpList_dict_del {w : World} {ops : Array Oper} {rest : List Oper} {o : Oper} {a : Act} {Q : Exit → Act → World → Prop} (hg : o.guard = none) (m x : Operand) (hop : o.op = Op.call { callee := Callee.builtin Builtin.delete, args := #[m, x], argTypes := #[t, k] })
    (h : Dict P k e ok kl w b n f c) (W : Keyw P k ok kv kl) (ht : P.underlying t = some (.map k e)) (hm : a.eval m = .map (some b)) (y : κ) (hy : ok y) (hx : a.eval x = kv y)
    (hK : ∀ w', Dict P k e ok kl w' b n (fun u => if u = y then none else f u) (if (f y).isSome then c - 1 else c) → w.grownBy w' (some b) → wpList P ops Q rest (a.put o.dst (.tuple #[])) w') :
    wpList P ops Q (o :: rest) a w := by
  refine wpList_plain hg fun K' hK' => ?_
  obtain ⟨w', hrun, r1, r2⟩ := h.del W ht y hy o.type
  unfold Oper.wp
  simp [execOp, hop, resolve, invoke, builtin, hm, hx, hrun, Result.andThen]
  exact hK' _ _ (hK w' r1 r2)
end
end Go.Mem
