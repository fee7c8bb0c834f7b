/- The search for pairs: what it has at hand in memory, and what turns. -/
import Derived.Test.YtpiinfjcjpdofaaChecked
import Derived.Test.YtpiinfjcjpdofaaDict
import Derived.Test.YtpiinfjcjpdofaaCovA
import Derived.WalkLawsBesides
import Derived.WalkSpells
import Derived.RegionTactic
import Derived.BigRegion
import Derived.BigQuiet
import Derived.Deep.QuietTactic
import Derived.StillTailTactics
import Derived.Laws.MakeOwn
import Derived.Laws.OwnMore
import Derived.Laws.EntriesVeiled
import Derived.OneCell
namespace Go.Proofs.Ytpiinfjcjpdofaa
open Go.RowKit Go.Mem Go.Cov
set_option linter.unusedVariables false
set_option linter.unusedSimpArgs false

def prc (l : List Pair) : List Value := l.flatMap fun p => [.int .i64 p.1, .int .i64 p.2]
theorem prc_len (l : List Pair) : (prc l).length = 2 * l.length := by
  unfold prc
  induction l with
  | nil => rfl
  | cons p l ih => rw [List.flatMap_cons, List.length_append, ih, List.length_cons]; simp; omega
theorem prc_at {w : World} {A : Option Addr} {l : List Pair} (h : Rd w A (prc l)) {k : Nat} (hk : k < l.length) :
    ∃ b off, A = some ⟨b, off, none⟩ ∧ w.cell? ⟨b, off + k * 2, none⟩ = some (.int .i64 l[k].1) ∧ w.cell? ⟨b, off + k * 2 + 1, none⟩ = some (.int .i64 l[k].2) := by
  unfold prc at h
  rw [List.flatMap_def] at h
  have hs : ∀ r ∈ l.map (fun p : Pair => [Value.int .i64 p.1, Value.int .i64 p.2]), r.length = 2 := by intro r hr; obtain ⟨m, _, rfl⟩ := List.mem_map.1 hr; rfl
  have hi : (l.map (fun p : Pair => [Value.int .i64 p.1, Value.int .i64 p.2]))[k]? = some [Value.int .i64 l[k].1, Value.int .i64 l[k].2] := by simp [hk]
  obtain ⟨b, off, rfl, h0⟩ := h.row hs k _ hi 0 _ rfl
  obtain ⟨b1, off1, e1, h1⟩ := h.row hs k _ hi 1 _ rfl
  injection e1 with e1; injection e1 with e1 e1'; subst e1 e1'
  exact ⟨b, off, rfl, h0, by rw [Nat.add_assoc]; exact h1⟩
/-- the numbers of pairs are those of 'int' -/
def okP (l : List Pair) : Prop := ∀ p ∈ l, inOk p.1 ∧ inOk p.2
theorem kwi : Keyw Try.prog 3 inOk (Value.int .i64) (Lit.int .i64) := keyw_int Try.underlying3
theorem zeroi (u : World) : (zeroValue 3).run Try.prog u = .ok (.int .i64 0) u := by kernel_rfl
/-- block b is a map that has what f says; its keys are of X -/
def MZ (w : World) (b : Nat) (f : Int → Option Int) (X : List Int) : Prop :=
  ∃ K : List Int, K.Nodup ∧ (∀ v, (f v).isSome = true ↔ v ∈ K) ∧ (∀ v ∈ K, v ∈ X) ∧ Dict Try.prog 3 3 inOk (Lit.int .i64) w b K.length f K.length
section
variable {w w' : World} {b : Nat} {f : Int → Option Int} {X : List Int}
theorem MZ.block (h : MZ w b f X) (hb : w'.heap[b]? = w.heap[b]?) : MZ w' b f X := by
  obtain ⟨K, h1, h2, h3, h4⟩ := h
  exact ⟨K, h1, h2, h3, h4.block hb⟩
theorem MZ.lt (h : MZ w b f X) : b < w.heap.size := by obtain ⟨K, h1, h2, h3, h4⟩ := h; exact h4.lt
theorem MZ.isMap (h : MZ w b f X) : ∃ es c, w.heap[b]? = some (.map es c) := by
  obtain ⟨K, _, _, _, D, ⟨es, c, h1, _⟩, _⟩ := h
  exact ⟨es, c, h1⟩
theorem MZ.made (w : World) (X : List Int) : MZ (w.alloc (.map #[] 0)) w.heap.size (fun _ => none) X :=
  ⟨[], List.nodup_nil, by simp, by simp, Dict.made w Try.prog 3 3 inOk (Lit.int .i64)⟩
theorem MZ.look (h : MZ w b f X) {x : Int} (hx : inOk x) : (Instr.lookup 75 (.map (some b)) (.int .i64 x) false).run Try.prog w = .ok (.int .i64 ((f x).getD 0)) w := by
  obtain ⟨K, _, _, _, h⟩ := h
  exact h.look kwi Try.underlying75 Try.underlying3 (zeroi _) x hx
theorem MZ.look_ok (h : MZ w b f X) {x : Int} (hx : inOk x) : (Instr.lookup 75 (.map (some b)) (.int .i64 x) true).run Try.prog w = .ok (.tuple #[.int .i64 ((f x).getD 0), .bool (f x).isSome]) w := by
  obtain ⟨K, _, _, _, h⟩ := h
  exact h.look_ok kwi Try.underlying75 Try.underlying3 (zeroi _) x hx
/-- how many keys it has -/
theorem MZ.count (h : MZ w b f X) {D : List Int} (hD : D.Nodup) (hm : ∀ v, (f v).isSome = true ↔ v ∈ D) (ty : TypeId) : (Builtin.len_ #[75] ty #[.map (some b)]).run Try.prog w = .ok (.int .i64 D.length) w := by
  obtain ⟨K, h1, h2, _, h⟩ := h
  have hl : K.length = D.length := Nat.le_antisymm (nodup_le K D h1 fun z hz => (hm z).1 ((h2 z).2 hz)) (nodup_le D K hD fun z hz => (h2 z).1 ((hm z).2 hz))
  rw [← hl]
  exact h.len_run Try.underlying75 ty
def put (f : Int → Option Int) (x z : Int) : Int → Option Int := fun y => if y = x then some z else f y
def del (f : Int → Option Int) (x : Int) : Int → Option Int := fun y => if y = x then none else f y
theorem keys_put {K : List Int} {x z : Int} (h1 : K.Nodup) (h2 : ∀ v, (f v).isSome = true ↔ v ∈ K) (h3 : ∀ v ∈ K, v ∈ X) (hx : x ∈ X) :
    ∃ K' : List Int, K'.Nodup ∧ (∀ v, (put f x z v).isSome = true ↔ v ∈ K') ∧ (∀ v ∈ K', v ∈ X) ∧ K.length ≤ K'.length ∧ K'.length ≤ K.length + 1 ∧ (if (f x).isSome then K.length else K.length + 1) = K'.length := by
  by_cases e : (f x).isSome = true
  · refine ⟨K, h1, fun v => ?_, h3, by omega, by omega, by rw [if_pos e]⟩
    unfold put
    by_cases ev : v = x
    · rw [if_pos ev, ev]; simp [(h2 x).1 e]
    · rw [if_neg ev]; exact h2 v
  · have hn : x ∉ K := fun hk => e ((h2 x).2 hk)
    refine ⟨x :: K, List.nodup_cons.2 ⟨hn, h1⟩, fun v => ?_, fun v hv => ?_, by simp, by simp, by rw [if_neg e]; rfl⟩
    · unfold put
      by_cases ev : v = x
      · rw [if_pos ev, ev]; simp
      · rw [if_neg ev, h2 v]; simp [ev]
    · rcases List.mem_cons.1 hv with rfl | hv
      · exact hx
      · exact h3 v hv
theorem MZ.room {K : List Int} (h1 : K.Nodup) (h3 : ∀ v ∈ K, v ∈ X) (hX : X.length ≤ 1000) : K.length < maxLen := by
  have := nodup_le K X h1 h3
  unfold maxLen; omega
theorem wpList_mz_put {w : World} {ops : Array Oper} {rest : List Oper} {o : Oper} {a : Act} {Q : Exit → Act → World → Prop} {f : Int → Option Int} (hg : o.guard = none) (m x v : Operand) (hop : o.op = Op.mapUpdate 75 m x v)
    (h : MZ w b f X) (hX : X.length ≤ 1000) (hm : a.eval m = .map (some b)) (y : Int) (hy : inOk y) (hyX : y ∈ X) (hx : a.eval x = .int .i64 y) (z : Int) (hv : a.eval v = .int .i64 z) (hz : (Lit.int .i64 z).wf = true)
    (hK : ∀ w', MZ w' b (put f y z) X → w.grownBy w' (some b) → wpList Try.prog ops Q rest (a.put o.dst undef) w') :
    wpList Try.prog ops Q (o :: rest) a w := by
  obtain ⟨K, h1, h2, h3, h4⟩ := h
  refine wpList_dict_put hg m x v hop h4 kwi Try.underlying75 Try.underlying3 (MZ.room h1 h3 hX) hm y hy hx z hv hz fun w' hd hgr => hK w' ?_ hgr
  obtain ⟨K', a1, a2, a3, a4, a5, a6⟩ := keys_put (z := z) h1 h2 h3 hyX
  rw [a6] at hd
  exact ⟨K', a1, a2, a3, hd.tight⟩
theorem MZ.entry (h : MZ w b f X) (hX : X.length ≤ 1000) {x : Int} (hx : inOk x) (hxX : x ∈ X) :
    ∃ (v0 : Value) (st : Nat) (w1 : World), (Instr.mapEntry 75 (.map (some b)) (.int .i64 x)).run Try.prog w = .ok (.tuple #[v0, goInt st]) w1 ∧ w.grownBy w1 (some b) ∧ w1.heap.size = w.heap.size ∧
      ∀ (w2 : World) (z : Int), w2.heap[b]? = w1.heap[b]? → (Lit.int .i64 z).wf = true →
        ∃ w3, (Instr.entryStore 75 (.map (some b)) (goInt st) (.int .i64 z)).run Try.prog w2 = .ok () w3 ∧ MZ w3 b (put f x z) X ∧ w2.grownBy w3 (some b) ∧ w3.heap.size = w2.heap.size := by
  obtain ⟨K, h1, h2, h3, h4⟩ := h
  obtain ⟨v0, st, w1, a1, a2, a3, a4⟩ := h4.entry kwi Try.underlying75 Try.underlying3 zeroi (MZ.room h1 h3 hX) x hx
  refine ⟨v0, st, w1, a1, a2, a3, fun w2 z hb hz => ?_⟩
  obtain ⟨w3, c1, c2, c3, c4⟩ := a4 w2 z hb hz
  obtain ⟨K', d1, d2, d3, d4, d5, d6⟩ := keys_put (z := z) h1 h2 h3 hxX
  rw [d6] at c2
  exact ⟨w3, c1, ⟨K', d1, d2, d3, c2.tight⟩, c3, c4⟩
end
/-- blocks ahead of 'base' but those of which 'may' says so hold what they held -/
structure Turn (base : Nat) (may : Nat → Prop) (w w' : World) : Prop where
  os : w'.os = w.os
  tape : w'.tape = w.tape
  output : w'.output = w.output
  size : w.heap.size ≤ w'.heap.size
  block : ∀ k, k < base → ¬ may k → w'.heap[k]? = w.heap[k]?
section
variable {w w1 w2 : World} {base : Nat} {may : Nat → Prop}
theorem Turn.refl (w : World) : Turn base may w w := ⟨rfl, rfl, rfl, Nat.le_refl _, fun _ _ _ => rfl⟩
theorem Turn.of_below (h : Below base w w1) : Turn base may w w1 := ⟨h.os, h.tape, h.output, h.size, fun k hk _ => h.block k hk⟩
theorem Turn.below (h : Turn base may w w1) (hm : ∀ k, k < base → ¬ may k) : Below base w w1 := ⟨h.os, h.tape, h.output, h.size, fun k hk => h.block k hk (hm k hk)⟩
theorem Turn.trans (h : Turn base may w w1) (k : Turn base may w1 w2) : Turn base may w w2 := ⟨k.os.trans h.os, k.tape.trans h.tape, k.output.trans h.output, Nat.le_trans h.size k.size, fun i hi hn => (k.block i hi hn).trans (h.block i hi hn)⟩
theorem Turn.mono (h : Turn base may w w1) {base' : Nat} {may' : Nat → Prop} (hb : base' ≤ base) (hm : ∀ k, k < base' → may k → may' k) : Turn base' may' w w1 := ⟨h.os, h.tape, h.output, h.size, fun i hi hn => h.block i (by omega) (fun e => hn (hm i hi e))⟩
theorem Turn.then_ (h : Turn w.heap.size may w w1) (k : Turn w1.heap.size may w1 w2) : Turn w.heap.size may w w2 := h.trans (k.mono h.size fun _ _ e => e)
theorem Turn.grown {b : Nat} (h : w1.grownBy w2 (some b)) (hm : may b) (hb : base ≤ w1.heap.size) : Turn base may w1 w2 := ⟨h.os, h.tape, h.output, h.size, fun i hi hn => h.block i (by omega) (fun e => hn (by injection e with e; exact e ▸ hm))⟩
theorem Turn.alloc (h : Turn base may w w1) (hb : base ≤ w1.heap.size) (o : Obj) : Turn base may w (w1.alloc o) := h.trans (Turn.of_below ((Below.refl _ _).alloc hb o))
theorem Turn.drew (h : Turn base may w w1) : Turn base may w w1.drew := ⟨h.os, h.tape, h.output, h.size, h.block⟩
theorem Turn.cell (h : Turn w.heap.size may w w1) {a : Addr} {v : Value} (ha : ¬ may a.block) (hc : w.cell? a = some v) : w1.cell? a = some v :=
  (World.cell?_of_block (h.block a.block (World.block_lt_of_cell? w a hc) ha)).trans hc
end
/-- what the search has at hand, but for the maps' contents -/
structure Has (w : World) (A : Option Addr) (n c : Nat) (l : List Pair) (pb lb rb sb p0 s0 y0 : Nat) : Prop where
  cp : w.cell? ⟨p0, 0, none⟩ = some (.pointer (some ⟨pb, 0, none⟩))
  cs : w.cell? ⟨s0, 0, none⟩ = some (.map (some sb))
  cy : w.cell? ⟨y0, 0, none⟩ = some (.func (.func 76) #[] #[.pointer (some ⟨p0, 0, none⟩), .pointer (some ⟨s0, 0, none⟩), .pointer (some ⟨y0, 0, none⟩)])
  b0 : w.cell? ⟨pb, 0, none⟩ = some (.slice A n c)
  b1 : w.cell? ⟨pb, 1, none⟩ = some (.map (some lb))
  b2 : w.cell? ⟨pb, 2, none⟩ = some (.map (some rb))
  rd : Rd w A (prc l)
def Three (lb rb sb : Nat) (k : Nat) : Prop := k = lb ∨ k = rb ∨ k = sb
/-- a map's block holds no cell -/
theorem MZ.no_cell {w : World} {b : Nat} {f : Int → Option Int} {X : List Int} (h : MZ w b f X) {a : Addr} {v : Value} (hc : w.cell? a = some v) : a.block ≠ b := fun e => by
  obtain ⟨es, c, hm⟩ := h.isMap
  unfold World.cell? at hc
  rw [e, hm] at hc
  simp at hc
section
variable {w w' : World} {A : Option Addr} {n c : Nat} {l : List Pair} {pb lb rb sb p0 s0 y0 : Nat} {fL fR fS : Int → Option Int} {XL XR : List Int}
theorem Has.turn (h : Has w A n c l pb lb rb sb p0 s0 y0) (hl : MZ w lb fL XL) (hr : MZ w rb fR XR) (hs : MZ w sb fS XR) (ht : Turn w.heap.size (Three lb rb sb) w w') : Has w' A n c l pb lb rb sb p0 s0 y0 := by
  have key : ∀ p u, w.cell? p = some u → w'.cell? p = some u := fun p u hc => ht.cell (by
    rintro (e | e | e)
    · exact hl.no_cell hc e
    · exact hr.no_cell hc e
    · exact hs.no_cell hc e) hc
  exact ⟨key _ _ h.cp, key _ _ h.cs, key _ _ h.cy, key _ _ h.b0, key _ _ h.b1, key _ _ h.b2, h.rd.keep key⟩
theorem Has.below (h : Has w A n c l pb lb rb sb p0 s0 y0) (hb : Below w.heap.size w w') : Has w' A n c l pb lb rb sb p0 s0 y0 :=
  ⟨cell_below hb h.cp, cell_below hb h.cs, cell_below hb h.cy, cell_below hb h.b0, cell_below hb h.b1, cell_below hb h.b2, h.rd.below hb⟩
end
def seenF (S : List Int) : Int → Option Int := fun v => if v ∈ S then some 1 else none
theorem seenF_put (S : List Int) (y : Int) : put (seenF S) y 1 = seenF (y :: S) := by
  funext v
  unfold put seenF
  by_cases e : v = y
  · rw [if_pos e, if_pos (by rw [e]; simp)]
  · rw [if_neg e]
    by_cases e2 : v ∈ S
    · rw [if_pos e2, if_pos (by simp [e2])]
    · rw [if_neg e2, if_neg (by simp [e, e2])]
/-- what the maps say of places: those on the right but for the places that the search's number had -/
structure Acc (l : List Pair) (T T' : List Nat) (u : Int) (fL fR : Int → Option Int) : Prop where
  left : ∀ v z, fL v = some z ↔ ∃ a ∈ T', lf l a = v ∧ z = (a : Int)
  right : ∀ v, (∀ o ∈ T, lf l o = u → rt l o ≠ v) → ∀ z, fR v = some z ↔ ∃ a ∈ T', rt l a = v ∧ z = (a : Int)
theorem left_swap {l : List Pair} {T' : List Nat} {k : Nat} {fL : Int → Option Int} (h : ∀ v z, fL v = some z ↔ ∃ a ∈ T', lf l a = v ∧ z = (a : Int)) (v z : Int) : put fL (lf l k) k v = some z ↔ ∃ a ∈ swap l T' k, lf l a = v ∧ z = (a : Int) := by
  unfold put
  by_cases e : v = lf l k
  · rw [if_pos e]
    constructor
    · intro h1; injection h1 with h1; exact ⟨k, mem_swap.2 (.inl rfl), e.symm, h1.symm⟩
    · rintro ⟨a, ha, e1, e2⟩
      rcases mem_swap.1 ha with rfl | ⟨ha, hn⟩
      · rw [e2]
      · exact absurd (e1.trans e) hn
  · rw [if_neg e, h]
    constructor
    · rintro ⟨a, ha, e1, e2⟩
      exact ⟨a, mem_swap.2 (.inr ⟨ha, fun e3 => e (e1.symm.trans e3)⟩), e1, e2⟩
    · rintro ⟨a, ha, e1, e2⟩
      rcases mem_swap.1 ha with rfl | ⟨ha, hn⟩
      · exact absurd e1.symm e
      · exact ⟨a, ha, e1, e2⟩
theorem acc_free {l : List Pair} {T : List Nat} {k : Nat} {fL fR : Int → Option Int} (hap : Ap l (swap l T k)) (hL : ∀ v z, fL v = some z ↔ ∃ a ∈ T, lf l a = v ∧ z = (a : Int)) (hR : ∀ v z, fR v = some z ↔ ∃ a ∈ T, rt l a = v ∧ z = (a : Int)) :
    Acc l T (swap l T k) (lf l k) (put fL (lf l k) k) (put fR (rt l k) k) := by
  refine ⟨left_swap hL, fun v hv z => ?_⟩
  unfold put
  by_cases e : v = rt l k
  · rw [if_pos e]
    constructor
    · intro h1; injection h1 with h1; exact ⟨k, mem_swap.2 (.inl rfl), e.symm, h1.symm⟩
    · rintro ⟨a, ha, e1, e2⟩
      have := hap.right a ha k (mem_swap.2 (.inl rfl)) (e1.trans e)
      rw [e2, this]
  · rw [if_neg e, hR]
    constructor
    · rintro ⟨a, ha, e1, e2⟩
      exact ⟨a, mem_swap.2 (.inr ⟨ha, fun e3 => hv a ha e3 e1⟩), e1, e2⟩
    · rintro ⟨a, ha, e1, e2⟩
      rcases mem_swap.1 ha with rfl | ⟨ha, hn⟩
      · exact absurd e1.symm e
      · exact ⟨a, ha, e1, e2⟩
theorem acc_take {l : List Pair} {T T' : List Nat} {S : List Int} {k o : Nat} {fL fR : Int → Option Int} (h : Ap l T) (hap : Ap l (swap l T' k)) (hS : rt l k ∉ S) (hu : ∀ p ∈ T, lf l p = lf l k → rt l p ∈ S) (ho : o ∈ T) (he : rt l o = rt l k)
    (hw : Won l T T' (lf l o) (rt l k :: S)) (hA : Acc l T T' (lf l o) fL fR) : Acc l T (swap l T' k) (lf l k) (put fL (lf l k) k) (put fR (rt l k) k) := by
  refine ⟨left_swap hA.left, fun v hv z => ?_⟩
  have hne : lf l o ≠ lf l k := fun e => hS (he ▸ hu o ho e)
  unfold put
  by_cases e : v = rt l k
  · rw [if_pos e]
    constructor
    · intro h1; injection h1 with h1; exact ⟨k, mem_swap.2 (.inl rfl), e.symm, h1.symm⟩
    · rintro ⟨a, ha, e1, e2⟩
      have := hap.right a ha k (mem_swap.2 (.inl rfl)) (e1.trans e)
      rw [e2, this]
  · rw [if_neg e, hA.right v (fun p hp e1 e2 => e (by rw [← e2, h.left p hp o ho e1, he]))]
    constructor
    · rintro ⟨a, ha, e1, e2⟩
      refine ⟨a, mem_swap.2 (.inr ⟨ha, fun e3 => ?_⟩), e1, e2⟩
      rcases (hw.lefts _).1 ⟨a, ha, e3⟩ with e4 | ⟨p, hp, e4⟩
      · exact hne e4.symm
      · have hpT := hw.old p hp (List.mem_cons_of_mem _ (hu p hp e4)) (fun e5 => hne (e5.symm.trans e4))
        have := hw.ap.left a ha p hpT (e3.trans e4.symm)
        exact hv p hp e4 (by rw [← this]; exact e1)
    · rintro ⟨a, ha, e1, e2⟩
      rcases mem_swap.1 ha with rfl | ⟨ha, hn⟩
      · exact absurd e1.symm e
      · exact ⟨a, ha, e1, e2⟩
theorem Won.less {l : List Pair} {T T' : List Nat} {u : Int} {S S' : List Int} (h : Won l T T' u S') (hs : ∀ y ∈ S, y ∈ S') : Won l T T' u S := ⟨h.ap, h.lefts, fun a ha hy => h.old a ha (hs _ hy), h.shut, h.gone, h.len⟩
theorem cn_less {S S' xs : List Int} (h : ∀ y ∈ S, y ∈ S') : cn S' xs ≤ cn S xs := by
  obtain ⟨D, d1, d2, d3⟩ := cn_spec S xs
  obtain ⟨E, e1, e2, e3⟩ := cn_spec S' xs
  rw [← d3, ← e3]
  exact nodup_le E D e1 fun z hz => (d2 z).2 ⟨((e2 z).1 hz).1, fun hs => ((e2 z).1 hz).2 (h z hs)⟩
theorem cn_one {S xs : List Int} {y : Int} (hy : y ∈ xs) (hn : y ∉ S) : cn (y :: S) xs + 1 ≤ cn S xs := by
  obtain ⟨D, d1, d2, d3⟩ := cn_spec S xs
  obtain ⟨E, e1, e2, e3⟩ := cn_spec (y :: S) xs
  rw [← d3, ← e3]
  have : (y :: E).length ≤ D.length := nodup_le (y :: E) D (List.nodup_cons.2 ⟨fun h => ((e2 y).1 h).2 (by simp), e1⟩) fun z hz => by
    rcases List.mem_cons.1 hz with rfl | hz
    · exact (d2 z).2 ⟨hy, hn⟩
    · exact (d2 z).2 ⟨((e2 z).1 hz).1, fun hs => ((e2 z).1 hz).2 (by simp [hs])⟩
  simpa using this
end Go.Proofs.Ytpiinfjcjpdofaa
