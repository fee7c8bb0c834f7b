/- writer: what a write comes to, as plain functions; the program's way and the document's are one. -/
import Derived.Test.YtebfmacbdjnhbaaQuorumI
namespace Go.Proofs.Ytebfmacbdjnhbaa
open Go.RowKit Go.Mem
set_option linter.unusedVariables false
def nodes (l : List Ch) : List ByteArray := l.map Ch.node
/-- what a node answered: 0 nothing, 1 written, 2 refused -/
def rep (f : ByteArray → Option Int) (s : ByteArray) : Int := (f s).getD 0
/-- a write, as the program has it -/
structure Wt where
  p : Pr
  l : List Ch
  f : ByteArray → Option Int
  full : Bool
  state : Int
  err : Int
def namesL (l : List Ch) (f : ByteArray → Option Int) (k : Int) : List ByteArray := (nodes l).filter fun s => decide (rep f s = k)
def Wt.outc (X : Wt) : Int := writeL X.p X.l (namesL X.l X.f 1) (namesL X.l X.f 2)
def Wt.dec (X : Wt) : Wt := if X.state ≠ 0 then X else { X with state := X.outc, err := if X.outc = 2 then (if X.full then 10 else 12) else X.err }
def upd (f : ByteArray → Option Int) (s : ByteArray) (k : Int) : ByteArray → Option Int := fun t => if t = s then some k else f t
def Wt.ans (X : Wt) (s : ByteArray) (k : Int) (b : Bool) : Wt := if rep X.f s ≠ 0 then X else if mem s (nodes X.l) then ({ X with f := upd X.f s k, full := X.full || b } : Wt).dec else X
def Wt.opn (X : Wt) : Bool := (nodes X.l).any fun s => decide (rep X.f s = 0)
def Wt.new (p : Pr) (l : List Ch) : Wt := ({ p := p, l := l, f := fun _ => none, full := false, state := 0, err := 0 } : Wt).dec
/-- a write, as the document has it -/
structure Rw where
  p : Pr
  l : List Ch
  yes : List ByteArray
  no : List ByteArray
  full : Bool
  state : Int
  err : Int
def Rw.free (R : Rw) (s : ByteArray) : Bool := mem s (nodes R.l) && !mem s R.yes && !mem s R.no
def Rw.dec (R : Rw) : Rw := if R.state ≠ 0 then R else { R with state := writeL R.p R.l R.yes R.no, err := if writeL R.p R.l R.yes R.no = 2 then (if R.full then 10 else 12) else R.err }
def Rw.ans (R : Rw) (kind : Int) (s : ByteArray) (e : Int) : Rw := if R.free s then (if kind = 1 then ({ R with yes := R.yes ++ [s] } : Rw).dec else ({ R with no := R.no ++ [s], full := R.full || decide (e = 10) } : Rw).dec) else R
def Rw.opn (R : Rw) : Bool := (nodes R.l).any fun s => R.free s
def Rw.new (p : Pr) (l : List Ch) : Rw := ({ p := p, l := l, yes := [], no := [], full := false, state := 0, err := 0 } : Rw).dec
/-- an answer -/
structure Ac where
  kind : Int
  node : ByteArray
  err : Int
def Wt.act (X : Wt) (a : Ac) : Wt := if a.kind = 1 then X.ans a.node 1 false else X.ans a.node 2 (decide (a.err = 10))
theorem Wt.dec_eq {X : Wt} (h : X.state = 0) : X.dec = { X with state := X.outc, err := if X.outc = 2 then (if X.full then 10 else 12) else X.err } := by unfold Wt.dec; rw [if_neg (fun e => e h)]
theorem Wt.dec_ne {X : Wt} (h : X.state ≠ 0) : X.dec = X := by unfold Wt.dec; rw [if_pos h]
theorem Rw.dec_eq {R : Rw} (h : R.state = 0) : R.dec = { R with state := writeL R.p R.l R.yes R.no, err := if writeL R.p R.l R.yes R.no = 2 then (if R.full then 10 else 12) else R.err } := by unfold Rw.dec; rw [if_neg (fun e => e h)]
theorem Rw.dec_ne {R : Rw} (h : R.state ≠ 0) : R.dec = R := by unfold Rw.dec; rw [if_pos h]
theorem Wt.ans_busy {X : Wt} {s : ByteArray} (k : Int) (b : Bool) (h : rep X.f s ≠ 0) : X.ans s k b = X := by unfold Wt.ans; rw [if_pos h]
theorem Wt.ans_out {X : Wt} {s : ByteArray} (k : Int) (b : Bool) (h : mem s (nodes X.l) = false) : X.ans s k b = X := by unfold Wt.ans; rw [h]; simp
theorem Wt.ans_in {X : Wt} {s : ByteArray} (k : Int) (b : Bool) (h : rep X.f s = 0) (hm : mem s (nodes X.l) = true) : X.ans s k b = ({ X with f := upd X.f s k, full := X.full || b } : Wt).dec := by unfold Wt.ans; rw [if_neg (fun e => e h), if_pos hm]
theorem Wt.ans_cases (X : Wt) (s : ByteArray) (k : Int) (b : Bool) : X.ans s k b = X ∨ (rep X.f s = 0 ∧ mem s (nodes X.l) = true ∧ X.ans s k b = ({ X with f := upd X.f s k, full := X.full || b } : Wt).dec) := by
  by_cases h : rep X.f s = 0
  · cases hm : mem s (nodes X.l)
    · exact .inl (Wt.ans_out k b hm)
    · exact .inr ⟨h, rfl, Wt.ans_in k b h hm⟩
  · exact .inl (Wt.ans_busy k b h)
def Rw.act (R : Rw) (a : Ac) : Rw := R.ans a.kind a.node a.err

theorem writeL_congr {p : Pr} {l : List Ch} {y1 n1 y2 n2 : List ByteArray} (hy : ∀ s ∈ nodes l, mem s y1 = mem s y2) (hn : ∀ s ∈ nodes l, mem s n1 = mem s n2) : writeL p l y1 n1 = writeL p l y2 n2 := by
  have h1 : ∀ x ∈ l, (fun s => mem s y1) x.node = (fun s => mem s y2) x.node := fun x hx => hy _ (List.mem_map_of_mem hx)
  have h2 : ∀ x ∈ l, (fun s => mem s y1 || !(mem s y1 || mem s n1)) x.node = (fun s => mem s y2 || !(mem s y2 || mem s n2)) x.node := fun x hx => by
    have e1 := hy _ (List.mem_map_of_mem hx); have e2 := hn _ (List.mem_map_of_mem hx)
    simp only [e1, e2]
  unfold writeL enoughB
  have c1 := cnt_congr (p := fun s => mem s y1) (q := fun s => mem s y2) h1
  have c2 := cnt_congr (p := fun s => mem s y1 || !(mem s y1 || mem s n1)) (q := fun s => mem s y2 || !(mem s y2 || mem s n2)) h2
  rw [c1.1, c1.2, c2.1, c2.2]
theorem mem_names {l : List Ch} {f : ByteArray → Option Int} {k : Int} {s : ByteArray} (hs : s ∈ nodes l) : mem s (namesL l f k) = decide (rep f s = k) := by
  rw [Bool.eq_iff_iff, mem_iff, decide_eq_true_eq]
  unfold namesL
  rw [List.mem_filter, decide_eq_true_eq]
  exact ⟨fun h => h.2, fun h => ⟨hs, h⟩⟩
/-- the program's write and the document's are the same -/
structure Sim (X : Wt) (R : Rw) : Prop where
  p : X.p = R.p
  l : X.l = R.l
  full : X.full = R.full
  state : X.state = R.state
  err : X.err = R.err
  at_ : ∀ s ∈ nodes X.l, rep X.f s = if mem s R.yes then 1 else if mem s R.no then 2 else 0
  once : ∀ s ∈ nodes X.l, mem s R.yes = true → mem s R.no = false
theorem Sim.dec {X : Wt} {R : Rw} (h : Sim X R) : Sim X.dec R.dec := by
  obtain ⟨p, l, f, fu, st, er⟩ := X
  obtain ⟨p', l', y, n, fu', st', er'⟩ := R
  obtain ⟨rfl, rfl, rfl, rfl, rfl, h6, h7⟩ := h
  simp only at *
  by_cases h0 : st = 0
  · rw [Wt.dec_eq h0, Rw.dec_eq h0]
    have ho : Wt.outc ⟨p, l, f, fu, st, er⟩ = writeL p l y n := by
      unfold Wt.outc
      simp only
      refine writeL_congr (fun s hs => ?_) (fun s hs => ?_)
      · rw [mem_names hs, h6 s hs]
        cases hy : mem s y
        · cases hn : mem s n <;> simp
        · simp
      · rw [mem_names hs, h6 s hs]
        cases hy : mem s y
        · cases hn : mem s n <;> simp
        · simp [h7 s hs hy]
    rw [ho]
    exact ⟨rfl, rfl, rfl, rfl, rfl, h6, h7⟩
  · rw [Wt.dec_ne h0, Rw.dec_ne h0]
    exact ⟨rfl, rfl, rfl, rfl, rfl, h6, h7⟩
theorem mem_snoc (s t : ByteArray) (l : List ByteArray) : mem s (l ++ [t]) = (mem s l || decide (t = s)) := by unfold mem; rw [List.any_append]; simp
theorem rep_upd (f : ByteArray → Option Int) (s : ByteArray) (k : Int) (t : ByteArray) : rep (upd f s k) t = if t = s then k else rep f t := by
  unfold rep upd
  by_cases h : t = s
  · simp [h]
  · simp [h]
theorem Sim.act {X : Wt} {R : Rw} (h : Sim X R) (a : Ac) : Sim (X.act a) (R.act a) := by
  have hfree : mem a.node (nodes X.l) = true → (rep X.f a.node = 0 ↔ R.free a.node = true) := fun hm => by
    have hs := mem_iff.1 hm
    unfold Rw.free
    rw [← h.l, hm, h.at_ _ hs]
    cases hy : mem a.node R.yes
    · cases hn : mem a.node R.no <;> simp
    · simp
  by_cases hm : mem a.node (nodes X.l) = true
  · by_cases hr : rep X.f a.node = 0
    · have hf := (hfree hm).1 hr
      have hs := mem_iff.1 hm
      have hat := h.at_ _ hs
      have hy0 : mem a.node R.yes = false := by cases hy : mem a.node R.yes <;> simp_all
      have hn0 : mem a.node R.no = false := by cases hn : mem a.node R.no <;> simp_all
      by_cases hk : a.kind = 1
      · have e1 : X.act a = ({ X with f := upd X.f a.node 1, full := X.full || false } : Wt).dec := by unfold Wt.act; rw [if_pos hk, Wt.ans_in _ _ hr hm]
        have e2 : R.act a = ({ R with yes := R.yes ++ [a.node] } : Rw).dec := by unfold Rw.act Rw.ans; rw [if_pos hf, if_pos hk]
        rw [e1, e2]
        refine Sim.dec ⟨h.p, h.l, by simp [h.full], h.state, h.err, fun s hs' => ?_, fun s hs' hy' => ?_⟩
        · simp only [rep_upd, mem_snoc]
          by_cases e : s = a.node
          · subst e; simp
          · have e' : ¬ a.node = s := fun h => e h.symm
            simp [e, e', h.at_ s hs']
        · simp only [mem_snoc] at hy'
          by_cases e : s = a.node
          · subst e; exact hn0
          · have e' : ¬ a.node = s := fun h => e h.symm
            simp [e'] at hy'
            exact h.once s hs' hy'
      · have e1 : X.act a = ({ X with f := upd X.f a.node 2, full := X.full || decide (a.err = 10) } : Wt).dec := by unfold Wt.act; rw [if_neg hk, Wt.ans_in _ _ hr hm]
        have e2 : R.act a = ({ R with no := R.no ++ [a.node], full := R.full || decide (a.err = 10) } : Rw).dec := by unfold Rw.act Rw.ans; rw [if_pos hf, if_neg hk]
        rw [e1, e2]
        refine Sim.dec ⟨h.p, h.l, by simp [h.full], h.state, h.err, fun s hs' => ?_, fun s hs' hy' => ?_⟩
        · simp only [rep_upd, mem_snoc]
          by_cases e : s = a.node
          · subst e; simp [hy0]
          · have e' : ¬ a.node = s := fun h => e h.symm
            simp [e, e', h.at_ s hs']
        · simp only [mem_snoc]
          have := h.once s hs' hy'
          by_cases e : a.node = s
          · subst e; rw [hy0] at hy'; cases hy'
          · simp [this, e]
    · have hf : R.free a.node = false := by
        cases hq : R.free a.node
        · rfl
        · exact absurd ((hfree hm).2 hq) hr
      have e1 : X.act a = X := by unfold Wt.act; rw [Wt.ans_busy _ _ hr, Wt.ans_busy _ _ hr, ite_self]
      have e2 : R.act a = R := by unfold Rw.act Rw.ans; rw [hf]; simp
      rw [e1, e2]; exact h
  · have hm' : mem a.node (nodes X.l) = false := by simpa using hm
    have e1 : X.act a = X := by unfold Wt.act; rw [Wt.ans_out _ _ hm', Wt.ans_out _ _ hm', ite_self]
    have e2 : R.act a = R := by
      have hf : R.free a.node = false := by unfold Rw.free; rw [← h.l, hm']; simp
      unfold Rw.act Rw.ans; rw [hf]; simp
    rw [e1, e2]; exact h
theorem Sim.new (p : Pr) (l : List Ch) : Sim (Wt.new p l) (Rw.new p l) := Sim.dec ⟨rfl, rfl, rfl, rfl, rfl, fun s _ => rfl, fun s _ h => by cases h⟩
theorem any_congr {T : Type} {l : List T} {p q : T → Bool} (h : ∀ x ∈ l, p x = q x) : l.any p = l.any q := by
  induction l with
  | nil => rfl
  | cons x l ih => rw [List.any_cons, List.any_cons, h x (by simp), ih (fun y hy => h y (by simp [hy]))]
theorem Sim.opn {X : Wt} {R : Rw} (h : Sim X R) : X.opn = R.opn := by
  unfold Wt.opn Rw.opn
  rw [← h.l]
  apply any_congr
  intro s hs
  unfold Rw.free
  rw [← h.l, mem_iff.2 hs, h.at_ s hs]
  cases hy : mem s R.yes
  · cases hn : mem s R.no <;> simp
  · simp
/-- what holds of a write on its way -/
structure Wt.good (X : Wt) (done : List ByteArray) : Prop where
  waits : X.state = 0 → X.outc = 0
  err : X.state = 2 ↔ X.err ≠ 0
  met : X.state = 1 → X.p.w ≤ (cnt (fun s => mem s done) X.l : Nat) ∧ X.p.pw ≤ (cntP (fun s => mem s done) X.l : Nat)
  some_ : ∀ s ∈ nodes X.l, rep X.f s = 1 → s ∈ done
theorem writeL_cases (p : Pr) (l : List Ch) (y n : List ByteArray) : writeL p l y n = 0 ∨ writeL p l y n = 1 ∨ writeL p l y n = 2 := by
  unfold writeL; split
  · exact .inr (.inl rfl)
  · split
    · exact .inl rfl
    · exact .inr (.inr rfl)
theorem cnt_mono {p q : ByteArray → Bool} {l : List Ch} (h : ∀ x ∈ l, p x.node = true → q x.node = true) : cnt p l ≤ cnt q l ∧ cntP p l ≤ cntP q l := by
  induction l with
  | nil => exact ⟨Nat.le_refl _, Nat.le_refl _⟩
  | cons x l ih =>
    have ih := ih (fun y hy => h y (by simp [hy]))
    have hx := h x (by simp)
    unfold cnt cntP at *
    simp only [List.filter_cons]
    cases hp : p x.node
    · cases hq : q x.node <;> cases hb : x.prim <;> simp <;> omega
    · rw [hp] at hx; rw [hx rfl]; cases hb : x.prim <;> simp <;> omega
theorem Wt.good_dec {X : Wt} {done : List ByteArray} (h0 : X.state = 0 → X.err = 0) (h1 : X.state = 2 ↔ X.err ≠ 0) (h2 : X.state = 1 → X.p.w ≤ (cnt (fun s => mem s done) X.l : Nat) ∧ X.p.pw ≤ (cntP (fun s => mem s done) X.l : Nat)) (h3 : ∀ s ∈ nodes X.l, rep X.f s = 1 → s ∈ done) : X.dec.good done := by
  by_cases hs : X.state = 0
  · rw [Wt.dec_eq hs]
    refine ⟨fun h => h, ?_, fun h => ?_, h3⟩
    · simp only
      by_cases ho : X.outc = 2
      · rw [if_pos ho]
        simp only [ho, true_iff]
        split <;> decide
      · rw [if_neg ho, h0 hs]
        simp [ho]
    · simp only at h
      have hm : ∀ x ∈ X.l, (fun s => mem s (namesL X.l X.f 1)) x.node = true → (fun s => mem s done) x.node = true := fun x hx hy => by
        have hn := List.mem_map_of_mem (f := Ch.node) hx
        simp only at hy ⊢
        rw [mem_names hn, decide_eq_true_eq] at hy
        exact mem_iff.2 (h3 _ hn hy)
      have hc := cnt_mono (p := fun s => mem s (namesL X.l X.f 1)) (q := fun s => mem s done) hm
      have hw : enoughB X.p.w X.p.pw (fun s => mem s (namesL X.l X.f 1)) X.l = true := by
        unfold Wt.outc writeL at h
        split at h
        · assumption
        · split at h <;> cases h
      unfold enoughB at hw
      rw [Bool.and_eq_true, decide_eq_true_eq, decide_eq_true_eq] at hw
      exact ⟨by simp only; omega, by simp only; omega⟩
  · rw [Wt.dec_ne hs]
    exact ⟨fun h => absurd h hs, h1, h2, h3⟩
theorem Wt.good_new (p : Pr) (l : List Ch) : (Wt.new p l).good [] := Wt.good_dec (fun _ => rfl) (by simp) (fun h => by cases h) (fun s _ h => by cases h)
def Ac.done (a : Ac) (done : List ByteArray) : List ByteArray := if a.kind = 1 then done ++ [a.node] else done
theorem Wt.good_act {X : Wt} {done : List ByteArray} (h : X.good done) (a : Ac) : (X.act a).good (a.done done) := by
  have hd : ∀ s, s ∈ done → s ∈ a.done done := fun s hs => by unfold Ac.done; split; exact List.mem_append_left _ hs; exact hs
  have hc := cnt_mono (l := X.l) (p := fun s => mem s done) (q := fun s => mem s (a.done done)) (fun x _ hx => mem_iff.2 (hd _ (mem_iff.1 hx)))
  have hmet : X.state = 1 → X.p.w ≤ (cnt (fun s => mem s (a.done done)) X.l : Nat) ∧ X.p.pw ≤ (cntP (fun s => mem s (a.done done)) X.l : Nat) := fun hs => by
    have := h.met hs; omega
  have hsame : X.good (a.done done) := ⟨h.waits, h.err, hmet, fun s hs hr => hd _ (h.some_ s hs hr)⟩
  have h0 : X.state = 0 → X.err = 0 := fun hs => by
    have := h.err; rw [hs] at this
    by_cases he : X.err = 0
    · exact he
    · exact absurd (this.2 he) (by decide)
  by_cases hk : a.kind = 1
  · have e1 : X.act a = X.ans a.node 1 false := by unfold Wt.act; rw [if_pos hk]
    rw [e1]
    rcases Wt.ans_cases X a.node 1 false with e | ⟨_, _, e⟩
    · rw [e]; exact hsame
    · rw [e]
      refine Wt.good_dec h0 h.err hmet (fun s hs hr => ?_)
      simp only [rep_upd] at hr
      by_cases e : s = a.node
      · unfold Ac.done; rw [if_pos hk, e]; simp
      · rw [if_neg e] at hr; exact hd _ (h.some_ s hs hr)
  · have e1 : X.act a = X.ans a.node 2 (decide (a.err = 10)) := by unfold Wt.act; rw [if_neg hk]
    rw [e1]
    rcases Wt.ans_cases X a.node 2 (decide (a.err = 10)) with e | ⟨_, _, e⟩
    · rw [e]; exact hsame
    · rw [e]
      refine Wt.good_dec h0 h.err hmet (fun s hs hr => ?_)
      simp only [rep_upd] at hr
      by_cases e : s = a.node
      · rw [if_pos e] at hr; cases hr
      · rw [if_neg e] at hr; exact hd _ (h.some_ s hs hr)
theorem Wt.dec_stays {X : Wt} (h : X.state ≠ 0) : X.dec.state = X.state := by unfold Wt.dec; rw [if_pos h]
theorem Wt.ans_stays {X : Wt} (s : ByteArray) (k : Int) (b : Bool) (h : X.state ≠ 0) : (X.ans s k b).state = X.state := by
  rcases Wt.ans_cases X s k b with e | ⟨_, _, e⟩
  · rw [e]
  · rw [e]; exact Wt.dec_stays (X := { X with f := upd X.f s k, full := X.full || b }) h
theorem Wt.act_stays {X : Wt} (a : Ac) (h : X.state ≠ 0) : (X.act a).state = X.state := by
  unfold Wt.act; split <;> exact Wt.ans_stays _ _ _ h
theorem Wt.dec_l (X : Wt) : X.dec.l = X.l ∧ X.dec.p = X.p := by unfold Wt.dec; split <;> exact ⟨rfl, rfl⟩
theorem Wt.ans_l {X : Wt} (s : ByteArray) (k : Int) (b : Bool) : (X.ans s k b).l = X.l ∧ (X.ans s k b).p = X.p := by
  rcases Wt.ans_cases X s k b with e | ⟨_, _, e⟩
  · rw [e]; exact ⟨rfl, rfl⟩
  · rw [e]; exact Wt.dec_l _
theorem Wt.act_l {X : Wt} (a : Ac) : (X.act a).l = X.l ∧ (X.act a).p = X.p := by
  unfold Wt.act; split <;> exact Wt.ans_l _ _ _
/-- replies are 0, 1 or 2 -/
def Wt.tidy (X : Wt) : Prop := ∀ s, rep X.f s = 0 ∨ rep X.f s = 1 ∨ rep X.f s = 2
theorem Wt.dec_f (X : Wt) : X.dec.f = X.f := by unfold Wt.dec; split <;> rfl
theorem Wt.tidy_ans {X : Wt} (h : X.tidy) (s : ByteArray) (k : Int) (b : Bool) (hk : k = 1 ∨ k = 2) : (X.ans s k b).tidy := by
  intro t
  rcases Wt.ans_cases X s k b with e | ⟨_, _, e⟩
  · rw [e]; exact h t
  · rw [e, Wt.dec_f]
    simp only [rep_upd]
    split
    · exact .inr hk
    · exact h t
theorem Wt.tidy_act {X : Wt} (h : X.tidy) (a : Ac) : (X.act a).tidy := by
  unfold Wt.act; split
  · exact Wt.tidy_ans h _ _ _ (.inl rfl)
  · exact Wt.tidy_ans h _ _ _ (.inr rfl)
theorem Wt.tidy_new (p : Pr) (l : List Ch) : (Wt.new p l).tidy := fun s => by unfold Wt.new; rw [Wt.dec_f]; exact .inl rfl
/-- when nothing is open, it is decided -/
theorem Wt.closed {X : Wt} (ht : X.tidy) (h : X.opn = false) : X.outc ≠ 0 := by
  intro ho
  unfold Wt.outc writeL at ho
  split at ho
  · cases ho
  · rename_i h1
    split at ho
    · rename_i h2
      apply h1
      have he : ∀ x ∈ X.l, (fun s => mem s (namesL X.l X.f 1)) x.node = (fun s => mem s (namesL X.l X.f 1) || !(mem s (namesL X.l X.f 1) || mem s (namesL X.l X.f 2))) x.node := fun x hx => by
        have hn := List.mem_map_of_mem (f := Ch.node) hx
        simp only
        rw [mem_names hn, mem_names hn]
        have hx0 : rep X.f x.node ≠ 0 := by
          intro h0
          unfold Wt.opn at h
          rw [List.any_eq_false] at h
          exact h _ hn (by simpa using h0)
        rcases ht x.node with e | e | e
        · exact absurd e hx0
        · simp [e]
        · simp [e]
      unfold enoughB at h2 ⊢
      have c := cnt_congr (p := fun s => mem s (namesL X.l X.f 1)) (q := fun s => mem s (namesL X.l X.f 1) || !(mem s (namesL X.l X.f 1) || mem s (namesL X.l X.f 2))) he
      rw [c.1, c.2]
      exact h2
    · cases ho
end Go.Proofs.Ytebfmacbdjnhbaa
