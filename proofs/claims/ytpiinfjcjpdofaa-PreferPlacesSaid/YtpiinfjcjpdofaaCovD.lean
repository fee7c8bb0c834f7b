/- As many pairs as can be: the walk of grow, choose, Max. -/
import Derived.Test.YtpiinfjcjpdofaaCovC
namespace Go.Proofs.Ytpiinfjcjpdofaa
open Go.RowKit Go.Mem Go.Cov
attribute [local go_sem ↓] Go.wp_at_zero Go.wp_at_succ
set_option linter.unusedVariables false
set_option linter.unusedSimpArgs false

/-- the pairs, and those that were chosen -/
structure Ps (A : Option Addr) (n c : Nat) (l : List Pair) (pb lb rb : Nat) (fL fR : Int → Option Int) (w : World) : Prop where
  b0 : w.cell? ⟨pb, 0, none⟩ = some (.slice A n c)
  b1 : w.cell? ⟨pb, 1, none⟩ = some (.map (some lb))
  b2 : w.cell? ⟨pb, 2, none⟩ = some (.map (some rb))
  rd : Rd w A (prc l)
  ml : MZ w lb fL (l.map (·.1))
  mr : MZ w rb fR (l.map (·.2))
theorem Ps.below {A : Option Addr} {n c : Nat} {l : List Pair} {pb lb rb : Nat} {fL fR : Int → Option Int} {w w' : World} (h : Ps A n c l pb lb rb fL fR w) (hb : Below w.heap.size w w') : Ps A n c l pb lb rb fL fR w' :=
  ⟨cell_below hb h.b0, cell_below hb h.b1, cell_below hb h.b2, h.rd.below hb, h.ml.block (hb.block _ h.ml.lt), h.mr.block (hb.block _ h.mr.lt)⟩
theorem Ps.turn {A : Option Addr} {n c : Nat} {l : List Pair} {pb lb rb : Nat} {fL fR gL gR : Int → Option Int} {w w' : World} (h : Ps A n c l pb lb rb fL fR w) (ht : Turn w.heap.size (fun k => k = lb ∨ k = rb) w w') (hl : MZ w' lb gL (l.map (·.1))) (hr : MZ w' rb gR (l.map (·.2))) : Ps A n c l pb lb rb gL gR w' := by
  have key : ∀ p u, w.cell? p = some u → w'.cell? p = some u := fun p u hc => ht.cell (by
    rintro (e | e)
    · exact h.ml.no_cell hc e
    · exact h.mr.no_cell hc e) hc
  exact ⟨key _ _ h.b0, key _ _ h.b1, key _ _ h.b2, h.rd.keep key, hl, hr⟩
/-- the maps say just the places of T -/
def Acu (l : List Pair) (T : List Nat) (fL fR : Int → Option Int) : Prop := (∀ v z, fL v = some z ↔ ∃ a ∈ T, lf l a = v ∧ z = (a : Int)) ∧ (∀ v z, fR v = some z ↔ ∃ a ∈ T, rt l a = v ∧ z = (a : Int))
/-- what growing comes to -/
def Grown (A : Option Addr) (n c : Nat) (l : List Pair) (pb lb rb : Nat) (T : List Nat) (u : Int) (fL fR : Int → Option Int) (w : World) (e : Ending) (w' : World) : Prop :=
  e = .returned (.tuple #[]) ∧ Turn w.heap.size (fun k => k = lb ∨ k = rb) w w' ∧
  ((∃ T' gL gR, Won l T T' u [] ∧ Acu l T' gL gR ∧ Ps A n c l pb lb rb gL gR w') ∨ (∃ S, Lost l T [] S ∧ Nb l u S ∧ Ps A n c l pb lb rb fL fR w'))
theorem grown_of {A : Option Addr} {n c : Nat} {l : List Pair} {pb lb rb sb : Nat} {T : List Nat} {u : Int} {fL fR : Int → Option Int} {w W w' : World} {e : Ending} (hP : Ps A n c l pb lb rb fL fR w) (hb : Below w.heap.size w W) (hs : w.heap.size ≤ sb)
    (hT : ∀ o ∈ T, lf l o ≠ u) (h : Tried l lb rb sb T [] u fL fR W e w') : Turn w.heap.size (fun k => k = lb ∨ k = rb) w w' ∧
  ((∃ T' gL gR, Won l T T' u [] ∧ Acu l T' gL gR ∧ Ps A n c l pb lb rb gL gR w') ∨ (∃ S, Lost l T [] S ∧ Nb l u S ∧ Ps A n c l pb lb rb fL fR w')) := by
  have ht : Turn w.heap.size (fun k => k = lb ∨ k = rb) w w' := (Turn.of_below hb).trans (h.1.mono hb.size (fun k hk e => by
    rcases e with e | e | e
    · exact .inl e
    · exact .inr e
    · omega))
  refine ⟨ht, ?_⟩
  rcases h.2 with ⟨T', gL, gR, S', _, h1, h2, h3, h4, h5⟩ | ⟨S', _, h1, h2, h3, h4, h5⟩
  · exact .inl ⟨T', gL, gR, h1, ⟨h2.left, fun v z => h2.right v (fun o ho e => absurd e (hT o ho)) z⟩, hP.turn ht h3 h4⟩
  · exact .inr ⟨S', h1, h2, hP.turn ht h3 h4⟩
def capsOf (s : Nat) : Array Value := #[.pointer (some ⟨s, 0, none⟩), .pointer (some ⟨s + 1 + 1, 0, none⟩), .pointer (some ⟨s + 1 + 1 + 1, 0, none⟩)]
theorem st_new {A : Option Addr} {n c : Nat} {l : List Pair} {pb lb rb : Nat} {fL fR : Int → Option Int} {w : World} (h : Ps A n c l pb lb rb fL fR w) {t1 t2 t3 : TypeId} :
    St A n c l pb lb rb (w.heap.size + 1) w.heap.size (w.heap.size + 1 + 1) (w.heap.size + 1 + 1 + 1) fL fR [] ((((w.alloc (.cells #[.pointer (some ⟨pb, 0, none⟩)] t1)).alloc (.map #[] 0)).alloc (.cells #[.map (some (w.heap.size + 1))] t2)).alloc (.cells #[.func (.func 76) #[] (capsOf w.heap.size)] t3)) ∧
    Below w.heap.size w ((((w.alloc (.cells #[.pointer (some ⟨pb, 0, none⟩)] t1)).alloc (.map #[] 0)).alloc (.cells #[.map (some (w.heap.size + 1))] t2)).alloc (.cells #[.func (.func 76) #[] (capsOf w.heap.size)] t3)) := by
  obtain ⟨W1, e1⟩ : ∃ W, W = w.alloc (.cells #[.pointer (some ⟨pb, 0, none⟩)] t1) := ⟨_, rfl⟩
  have z1 : W1.heap.size = w.heap.size + 1 := by rw [e1]; simp
  have b1 : Below w.heap.size w W1 := by rw [e1]; exact (Below.refl _ _).alloc (Nat.le_refl _) _
  have c1 : W1.cell? ⟨w.heap.size, 0, none⟩ = some (.pointer (some ⟨pb, 0, none⟩)) := by rw [e1, World.cell?_alloc_at _ _ _ _ rfl]; rfl
  rw [← e1]
  obtain ⟨W2, e2⟩ : ∃ W, W = W1.alloc (.map #[] 0) := ⟨_, rfl⟩
  have z2 : W2.heap.size = w.heap.size + 1 + 1 := by rw [e2]; simp; omega
  have b2 : Below W1.heap.size W1 W2 := by rw [e2]; exact (Below.refl _ _).alloc (Nat.le_refl _) _
  have m2 : MZ W2 (w.heap.size + 1) (fun _ => none) (l.map (·.2)) := by rw [e2, ← z1]; exact MZ.made _ _
  rw [← e2]
  obtain ⟨W3, e3⟩ : ∃ W, W = W2.alloc (.cells #[.map (some (w.heap.size + 1))] t2) := ⟨_, rfl⟩
  have z3 : W3.heap.size = w.heap.size + 1 + 1 + 1 := by rw [e3]; simp; omega
  have b3 : Below W2.heap.size W2 W3 := by rw [e3]; exact (Below.refl _ _).alloc (Nat.le_refl _) _
  have c3 : W3.cell? ⟨w.heap.size + 1 + 1, 0, none⟩ = some (.map (some (w.heap.size + 1))) := by rw [e3, World.cell?_alloc_at _ _ _ _ z2.symm]; rfl
  rw [← e3]
  obtain ⟨W4, e4⟩ : ∃ W, W = W3.alloc (.cells #[.func (.func 76) #[] (capsOf w.heap.size)] t3) := ⟨_, rfl⟩
  have b4 : Below W3.heap.size W3 W4 := by rw [e4]; exact (Below.refl _ _).alloc (Nat.le_refl _) _
  have c4 : W4.cell? ⟨w.heap.size + 1 + 1 + 1, 0, none⟩ = some (.func (.func 76) #[] (capsOf w.heap.size)) := by rw [e4, World.cell?_alloc_at _ _ _ _ z3.symm]; rfl
  rw [← e4]
  have b13 := then_ b2 (then_ b3 b4)
  have b23 := then_ b3 b4
  have b04 := then_ b1 b13
  have hP := h.below b04
  have hs : seenF [] = fun _ => none := by funext v; unfold seenF; simp
  exact ⟨⟨⟨cell_below b13 c1, cell_below b4 c3, c4, hP.b0, hP.b1, hP.b2, hP.rd⟩, hP.ml, hP.mr, by rw [hs]; exact m2.block (b23.block _ m2.lt)⟩, b04⟩
set_option maxRecDepth 100000 in
set_option maxHeartbeats 8000000 in
theorem grow_any (A : Option Addr) (n c : Nat) (l : List Pair) (pb lb rb : Nat) (hn : l.length = n) (hm : n ≤ 1000) (hok : okP l) (hne : lb ≠ rb) (T : List Nat) (hap : Ap l T) (fL fR : Int → Option Int) (hac : Acu l T fL fR) (u : Int) (hT : ∀ o ∈ T, lf l o ≠ u) (w : World) (hP : Ps A n c l pb lb rb fL fR w) :
    Calls Try.prog 75 #[.pointer (some ⟨pb, 0, none⟩), .int .i64 u] w (Grown A n c l pb lb rb T u fL fR w) := by
  have hst := st_new hP (t1 := 93) (t2 := 75) (t3 := 76)
  have hlt := And.intro hP.ml.lt hP.mr.lt
  have HX := Lib.hid (try_any A n c l pb lb rb (w.heap.size + 1) w.heap.size (w.heap.size + 1 + 1) (w.heap.size + 1 + 1 + 1) hn hm hok ⟨hne, by omega, by omega⟩ T hap fL fR hac.1 hac.2 (cn [] (l.map (·.2)) + 1) u [] _ (by omega) (fun o ho e => absurd e (hT o ho)) hst.1)
  have HG := Lib.hid (fun e w' h => grown_of (sb := w.heap.size + 1) (e := e) (w' := w') hP hst.2 (by omega) hT h)
  have hcf := enter_try
  have hmm := @run_makeMap Try.prog
  clear hn hok hac hT hP hap hst hlt
  unfold capsOf at HX HG
  go_enter Try.func75, Try.ntmps75
  go_wp2_with fail
  refine HX.out.mono ?_
  rintro e wx htr
  have HF := Lib.hid (HG.out _ _ htr)
  obtain ⟨qb, rfl, _⟩ := tried_bool htr
  clear htr HX HG hcf hmm
  go_wp2
  go_end0
  exact ⟨rfl, HF.out⟩
/-- as many pairs as can be were chosen -/
def Chose (A : Option Addr) (n c : Nat) (l : List Pair) (w : World) (e : Ending) (w' : World) : Prop :=
  ∃ pb lb rb T fL fR, e = .returned (.pointer (some ⟨pb, 0, none⟩)) ∧ Ap l T ∧ IsMax l T.length ∧ Acu l T fL fR ∧ Ps A n c l pb lb rb fL fR w' ∧ Below w.heap.size w w'
theorem acu_nil (l : List Pair) : Acu l [] (fun _ => none) (fun _ => none) := ⟨fun v z => by simp, fun v z => by simp⟩
theorem look_none {l : List Pair} {T : List Nat} {fL fR : Int → Option Int} (h : Acu l T fL fR) {u : Int} (hu : fL u = none) : ∀ o ∈ T, lf l o ≠ u := fun o ho e => by
  have := (h.1 u o).2 ⟨o, ho, e, rfl⟩
  rw [hu] at this; cases this
theorem look_some {l : List Pair} {T : List Nat} {fL fR : Int → Option Int} (h : Acu l T fL fR) {u z : Int} (hu : fL u = some z) : ∃ o ∈ T, lf l o = u := by
  obtain ⟨o, ho, e, _⟩ := (h.1 u z).1 hu
  exact ⟨o, ho, e⟩
theorem below_of_turn {w0 w w' : World} {lb rb : Nat} (hb : Below w0.heap.size w0 w) (ht : Turn w.heap.size (fun k => k = lb ∨ k = rb) w w') (h1 : w0.heap.size ≤ lb) (h2 : w0.heap.size ≤ rb) : Below w0.heap.size w0 w' :=
  hb.trans ((ht.mono (may' := fun k => k = lb ∨ k = rb) hb.size (fun _ _ e => e)).below (fun k hk e => by rcases e with e | e <;> omega))
set_option maxRecDepth 100000 in
set_option maxHeartbeats 8000000 in
theorem choose_any (A : Option Addr) (n c : Nat) (l : List Pair) (hn : l.length = n) (hm : n ≤ 1000) (hok : okP l) (w : World) (hr : Rd w A (prc l)) :
    Calls Try.prog 72 #[.slice A n c] w (Chose A n c l w) := by
  have HN := Lib.hid hn; have HOK := Lib.hid hok
  have hb1 := (Below.refl w.heap.size w).alloc (Nat.le_refl _) (.map #[] 0)
  have m1 := MZ.made w (l.map (·.1))
  have m2 := MZ.made (w.alloc (.map #[] 0)) (l.map (·.2))
  have hz1 : (w.alloc (.map #[] 0)).heap.size = w.heap.size + 1 := by simp
  have hb2 := (Below.refl (w.alloc (.map #[] 0)).heap.size (w.alloc (.map #[] 0))).alloc (Nat.le_refl _) (.map #[] 0)
  have hz2 : ((w.alloc (.map #[] 0)).alloc (.map #[] 0)).heap.size = w.heap.size + 1 + 1 := by simp
  have hb3 := (Below.refl ((w.alloc (.map #[] 0)).alloc (.map #[] 0)).heap.size ((w.alloc (.map #[] 0)).alloc (.map #[] 0))).alloc (Nat.le_refl _) (.cells #[.slice A n c, .map (some w.heap.size), .map (some (w.heap.size + 1))] 92)
  have m3 : MZ ((w.alloc (.map #[] 0)).alloc (.map #[] 0)) (w.heap.size + 1) (fun _ => none) (l.map (·.2)) := by rw [← hz1]; exact m2
  have HP0 := Lib.hid (show Ps A n c l (w.heap.size + 1 + 1) w.heap.size (w.heap.size + 1) (fun _ => none) (fun _ => none) (((w.alloc (.map #[] 0)).alloc (.map #[] 0)).alloc (.cells #[.slice A n c, .map (some w.heap.size), .map (some (w.heap.size + 1))] 92)) from
    ⟨by rw [World.cell?_alloc_at _ _ _ _ hz2.symm]; rfl, by rw [World.cell?_alloc_at _ _ _ _ hz2.symm]; rfl, by rw [World.cell?_alloc_at _ _ _ _ hz2.symm]; rfl, hr.below (then_ hb1 (then_ hb2 hb3)), m1.block ((then_ hb2 hb3).block _ m1.lt), m3.block (hb3.block _ m3.lt)⟩)
  have HB0 := Lib.hid (then_ hb1 (then_ hb2 hb3))
  have hmm := @run_makeMap Try.prog
  clear hn hok hr hb1 m1 m2 m3 hz1 hb2 hz2 hb3
  go_enter Try.func72, Try.ntmps72
  go_wp2_with fail
  clear hmm
  generalize ((w.alloc (.map #[] 0)).alloc (.map #[] 0)).alloc (.cells #[.slice A n c, .map (some w.heap.size), .map (some (w.heap.size + 1))] 92) = W1 at HP0 HB0 ⊢
  obtain ⟨lb, hlb⟩ : ∃ lb, lb = w.heap.size := ⟨_, rfl⟩
  obtain ⟨rb, hrb⟩ : ∃ rb, rb = w.heap.size + 1 := ⟨_, rfl⟩
  obtain ⟨pb, hpb⟩ : ∃ pb, pb = w.heap.size + 1 + 1 := ⟨_, rfl⟩
  have HLR := Lib.hid (show w.heap.size ≤ lb ∧ w.heap.size ≤ rb ∧ lb ≠ rb by omega)
  rw [← hpb, ← hrb, ← hlb] at HP0
  rw [← hpb]
  try rw [← hrb, ← hlb]
  clear hlb hrb hpb
  go_loopw [15] (fun i wr => ∃ (k : Nat) (T : List Nat) (D : List Int) (fL fR : Int → Option Int), k ≤ n ∧ i = .int .i64 k ∧ Hid (Upto l k T D) ∧ Hid (Acu l T fL fR) ∧ Hid (Ps A n c l pb lb rb fL fR wr) ∧ Hid (Below w.heap.size w wr)) (fun i _ => n - (intOf i).toNat)
  case atStart => exact ⟨0, [], [], _, _, Nat.zero_le _, rfl, Lib.hid (Upto.start l), Lib.hid (acu_nil l), HP0, HB0⟩
  case round =>
    clear HP0 HB0
    obtain ⟨k, T, D, fL, fR, hk, rfl, HUP, HAC, HP, HB⟩ := hrel
    by_cases hlt : k < n
    · have hx : k < l.length := by have := HN.out; omega
      obtain ⟨b, off, rfl, hc0, hc1⟩ := prc_at HP.out.rd hx
      have HHAS := Lib.hid (fun h => HUP.out.has hx h)
      have HWON := Lib.hid (fun T' h => HUP.out.won (T' := T') hx h)
      have HLOST := Lib.hid (fun S h1 h2 => HUP.out.lost (S := S) hx h1 h2)
      have HPO := Lib.hid (HOK.out _ (List.getElem_mem hx))
      generalize l[k] = pq at hc0 hc1 HHAS HWON HLOST HPO
      obtain ⟨p, q⟩ := pq
      simp only at hc0 hc1 HHAS HWON HLOST HPO
      have hkn : (k : Int) < (n : Int) := by omega
      have hk0 : (0 : Int) ≤ (k : Int) := by omega
      have hal : Below wr.heap.size wr (wr.alloc (.cells #[.int .i64 p, .int .i64 q] 50)) := (Below.refl _ _).alloc (Nat.le_refl _) _
      have HP1 := Lib.hid (HP.out.below hal); have HB1 := Lib.hid (then_ HB.out hal)
      have hxc0 : (wr.alloc (.cells #[.int .i64 p, .int .i64 q] 50)).cell? ⟨wr.heap.size, 0, none⟩ = some (.int .i64 p) := by rw [World.cell?_alloc_at _ _ _ _ rfl]; rfl
      have HX0 := Lib.hid hxc0
      clear hal HP HB hxc0
      go_wp2_with fail
      generalize wr.alloc (.cells #[.int .i64 p, .int .i64 q] 50) = w1 at HP1 HB1 HX0 ⊢
      generalize wr.heap.size = xb at HX0 ⊢
      have hc6 := HP1.out.b1; have hx6 := HX0.out
      have hl6 : ∀ m, (Instr.lookup 75 (.map (some lb)) (.int .i64 p) true).run Try.prog (w1.drewN m) = .ok (.tuple #[.int .i64 ((fL p).getD 0), .bool (fL p).isSome]) (w1.drewN m) := fun m => MZ.look_ok (MZ.block (w' := w1.drewN m) HP1.out.ml rfl) HPO.out.1
      cases hfp : fL p with
      | some z =>
        rw [hfp] at hl6
        simp only [Option.getD_some, Option.isSome_some] at hl6
        have HU2 := Lib.hid (HHAS.out (look_some HAC.out hfp))
        clear hfp
        go_quiet (fail)
        rename_i nq
        have HP2 := Lib.hid (HP1.out.below (drewN_ (Below.refl _ _) nq)); have HB2 := Lib.hid (drewN_ HB1.out nq)
        clear hc6 hx6 hl6
        go_wp2_with fail
        exact ⟨⟨k + 1, T, D, fL, fR, by omega, by go_num, HU2, HAC, HP2, HB2⟩, by simp [intOf]; omega⟩
      | none =>
        rw [hfp] at hl6
        simp only [Option.getD_none, Option.isSome_none] at hl6
        have HNO := Lib.hid (look_none HAC.out hfp)
        clear hfp
        go_quiet (fail)
        rename_i nq
        have HP2 := Lib.hid (HP1.out.below (drewN_ (Below.refl _ _) nq)); have HB2 := Lib.hid (drewN_ HB1.out nq)
        have hx7 : (w1.drewN nq).cell? ⟨xb, 0, none⟩ = some (.int .i64 p) := HX0.out
        have HX := Lib.hid (grow_any _ n c l pb lb rb HN.out hm HOK.out HLR.out.2.2 T HUP.out.ap fL fR HAC.out p HNO.out (w1.drewN nq) HP2.out)
        clear hc6 hx6 hl6 HP1 HB1 HX0
        generalize w1.drewN nq = w2 at HP2 HB2 hx7 HX ⊢
        go_wp2_with fail
        refine HX.out.mono ?_
        rintro e w3 ⟨rfl, ht, hor⟩
        have HB3 := Lib.hid (below_of_turn HB2.out ht HLR.out.1 HLR.out.2.1)
        have HOR := Lib.hid hor
        clear ht hor HX hx7
        go_wp2_with fail
        rcases HOR.out with ⟨T', gL, gR, hw, ha, hp⟩ | ⟨S, hlo, hnb, hp⟩
        · exact ⟨⟨k + 1, T', D, gL, gR, by omega, by go_num, Lib.hid (HWON.out T' hw), Lib.hid ha, Lib.hid hp, HB3⟩, by simp [intOf]; omega⟩
        · exact ⟨⟨k + 1, T, S ++ D, fL, fR, by omega, by go_num, Lib.hid (HLOST.out S hlo hnb), HAC, Lib.hid hp, HB3⟩, by simp [intOf]; omega⟩
    · have hkn : (n : Int) ≤ (k : Int) := by omega
      have HMX := Lib.hid (show IsMax l T.length from Upto.most (by have := HUP.out; rwa [show k = l.length by rw [HN.out]; omega] at this))
      go_wp2_with fail
      go_ret
      exact ⟨pb, lb, rb, T, fL, fR, rfl, HUP.out.ap, HMX.out, HAC.out, HP.out, HB.out⟩
theorem ap_lefts {l : List Pair} {T : List Nat} (h : Ap l T) : (T.map (lf l)).Nodup := by
  have h1 := h.left; have h2 := h.nd; clear h
  induction T with
  | nil => simp
  | cons a T ih =>
    rw [List.map_cons, List.nodup_cons]
    refine ⟨fun hm => ?_, ih (fun x hx y hy => h1 x (by simp [hx]) y (by simp [hy])) (List.nodup_cons.1 h2).2⟩
    obtain ⟨b, hb, e⟩ := List.mem_map.1 hm
    have := h1 b (by simp [hb]) a (by simp) e
    subst this
    exact (List.nodup_cons.1 h2).1 hb
theorem acu_keys {l : List Pair} {T : List Nat} {fL fR : Int → Option Int} (h : Acu l T fL fR) (v : Int) : (fL v).isSome = true ↔ v ∈ T.map (lf l) := by
  constructor
  · intro hs
    obtain ⟨z, hz⟩ := Option.isSome_iff_exists.1 hs
    obtain ⟨a, ha, e, _⟩ := (h.1 v z).1 hz
    exact List.mem_map.2 ⟨a, ha, e⟩
  · intro hm
    obtain ⟨a, ha, e⟩ := List.mem_map.1 hm
    rw [(h.1 v a).2 ⟨a, ha, e, rfl⟩]; rfl
/-- Max is how many pairs can be chosen -/
theorem max_any (A : Option Addr) (n c : Nat) (l : List Pair) (hn : l.length = n) (hm : n ≤ 1000) (hok : okP l) (mx : Nat) (hmx : IsMax l mx) (w : World) (hr : Rd w A (prc l)) :
    Calls Try.prog 64 #[.slice A n c] w fun e w' => e = .returned (.int .i64 (mx : Nat)) ∧ Below w.heap.size w w' := by
  have HX := Lib.hid (choose_any A n c l hn hm hok w hr)
  have HM := Lib.hid hmx
  clear hr hok hn hmx
  go_enter Try.func64, Try.ntmps64
  go_wp2_with fail
  refine HX.out.mono ?_
  rintro e w1 ⟨pb, lb, rb, T, fL, fR, rfl, hap, hM, hac, hP, hb⟩
  have HB := Lib.hid hb
  have hb1 := hP.b1
  have hlen : ∀ ty, (Builtin.len_ #[75] ty #[.map (some lb)]).run Try.prog w1 = .ok (.int .i64 (mx : Nat)) w1 := fun ty => by
    have := hP.ml.count (ap_lefts hap) (acu_keys hac) ty
    rw [List.length_map, hM.eq HM.out] at this
    exact this
  clear hap hM hac hP hb HX
  go_wp2
  go_ret
  exact ⟨rfl, HB.out⟩
end Go.Proofs.Ytpiinfjcjpdofaa
