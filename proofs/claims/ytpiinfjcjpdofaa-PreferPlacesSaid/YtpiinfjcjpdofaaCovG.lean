/- The walk of Pick. -/
import Derived.Test.YtpiinfjcjpdofaaCovF
import Derived.Deep.Cut
import Derived.Says
namespace Go.Proofs.Ytpiinfjcjpdofaa
open Go.RowKit Go.Mem Go.Cov
set_option linter.unusedVariables false
set_option linter.unusedSimpArgs false

theorem enter_possible (args : Array Value) (W : World) : Sem.run Try.prog (callFunc 52 args) W = .ok (.enter 52 args) W := by kernel_rfl
/-- a map's entry is stored, at a run's equation -/
theorem MZ.upd {w : World} {b : Nat} {f : Int → Option Int} {X : List Int} (h : MZ w b f X) (hX : X.length ≤ 1000) {x : Int} (hx : inOk x) (hxX : x ∈ X) {z : Int} (hz : (Lit.int .i64 z).wf = true) :
    ∃ w', (Instr.mapUpdate 75 (.map (some b)) (.int .i64 x) (.int .i64 z)).run Try.prog w = .ok () w' ∧ MZ w' b (put f x z) X ∧ w.grownBy w' (some b) := by
  obtain ⟨K, h1, h2, h3, h4⟩ := h
  obtain ⟨w', a1, a2, a3⟩ := h4.put kwi Try.underlying75 Try.underlying3 (MZ.room h1 h3 hX) x hx z hz
  obtain ⟨K', d1, d2, d3, d4, d5, d6⟩ := keys_put (z := z) h1 h2 h3 hxX
  rw [d6] at a2
  exact ⟨w', a1, ⟨K', d1, d2, d3, a2.tight⟩, a3⟩
theorem two_upd {lb rb : Nat} (hne : lb ≠ rb) {fL fR : Int → Option Int} {XL XR : List Int} {W : World} (ml : MZ W lb fL XL) (mr : MZ W rb fR XR) (hXL : XL.length ≤ 1000) (hXR : XR.length ≤ 1000) {u q : Int} (hu : inOk u) (hq : inOk q) (huX : u ∈ XL) (hqX : q ∈ XR) :
    ∃ w1 w2 : World, (Instr.mapUpdate 75 (.map (some lb)) (.int .i64 u) (.int .i64 1)).run Try.prog W = .ok () w1 ∧ (Instr.mapUpdate 75 (.map (some rb)) (.int .i64 q) (.int .i64 1)).run Try.prog w1 = .ok () w2 ∧
      Turn W.heap.size (fun k => k = lb ∨ k = rb) W w1 ∧ Turn W.heap.size (fun k => k = lb ∨ k = rb) W w2 ∧ MZ w2 lb (put fL u 1) XL ∧ MZ w2 rb (put fR q 1) XR := by
  have nb : ∀ {a b : Nat}, a ≠ b → some a ≠ some b := fun h e => h (by injection e)
  obtain ⟨w1, e1, m1, g1⟩ := ml.upd hXL hu huX (z := 1) (by decide)
  have mr1 : MZ w1 rb fR XR := mr.block (g1.block _ mr.lt (nb (Ne.symm hne)))
  obtain ⟨w2, e2, m2, g2⟩ := mr1.upd hXR hq hqX (z := 1) (by decide)
  have t1 : Turn W.heap.size (fun k => k = lb ∨ k = rb) W w1 := Turn.grown g1 (.inl rfl) (Nat.le_refl _)
  exact ⟨w1, w2, e1, e2, t1, t1.trans (Turn.grown g2 (.inr rfl) g1.size), m1.block (g2.block _ m1.lt (nb hne)), m2⟩
theorem keys_del {f : Int → Option Int} {X K : List Int} {x : Int} (h1 : K.Nodup) (h2 : ∀ v, (f v).isSome = true ↔ v ∈ K) (h3 : ∀ v ∈ K, v ∈ X) :
    ∃ K' : List Int, K'.Nodup ∧ (∀ v, (del f x v).isSome = true ↔ v ∈ K') ∧ (∀ v ∈ K', v ∈ X) ∧ K'.length ≤ K.length ∧ (if (f x).isSome then K.length - 1 else K.length) = K'.length := by
  by_cases e : (f x).isSome = true
  · have hx := (h2 x).1 e
    refine ⟨K.erase x, h1.erase x, fun v => ?_, fun v hv => h3 v (List.mem_of_mem_erase hv), List.length_erase_le, by rw [if_pos e, List.length_erase_of_mem hx]⟩
    unfold del
    by_cases ev : v = x
    · rw [if_pos ev, ev]; simp [h1.not_mem_erase]
    · rw [if_neg ev, h2 v, List.mem_erase_of_ne ev]
  · have hn : x ∉ K := fun hk => e ((h2 x).2 hk)
    refine ⟨K, h1, fun v => ?_, h3, Nat.le_refl _, by rw [if_neg e]⟩
    unfold del
    by_cases ev : v = x
    · rw [if_pos ev, ev]; simp [hn]
    · rw [if_neg ev]; exact h2 v
theorem wpList_mz_del {w : World} {b : Nat} {ops : Array Oper} {rest : List Oper} {o : Oper} {a : Act} {Q : Exit → Act → World → Prop} {f : Int → Option Int} {X : List Int} (hg : o.guard = none) (m x : Operand) (hop : o.op = Op.call { callee := Callee.builtin Builtin.delete, args := #[m, x], argTypes := #[75, 3] })
    (h : MZ w b f X) (hm : a.eval m = .map (some b)) (y : Int) (hy : inOk y) (hx : a.eval x = .int .i64 y)
    (hK : ∀ w', MZ w' b (del f y) X → w.grownBy w' (some b) → wpList Try.prog ops Q rest (a.put o.dst (.tuple #[])) w') :
    wpList Try.prog ops Q (o :: rest) a w := by
  obtain ⟨K, h1, h2, h3, h4⟩ := h
  refine wpList_dict_del hg m x hop h4 kwi Try.underlying75 hm y hy hx fun w' hd hgr => hK w' ?_ hgr
  obtain ⟨K', a1, a2, a3, a4, a5⟩ := keys_del (x := y) h1 h2 h3
  rw [a5] at hd
  exact ⟨K', a1, a2, a3, hd.tight⟩
/-- what is picked -/
structure PickR (l : List Pair) (many : Int) (cs : List Nat) : Prop where
  out : ¬ (0 ≤ many ∧ many ≤ l.length) → cs = []
  first : ∀ m : Nat, many = m → m ≤ l.length → ∃ x y, Best l m x y ∧ x = min (nl [] l) m ∧ firstC l m x y [] [] = some cs
/-- places of its own are handed back -/
def MakesI (P : List Nat → Prop) (w : World) (r : Ending) (w' : World) : Prop := ∃ cs v, P cs ∧ r = .returned v ∧ w'.ownsRow w.heap.size 3 1 v cs.length (ints (natI cs)) ∧ Below w.heap.size w w'
theorem pick_start {w w1 : World} {A : Option Addr} {n c : Nat} {l : List Pair} {m x y : Nat} (hr : Rd w A (prc l)) {t1 t2 t3 t4 t6 t7 : TypeId}
    (hb : Below ((w.alloc (.cells #[.slice A n c] t1)).alloc (.cells #[.int .i64 (m : Int)] t2)).heap.size ((w.alloc (.cells #[.slice A n c] t1)).alloc (.cells #[.int .i64 (m : Int)] t2)) w1) (W : World)
    (hW : W = ((((((w1.alloc (.cells #[.int .i64 (x : Int)] t3)).alloc (.cells #[.int .i64 (y : Int)] t4)).alloc (.cells #[.slice none 0 0] 28)).alloc (.map #[] 0)).alloc (.map #[] 0)).alloc (.cells #[.map (some (w1.heap.size + 1 + 1 + 1))] t6)).alloc (.cells #[.map (some (w1.heap.size + 1 + 1 + 1 + 1))] t7)) :
    ∃ qa qb qo lb rb bl br base, qa = w1.heap.size ∧ qb = w1.heap.size + 1 ∧ qo = w1.heap.size + 1 + 1 ∧ lb = w1.heap.size + 1 + 1 + 1 ∧ rb = w1.heap.size + 1 + 1 + 1 + 1 ∧ bl = w1.heap.size + 1 + 1 + 1 + 1 + 1 ∧ br = w1.heap.size + 1 + 1 + 1 + 1 + 1 + 1 ∧
      Ord w.heap.size w.heap.size (w.heap.size + 1) qa qb qo lb rb bl br base ∧ Pk w A n c l m x y w.heap.size (w.heap.size + 1) qa qb qo lb rb bl br base [] [] [] W := by
  have hs0 : ((w.alloc (.cells #[.slice A n c] t1)).alloc (.cells #[.int .i64 (m : Int)] t2)).heap.size = w.heap.size + 1 + 1 := by simp
  have hb0 : Below w.heap.size w ((w.alloc (.cells #[.slice A n c] t1)).alloc (.cells #[.int .i64 (m : Int)] t2)) := ((Below.refl _ _).alloc (Nat.le_refl _) _).alloc (by simp) _
  have hql : ((w.alloc (.cells #[.slice A n c] t1)).alloc (.cells #[.int .i64 (m : Int)] t2)).cell? ⟨w.heap.size, 0, none⟩ = some (.slice A n c) :=
    cell_below (w := w.alloc (.cells #[.slice A n c] t1)) ((Below.refl _ _).alloc (Nat.le_refl _) _) (by rw [World.cell?_alloc_at _ _ _ _ rfl]; rfl)
  have hqm : ((w.alloc (.cells #[.slice A n c] t1)).alloc (.cells #[.int .i64 (m : Int)] t2)).cell? ⟨w.heap.size + 1, 0, none⟩ = some (.int .i64 (m : Int)) := by
    rw [World.cell?_alloc_at _ _ _ _ (by simp)]; rfl
  generalize (w.alloc (.cells #[.slice A n c] t1)).alloc (.cells #[.int .i64 (m : Int)] t2) = w0 at hs0 hb0 hql hqm hb
  have hb1 := then_ hb0 hb
  have hql := cell_below hb hql; have hqm := cell_below hb hqm
  have hz1 := hb.size
  clear hb hb0
  obtain ⟨W1, e1⟩ : ∃ V, V = w1.alloc (.cells #[.int .i64 (x : Int)] t3) := ⟨_, rfl⟩
  have z1 : W1.heap.size = w1.heap.size + 1 := by rw [e1]; simp
  have b1 : Below w1.heap.size w1 W1 := by rw [e1]; exact (Below.refl _ _).alloc (Nat.le_refl _) _
  have c1 : W1.cell? ⟨w1.heap.size, 0, none⟩ = some (.int .i64 (x : Int)) := by rw [e1, World.cell?_alloc_at _ _ _ _ rfl]; rfl
  rw [← e1] at hW
  obtain ⟨W2, e2⟩ : ∃ V, V = W1.alloc (.cells #[.int .i64 (y : Int)] t4) := ⟨_, rfl⟩
  have z2 : W2.heap.size = w1.heap.size + 1 + 1 := by rw [e2]; simp; omega
  have b2 : Below W1.heap.size W1 W2 := by rw [e2]; exact (Below.refl _ _).alloc (Nat.le_refl _) _
  have c2 : W2.cell? ⟨w1.heap.size + 1, 0, none⟩ = some (.int .i64 (y : Int)) := by rw [e2, World.cell?_alloc_at _ _ _ _ z1.symm]; rfl
  rw [← e2] at hW
  obtain ⟨W3, e3⟩ : ∃ V, V = W2.alloc (.cells #[.slice none 0 0] 28) := ⟨_, rfl⟩
  have z3 : W3.heap.size = w1.heap.size + 1 + 1 + 1 := by rw [e3]; simp; omega
  have b3 : Below W2.heap.size W2 W3 := by rw [e3]; exact (Below.refl _ _).alloc (Nat.le_refl _) _
  have h3 : W3.heap[w1.heap.size + 1 + 1]? = some (.cells #[.slice none 0 0] 28 (0, 0)) := by rw [e3, ← z2]; exact heap_alloc_new W2 _
  rw [← e3] at hW
  obtain ⟨W4, e4⟩ : ∃ V, V = W3.alloc (.map #[] 0) := ⟨_, rfl⟩
  have z4 : W4.heap.size = w1.heap.size + 1 + 1 + 1 + 1 := by rw [e4]; simp; omega
  have b4 : Below W3.heap.size W3 W4 := by rw [e4]; exact (Below.refl _ _).alloc (Nat.le_refl _) _
  have m4 : MZ W4 (w1.heap.size + 1 + 1 + 1) (fun _ => none) (l.map (·.1)) := by rw [e4, ← z3]; exact MZ.made _ _
  rw [← e4] at hW
  obtain ⟨W5, e5⟩ : ∃ V, V = W4.alloc (.map #[] 0) := ⟨_, rfl⟩
  have z5 : W5.heap.size = w1.heap.size + 1 + 1 + 1 + 1 + 1 := by rw [e5]; simp; omega
  have b5 : Below W4.heap.size W4 W5 := by rw [e5]; exact (Below.refl _ _).alloc (Nat.le_refl _) _
  have m5 : MZ W5 (w1.heap.size + 1 + 1 + 1 + 1) (fun _ => none) (l.map (·.2)) := by rw [e5, ← z4]; exact MZ.made _ _
  rw [← e5] at hW
  obtain ⟨W6, e6⟩ : ∃ V, V = W5.alloc (.cells #[.map (some (w1.heap.size + 1 + 1 + 1))] t6) := ⟨_, rfl⟩
  have z6 : W6.heap.size = w1.heap.size + 1 + 1 + 1 + 1 + 1 + 1 := by rw [e6]; simp; omega
  have b6 : Below W5.heap.size W5 W6 := by rw [e6]; exact (Below.refl _ _).alloc (Nat.le_refl _) _
  have c6 : W6.cell? ⟨w1.heap.size + 1 + 1 + 1 + 1 + 1, 0, none⟩ = some (.map (some (w1.heap.size + 1 + 1 + 1))) := by rw [e6, World.cell?_alloc_at _ _ _ _ z5.symm]; rfl
  rw [← e6] at hW
  have z7 : W.heap.size = w1.heap.size + 1 + 1 + 1 + 1 + 1 + 1 + 1 := by rw [hW]; simp; omega
  have b7 : Below W6.heap.size W6 W := by rw [hW]; exact (Below.refl _ _).alloc (Nat.le_refl _) _
  have c7 : W.cell? ⟨w1.heap.size + 1 + 1 + 1 + 1 + 1 + 1, 0, none⟩ = some (.map (some (w1.heap.size + 1 + 1 + 1 + 1))) := by rw [hW, World.cell?_alloc_at _ _ _ _ z6.symm]; rfl
  have d6 := b7; have d5 := then_ b6 d6; have d4 := then_ b5 d5; have d3 := then_ b4 d4; have d2 := then_ b3 d3; have d1 := then_ b2 d2; have d0 := then_ b1 d1
  have hs : (fun _ => none : Int → Option Int) = seenF [] := by funext v; unfold seenF; simp
  rw [hs] at m4 m5
  refine ⟨_, _, _, _, _, _, _, W.heap.size, rfl, rfl, rfl, rfl, rfl, rfl, rfl, by unfold Ord; omega, then_ hb1 d0, Nat.le_refl _, cell_below d0 hql, cell_below d0 hqm, cell_below d1 c1, cell_below d2 c2, cell_below d6 c6, c7, ⟨_, (d3.block _ (by omega)).trans h3, World.ownsRow_nil _ _ _ _⟩, hr, m4.block (d4.block _ m4.lt), m5.block (d5.block _ m5.lt)⟩
theorem seen_le {w : World} {b : Nat} {L X : List Int} (h : MZ w b (seenF L) X) (hn : L.Nodup) : L.length ≤ X.length := nodup_le L X hn fun z hz => by
  obtain ⟨K, h1, h2, h3, h4⟩ := h
  exact h3 z ((h2 z).1 (seenF_some.2 hz))
theorem cell_lt {w : World} {a : Addr} {u : Value} (h : w.cell? a = some u) : a.block < w.heap.size := by
  cases hb : w.heap[a.block]? with
  | none => simp [World.cell?, hb] at h
  | some o => exact (Array.getElem?_eq_some_iff.1 hb).1
theorem pick_cells {w w1 : World} {A : Option Addr} {n c : Nat} {many x y : Int} {t1 t2 t3 t4 t6 t7 : TypeId}
    (hb : Below ((w.alloc (.cells #[.slice A n c] t1)).alloc (.cells #[.int .i64 many] t2)).heap.size ((w.alloc (.cells #[.slice A n c] t1)).alloc (.cells #[.int .i64 many] t2)) w1) (W : World)
    (hW : W = ((((((w1.alloc (.cells #[.int .i64 x] t3)).alloc (.cells #[.int .i64 y] t4)).alloc (.cells #[.slice none 0 0] 28)).alloc (.map #[] 0)).alloc (.map #[] 0)).alloc (.cells #[.map (some (w1.heap.size + 1 + 1 + 1))] t6)).alloc (.cells #[.map (some (w1.heap.size + 1 + 1 + 1 + 1))] t7)) :
    W.cell? ⟨w.heap.size, 0, none⟩ = some (.slice A n c) ∧ W.cell? ⟨w.heap.size + 1, 0, none⟩ = some (.int .i64 many) ∧ W.cell? ⟨w1.heap.size + 1 + 1, 0, none⟩ = some (.slice none 0 0) ∧ Below w.heap.size w W := by
  have hs0 : ((w.alloc (.cells #[.slice A n c] t1)).alloc (.cells #[.int .i64 many] t2)).heap.size = w.heap.size + 1 + 1 := by simp
  have hb0 : Below w.heap.size w ((w.alloc (.cells #[.slice A n c] t1)).alloc (.cells #[.int .i64 many] t2)) := ((Below.refl _ _).alloc (Nat.le_refl _) _).alloc (by simp) _
  have hql : ((w.alloc (.cells #[.slice A n c] t1)).alloc (.cells #[.int .i64 many] t2)).cell? ⟨w.heap.size, 0, none⟩ = some (.slice A n c) :=
    cell_below (w := w.alloc (.cells #[.slice A n c] t1)) ((Below.refl _ _).alloc (Nat.le_refl _) _) (by rw [World.cell?_alloc_at _ _ _ _ rfl]; rfl)
  have hqm : ((w.alloc (.cells #[.slice A n c] t1)).alloc (.cells #[.int .i64 many] t2)).cell? ⟨w.heap.size + 1, 0, none⟩ = some (.int .i64 many) := by
    rw [World.cell?_alloc_at _ _ _ _ (by simp)]; rfl
  generalize (w.alloc (.cells #[.slice A n c] t1)).alloc (.cells #[.int .i64 many] t2) = w0 at hs0 hb0 hql hqm hb
  obtain ⟨W2, e2⟩ : ∃ V, V = (w1.alloc (.cells #[.int .i64 x] t3)).alloc (.cells #[.int .i64 y] t4) := ⟨_, rfl⟩
  have z2 : W2.heap.size = w1.heap.size + 1 + 1 := by rw [e2]; simp
  have b2 : Below w1.heap.size w1 W2 := by rw [e2]; exact ((Below.refl _ _).alloc (Nat.le_refl _) _).alloc (by simp) _
  rw [← e2] at hW
  obtain ⟨W3, e3⟩ : ∃ V, V = W2.alloc (.cells #[.slice none 0 0] 28) := ⟨_, rfl⟩
  have b3 : Below W2.heap.size W2 W3 := by rw [e3]; exact (Below.refl _ _).alloc (Nat.le_refl _) _
  have h3 : W3.cell? ⟨w1.heap.size + 1 + 1, 0, none⟩ = some (.slice none 0 0) := by rw [e3, World.cell?_alloc_at _ _ _ _ z2.symm]; rfl
  rw [← e3] at hW
  have b4 : Below W3.heap.size W3 W := by rw [hW]; exact ((((Below.refl _ _).alloc (Nat.le_refl _) _).alloc (by simp) _).alloc (by simp; omega) _).alloc (by simp; omega) _
  have bb := then_ b2 (then_ b3 b4)
  exact ⟨cell_below bb (cell_below hb hql), cell_below bb (cell_below hb hqm), cell_below b4 h3, then_ hb0 (then_ hb bb)⟩
theorem pickR_out {l : List Pair} {many : Int} (h : many ≤ 0 ∨ many > l.length ∨ l.length = 0) {x y : Nat} (hb : BestR l many x y) : PickR l many [] :=
  ⟨fun _ => rfl, fun m e hm => by
    obtain ⟨h1, h2⟩ := hb.best m e hm
    have : m = 0 := by omega
    subst this
    exact ⟨x, y, h1, h2, firstC_zero (best_does h1)⟩⟩
set_option maxRecDepth 100000 in
set_option maxHeartbeats 8000000 in
/-- the first choice that reaches the best is picked -/
theorem pick_any (A : Option Addr) (n c : Nat) (l : List Pair) (many : Int) (hn : l.length = n) (hm : n ≤ 1000) (hnc : n ≤ c) (hc2 : c ≤ maxLen) (hok : okP l) (w : World) (hr : Rd w A (prc l)) :
    Calls Try.prog 25 #[.slice A n c, .int .i64 many] w (MakesI (PickR l many) w) := by
  have HN := Lib.hid hn; have HOK := Lib.hid hok; have HR := Lib.hid hr
  have hb0 : Below w.heap.size w ((w.alloc (.cells #[.slice A n c] 37)).alloc (.cells #[.int .i64 many] 3)) := ((Below.refl _ _).alloc (Nat.le_refl _) _).alloc (by simp) _
  have HBE := Lib.hid (Best_any A n c l many hn hm hok _ (hr.below hb0))
  have hmm := @run_makeMap Try.prog
  clear hb0 hok hr
  go_enter Try.func25, Try.ntmps25
  go_wp2_with fail
  refine HBE.out.mono ?_
  rintro e w1 ⟨x, y, rfl, hbest, hb1⟩
  clear HBE
  go_wp2_with fail
  clear hmm
  by_cases htr : many ≤ 0 ∨ many > n ∨ n = 0
  · have HF := Lib.hid (pickR_out (by rw [HN.out]; exact htr) hbest)
    generalize hW : (((((((w1.alloc (.cells #[.int .i64 (x : Int)] 3)).alloc (.cells #[.int .i64 (y : Int)] 3)).alloc (.cells #[.slice none 0 0] 28)).alloc (.map #[] 0)).alloc (.map #[] 0)).alloc (.cells #[.map (some (w1.heap.size + 1 + 1 + 1))] 75)).alloc (.cells #[.map (some (w1.heap.size + 1 + 1 + 1 + 1))] 75)) = W
    obtain ⟨hc1, hc2, hc3, hb⟩ := pick_cells hb1 W hW.symm
    clear hbest hb1 hW
    go_loopw [11] (fun i wr => i = .int .i64 0 ∧ wr = W) (fun _ _ => 0)
    case atStart => exact ⟨rfl, rfl⟩
    case round =>
      obtain ⟨rfl, rfl⟩ := hrel
      by_cases hn0 : n = 0
      · have hd : (n : Int) ≤ 0 := by omega
        clear hn0
        clear htr
        go_wp2_with fail
        go_ret
        exact ⟨[], _, HF.out, rfl, World.ownsRow_nil _ _ _ _, hb⟩
      have hd : (0 : Int) < (n : Int) := by omega
      clear hn0
      by_cases hmn : many > n
      · have hd2 : (n : Int) < many := hmn
        clear hmn
        clear htr
        go_wp2_with fail
        go_ret
        exact ⟨[], _, HF.out, rfl, World.ownsRow_nil _ _ _ _, hb⟩
      have hd2 : many ≤ (n : Int) := by omega
      have hd3 : many ≤ 0 := by omega
      clear hmn
      clear htr
      go_wp2_with fail
      go_ret
      exact ⟨[], _, HF.out, rfl, World.ownsRow_nil _ _ _ _, hb⟩
  obtain ⟨m, rfl⟩ : ∃ m : Nat, many = m := ⟨many.toNat, by omega⟩
  have hm0 : 0 < m := by omega
  have hmn : m ≤ n := by omega
  have hn0 : 0 < n := by omega
  clear htr
  obtain ⟨hB, hxm⟩ := hbest.best m rfl (by rw [HN.out]; exact hmn)
  have hx1 : x ≤ 1000 := by omega
  have hy1 : y ≤ 1000 := by
    obtain ⟨S, s1, s2, s3, s4⟩ := hB.some_
    have := nr_le_len [] S; omega
  obtain ⟨b, off, rfl, _, _⟩ := prc_at HR.out (k := 0) (by rw [HN.out]; exact hn0)
  have HPI := Lib.hid (Pi.start hB)
  have HBE := Lib.hid hB
  have HXM := Lib.hid hxm
  generalize hW : (((((((w1.alloc (.cells #[.int .i64 (x : Int)] 3)).alloc (.cells #[.int .i64 (y : Int)] 3)).alloc (.cells #[.slice none 0 0] 28)).alloc (.map #[] 0)).alloc (.map #[] 0)).alloc (.cells #[.map (some (w1.heap.size + 1 + 1 + 1))] 75)).alloc (.cells #[.map (some (w1.heap.size + 1 + 1 + 1 + 1))] 75)) = W
  obtain ⟨qa, qb, qo, lb, rb, bl, br, base, e1, e2, e3, e4, e5, e6, e7, hord, hpk⟩ := pick_start HR.out hb1 W hW.symm
  have HORD := Lib.hid hord
  have HPK := Lib.hid hpk
  clear hbest hB hxm hb1 hpk hord hW
  rw [← e7, ← e6, ← e3, ← e2, ← e1]
  have HNE := Lib.hid (show lb ≠ rb by omega)
  clear e1 e2 e3 e4 e5 e6 e7
  obtain ⟨ql, hql⟩ : ∃ ql, ql = w.heap.size := ⟨_, rfl⟩
  obtain ⟨qm, hqm⟩ : ∃ qm, qm = w.heap.size + 1 := ⟨_, rfl⟩
  rw [← hqm, ← hql]
  have HPK : Hid (Pk w (some ⟨b, off, none⟩) n c l m x y ql qm qa qb qo lb rb bl br base [] [] [] W) := Lib.hid (by rw [hqm, hql]; exact HPK.out)
  have HORD : Hid (Ord w.heap.size ql qm qa qb qo lb rb bl br base) := Lib.hid (by rw [hqm, hql]; exact HORD.out)
  clear hql hqm
  go_loopw [11] (fun i wr => ∃ (k : Nat) (out : List Nat) (L R : List Int), k ≤ n ∧ i = .int .i64 k ∧ Hid (Pi l m x y k out L R) ∧ Hid (Pk w (some ⟨b, off, none⟩) n c l m x y ql qm qa qb qo lb rb bl br base out L R wr)) (fun i _ => n - (intOf i).toNat)
  case atStart => exact ⟨0, [], [], [], Nat.zero_le _, rfl, HPI, HPK⟩
  case round =>
    clear HPI HPK
    obtain ⟨k, out, L, R, hk, rfl, HPI, HPK⟩ := hrel
    have hom := HPI.out.ho
    obtain ⟨v, ho1, ho2⟩ := HPK.out.bo
    obtain ⟨Ao, co, rfl⟩ := own_form ho2
    have HO1 := Lib.hid ho1; have HO2 := Lib.hid ho2
    have hcl := HPK.out.cl; have hcm := HPK.out.cm; have hco := pk_cell_at ho1
    clear ho1 ho2
    have hmn2 : (m : Int) ≤ (n : Int) := by omega
    have hk0 : (0 : Int) ≤ (k : Int) := by omega
    by_cases hlt : k < n
    rotate_left
    · have hkn : (n : Int) ≤ (k : Int) := by omega
      have HF := Lib.hid (show firstC l m x y [] [] = some out from HPI.out.done (by
        have h1 := HPI.out; rw [show k = l.length by rw [HN.out]; omega] at h1; exact h1.ends))
      go_wp2_with fail
      go_ret
      exact ⟨out, _, ⟨fun h => absurd ⟨by omega, by rw [HN.out]; omega⟩ h, fun m' e _ => by obtain rfl : m = m' := (by omega); exact ⟨x, y, HBE.out, HXM.out, HF.out⟩⟩, rfl, own_mono HO2.out (by have h9 := HORD.out; unfold Ord at h9; omega), HPK.out.bel⟩
    have hkn : (k : Int) < (n : Int) := by omega
    by_cases hol : out.length < m
    rotate_left
    · have hom2 : (m : Int) ≤ (out.length : Int) := by omega
      have HF := Lib.hid (show firstC l m x y [] [] = some out from HPI.out.done (by omega))
      go_wp2_with fail
      go_ret
      exact ⟨out, _, ⟨fun h => absurd ⟨by omega, by rw [HN.out]; omega⟩ h, fun m' e _ => by obtain rfl : m = m' := (by omega); exact ⟨x, y, HBE.out, HXM.out, HF.out⟩⟩, rfl, own_mono HO2.out (by have h9 := HORD.out; unfold Ord at h9; omega), HPK.out.bel⟩
    have hom2 : (out.length : Int) < (m : Int) := by omega
    have hxl : k < l.length := by have := HN.out; omega
    obtain ⟨b', off', hbe, hc0, hc1⟩ := prc_at HPK.out.rd hxl
    injection hbe with hbe; injection hbe with hbe1 hbe2; subst hbe1 hbe2
    have HTAKE := Lib.hid (fun h => HPI.out.take hxl hol h)
    have HSKIP := Lib.hid (fun h => HPI.out.skip hxl hol h)
    have HPO := Lib.hid (HOK.out _ (List.getElem_mem hxl))
    have HINL := Lib.hid (show l[k].1 ∈ l.map (·.1) from List.mem_map_of_mem (List.getElem_mem hxl))
    have HINR := Lib.hid (show l[k].2 ∈ l.map (·.2) from List.mem_map_of_mem (List.getElem_mem hxl))
    have HLN := Lib.hid (⟨HPI.out.ndl, HPI.out.ndr⟩ : L.Nodup ∧ R.Nodup)
    generalize l[k] = pq at hc0 hc1 HTAKE HSKIP HPO HINL HINR
    obtain ⟨p, q⟩ := pq
    simp only at hc0 hc1 HTAKE HSKIP HPO HINL HINR
    have hal : Below wr.heap.size wr (wr.alloc (.cells #[.int .i64 p, .int .i64 q] 50)) := (Below.refl _ _).alloc (Nat.le_refl _) _
    have HPK1 := Lib.hid (HPK.out.below hal)
    have HX0 := Lib.hid (show (wr.alloc (.cells #[.int .i64 p, .int .i64 q] 50)).cell? ⟨wr.heap.size, 0, none⟩ = some (.int .i64 p) by rw [World.cell?_alloc_at _ _ _ _ rfl]; rfl)
    have HX1 := Lib.hid (show (wr.alloc (.cells #[.int .i64 p, .int .i64 q] 50)).cell? ⟨wr.heap.size, 1, none⟩ = some (.int .i64 q) by rw [World.cell?_alloc_at _ _ _ _ rfl]; rfl)
    have HXB := Lib.hid (show base ≤ wr.heap.size ∧ wr.heap.size < (wr.alloc (.cells #[.int .i64 p, .int .i64 q] 50)).heap.size from ⟨HPK.out.sz, by simp⟩)
    have HXO := Lib.hid (fun e => by have := (HO2.out.lt _ e).2; omega : (Value.slice Ao out.length co).ownBlock ≠ some wr.heap.size)
    have HQ1 := Lib.hid ((hal.block qo (pk_lt HO1.out)).trans HO1.out)
    clear hal HPK HO1 HO2
    go_wp2_with fail
    clear hcl hcm hco hc0 hc1
    generalize wr.alloc (.cells #[.int .i64 p, .int .i64 q] 50) = w2 at HPK1 HX0 HX1 HXB HQ1 ⊢
    generalize wr.heap.size = xb at HX0 HX1 HXB HXO ⊢
    have hx0 := HX0.out; have hx1' := HX1.out; have hcbl := HPK1.out.cbl; have hcbr := HPK1.out.cbr
    have hl9 : ∀ m, (Instr.lookup 75 (.map (some lb)) (.int .i64 p) false).run Try.prog (w2.drewN m) = .ok (.int .i64 (one01 p L)) (w2.drewN m) := fun m => CM.look (.inr ⟨lb, _, rfl, MZ.block (w' := w2.drewN m) HPK1.out.ml rfl⟩) HPO.out.1
    have hr9 : ∀ m, (Instr.lookup 75 (.map (some rb)) (.int .i64 q) false).run Try.prog (w2.drewN m) = .ok (.int .i64 (one01 q R)) (w2.drewN m) := fun m => CM.look (.inr ⟨rb, _, rfl, MZ.block (w' := w2.drewN m) HPK1.out.mr rfl⟩) HPO.out.2
    go_quiet (fail)
    rename_i nq
    have HPK2 := Lib.hid (HPK1.out.below (drewN_ (Below.refl _ _) nq))
    have HX02 : Hid ((w2.drewN nq).cell? ⟨xb, 0, none⟩ = some (.int .i64 p)) := Lib.hid HX0.out
    have HX12 : Hid ((w2.drewN nq).cell? ⟨xb, 1, none⟩ = some (.int .i64 q)) := Lib.hid HX1.out
    have HXB2 : Hid (base ≤ xb ∧ xb < (w2.drewN nq).heap.size) := Lib.hid HXB.out
    have HQ2 : Hid ((w2.drewN nq).heap[qo]? = some (.cells #[.slice Ao out.length co] 28 (0, 0))) := Lib.hid HQ1.out
    clear hx0 hx1' hcbl hcbr hl9 hr9 HPK1 HX0 HX1 HXB HQ1
    generalize w2.drewN nq = w3 at HPK2 HX02 HX12 HXB2 HQ2 ⊢
    have hlr : lb < base ∧ rb < base := by have h9 := HORD.out; unfold Ord at h9; omega
    have HLR := Lib.hid hlr; clear hlr
    obtain ⟨w4, w5, he1, he2, ht1, ht2, hml, hmr⟩ := two_upd HNE.out (W := w3.drew) (HPK2.out.ml.block rfl) (HPK2.out.mr.block rfl) (by rw [List.length_map, HN.out]; exact hm) (by rw [List.length_map, HN.out]; exact hm) HPO.out.1 HPO.out.2 HINL.out HINR.out
    have HC := Lib.hid (fun W (h : Turn w3.drew.heap.size (fun k => k = lb ∨ k = rb) w3.drew W) => (⟨h.undrew.cell (by rintro (e | e); exact HPK2.out.ml.no_cell HPK2.out.cbl e; exact HPK2.out.mr.no_cell HPK2.out.cbl e) HPK2.out.cbl, h.undrew.cell (by rintro (e | e); exact HPK2.out.ml.no_cell HPK2.out.cbr e; exact HPK2.out.mr.no_cell HPK2.out.cbr e) HPK2.out.cbr,
      h.undrew.cell (a := ⟨xb, 0, none⟩) (by rintro (e | e) <;> (have := HLR.out; have := HXB2.out; simp only at e; omega)) HX02.out, h.undrew.cell (a := ⟨xb, 1, none⟩) (by rintro (e | e) <;> (have := HLR.out; have := HXB2.out; simp only at e; omega)) HX12.out⟩ :
      W.cell? ⟨bl, 0, none⟩ = some (.map (some lb)) ∧ W.cell? ⟨br, 0, none⟩ = some (.map (some rb)) ∧ W.cell? ⟨xb, 0, none⟩ = some (.int .i64 p) ∧ W.cell? ⟨xb, 1, none⟩ = some (.int .i64 q)))
    rw [put_ins] at hml hmr
    have HPK5 := Lib.hid (HPK2.out.maps HORD.out ht2.undrew hml hmr)
    have HX5 := Lib.hid (HC.out w5 ht2)
    have HXB5 : Hid (base ≤ xb ∧ xb < w5.heap.size) := Lib.hid ⟨HXB2.out.1, Nat.lt_of_lt_of_le HXB2.out.2 ht2.undrew.size⟩
    have HQ5 := Lib.hid ((ht2.undrew.block qo (pk_lt HQ2.out) (by have h9 := HORD.out; unfold Ord at h9; rintro (e | e) <;> omega)).trans HQ2.out)
    have HT1 := Lib.hid ht1; have HT2 := Lib.hid ht2
    clear HQ2 ht1 ht2 hml hmr HPK2 HX02 HX12 HXB2
    go_wp2_with fail
    refine wp_region_held_drew (S := (fun W => W.cell? ⟨bl, 0, none⟩ = some (.map (some lb)) ∧ W.cell? ⟨br, 0, none⟩ = some (.map (some rb)) ∧ W.cell? ⟨xb, 0, none⟩ = some (.int .i64 p) ∧ W.cell? ⟨xb, 1, none⟩ = some (.int .i64 q))) (by kernel_rfl) (HC.out _ (Turn.refl _)) (fun hHeld => ?_)
    refine wpAnyH_take (i := 0) (oi := _) (v := ?vq1) rfl (by kernel_rfl) (by kernel_rfl) (by kernel_rfl) (fun _ _ _ h => h) (Or.inl ⟨by rfl, ?hq1⟩) (by assumption) ?rq1
    case hq1 => (intro w hSw; go_simp; try with_reducible rfl)
    try dsimp only [Act.put, List.getElem_toArray, List.getElem_cons_zero, List.getElem_cons_succ]; try simp only [List.setIfInBounds_toArray, List.set_cons_zero, List.set_cons_succ]
    refine wpAnyH_take (i := 1) (oi := _) (v := ?vq2) rfl (by kernel_rfl) (by kernel_rfl) (by kernel_rfl) (fun _ _ _ h => h) (Or.inl ⟨by rfl, ?hq2⟩) (by assumption) ?rq2
    case hq2 => (intro w hSw; go_simp; try with_reducible rfl)
    try dsimp only [Act.put, List.getElem_toArray, List.getElem_cons_zero, List.getElem_cons_succ]; try simp only [List.setIfInBounds_toArray, List.set_cons_zero, List.set_cons_succ]
    refine wpAnyH_take (i := 2) (oi := _) (v := ?vq3) rfl (by kernel_rfl) (by kernel_rfl) (by kernel_rfl) (fun _ _ _ h => h) (Or.inl ⟨by rfl, ?hq3⟩) (by assumption) ?rq3
    case hq3 => (intro w hSw; go_simp; try with_reducible rfl)
    try dsimp only [Act.put, List.getElem_toArray, List.getElem_cons_zero, List.getElem_cons_succ]; try simp only [List.setIfInBounds_toArray, List.set_cons_zero, List.set_cons_succ]
    refine wpAnyH_take (i := 3) (oi := _) (v := ?vq4) rfl (by kernel_rfl) (by kernel_rfl) (by kernel_rfl) (fun _ _ _ h => h) (Or.inl ⟨by rfl, ?hq4⟩) (by assumption) ?rq4
    case hq4 => (intro w hSw; go_simp; try with_reducible rfl)
    try dsimp only [Act.put, List.getElem_toArray, List.getElem_cons_zero, List.getElem_cons_succ]; try simp only [List.setIfInBounds_toArray, List.set_cons_zero, List.set_cons_succ]
    refine wpAnyH_take (i := 4) (oi := _) (v := ?vq5) rfl (by kernel_rfl) (by kernel_rfl) (by kernel_rfl) (fun _ _ _ h => h) (Or.inl ⟨by rfl, ?hq5⟩) (by assumption) ?rq5
    case hq5 => (intro w hSw; go_simp; try with_reducible rfl)
    try dsimp only [Act.put, List.getElem_toArray, List.getElem_cons_zero, List.getElem_cons_succ]; try simp only [List.setIfInBounds_toArray, List.set_cons_zero, List.set_cons_succ]
    refine wpAnyH_take (i := 5) (oi := _) (v := ?vq6) rfl (by kernel_rfl) (by kernel_rfl) (by kernel_rfl) (fun _ _ _ h => h) (Or.inl ⟨by rfl, ?hq6⟩) (by assumption) ?rq6
    case hq6 => (intro w hSw; go_simp; try with_reducible rfl)
    try dsimp only [Act.put, List.getElem_toArray, List.getElem_cons_zero, List.getElem_cons_succ]; try simp only [List.setIfInBounds_toArray, List.set_cons_zero, List.set_cons_succ]
    refine wpAnyH_ready (rs := [6]) (by kernel_rfl) (by simp) ?_
    refine AllReadyH.cons (o := _) rfl (fun K hK => ?_) ?_
    · rw [if_pos (by rfl)]
      go_simp
      refine hK.out _ _ (HC.out _ HT1.out) (fun hHeld => ?_)
      clear hK K
      try dsimp only [Act.put, List.getElem_toArray, List.getElem_cons_zero, List.getElem_cons_succ]; try simp only [List.setIfInBounds_toArray, List.set_cons_zero, List.set_cons_succ]
      refine wpAnyH_ready (rs := [7]) (by kernel_rfl) (by simp) ?_
      refine AllReadyH.cons (o := _) rfl (fun K hK => ?_) ?_
      · rw [if_pos (by rfl)]
        go_simp
        refine hK.out _ _ (HC.out _ HT2.out) (fun hHeld => ?_)
        clear hK K
        try dsimp only [Act.put, List.getElem_toArray, List.getElem_cons_zero, List.getElem_cons_succ]; try simp only [List.setIfInBounds_toArray, List.set_cons_zero, List.set_cons_succ]
        refine wpAnyH_done (by kernel_rfl) ?_ _
        clear he1 he2 HC HT1 HT2
        obtain ⟨v5, ho51, ho52⟩ := HPK5.out.bo
        have hv5 := HQ5.out.symm.trans ho51
        injection hv5 with hv5; injection hv5 with hv5; injection hv5 with hv5; injection hv5 with hv5 _; subst hv5
        have HO5 := Lib.hid ho51; have HW5 := Lib.hid ho52
        have HS5 := Lib.hid HPK5.out.sz
        have hc11 := pk_cell_at ho51
        have HBQ := Lib.hid (show qo < base by have h9 := HORD.out; unfold Ord at h9; omega)
        have hol3 : out.length ≤ 1000 := by omega
        clear ho51 ho52
        have hcf := enter_possible
        go_wp2_with (at_builtin; (refine wpList_app el_int (by rfl) (.tmp 60) (.tmp 62) (by rfl) base _ out.length _ (by rfl) (HW5.out.alloc _) (some ⟨w5.heap.size, 0, none⟩) 1 1 [.int .i64 (k : Int)] (by rfl) rfl (Rd.new w5 #[.int .i64 (k : Int)] _) (by intro u hu; simp at hu; subst hu; rfl) (by unfold maxLen; omega) (by omega) (by have := HS5.out; simp; omega) ?_; intro v6 w6 hown6 hbel6 hg6 _; obtain ⟨A6, c6, rfl⟩ := own_form hown6; have hh6 := (hbel6.block qo HBQ.out).trans ((((Below.refl w5.heap.size w5).alloc (Nat.le_refl _) (.cells #[.int .i64 (k : Int)] 3)).block qo (by have := HS5.out; have := HBQ.out; omega)).trans HO5.out); have hc12 := pk_cell_at hh6; have hf12 := pk_froz_at hh6))
        have hb56 : Below base w5 w6 := (((Below.refl base w5).alloc HS5.out _).trans hbel6)
        have HPK7 := Lib.hid (HPK5.out.set HORD.out hb56 (out' := out ++ [k]) (by rw [List.length_append, natI_snoc]; exact hown6))
        have hxk : ∀ j u, w5.cell? ⟨xb, j, none⟩ = some u → (w6.setCell ⟨qo, 0, none⟩ (.slice A6 (out.length + 1) c6)).cell? ⟨xb, j, none⟩ = some u := fun j u h => (World.cell?_of_block (a := ⟨xb, j, none⟩) ((Below.heap_setCell w6 ⟨qo, 0, none⟩ _ xb (by have h1 := HXB5.out; have h2 := HBQ.out; show xb ≠ qo; omega)).trans (hg6.block xb (by have := HXB5.out; simp; omega) (fun e => HXO.out e.symm)))).trans (cell_below ((Below.refl w5.heap.size w5).alloc (Nat.le_refl _) _) h)
        have HX7 : Hid ((w6.setCell ⟨qo, 0, none⟩ (.slice A6 (out.length + 1) c6)).cell? ⟨xb, 0, none⟩ = some (.int .i64 p) ∧ (w6.setCell ⟨qo, 0, none⟩ (.slice A6 (out.length + 1) c6)).cell? ⟨xb, 1, none⟩ = some (.int .i64 q)) := Lib.hid ⟨hxk _ _ HX5.out.2.2.1, hxk _ _ HX5.out.2.2.2⟩
        have HQ7 := Lib.hid (pk_set_at hh6 (.slice A6 (out.length + 1) c6))
        have HXB7 := Lib.hid HXB5.out.1
        clear hown6 hb56 hbel6 hh6 hc12 hf12 hc11 HPK5 HO5 HW5 HS5 HX5 HXB5 hxk hg6 HQ5 HXO
        generalize w6.setCell ⟨qo, 0, none⟩ (.slice A6 (out.length + 1) c6) = w7 at HPK7 HX7 HQ7 ⊢
        have hkc : ((k + 1 : Nat) : Int) = (k : Int) + 1 := by omega
        have HPOSS := Lib.hid (possible_any w b off n c l m x y ql qm qa qb qo lb rb bl br base (out ++ [k]) (ins p L) (ins q R) (k + 1) HN.out hm hnc hc2 HOK.out (by omega) (by omega) hx1 hy1 (by rw [List.length_append]; simp; omega) (by have h1 := seen_le HPK7.out.ml (ins_nodup HLN.out.1); rw [List.length_map, HN.out] at h1; omega) (by have h1 := seen_le HPK7.out.mr (ins_nodup HLN.out.2); rw [List.length_map, HN.out] at h1; omega) (ins_nodup HLN.out.1) (ins_nodup HLN.out.2) w7 HPK7.out)
        rw [hkc] at HPOSS
        clear hkc
        have HDB := Lib.hid (doesB_iff (l := l.drop (k + 1)) (many := (m : Int) - ((out ++ [k]).length : Int)) (a := (x : Int) - ((ins p L).length : Int)) (b := (y : Int) - ((ins q R).length : Int)) (L := ins p L) (R := ins q R))
        generalize doesB (l.drop (k + 1)) ((m : Int) - ((out ++ [k]).length : Int)) ((x : Int) - ((ins p L).length : Int)) ((y : Int) - ((ins q R).length : Int)) (ins p L) (ins q R) = r at HPOSS HDB
        rw [show (m : Int) - ((out ++ [k]).length : Int) = ((m - (out ++ [k]).length : Nat) : Int) by rw [List.length_append]; simp; omega] at HDB
        refine HPOSS.out.mono ?_
        rintro e w8 ⟨rfl, hb8⟩
        have HPK8 := Lib.hid (HPK7.out.below hb8)
        have HX8 := Lib.hid (And.intro (cell_below hb8 HX7.out.1) (cell_below hb8 HX7.out.2))
        have HQ8 := Lib.hid ((hb8.block qo (pk_lt HQ7.out)).trans HQ7.out)
        clear hb8 HPOSS HPK7 HX7 HQ7 hcf
        cases r with
        | true =>
          have HP2 := Lib.hid (HTAKE.out (HDB.out.1 rfl))
          go_wp2_with fail
          exact ⟨⟨k + 1, out ++ [k], ins p L, ins q R, by omega, by go_num, HP2, HPK8⟩, by simp [intOf]; omega⟩
        | false =>
          have HP2 := Lib.hid (HSKIP.out (fun h => by have := HDB.out.2 h; cases this))
          obtain ⟨v8, ho81, ho82⟩ := HPK8.out.bo
          have hv8 := HQ8.out.symm.trans ho81
          injection hv8 with hv8; injection hv8 with hv8; injection hv8 with hv8; injection hv8 with hv8 _; subst hv8
          rw [List.length_append] at ho82
          obtain ⟨hpop1, hpop2⟩ := own_pop (by rw [← natI_snoc]; exact ho82)
          have HPOP := Lib.hid hpop1
          have hc13 := pk_cell_at HQ8.out; have hf13 := pk_froz_at HQ8.out
          have HPK9 := Lib.hid (HPK8.out.set HORD.out (Below.refl base w8) (out' := out) HPOP.out)
          have hxk : ∀ j u, w8.cell? ⟨xb, j, none⟩ = some u → (w8.setCell ⟨qo, 0, none⟩ (.slice A6 out.length c6)).cell? ⟨xb, j, none⟩ = some u := fun j u h => (World.cell?_of_block (a := ⟨xb, j, none⟩) (Below.heap_setCell w8 ⟨qo, 0, none⟩ _ xb (by have h1 := HXB7.out; have h2 := HBQ.out; show xb ≠ qo; omega))).trans h
          have HX9 := Lib.hid (And.intro (hxk _ _ HX8.out.1) (hxk _ _ HX8.out.2))
          clear ho81 ho82 hpop1 HTAKE HSKIP HDB hxk HPK8 HX8 HQ8 HPOP
          have hc9l := HPK9.out.cbl; have hc9r := HPK9.out.cbr; have hx9 := HX9.out.1; have hy9 := HX9.out.2
          have HXL9 := Lib.hid (cell_lt hy9)
          by_cases hp : p ∈ L
          · have hp0 : (one01 p L == 0) = false := by unfold one01; rw [if_pos hp]; rfl
            rw [ins_in hp] at HPK9
            clear hp
            by_cases hq : q ∈ R
            · have hq0 : (one01 q R == 0) = false := by unfold one01; rw [if_pos hq]; rfl
              rw [ins_in hq] at HPK9
              clear hq
              go_wp2_with fail
              exact ⟨⟨k + 1, out, L, R, by omega, by go_num, HP2, HPK9⟩, by simp [intOf]; omega⟩
            · have hq0 : (one01 q R == 0) = true := by unfold one01; rw [if_neg hq]; rfl
              have HQN := Lib.hid hq
              clear hq
              go_wp2_with (at_delete; refine wpList_mz_del rfl (.tmp 80) (.tmp 82) rfl HPK9.out.mr rfl q HPO.out.2 rfl ?_; intro w11 hm11 hg11; rw [del_ins HQN.out] at hm11; have HPKB := Lib.hid (HPK9.out.maps HORD.out (Turn.grown hg11 (.inr rfl) (Nat.le_refl _)) (HPK9.out.ml.block (hg11.block _ HPK9.out.ml.lt (fun e => HNE.out (by injection e with e)))) hm11))
              exact ⟨⟨k + 1, out, L, R, by omega, by go_num, HP2, HPKB⟩, by simp [intOf]; omega⟩
          · have hp0 : (one01 p L == 0) = true := by unfold one01; rw [if_neg hp]; rfl
            have HPN := Lib.hid hp
            clear hp
            by_cases hq : q ∈ R
            · have hq0 : (one01 q R == 0) = false := by unfold one01; rw [if_pos hq]; rfl
              rw [ins_in hq] at HPK9
              clear hq
              go_wp2_with (at_delete; refine wpList_mz_del rfl (.tmp 75) (.tmp 77) rfl HPK9.out.ml rfl p HPO.out.1 rfl ?_; intro w10 hm10 hg10; rw [del_ins HPN.out] at hm10; have HPKA := Lib.hid (HPK9.out.maps HORD.out (Turn.grown hg10 (.inl rfl) (Nat.le_refl _)) hm10 (HPK9.out.mr.block (hg10.block _ HPK9.out.mr.lt (fun e => HNE.out (by injection e with e; exact e.symm))))))
              exact ⟨⟨k + 1, out, L, R, by omega, by go_num, HP2, HPKA⟩, by simp [intOf]; omega⟩
            · have hq0 : (one01 q R == 0) = true := by unfold one01; rw [if_neg hq]; rfl
              have HQN := Lib.hid hq
              clear hq
              go_wp2_with (first | (at_delete; refine wpList_mz_del rfl (.tmp 75) (.tmp 77) rfl HPK9.out.ml rfl p HPO.out.1 rfl ?_; intro w10 hm10 hg10; rw [del_ins HPN.out] at hm10; have HPKA := Lib.hid (HPK9.out.maps HORD.out (Turn.grown hg10 (.inl rfl) (Nat.le_refl _)) hm10 (HPK9.out.mr.block (hg10.block _ HPK9.out.mr.lt (fun e => HNE.out (by injection e with e; exact e.symm))))); have hy10 := (World.cell?_of_block (a := ⟨xb, 1, none⟩) (hg10.block xb (HXL9.out) (fun e => by injection e with e; have h1 := HLR.out; have h2 := HXB7.out; omega))).trans HX9.out.2; have hc10r := HPKA.out.cbr) | (at_delete; refine wpList_mz_del rfl (.tmp 80) (.tmp 82) rfl HPKA.out.mr rfl q HPO.out.2 rfl ?_; intro w11 hm11 hg11; rw [del_ins HQN.out] at hm11; have HPKB := Lib.hid (HPKA.out.maps HORD.out (Turn.grown hg11 (.inr rfl) (Nat.le_refl _)) (HPKA.out.ml.block (hg11.block _ HPKA.out.ml.lt (fun e => HNE.out (by injection e with e)))) hm11)))
              exact ⟨⟨k + 1, out, L, R, by omega, by go_num, HP2, HPKB⟩, by simp [intOf]; omega⟩
      exact AllReadyH.nil
    exact AllReadyH.nil
end Go.Proofs.Ytpiinfjcjpdofaa
