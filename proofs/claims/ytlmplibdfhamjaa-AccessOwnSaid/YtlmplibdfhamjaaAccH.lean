/- The walk of AccessOwn: what it asks of access is so, for every argument. -/
import Derived.Test.YtlmplibdfhamjaaAccF
import Derived.Test.YtlmplibdfhamjaaPut
attribute [local go_sem ↓] Go.wp_at_zero Go.wp_at_succ
namespace Go.Proofs.Ytlmplibdfhamjaa
open Go.RowKit Go.Mem
set_option linter.unusedVariables false
set_option linter.unusedSimpArgs false

def PutO (l : List Ent) (x : Ent) (w : World) (e : Ending) (w' : World) : Prop :=
  ∃ (A : Option Addr) (n c : Nat) (E : Int), e = .returned (.tuple #[.slice A n c, .int .i64 E]) ∧ Below w.heap.size w w' ∧ n ≤ l.length + 1 ∧ (E = 0 → ∃ L, L.length = n ∧ Rd w' A (ents L) ∧ ∀ key, (x.key.toList == key.toList) = false → getR L key = getR l key)
set_option maxRecDepth 100000 in
set_option maxHeartbeats 4000000 in
theorem putE_any (A : Option Addr) (n c : Nat) (l : List Ent) (x : Ent) (w : World) (hr : Rd w A (ents l)) (hn : l.length = n) (hm : n ≤ 100000) (hc : n ≤ c) (hcm : c ≤ maxLen) (hok : ∀ m ∈ l, m.ok w) (hx : x.ok w) :
    Calls Try.prog 33 #[.slice A n c, .agg x.arr] w (PutO l x w) := by
  have hmy := fun W (hW : Below w.heap.size w W) => may10_any A n c l W (hr.below hW) hn (Nat.le_trans hm (by decide)) (fun m hm => (hok m hm).below hW)
  have hen := fun W => risEntry_any x W hx.1 hx.2.2.1 hx.2.2.2
  have hpu := fun W (hW : Below w.heap.size w W) => put_any A n c l x W (hr.below hW) hn hm hc hcm
  generalize mayL l = p at hmy
  generalize entB x = q at hen
  obtain ⟨xk, ⟨xn, xb, xv⟩⟩ := x
  simp only [Ent.arr] at hen hpu ⊢
  have HMY := Lib.hid hmy; have HEN := Lib.hid hen; have HPU := Lib.hid hpu
  clear hmy hen hpu hr hok hx hcm hc hm hn
  have hbx := (Below.refl w.heap.size w).alloc (Nat.le_refl _) (.cells #[.string xk, .int .i64 xn, .string xb, .string xv] 47)
  have hxx := heap_alloc_new w (.cells #[.string xk, .int .i64 xn, .string xb, .string xv] 47)
  have HX := Lib.hid hxx; have HB := Lib.hid hbx
  clear hbx hxx
  go_enter Try.func33, Try.ntmps33
  go_wp2_with fail
  refine (HMY.out _ HB.out).mono ?_
  rintro e w1 ⟨rfl, hb1⟩
  have hX1 := (hb1.block _ (Array.getElem?_eq_some_iff.1 HX.out).1).trans HX.out
  have hB1 := then_ HB.out hb1
  clear hb1 HX HB
  have x0 : w1.cell? ⟨w.heap.size, 0, none⟩ = some (.string xk) := cell_of_row _ _ _ _ _ _ hX1
  have x1 : w1.cell? ⟨w.heap.size, 1, none⟩ = some (.int .i64 xn) := cell_of_row _ _ _ _ _ _ hX1
  have x2 : w1.cell? ⟨w.heap.size, 2, none⟩ = some (.string xb) := cell_of_row _ _ _ _ _ _ hX1
  have x3 : w1.cell? ⟨w.heap.size, 3, none⟩ = some (.string xv) := cell_of_row _ _ _ _ _ _ hX1
  have HX1 := Lib.hid hX1; clear hX1
  cases p
  · go_wp2
    go_ret2
    exact ⟨none, 0, 0, 1, rfl, hB1, by omega, fun h => by cases h⟩
  go_wp2_with fail
  refine (HEN.out _).mono ?_
  rintro e w2 ⟨rfl, hb2⟩
  have hX2 := (hb2.block _ (Array.getElem?_eq_some_iff.1 HX1.out).1).trans HX1.out
  have hB2 := then_ hB1 hb2
  clear hb2 HX1 x0 x1 x2 x3 hB1
  have x0 : w2.cell? ⟨w.heap.size, 0, none⟩ = some (.string xk) := cell_of_row _ _ _ _ _ _ hX2
  have x1 : w2.cell? ⟨w.heap.size, 1, none⟩ = some (.int .i64 xn) := cell_of_row _ _ _ _ _ _ hX2
  have x2 : w2.cell? ⟨w.heap.size, 2, none⟩ = some (.string xb) := cell_of_row _ _ _ _ _ _ hX2
  have x3 : w2.cell? ⟨w.heap.size, 3, none⟩ = some (.string xv) := cell_of_row _ _ _ _ _ _ hX2
  clear hX2
  cases q
  · go_wp2
    go_ret2
    exact ⟨none, 0, 0, 1, rfl, hB2, by omega, fun h => by cases h⟩
  go_wp2_with fail
  refine (HPU.out _ hB2).mono ?_
  rintro e w3 ⟨L, v, hget, hlen, rfl, hown, hb3⟩
  obtain ⟨A3, c3, rfl⟩ := own_form hown
  have HO := Lib.hid (Rd.of_own hown)
  have hB3 := then_ hB2 hb3
  clear hown hb3
  by_cases h4 : 4096 < L.length
  · go_wp2
    go_ret2
    exact ⟨none, 0, 0, 4, rfl, hB3, by omega, fun h => by cases h⟩
  · go_wp2
    go_ret2
    exact ⟨A3, L.length, c3, 0, rfl, hB3, hlen, fun _ => ⟨L, rfl, HO.out, hget⟩⟩

theorem ofA_nil (t b u : ByteArray) : ofA [] t b u = 0 := by
  unfold ofA getR
  rw [List.find?_nil, List.find?_nil]
  kernel_rfl

/-- the boxes of the law's last two arguments -/
structure BX (w W : World) (a b u : ByteArray) (y : Ent) : Prop where
  bel : Below w.heap.size w W
  x : W.heap[w.heap.size]? = some (.cells #[.string a, .string b, .string u] 38 (0, 0))
  y : W.heap[w.heap.size + 1]? = some (.cells y.arr 47 (0, 0))
theorem BX.step {w W W' : World} {a b u : ByteArray} {y : Ent} (h : BX w W a b u y) (hb : Below W.heap.size W W') : BX w W' a b u y :=
  ⟨then_ h.bel hb, (hb.block _ (Array.getElem?_eq_some_iff.1 h.x).1).trans h.x, (hb.block _ (Array.getElem?_eq_some_iff.1 h.y).1).trans h.y⟩
theorem BX.xs {w W : World} {a b u : ByteArray} {y : Ent} (h : BX w W a b u y) : W.cell? ⟨w.heap.size, 0, none⟩ = some (.string a) ∧ W.cell? ⟨w.heap.size, 1, none⟩ = some (.string b) ∧ W.cell? ⟨w.heap.size, 2, none⟩ = some (.string u) :=
  ⟨cell_of_row _ _ _ _ _ _ h.x, cell_of_row _ _ _ _ _ _ h.x, cell_of_row _ _ _ _ _ _ h.x⟩
theorem BX.ys {w W : World} {a b u : ByteArray} {k : ByteArray} {n : Int} {c d : ByteArray} (h : BX w W a b u ⟨k, ⟨n, c, d⟩⟩) : W.cell? ⟨w.heap.size + 1, 0, none⟩ = some (.string k) ∧ W.cell? ⟨w.heap.size + 1, 1, none⟩ = some (.int .i64 n) ∧ W.cell? ⟨w.heap.size + 1, 2, none⟩ = some (.string c) ∧ W.cell? ⟨w.heap.size + 1, 3, none⟩ = some (.string d) :=
  ⟨cell_of_row _ _ _ _ _ _ h.y, cell_of_row _ _ _ _ _ _ h.y, cell_of_row _ _ _ _ _ _ h.y, cell_of_row _ _ _ _ _ _ h.y⟩
set_option maxRecDepth 100000 in
set_option maxHeartbeats 8000000 in
theorem accessOwn_walk (A : Option Addr) (n c : Nat) (l : List Ent) (x : T3) (y : Ent) (w : World) (hr : Rd w A (ents l)) (hn : l.length = n) (hc : n ≤ c) (hcm : c ≤ maxLen) (hok : ∀ m ∈ l, m.ok w) (hx : x.ok) (hy : y.ok w) :
    Calls Try.prog 8 #[.slice A n c, .agg x.arr, .agg y.arr] w (TrueB w) := by
  obtain ⟨a, b, u⟩ := x
  obtain ⟨yk, ⟨yn, yb, yv⟩⟩ := y
  simp only [T3.arr, Ent.arr]
  obtain ⟨ha, hb0, hu⟩ := hx
  simp only at ha hb0 hu
  have hm : n ≤ maxLen := Nat.le_trans hc hcm
  have HFW := Lib.hid (fun W (hW : Below w.heap.size w W) => few10_any A n c l 30 W (hr.below hW) hn hm (fun m hm => (hok m hm).below hW))
  have HMY := Lib.hid (fun W (hW : Below w.heap.size w W) => may10_any A n c l W (hr.below hW) hn hm (fun m hm => (hok m hm).below hW))
  have HPU := Lib.hid (fun W (hW : Below w.heap.size w W) (h30 : n ≤ 100000) => putE_any A n c l ⟨yk, ⟨yn, yb, yv⟩⟩ W (hr.below hW) hn h30 hc hcm (fun m hm => (hok m hm).below hW) (hy.below hW))
  have HO := Lib.hid (fun W (hW : Below w.heap.size w W) (h1 : a.size ≤ 100) (h2 : b.size ≤ 100) (h3 : u.size ≤ 100) => of_any A n c l a b u W (hr.below hW) hn hm (by omega) (by omega) (by omega))
  have HFY := Lib.hid (fun (W : World) (hW : Below w.heap.size w W) => few10_any (some ⟨W.heap.size, 0, none⟩) 1 1 [⟨yk, ⟨yn, yb, yv⟩⟩] 1 (W.alloc (.cells #[.string yk, .int .i64 yn, .string yb, .string yv] 47)) (Rd.new W #[.string yk, .int .i64 yn, .string yb, .string yv] 47) rfl (by decide) (fun m hm => by rw [List.mem_singleton] at hm; subst hm; exact (hy.below hW).below ((Below.refl _ _).alloc (Nat.le_refl _) _)))
  simp only [Ent.arr] at HPU
  have HN := Lib.hid hn
  have hbx : BX w ((w.alloc (.cells #[.string a, .string b, .string u] 38)).alloc (.cells #[.string yk, .int .i64 yn, .string yb, .string yv] 47)) a b u ⟨yk, ⟨yn, yb, yv⟩⟩ :=
    ⟨((Below.refl _ _).alloc (Nat.le_refl _) _).alloc (by simp) _, heap_alloc2_old w _ _, heap_alloc2_new w _ _⟩
  have HBX := Lib.hid hbx
  clear hr hn hok hbx hy hc hcm
  unfold maxLen at hm ha hb0 hu
  go_enter Try.func8, Try.ntmps8
  go_wp2_with fail
  refine (HFW.out _ HBX.out.bel).mono ?_
  rintro e w1 ⟨b1, hb30, rfl, hb1⟩
  have HBX := Lib.hid (HBX.out.step hb1)
  clear hb1
  cases b1
  · go_wp2_with fail
    refine (fin22 w _ HBX.out.bel).mono ?_
    rintro e w2 ⟨rfl, hb2⟩
    go_wp2
    go_ret
    exact ⟨rfl, hb2⟩
  have h30 : n ≤ 30 := by have := (hb30 rfl).1; rw [HN.out] at this; omega
  clear hb30
  go_wp2_with fail
  refine (HMY.out _ HBX.out.bel).mono ?_
  rintro e w2 ⟨rfl, hb2⟩
  have hBX := HBX.out.step hb2
  clear hb2 HBX
  obtain ⟨y0, y1, y2, y3⟩ := hBX.ys
  have HBX := Lib.hid hBX; clear hBX
  generalize mayL l = p
  cases p
  · go_wp2_with fail
    refine (fin22 w _ HBX.out.bel).mono ?_
    rintro e w2 ⟨rfl, hb2⟩
    go_wp2
    go_ret
    exact ⟨rfl, hb2⟩
  go_wp2_with fail
  refine (HFY.out _ HBX.out.bel).mono ?_
  rintro e w3 ⟨b2, hbs, rfl, hb3⟩
  have hBX := (HBX.out.step ((Below.refl w2.heap.size w2).alloc (Nat.le_refl _) (.cells #[.string yk, .int .i64 yn, .string yb, .string yv] 47))).step hb3
  clear hb3 HBX y0 y1 y2 y3
  obtain ⟨x0, x1, x2⟩ := hBX.xs
  have HBX := Lib.hid hBX; clear hBX
  cases b2
  · go_wp2_with fail
    refine (fin22 w _ HBX.out.bel).mono ?_
    rintro e w2 ⟨rfl, hb2⟩
    go_wp2
    go_ret
    exact ⟨rfl, hb2⟩
  clear hbs
  by_cases fa : 100 < a.size
  · go_wp2_with fail
    refine (fin22 w _ HBX.out.bel).mono ?_
    rintro e w2 ⟨rfl, hb2⟩
    go_wp2
    go_ret
    exact ⟨rfl, hb2⟩
  by_cases fb : 100 < b.size
  · go_wp2_with fail
    refine (fin22 w _ HBX.out.bel).mono ?_
    rintro e w2 ⟨rfl, hb2⟩
    go_wp2
    go_ret
    exact ⟨rfl, hb2⟩
  by_cases fu : 100 < u.size
  · go_wp2_with fail
    refine (fin22 w _ HBX.out.bel).mono ?_
    rintro e w2 ⟨rfl, hb2⟩
    go_wp2
    go_ret
    exact ⟨rfl, hb2⟩
  go_wp2
  have hBX := HBX.out
  obtain ⟨y0, y1, y2, y3⟩ := hBX.ys
  clear hBX
  have X0 := Lib.hid x0; have X1 := Lib.hid x1; have X2 := Lib.hid x2; have Y0 := Lib.hid y0
  clear x0 x1 x2 y0 y1 y2 y3
  have HK1 := Lib.hid (fun W => rkey_any a b u W (by omega) (by omega) (by omega))
  have HK2 := Lib.hid (fun W => rkey_any a b ⟨#[97, 108, 108]⟩ W (by omega) (by omega) (by decide))
  have hof : ∀ L : List Ent, (∀ key, (yk.toList == key.toList) = false → getR L key = getR l key) → (yk.toList == (keyA a b u).toList) = false → (yk.toList == (keyA a b ⟨#[97, 108, 108]⟩).toList) = false → ofA L a b u = ofA l a b u := fun L h h1 h2 => by
    unfold ofA; rw [h _ h1, h _ h2]
  have HOF := Lib.hid hof; clear hof
  have HRG := Lib.hid (ofA_range l a b u)
  generalize keyA a b u = k1 at HK1 HOF
  generalize keyA a b ⟨#[97, 108, 108]⟩ = k2 at HK2 HOF
  have hb : Below w3.heap.size w3 w3.drew := (Below.refl _ _).drew
  cases e1 : yk.toList == k1.toList
  · cases e2 : yk.toList == k2.toList
    · refine wp_region_held_drew (S := (fun W => W.cell? ⟨w.heap.size, 0, none⟩ = some (.string a) ∧ W.cell? ⟨w.heap.size, 1, none⟩ = some (.string b) ∧ W.cell? ⟨w.heap.size, 2, none⟩ = some (.string u) ∧ W.cell? ⟨w.heap.size + 1, 0, none⟩ = some (.string yk))) (by kernel_rfl) ⟨X0.out, X1.out, X2.out, Y0.out⟩ (fun hHeld => ?_)
      refine wpAnyH_take (i := 0) (oi := _) (v := ?vq1) rfl (by kernel_rfl) (by kernel_rfl) (by kernel_rfl) (fun _ _ _ h => h) (Or.inl ⟨by rfl, ?hq1⟩) (by assumption) ?rq1
      case hq1 => (intro w hSw; go_simp; try with_reducible rfl)
      try dsimp only [Act.put, List.getElem_toArray, List.getElem_cons_zero, List.getElem_cons_succ]; try simp only [List.setIfInBounds_toArray, List.set_cons_zero, List.set_cons_succ]
      refine wpAnyH_take (i := 1) (oi := _) (v := ?vq2) rfl (by kernel_rfl) (by kernel_rfl) (by kernel_rfl) (fun _ _ _ h => h) (Or.inl ⟨by rfl, ?hq2⟩) (by assumption) ?rq2
      case hq2 => (intro w hSw; go_simp; try with_reducible rfl)
      try dsimp only [Act.put, List.getElem_toArray, List.getElem_cons_zero, List.getElem_cons_succ]; try simp only [List.setIfInBounds_toArray, List.set_cons_zero, List.set_cons_succ]
      refine wpAnyH_take (i := 2) (oi := _) (v := ?vq3) rfl (by kernel_rfl) (by kernel_rfl) (by kernel_rfl) (fun _ _ _ h => h) (Or.inl ⟨by rfl, ?hq3⟩) (by assumption) ?rq3
      case hq3 => (intro w hSw; go_simp; try with_reducible rfl)
      try dsimp only [Act.put, List.getElem_toArray, List.getElem_cons_zero, List.getElem_cons_succ]; try simp only [List.setIfInBounds_toArray, List.set_cons_zero, List.set_cons_succ]
      refine wpAnyH_take (i := 3) (oi := _) (v := ?vq4) rfl (by kernel_rfl) (by kernel_rfl) (by kernel_rfl) (fun _ _ _ h => h) (Or.inl ⟨by rfl, ?hq4⟩) (by assumption) ?rq4
      case hq4 => (intro w hSw; go_simp; try with_reducible rfl)
      try dsimp only [Act.put, List.getElem_toArray, List.getElem_cons_zero, List.getElem_cons_succ]; try simp only [List.setIfInBounds_toArray, List.set_cons_zero, List.set_cons_succ]
      refine wpAnyH_take (i := 4) (oi := _) (v := ?vq5) rfl (by kernel_rfl) (by kernel_rfl) (by kernel_rfl) (fun _ _ _ h => h) (Or.inl ⟨by rfl, ?hq5⟩) (by assumption) ?rq5
      case hq5 => (intro w hSw; go_simp; try with_reducible rfl)
      try dsimp only [Act.put, List.getElem_toArray, List.getElem_cons_zero, List.getElem_cons_succ]; try simp only [List.setIfInBounds_toArray, List.set_cons_zero, List.set_cons_succ]
      refine wpAnyH_take (i := 5) (oi := _) (v := ?vq6) rfl (by kernel_rfl) (by kernel_rfl) (by kernel_rfl) (fun _ _ _ h => h) (Or.inl ⟨by rfl, ?hq6⟩) (by assumption) ?rq6
      case hq6 => (intro w hSw; go_simp; try with_reducible rfl)
      try dsimp only [Act.put, List.getElem_toArray, List.getElem_cons_zero, List.getElem_cons_succ]; try simp only [List.setIfInBounds_toArray, List.set_cons_zero, List.set_cons_succ]
      refine wpAnyH_take (i := 6) (oi := _) (v := ?vq7) rfl (by kernel_rfl) (by kernel_rfl) (by kernel_rfl) (fun _ _ _ h => h) (Or.inl ⟨by rfl, ?hq7⟩) (by assumption) ?rq7
      case hq7 => (intro w hSw; go_simp; try with_reducible rfl)
      try dsimp only [Act.put, List.getElem_toArray, List.getElem_cons_zero, List.getElem_cons_succ]; try simp only [List.setIfInBounds_toArray, List.set_cons_zero, List.set_cons_succ]
      refine wpAnyH_take (i := 7) (oi := _) (v := ?vq8) rfl (by kernel_rfl) (by kernel_rfl) (by kernel_rfl) (fun _ _ _ h => h) (Or.inl ⟨by rfl, ?hq8⟩) (by assumption) ?rq8
      case hq8 => (intro w hSw; go_simp; try with_reducible rfl)
      try dsimp only [Act.put, List.getElem_toArray, List.getElem_cons_zero, List.getElem_cons_succ]; try simp only [List.setIfInBounds_toArray, List.set_cons_zero, List.set_cons_succ]
      refine wpAnyH_ready (rs := [8]) (by kernel_rfl) (by simp) ?_
      refine AllReadyH.cons (o := _) rfl (fun K hK => ?_) ?_
      · rw [if_pos (by rfl)]
        go_simp
        refine (HK1.out _).mono ?_
        rintro e wx ⟨rfl, rfl⟩
        go_wp2_with fail
        refine hK.out _ _ ⟨cell_below hb X0.out, cell_below hb X1.out, cell_below hb X2.out, cell_below hb Y0.out⟩ (fun hHeld => ?_)
        clear hK K
        try dsimp only [Act.put, List.getElem_toArray, List.getElem_cons_zero, List.getElem_cons_succ]; try simp only [List.setIfInBounds_toArray, List.set_cons_zero, List.set_cons_succ]
        refine wpAnyH_take (i := 9) (oi := _) (v := ?vq9) rfl (by kernel_rfl) (by kernel_rfl) (by kernel_rfl) (fun _ _ _ h => h) (Or.inl ⟨by rfl, ?hq9⟩) (by assumption) ?rq9
        case hq9 => (intro w hSw; go_simp; try with_reducible rfl)
        try dsimp only [Act.put, List.getElem_toArray, List.getElem_cons_zero, List.getElem_cons_succ]; try simp only [List.setIfInBounds_toArray, List.set_cons_zero, List.set_cons_succ]
        refine wpAnyH_take (i := 10) (oi := _) (v := ?vq10) rfl (by kernel_rfl) (by kernel_rfl) (by kernel_rfl) (fun _ _ _ h => h) (Or.inl ⟨by rfl, ?hq10⟩) (by assumption) ?rq10
        case hq10 => (intro w hSw; go_simp; try with_reducible rfl)
        try dsimp only [Act.put, List.getElem_toArray, List.getElem_cons_zero, List.getElem_cons_succ]; try simp only [List.setIfInBounds_toArray, List.set_cons_zero, List.set_cons_succ]
        refine wpAnyH_take (i := 11) (oi := _) (v := ?vq11) rfl (by kernel_rfl) (by kernel_rfl) (by kernel_rfl) (fun _ _ _ h => h) (Or.inl ⟨by rfl, ?hq11⟩) (by assumption) ?rq11
        case hq11 => (intro w hSw; go_simp; try with_reducible rfl)
        try dsimp only [Act.put, List.getElem_toArray, List.getElem_cons_zero, List.getElem_cons_succ]; try simp only [List.setIfInBounds_toArray, List.set_cons_zero, List.set_cons_succ]
        refine wpAnyH_take (i := 12) (oi := _) (v := ?vq12) rfl (by kernel_rfl) (by kernel_rfl) (by kernel_rfl) (fun _ _ _ h => h) (Or.inl ⟨by rfl, ?hq12⟩) (by assumption) ?rq12
        case hq12 => (intro w hSw; go_simp; try with_reducible rfl)
        try dsimp only [Act.put, List.getElem_toArray, List.getElem_cons_zero, List.getElem_cons_succ]; try simp only [List.setIfInBounds_toArray, List.set_cons_zero, List.set_cons_succ]
        refine wpAnyH_take (i := 13) (oi := _) (v := ?vq13) rfl (by kernel_rfl) (by kernel_rfl) (by kernel_rfl) (fun _ _ _ h => h) (Or.inl ⟨by rfl, ?hq13⟩) (by assumption) ?rq13
        case hq13 => (intro w hSw; go_simp; try with_reducible rfl)
        try dsimp only [Act.put, List.getElem_toArray, List.getElem_cons_zero, List.getElem_cons_succ]; try simp only [List.setIfInBounds_toArray, List.set_cons_zero, List.set_cons_succ]
        refine wpAnyH_take (i := 14) (oi := _) (v := ?vq14) rfl (by kernel_rfl) (by kernel_rfl) (by kernel_rfl) (fun _ _ _ h => h) (Or.inl ⟨by rfl, ?hq14⟩) (by assumption) ?rq14
        case hq14 => (intro w hSw; go_simp; try with_reducible rfl)
        try dsimp only [Act.put, List.getElem_toArray, List.getElem_cons_zero, List.getElem_cons_succ]; try simp only [List.setIfInBounds_toArray, List.set_cons_zero, List.set_cons_succ]
        refine wpAnyH_take (i := 15) (oi := _) (v := ?vq15) rfl (by kernel_rfl) (by kernel_rfl) (by kernel_rfl) (fun _ _ _ h => h) (Or.inl ⟨by rfl, ?hq15⟩) (by assumption) ?rq15
        case hq15 => (intro w hSw; go_simp; try with_reducible rfl)
        try dsimp only [Act.put, List.getElem_toArray, List.getElem_cons_zero, List.getElem_cons_succ]; try simp only [List.setIfInBounds_toArray, List.set_cons_zero, List.set_cons_succ]
        refine wpAnyH_take (i := 16) (oi := _) (v := ?vq16) rfl (by kernel_rfl) (by kernel_rfl) (by kernel_rfl) (fun _ _ _ h => h) (Or.inl ⟨by rfl, ?hq16⟩) (by assumption) ?rq16
        case hq16 => (intro w hSw; go_simp; try with_reducible rfl)
        try dsimp only [Act.put, List.getElem_toArray, List.getElem_cons_zero, List.getElem_cons_succ]; try simp only [List.setIfInBounds_toArray, List.set_cons_zero, List.set_cons_succ]
        refine wpAnyH_ready (rs := [17]) (by kernel_rfl) (by simp) ?_
        refine AllReadyH.cons (o := _) rfl (fun K hK => ?_) ?_
        · rw [if_pos (by rfl)]
          go_simp
          refine (HK2.out _).mono ?_
          rintro e wx ⟨rfl, rfl⟩
          go_wp2_with fail
          refine hK.out _ _ ⟨cell_below hb X0.out, cell_below hb X1.out, cell_below hb X2.out, cell_below hb Y0.out⟩ (fun hHeld => ?_)
          clear hK K
          try dsimp only [Act.put, List.getElem_toArray, List.getElem_cons_zero, List.getElem_cons_succ]; try simp only [List.setIfInBounds_toArray, List.set_cons_zero, List.set_cons_succ]
          refine wpAnyH_take (i := 18) (oi := _) (v := ?vq17) rfl (by kernel_rfl) (by kernel_rfl) (by kernel_rfl) (fun _ _ _ h => h) (Or.inl ⟨by rfl, ?hq17⟩) (by assumption) ?rq17
          case hq17 => (intro w hSw; go_simp; try with_reducible rfl)
          try dsimp only [Act.put, List.getElem_toArray, List.getElem_cons_zero, List.getElem_cons_succ]; try simp only [List.setIfInBounds_toArray, List.set_cons_zero, List.set_cons_succ]
          refine wpAnyH_take (i := 19) (oi := _) (v := ?vq18) rfl (by kernel_rfl) (by kernel_rfl) (by kernel_rfl) (fun _ _ _ h => h) (Or.inl ⟨by rfl, ?hq18⟩) (by assumption) ?rq18
          case hq18 => (intro w hSw; go_simp; try with_reducible rfl)
          try dsimp only [Act.put, List.getElem_toArray, List.getElem_cons_zero, List.getElem_cons_succ]; try simp only [List.setIfInBounds_toArray, List.set_cons_zero, List.set_cons_succ]
          refine wpAnyH_done (by kernel_rfl) ?_ _
          have hBX := HBX.out.step hb
          clear HBX hb
          obtain ⟨y0, y1, y2, y3⟩ := hBX.ys
          obtain ⟨x0, x1, x2⟩ := hBX.xs
          have HBX := Lib.hid hBX; clear hBX
          have E1 := Lib.hid e1; have E2 := Lib.hid e2; clear e1 e2
          go_wp2_with fail
          refine (HPU.out _ HBX.out.bel (by omega)).mono ?_
          rintro e w4 ⟨A4, n4, c4, E, rfl, hb4, hn4, hput⟩
          have hBX := HBX.out.step hb4
          clear HBX hb4 x0 x1 x2 y0 y1 y2 y3
          obtain ⟨x0, x1, x2⟩ := hBX.xs
          have HBX := Lib.hid hBX; clear hBX
          have HP := Lib.hid hput; clear hput
          go_wp2_with fail
          refine (HO.out _ HBX.out.bel (by omega) (by omega) (by omega)).mono ?_
          rintro e w5 ⟨rfl, hb5⟩
          have hBX := HBX.out.step hb5
          have HB5 := Lib.hid hb5
          clear HBX hb5 x0 x1 x2
          obtain ⟨x0, x1, x2⟩ := hBX.xs
          have HBX := Lib.hid hBX; clear hBX
          have HOF2 := Lib.hid (fun L h => HOF.out L h E1.out E2.out)
          clear HOF
          obtain ⟨o, ho⟩ : ∃ o, ofA l a b u = o := ⟨_, rfl⟩
          rw [ho] at HOF2 HRG ⊢
          clear ho
          obtain ⟨ho0, ho7⟩ := HRG.out
          have ho7d : decide (o ≤ 7) = true := by simpa using ho7
          go_wp2_with fail
          refine (of_any none 0 0 [] a b u _ Rd.nil rfl (by decide) (by omega) (by omega) (by omega)).mono ?_
          rintro e w6 ⟨rfl, hb6⟩
          rw [ofA_nil]
          have hBX := HBX.out.step hb6
          have HB6 := Lib.hid (then_ HB5.out hb6)
          clear HBX hb6 x0 x1 x2
          obtain ⟨x0, x1, x2⟩ := hBX.xs
          have HBX := Lib.hid hBX; clear hBX
          by_cases hE : E = 0
          · subst hE
            obtain ⟨L, hL, hRL, hgL⟩ := HP.out rfl
            have HL := Lib.hid hL; have HRL := Lib.hid hRL
            have HE := Lib.hid (HOF2.out L hgL)
            clear hL hRL hgL HP
            have hoo : (o == o) = true := by simp
            go_wp2_with fail
            refine (of_any A4 n4 c4 L a b u _ (HRL.out.below HB6.out) HL.out (by rw [HN.out] at hn4; unfold maxLen; omega) (by omega) (by omega) (by omega)).mono ?_
            rintro e w7 ⟨rfl, hb7⟩
            rw [HE.out]
            go_wp2_with fail
            refine (fin22 w _ (then_ HBX.out.bel hb7)).mono ?_
            rintro e w8 ⟨rfl, hb8⟩
            go_wp2
            go_ret
            exact ⟨rfl, hb8⟩
          · have hne : (E != 0) = true := by simpa using hE
            clear hE
            go_wp2_with fail
            refine (fin22 w _ HBX.out.bel).mono ?_
            rintro e w8 ⟨rfl, hb8⟩
            go_wp2
            go_ret
            exact ⟨rfl, hb8⟩
        exact AllReadyH.nil
      exact AllReadyH.nil
    · refine wp_region_held_drew (S := (fun W => W.cell? ⟨w.heap.size, 0, none⟩ = some (.string a) ∧ W.cell? ⟨w.heap.size, 1, none⟩ = some (.string b) ∧ W.cell? ⟨w.heap.size, 2, none⟩ = some (.string u) ∧ W.cell? ⟨w.heap.size + 1, 0, none⟩ = some (.string yk))) (by kernel_rfl) ⟨X0.out, X1.out, X2.out, Y0.out⟩ (fun hHeld => ?_)
      refine wpAnyH_take (i := 0) (oi := _) (v := ?vq19) rfl (by kernel_rfl) (by kernel_rfl) (by kernel_rfl) (fun _ _ _ h => h) (Or.inl ⟨by rfl, ?hq19⟩) (by assumption) ?rq19
      case hq19 => (intro w hSw; go_simp; try with_reducible rfl)
      try dsimp only [Act.put, List.getElem_toArray, List.getElem_cons_zero, List.getElem_cons_succ]; try simp only [List.setIfInBounds_toArray, List.set_cons_zero, List.set_cons_succ]
      refine wpAnyH_take (i := 1) (oi := _) (v := ?vq20) rfl (by kernel_rfl) (by kernel_rfl) (by kernel_rfl) (fun _ _ _ h => h) (Or.inl ⟨by rfl, ?hq20⟩) (by assumption) ?rq20
      case hq20 => (intro w hSw; go_simp; try with_reducible rfl)
      try dsimp only [Act.put, List.getElem_toArray, List.getElem_cons_zero, List.getElem_cons_succ]; try simp only [List.setIfInBounds_toArray, List.set_cons_zero, List.set_cons_succ]
      refine wpAnyH_take (i := 2) (oi := _) (v := ?vq21) rfl (by kernel_rfl) (by kernel_rfl) (by kernel_rfl) (fun _ _ _ h => h) (Or.inl ⟨by rfl, ?hq21⟩) (by assumption) ?rq21
      case hq21 => (intro w hSw; go_simp; try with_reducible rfl)
      try dsimp only [Act.put, List.getElem_toArray, List.getElem_cons_zero, List.getElem_cons_succ]; try simp only [List.setIfInBounds_toArray, List.set_cons_zero, List.set_cons_succ]
      refine wpAnyH_take (i := 3) (oi := _) (v := ?vq22) rfl (by kernel_rfl) (by kernel_rfl) (by kernel_rfl) (fun _ _ _ h => h) (Or.inl ⟨by rfl, ?hq22⟩) (by assumption) ?rq22
      case hq22 => (intro w hSw; go_simp; try with_reducible rfl)
      try dsimp only [Act.put, List.getElem_toArray, List.getElem_cons_zero, List.getElem_cons_succ]; try simp only [List.setIfInBounds_toArray, List.set_cons_zero, List.set_cons_succ]
      refine wpAnyH_take (i := 4) (oi := _) (v := ?vq23) rfl (by kernel_rfl) (by kernel_rfl) (by kernel_rfl) (fun _ _ _ h => h) (Or.inl ⟨by rfl, ?hq23⟩) (by assumption) ?rq23
      case hq23 => (intro w hSw; go_simp; try with_reducible rfl)
      try dsimp only [Act.put, List.getElem_toArray, List.getElem_cons_zero, List.getElem_cons_succ]; try simp only [List.setIfInBounds_toArray, List.set_cons_zero, List.set_cons_succ]
      refine wpAnyH_take (i := 5) (oi := _) (v := ?vq24) rfl (by kernel_rfl) (by kernel_rfl) (by kernel_rfl) (fun _ _ _ h => h) (Or.inl ⟨by rfl, ?hq24⟩) (by assumption) ?rq24
      case hq24 => (intro w hSw; go_simp; try with_reducible rfl)
      try dsimp only [Act.put, List.getElem_toArray, List.getElem_cons_zero, List.getElem_cons_succ]; try simp only [List.setIfInBounds_toArray, List.set_cons_zero, List.set_cons_succ]
      refine wpAnyH_take (i := 6) (oi := _) (v := ?vq25) rfl (by kernel_rfl) (by kernel_rfl) (by kernel_rfl) (fun _ _ _ h => h) (Or.inl ⟨by rfl, ?hq25⟩) (by assumption) ?rq25
      case hq25 => (intro w hSw; go_simp; try with_reducible rfl)
      try dsimp only [Act.put, List.getElem_toArray, List.getElem_cons_zero, List.getElem_cons_succ]; try simp only [List.setIfInBounds_toArray, List.set_cons_zero, List.set_cons_succ]
      refine wpAnyH_take (i := 7) (oi := _) (v := ?vq26) rfl (by kernel_rfl) (by kernel_rfl) (by kernel_rfl) (fun _ _ _ h => h) (Or.inl ⟨by rfl, ?hq26⟩) (by assumption) ?rq26
      case hq26 => (intro w hSw; go_simp; try with_reducible rfl)
      try dsimp only [Act.put, List.getElem_toArray, List.getElem_cons_zero, List.getElem_cons_succ]; try simp only [List.setIfInBounds_toArray, List.set_cons_zero, List.set_cons_succ]
      refine wpAnyH_ready (rs := [8]) (by kernel_rfl) (by simp) ?_
      refine AllReadyH.cons (o := _) rfl (fun K hK => ?_) ?_
      · rw [if_pos (by rfl)]
        go_simp
        refine (HK1.out _).mono ?_
        rintro e wx ⟨rfl, rfl⟩
        go_wp2_with fail
        refine hK.out _ _ ⟨cell_below hb X0.out, cell_below hb X1.out, cell_below hb X2.out, cell_below hb Y0.out⟩ (fun hHeld => ?_)
        clear hK K
        try dsimp only [Act.put, List.getElem_toArray, List.getElem_cons_zero, List.getElem_cons_succ]; try simp only [List.setIfInBounds_toArray, List.set_cons_zero, List.set_cons_succ]
        refine wpAnyH_take (i := 9) (oi := _) (v := ?vq27) rfl (by kernel_rfl) (by kernel_rfl) (by kernel_rfl) (fun _ _ _ h => h) (Or.inl ⟨by rfl, ?hq27⟩) (by assumption) ?rq27
        case hq27 => (intro w hSw; go_simp; try with_reducible rfl)
        try dsimp only [Act.put, List.getElem_toArray, List.getElem_cons_zero, List.getElem_cons_succ]; try simp only [List.setIfInBounds_toArray, List.set_cons_zero, List.set_cons_succ]
        refine wpAnyH_take (i := 10) (oi := _) (v := ?vq28) rfl (by kernel_rfl) (by kernel_rfl) (by kernel_rfl) (fun _ _ _ h => h) (Or.inl ⟨by rfl, ?hq28⟩) (by assumption) ?rq28
        case hq28 => (intro w hSw; go_simp; try with_reducible rfl)
        try dsimp only [Act.put, List.getElem_toArray, List.getElem_cons_zero, List.getElem_cons_succ]; try simp only [List.setIfInBounds_toArray, List.set_cons_zero, List.set_cons_succ]
        refine wpAnyH_take (i := 11) (oi := _) (v := ?vq29) rfl (by kernel_rfl) (by kernel_rfl) (by kernel_rfl) (fun _ _ _ h => h) (Or.inl ⟨by rfl, ?hq29⟩) (by assumption) ?rq29
        case hq29 => (intro w hSw; go_simp; try with_reducible rfl)
        try dsimp only [Act.put, List.getElem_toArray, List.getElem_cons_zero, List.getElem_cons_succ]; try simp only [List.setIfInBounds_toArray, List.set_cons_zero, List.set_cons_succ]
        refine wpAnyH_take (i := 12) (oi := _) (v := ?vq30) rfl (by kernel_rfl) (by kernel_rfl) (by kernel_rfl) (fun _ _ _ h => h) (Or.inl ⟨by rfl, ?hq30⟩) (by assumption) ?rq30
        case hq30 => (intro w hSw; go_simp; try with_reducible rfl)
        try dsimp only [Act.put, List.getElem_toArray, List.getElem_cons_zero, List.getElem_cons_succ]; try simp only [List.setIfInBounds_toArray, List.set_cons_zero, List.set_cons_succ]
        refine wpAnyH_take (i := 13) (oi := _) (v := ?vq31) rfl (by kernel_rfl) (by kernel_rfl) (by kernel_rfl) (fun _ _ _ h => h) (Or.inl ⟨by rfl, ?hq31⟩) (by assumption) ?rq31
        case hq31 => (intro w hSw; go_simp; try with_reducible rfl)
        try dsimp only [Act.put, List.getElem_toArray, List.getElem_cons_zero, List.getElem_cons_succ]; try simp only [List.setIfInBounds_toArray, List.set_cons_zero, List.set_cons_succ]
        refine wpAnyH_take (i := 14) (oi := _) (v := ?vq32) rfl (by kernel_rfl) (by kernel_rfl) (by kernel_rfl) (fun _ _ _ h => h) (Or.inl ⟨by rfl, ?hq32⟩) (by assumption) ?rq32
        case hq32 => (intro w hSw; go_simp; try with_reducible rfl)
        try dsimp only [Act.put, List.getElem_toArray, List.getElem_cons_zero, List.getElem_cons_succ]; try simp only [List.setIfInBounds_toArray, List.set_cons_zero, List.set_cons_succ]
        refine wpAnyH_take (i := 15) (oi := _) (v := ?vq33) rfl (by kernel_rfl) (by kernel_rfl) (by kernel_rfl) (fun _ _ _ h => h) (Or.inl ⟨by rfl, ?hq33⟩) (by assumption) ?rq33
        case hq33 => (intro w hSw; go_simp; try with_reducible rfl)
        try dsimp only [Act.put, List.getElem_toArray, List.getElem_cons_zero, List.getElem_cons_succ]; try simp only [List.setIfInBounds_toArray, List.set_cons_zero, List.set_cons_succ]
        refine wpAnyH_take (i := 16) (oi := _) (v := ?vq34) rfl (by kernel_rfl) (by kernel_rfl) (by kernel_rfl) (fun _ _ _ h => h) (Or.inl ⟨by rfl, ?hq34⟩) (by assumption) ?rq34
        case hq34 => (intro w hSw; go_simp; try with_reducible rfl)
        try dsimp only [Act.put, List.getElem_toArray, List.getElem_cons_zero, List.getElem_cons_succ]; try simp only [List.setIfInBounds_toArray, List.set_cons_zero, List.set_cons_succ]
        refine wpAnyH_ready (rs := [17]) (by kernel_rfl) (by simp) ?_
        refine AllReadyH.cons (o := _) rfl (fun K hK => ?_) ?_
        · rw [if_pos (by rfl)]
          go_simp
          refine (HK2.out _).mono ?_
          rintro e wx ⟨rfl, rfl⟩
          go_wp2_with fail
          refine hK.out _ _ ⟨cell_below hb X0.out, cell_below hb X1.out, cell_below hb X2.out, cell_below hb Y0.out⟩ (fun hHeld => ?_)
          clear hK K
          try dsimp only [Act.put, List.getElem_toArray, List.getElem_cons_zero, List.getElem_cons_succ]; try simp only [List.setIfInBounds_toArray, List.set_cons_zero, List.set_cons_succ]
          refine wpAnyH_take (i := 18) (oi := _) (v := ?vq35) rfl (by kernel_rfl) (by kernel_rfl) (by kernel_rfl) (fun _ _ _ h => h) (Or.inl ⟨by rfl, ?hq35⟩) (by assumption) ?rq35
          case hq35 => (intro w hSw; go_simp; try with_reducible rfl)
          try dsimp only [Act.put, List.getElem_toArray, List.getElem_cons_zero, List.getElem_cons_succ]; try simp only [List.setIfInBounds_toArray, List.set_cons_zero, List.set_cons_succ]
          refine wpAnyH_take (i := 19) (oi := _) (v := ?vq36) rfl (by kernel_rfl) (by kernel_rfl) (by kernel_rfl) (fun _ _ _ h => h) (Or.inl ⟨by rfl, ?hq36⟩) (by assumption) ?rq36
          case hq36 => (intro w hSw; go_simp; try with_reducible rfl)
          try dsimp only [Act.put, List.getElem_toArray, List.getElem_cons_zero, List.getElem_cons_succ]; try simp only [List.setIfInBounds_toArray, List.set_cons_zero, List.set_cons_succ]
          refine wpAnyH_done (by kernel_rfl) ?_ _
          go_wp2_with fail
          refine (fin22 w _ (then_ HBX.out.bel hb)).mono ?_
          rintro e w9 ⟨rfl, hb9⟩
          go_wp2
          go_ret
          exact ⟨rfl, hb9⟩
        exact AllReadyH.nil
      exact AllReadyH.nil
  · refine wp_region_held_drew (S := (fun W => W.cell? ⟨w.heap.size, 0, none⟩ = some (.string a) ∧ W.cell? ⟨w.heap.size, 1, none⟩ = some (.string b) ∧ W.cell? ⟨w.heap.size, 2, none⟩ = some (.string u) ∧ W.cell? ⟨w.heap.size + 1, 0, none⟩ = some (.string yk))) (by kernel_rfl) ⟨X0.out, X1.out, X2.out, Y0.out⟩ (fun hHeld => ?_)
    refine wpAnyH_take (i := 0) (oi := _) (v := ?vq37) rfl (by kernel_rfl) (by kernel_rfl) (by kernel_rfl) (fun _ _ _ h => h) (Or.inl ⟨by rfl, ?hq37⟩) (by assumption) ?rq37
    case hq37 => (intro w hSw; go_simp; try with_reducible rfl)
    try dsimp only [Act.put, List.getElem_toArray, List.getElem_cons_zero, List.getElem_cons_succ]; try simp only [List.setIfInBounds_toArray, List.set_cons_zero, List.set_cons_succ]
    refine wpAnyH_take (i := 1) (oi := _) (v := ?vq38) rfl (by kernel_rfl) (by kernel_rfl) (by kernel_rfl) (fun _ _ _ h => h) (Or.inl ⟨by rfl, ?hq38⟩) (by assumption) ?rq38
    case hq38 => (intro w hSw; go_simp; try with_reducible rfl)
    try dsimp only [Act.put, List.getElem_toArray, List.getElem_cons_zero, List.getElem_cons_succ]; try simp only [List.setIfInBounds_toArray, List.set_cons_zero, List.set_cons_succ]
    refine wpAnyH_take (i := 2) (oi := _) (v := ?vq39) rfl (by kernel_rfl) (by kernel_rfl) (by kernel_rfl) (fun _ _ _ h => h) (Or.inl ⟨by rfl, ?hq39⟩) (by assumption) ?rq39
    case hq39 => (intro w hSw; go_simp; try with_reducible rfl)
    try dsimp only [Act.put, List.getElem_toArray, List.getElem_cons_zero, List.getElem_cons_succ]; try simp only [List.setIfInBounds_toArray, List.set_cons_zero, List.set_cons_succ]
    refine wpAnyH_take (i := 3) (oi := _) (v := ?vq40) rfl (by kernel_rfl) (by kernel_rfl) (by kernel_rfl) (fun _ _ _ h => h) (Or.inl ⟨by rfl, ?hq40⟩) (by assumption) ?rq40
    case hq40 => (intro w hSw; go_simp; try with_reducible rfl)
    try dsimp only [Act.put, List.getElem_toArray, List.getElem_cons_zero, List.getElem_cons_succ]; try simp only [List.setIfInBounds_toArray, List.set_cons_zero, List.set_cons_succ]
    refine wpAnyH_take (i := 4) (oi := _) (v := ?vq41) rfl (by kernel_rfl) (by kernel_rfl) (by kernel_rfl) (fun _ _ _ h => h) (Or.inl ⟨by rfl, ?hq41⟩) (by assumption) ?rq41
    case hq41 => (intro w hSw; go_simp; try with_reducible rfl)
    try dsimp only [Act.put, List.getElem_toArray, List.getElem_cons_zero, List.getElem_cons_succ]; try simp only [List.setIfInBounds_toArray, List.set_cons_zero, List.set_cons_succ]
    refine wpAnyH_take (i := 5) (oi := _) (v := ?vq42) rfl (by kernel_rfl) (by kernel_rfl) (by kernel_rfl) (fun _ _ _ h => h) (Or.inl ⟨by rfl, ?hq42⟩) (by assumption) ?rq42
    case hq42 => (intro w hSw; go_simp; try with_reducible rfl)
    try dsimp only [Act.put, List.getElem_toArray, List.getElem_cons_zero, List.getElem_cons_succ]; try simp only [List.setIfInBounds_toArray, List.set_cons_zero, List.set_cons_succ]
    refine wpAnyH_take (i := 6) (oi := _) (v := ?vq43) rfl (by kernel_rfl) (by kernel_rfl) (by kernel_rfl) (fun _ _ _ h => h) (Or.inl ⟨by rfl, ?hq43⟩) (by assumption) ?rq43
    case hq43 => (intro w hSw; go_simp; try with_reducible rfl)
    try dsimp only [Act.put, List.getElem_toArray, List.getElem_cons_zero, List.getElem_cons_succ]; try simp only [List.setIfInBounds_toArray, List.set_cons_zero, List.set_cons_succ]
    refine wpAnyH_take (i := 7) (oi := _) (v := ?vq44) rfl (by kernel_rfl) (by kernel_rfl) (by kernel_rfl) (fun _ _ _ h => h) (Or.inl ⟨by rfl, ?hq44⟩) (by assumption) ?rq44
    case hq44 => (intro w hSw; go_simp; try with_reducible rfl)
    try dsimp only [Act.put, List.getElem_toArray, List.getElem_cons_zero, List.getElem_cons_succ]; try simp only [List.setIfInBounds_toArray, List.set_cons_zero, List.set_cons_succ]
    refine wpAnyH_ready (rs := [8]) (by kernel_rfl) (by simp) ?_
    refine AllReadyH.cons (o := _) rfl (fun K hK => ?_) ?_
    · rw [if_pos (by rfl)]
      go_simp
      refine (HK1.out _).mono ?_
      rintro e wx ⟨rfl, rfl⟩
      go_wp2_with fail
      refine hK.out _ _ ⟨cell_below hb X0.out, cell_below hb X1.out, cell_below hb X2.out, cell_below hb Y0.out⟩ (fun hHeld => ?_)
      clear hK K
      try dsimp only [Act.put, List.getElem_toArray, List.getElem_cons_zero, List.getElem_cons_succ]; try simp only [List.setIfInBounds_toArray, List.set_cons_zero, List.set_cons_succ]
      refine wpAnyH_take (i := 9) (oi := _) (v := ?vq45) rfl (by kernel_rfl) (by kernel_rfl) (by kernel_rfl) (fun _ _ _ h => h) (Or.inl ⟨by rfl, ?hq45⟩) (by assumption) ?rq45
      case hq45 => (intro w hSw; go_simp; try with_reducible rfl)
      try dsimp only [Act.put, List.getElem_toArray, List.getElem_cons_zero, List.getElem_cons_succ]; try simp only [List.setIfInBounds_toArray, List.set_cons_zero, List.set_cons_succ]
      refine wpAnyH_take (i := 10) (oi := _) (v := ?vq46) rfl (by kernel_rfl) (by kernel_rfl) (by kernel_rfl) (fun _ _ _ h => h) (Or.inl ⟨by rfl, ?hq46⟩) (by assumption) ?rq46
      case hq46 => (intro w hSw; go_simp; try with_reducible rfl)
      try dsimp only [Act.put, List.getElem_toArray, List.getElem_cons_zero, List.getElem_cons_succ]; try simp only [List.setIfInBounds_toArray, List.set_cons_zero, List.set_cons_succ]
      refine wpAnyH_take (i := 11) (oi := _) (v := undef) rfl (by kernel_rfl) (by kernel_rfl) (by kernel_rfl) (fun _ _ _ h => h) (Or.inr ⟨by rfl, rfl⟩) (by assumption) ?_
      try dsimp only [Act.put, List.getElem_toArray, List.getElem_cons_zero, List.getElem_cons_succ]; try simp only [List.setIfInBounds_toArray, List.set_cons_zero, List.set_cons_succ]
      refine wpAnyH_take (i := 12) (oi := _) (v := undef) rfl (by kernel_rfl) (by kernel_rfl) (by kernel_rfl) (fun _ _ _ h => h) (Or.inr ⟨by rfl, rfl⟩) (by assumption) ?_
      try dsimp only [Act.put, List.getElem_toArray, List.getElem_cons_zero, List.getElem_cons_succ]; try simp only [List.setIfInBounds_toArray, List.set_cons_zero, List.set_cons_succ]
      refine wpAnyH_take (i := 13) (oi := _) (v := undef) rfl (by kernel_rfl) (by kernel_rfl) (by kernel_rfl) (fun _ _ _ h => h) (Or.inr ⟨by rfl, rfl⟩) (by assumption) ?_
      try dsimp only [Act.put, List.getElem_toArray, List.getElem_cons_zero, List.getElem_cons_succ]; try simp only [List.setIfInBounds_toArray, List.set_cons_zero, List.set_cons_succ]
      refine wpAnyH_take (i := 14) (oi := _) (v := undef) rfl (by kernel_rfl) (by kernel_rfl) (by kernel_rfl) (fun _ _ _ h => h) (Or.inr ⟨by rfl, rfl⟩) (by assumption) ?_
      try dsimp only [Act.put, List.getElem_toArray, List.getElem_cons_zero, List.getElem_cons_succ]; try simp only [List.setIfInBounds_toArray, List.set_cons_zero, List.set_cons_succ]
      refine wpAnyH_take (i := 15) (oi := _) (v := undef) rfl (by kernel_rfl) (by kernel_rfl) (by kernel_rfl) (fun _ _ _ h => h) (Or.inr ⟨by rfl, rfl⟩) (by assumption) ?_
      try dsimp only [Act.put, List.getElem_toArray, List.getElem_cons_zero, List.getElem_cons_succ]; try simp only [List.setIfInBounds_toArray, List.set_cons_zero, List.set_cons_succ]
      refine wpAnyH_take (i := 16) (oi := _) (v := undef) rfl (by kernel_rfl) (by kernel_rfl) (by kernel_rfl) (fun _ _ _ h => h) (Or.inr ⟨by rfl, rfl⟩) (by assumption) ?_
      try dsimp only [Act.put, List.getElem_toArray, List.getElem_cons_zero, List.getElem_cons_succ]; try simp only [List.setIfInBounds_toArray, List.set_cons_zero, List.set_cons_succ]
      refine wpAnyH_take (i := 17) (oi := _) (v := undef) rfl (by kernel_rfl) (by kernel_rfl) (by kernel_rfl) (fun _ _ _ h => h) (Or.inr ⟨by rfl, rfl⟩) (by assumption) ?_
      try dsimp only [Act.put, List.getElem_toArray, List.getElem_cons_zero, List.getElem_cons_succ]; try simp only [List.setIfInBounds_toArray, List.set_cons_zero, List.set_cons_succ]
      refine wpAnyH_take (i := 18) (oi := _) (v := undef) rfl (by kernel_rfl) (by kernel_rfl) (by kernel_rfl) (fun _ _ _ h => h) (Or.inr ⟨by rfl, rfl⟩) (by assumption) ?_
      try dsimp only [Act.put, List.getElem_toArray, List.getElem_cons_zero, List.getElem_cons_succ]; try simp only [List.setIfInBounds_toArray, List.set_cons_zero, List.set_cons_succ]
      refine wpAnyH_take (i := 19) (oi := _) (v := ?vq55) rfl (by kernel_rfl) (by kernel_rfl) (by kernel_rfl) (fun _ _ _ h => h) (Or.inl ⟨by rfl, ?hq55⟩) (by assumption) ?rq55
      case hq55 => (intro w hSw; go_simp; try with_reducible rfl)
      try dsimp only [Act.put, List.getElem_toArray, List.getElem_cons_zero, List.getElem_cons_succ]; try simp only [List.setIfInBounds_toArray, List.set_cons_zero, List.set_cons_succ]
      refine wpAnyH_done (by kernel_rfl) ?_ _
      go_wp2_with fail
      refine (fin22 w _ (then_ HBX.out.bel hb)).mono ?_
      rintro e w9 ⟨rfl, hb9⟩
      go_wp2
      go_ret
      exact ⟨rfl, hb9⟩
    exact AllReadyH.nil
end Go.Proofs.Ytlmplibdfhamjaa
