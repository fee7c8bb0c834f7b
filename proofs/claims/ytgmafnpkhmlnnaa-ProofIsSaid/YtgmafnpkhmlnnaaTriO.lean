/- Unlike and Prove by the document's levels; the leaves of a bucket: the code's; the hashes are those. -/
import Derived.Test.YtgmafnpkhmlnnaaTriN
import Derived.Test.YtgmafnpkhmlnnaaInts
import Derived.AtR
attribute [local go_sem ↓] Go.wp_at_zero Go.wp_at_succ
namespace Go.Proofs.Ytgmafnpkhmlnnaa
open Go.RowKit Go.Mem Go.Num Go.Tri
set_option linter.unusedVariables false
set_option linter.unusedSimpArgs false

theorem below_grown {W W' : World} (h : W.grownBy W' none) : Below W.heap.size W W' := ⟨h.os, h.tape, h.output, h.size, fun i hi => h.block i hi (by simp)⟩
theorem own_one (w : World) (v : Value) (e : TypeId) : (w.alloc (.cells #[v] e)).ownsRow w.heap.size e 1 (.slice (some ⟨w.heap.size, 0, none⟩) 1 1) 1 [v] :=
  ⟨by simp, .inr ⟨w.heap.size, 1, #[v], rfl, Nat.le_refl _, heap_alloc_new w _, Nat.le_refl _, by decide, rfl, by simp⟩⟩
theorem lev_at (l : List Leaf) {L i : Nat} (h : i < 2 ^ L) : (levV l L)[i]? = some (.string (nodeL l (6 - L) i)) := by
  unfold levV; rw [List.getElem?_map]; unfold levL; rw [levK_at l L h]; rfl
/-- the levels by value in a block: a hash of theirs -/
theorem ag_at {W : World} {base g : Nat} {cs : Array Value} {l : List Leaf} {t : TypeId} (h : AgS W base 9 7 cs levN (levV l)) (hg : W.heap[g]? = some (.cells cs t (0, 0))) {L i : Nat} (hL : L < 7) (hi : i < 2 ^ L) :
    ∃ b off c, W.cell? ⟨g, L, none⟩ = some (.slice (some ⟨b, off, none⟩) (2 ^ L) c) ∧ W.cell? ⟨b, off + i, none⟩ = some (.string (nodeL l (6 - L) i)) := by
  obtain ⟨h1, vs, h2, h3⟩ := h
  obtain ⟨A, c, he⟩ := own_form (h3 L hL)
  have ho := h3 L hL
  rw [he] at ho
  obtain ⟨b, off, rfl, hc⟩ := Rd.of_own ho i _ (lev_at l hi)
  refine ⟨b, off, c, ?_, hc⟩
  rw [cell_of_row _ _ _ _ _ _ hg, h2 L hL, he]; rfl
theorem two_lt {L : Nat} (h : L < 7) : 1 ≤ 2 ^ L ∧ 2 ^ L ≤ 64 := ⟨Nat.one_le_two_pow, by
  have : 2 ^ L ≤ 2 ^ 6 := Nat.pow_le_pow_right (by decide) (by omega)
  simpa using this⟩
theorem ints_one (l : List Int) : ∀ u ∈ ints l, u.oneCell' = true := fun u hu => by
  obtain ⟨z, _, rfl⟩ := List.mem_map.1 hu; rfl
theorem ints_len (l : List Int) : (ints l).length = l.length := by simp [ints]
theorem ints_app (l m : List Int) : ints (l ++ m) = ints l ++ ints m := by simp [ints]
theorem two_blocks (w : World) (va vb : Array Value) (t : TypeId) :
    ((w.alloc (.cells va t)).alloc (.cells vb t)).heap[w.heap.size]? = some (.cells va t (0, 0)) ∧ ((w.alloc (.cells va t)).alloc (.cells vb t)).heap[w.heap.size + 1]? = some (.cells vb t (0, 0)) ∧
    Below w.heap.size w ((w.alloc (.cells va t)).alloc (.cells vb t)) := by
  have b2 := ((Below.refl w.heap.size w).alloc (Nat.le_refl _) (.cells va t)).alloc (by simp) (.cells vb t)
  refine ⟨?_, ?_, b2⟩
  · exact ((Below.refl (w.heap.size + 1) (w.alloc (.cells va t))).alloc (by simp) (.cells vb t)).block w.heap.size (by omega) |>.trans (heap_alloc_new w _)
  · have := heap_alloc_new (w.alloc (.cells va t)) (.cells vb t); simpa using this
def UnR (la lb : List Leaf) (h i : Nat) (w : World) (e : Ending) (w' : World) : Prop := ∃ v, e = .returned (.tuple #[v, .int .i64 ((unH (nodeL la) (nodeL lb) h i).2 : Nat)]) ∧ w'.ownsRow w.heap.size 3 1 v (unH (nodeL la) (nodeL lb) h i).1.length (ints (unH (nodeL la) (nodeL lb) h i).1) ∧ Below w.heap.size w w'
theorem unH_same2 {x y : Nat → Nat → ByteArray} {h i : Nat} (e : x h i = y h i) : unH x y h i = ([], 1) := by cases h <;> (unfold unH; rw [if_pos e])
set_option maxRecDepth 100000 in
set_option maxHeartbeats 8000000 in
theorem rrun_any (la lb : List Leaf) (base bas2 : Nat) (va vb : Array Value) : ∀ (h lv i : Nat) (w : World), lv + h = 6 → i < 2 ^ lv → AgS w base 9 7 va levN (levV la) → AgS w bas2 9 7 vb levN (levV lb) →
    Calls Try.prog 58 #[.agg va, .agg vb, .int .i64 (lv : Int), .int .i64 (i : Int)] w (UnR la lb h i w) := by
  intro h
  induction h with
  | zero =>
    intro lv i w hlv hi hva hvb
    have hl7 : lv < 7 := by omega
    have HI := Lib.hid (show (Try.prog.info? 44).map (·.size) = some va.size by rw [hva.1]; kernel_rfl)
    have HI2 := Lib.hid (show (Try.prog.info? 44).map (·.size) = some vb.size by rw [hvb.1]; kernel_rfl)
    obtain ⟨hg1, hg2, hb2⟩ := two_blocks w va vb 44
    obtain ⟨b1, o1, c1, hc1, hd1⟩ := ag_at (hva.below hb2) hg1 hl7 hi
    obtain ⟨b2, o2, c2, hc2, hd2⟩ := ag_at (hvb.below hb2) hg2 hl7 hi
    rw [show 6 - lv = 0 by omega] at hd1 hd2
    have hp2 := two_lt hl7
    have HVA := Lib.hid (hva.below hb2); have HVB := Lib.hid (hvb.below hb2); have HB2 := Lib.hid hb2; have HG1 := Lib.hid hg1; have HG2 := Lib.hid hg2
    have HNA := Lib.hid (show nodeL la 0 i = nodeL la 0 i from rfl)
    have HUS := Lib.hid (fun e => unH_same2 (x := nodeL la) (y := nodeL lb) (h := 0) (i := i) e)
    have HUC := Lib.hid (show ¬ nodeL la 0 i = nodeL lb 0 i → unH (nodeL la) (nodeL lb) 0 i = ([(i : Int)], 1) from fun e => by unfold unH; rw [if_neg e])
    generalize hxx : nodeL la 0 i = x at hd1 HUS HUC
    generalize hyy : nodeL lb 0 i = y at hd2 HUS HUC
    have HXX := Lib.hid hxx; have HYY := Lib.hid hyy
    have HI2L := Lib.hid hi; have HLV := Lib.hid hlv
    generalize 2 ^ lv = q at hi hp2 hc1 hc2
    have hi0 : (i : Int) < (q : Int) := by omega
    have hlv7 : (lv : Int) < 7 := by omega
    clear hva hvb hg1 hg2 hb2 hi hlv hxx hyy HNA
    go_enter Try.func58, Try.ntmps58
    go_wp2_with fail
    generalize (w.alloc (.cells va 44)).alloc (.cells vb 44) = W2 at hc1 hc2 hd1 hd2 HVA HVB HB2 HG1 HG2 ⊢
    by_cases hxy : x = y
    · subst hxy
      have hxb : (x.toList == x.toList) = true := by simp
      refine wp_region_held_drew (S := (fun W => W.cell? ⟨w.heap.size, lv, none⟩ = some (.slice (some ⟨b1, o1, none⟩) q c1) ∧ W.cell? ⟨b1, o1 + i, none⟩ = some (.string x) ∧ W.cell? ⟨w.heap.size + 1, lv, none⟩ = some (.slice (some ⟨b2, o2, none⟩) q c2) ∧ W.cell? ⟨b2, o2 + i, none⟩ = some (.string x))) (by kernel_rfl) ⟨hc1, hd1, hc2, hd2⟩ (fun hHeld => ?_)
      refine wpAnyH_take (i := 0) (oi := _) (v := ?vq1) rfl (by kernel_rfl) (by kernel_rfl) (by kernel_rfl) (fun _ _ _ h => h) (Or.inl ⟨by rfl, ?hq1⟩) (by assumption) ?rq1
      case hq1 => (intro w hSw; go_simp; try with_reducible rfl)
      try dsimp only [Act.put, List.getElem_toArray, List.getElem_cons_zero, List.getElem_cons_succ]; try simp only [List.setIfInBounds_toArray, List.set_cons_zero, List.set_cons_succ]
      refine wpAnyH_take (i := 1) (oi := _) (v := ?vq2) rfl (by kernel_rfl) (by kernel_rfl) (by kernel_rfl) (fun _ _ _ h => h) (Or.inl ⟨by rfl, ?hq2⟩) (by assumption) ?rq2
      case hq2 => (intro w hSw; go_simp; try with_reducible rfl)
      try dsimp only [Act.put, List.getElem_toArray, List.getElem_cons_zero, List.getElem_cons_succ]; try simp only [List.setIfInBounds_toArray, List.set_cons_zero, List.set_cons_succ]
      refine wpAnyH_take (i := 2) (oi := _) (v := ?vq3) rfl (by kernel_rfl) (by kernel_rfl) (by kernel_rfl) (fun _ _ _ h => h) (Or.inl ⟨by rfl, ?hq3⟩) (by assumption) ?rq3
      case hq3 => (intro w hSw; go_simp; try with_reducible rfl)
      try dsimp only [Act.put, List.getElem_toArray, List.getElem_cons_zero, List.getElem_cons_succ]; try simp only [List.setIfInBounds_toArray, List.set_cons_zero, List.set_cons_succ]
      refine wpAnyH_take (i := 3) (oi := _) (v := ?vq4) rfl (by kernel_rfl) (by kernel_rfl) (by kernel_rfl) (fun _ _ _ h => h) (Or.inl ⟨by rfl, ?hq4⟩) (by assumption) ?rq4
      case hq4 => (intro w hSw; go_simp; try with_reducible rfl)
      try dsimp only [Act.put, List.getElem_toArray, List.getElem_cons_zero, List.getElem_cons_succ]; try simp only [List.setIfInBounds_toArray, List.set_cons_zero, List.set_cons_succ]
      refine wpAnyH_take (i := 4) (oi := _) (v := ?vq5) rfl (by kernel_rfl) (by kernel_rfl) (by kernel_rfl) (fun _ _ _ h => h) (Or.inl ⟨by rfl, ?hq5⟩) (by assumption) ?rq5
      case hq5 => (intro w hSw; go_simp; try with_reducible rfl)
      try dsimp only [Act.put, List.getElem_toArray, List.getElem_cons_zero, List.getElem_cons_succ]; try simp only [List.setIfInBounds_toArray, List.set_cons_zero, List.set_cons_succ]
      refine wpAnyH_take (i := 5) (oi := _) (v := ?vq6) rfl (by kernel_rfl) (by kernel_rfl) (by kernel_rfl) (fun _ _ _ h => h) (Or.inl ⟨by rfl, ?hq6⟩) (by assumption) ?rq6
      case hq6 => (intro w hSw; go_simp; try with_reducible rfl)
      try dsimp only [Act.put, List.getElem_toArray, List.getElem_cons_zero, List.getElem_cons_succ]; try simp only [List.setIfInBounds_toArray, List.set_cons_zero, List.set_cons_succ]
      refine wpAnyH_take (i := 6) (oi := _) (v := ?vq7) rfl (by kernel_rfl) (by kernel_rfl) (by kernel_rfl) (fun _ _ _ h => h) (Or.inl ⟨by rfl, ?hq7⟩) (by assumption) ?rq7
      case hq7 => (intro w hSw; go_simp; try with_reducible rfl)
      try dsimp only [Act.put, List.getElem_toArray, List.getElem_cons_zero, List.getElem_cons_succ]; try simp only [List.setIfInBounds_toArray, List.set_cons_zero, List.set_cons_succ]
      refine wpAnyH_take (i := 7) (oi := _) (v := ?vq8) rfl (by kernel_rfl) (by kernel_rfl) (by kernel_rfl) (fun _ _ _ h => h) (Or.inl ⟨by rfl, ?hq8⟩) (by assumption) ?rq8
      case hq8 => (intro w hSw; go_simp; try with_reducible rfl)
      try dsimp only [Act.put, List.getElem_toArray, List.getElem_cons_zero, List.getElem_cons_succ]; try simp only [List.setIfInBounds_toArray, List.set_cons_zero, List.set_cons_succ]
      refine wpAnyH_take (i := 8) (oi := _) (v := ?vq9) rfl (by kernel_rfl) (by kernel_rfl) (by kernel_rfl) (fun _ _ _ h => h) (Or.inl ⟨by rfl, ?hq9⟩) (by assumption) ?rq9
      case hq9 => (intro w hSw; go_simp; try with_reducible rfl)
      try dsimp only [Act.put, List.getElem_toArray, List.getElem_cons_zero, List.getElem_cons_succ]; try simp only [List.setIfInBounds_toArray, List.set_cons_zero, List.set_cons_succ]
      refine wpAnyH_take (i := 9) (oi := _) (v := ?vq10) rfl (by kernel_rfl) (by kernel_rfl) (by kernel_rfl) (fun _ _ _ h => h) (Or.inl ⟨by rfl, ?hq10⟩) (by assumption) ?rq10
      case hq10 => (intro w hSw; go_simp; try with_reducible rfl)
      try dsimp only [Act.put, List.getElem_toArray, List.getElem_cons_zero, List.getElem_cons_succ]; try simp only [List.setIfInBounds_toArray, List.set_cons_zero, List.set_cons_succ]
      refine wpAnyH_take (i := 10) (oi := _) (v := ?vq11) rfl (by kernel_rfl) (by kernel_rfl) (by kernel_rfl) (fun _ _ _ h => h) (Or.inl ⟨by rfl, ?hq11⟩) (by assumption) ?rq11
      case hq11 => (intro w hSw; go_simp; try with_reducible rfl)
      try dsimp only [Act.put, List.getElem_toArray, List.getElem_cons_zero, List.getElem_cons_succ]; try simp only [List.setIfInBounds_toArray, List.set_cons_zero, List.set_cons_succ]
      refine wpAnyH_take (i := 11) (oi := _) (v := ?vq12) rfl (by kernel_rfl) (by kernel_rfl) (by kernel_rfl) (fun _ _ _ h => h) (Or.inl ⟨by rfl, ?hq12⟩) (by assumption) ?rq12
      case hq12 => (intro w hSw; go_simp; try with_reducible rfl)
      try dsimp only [Act.put, List.getElem_toArray, List.getElem_cons_zero, List.getElem_cons_succ]; try simp only [List.setIfInBounds_toArray, List.set_cons_zero, List.set_cons_succ]
      refine wpAnyH_take (i := 12) (oi := _) (v := ?vq13) rfl (by kernel_rfl) (by kernel_rfl) (by kernel_rfl) (fun _ _ _ h => h) (Or.inl ⟨by rfl, ?hq13⟩) (by assumption) ?rq13
      case hq13 => (intro w hSw; go_simp; try with_reducible rfl)
      try dsimp only [Act.put, List.getElem_toArray, List.getElem_cons_zero, List.getElem_cons_succ]; try simp only [List.setIfInBounds_toArray, List.set_cons_zero, List.set_cons_succ]
      refine wpAnyH_done (by kernel_rfl) ?_ _
      have HU := Lib.hid (HUS.out rfl)
      have HFIN : Hid (UnR la lb 0 i w (.returned (.tuple #[.slice none 0 0, .int .i64 1])) W2.drew) := Lib.hid (by unfold UnR; rw [HU.out]; exact ⟨_, rfl, World.ownsRow_nil _ _ _ _, HB2.out.drew⟩)
      clear HUS HUC HU hc1 hc2 hd1 hd2
      go_wp2
      go_ret2
      exact HFIN.out
    · have hxb : (x.toList == y.toList) = false := by rw [str_beq]; simp [hxy]
      have HU := Lib.hid (HUC.out hxy)
      have hl6 : ((lv : Int) == 6) = true := by have := HLV.out; simp; omega
      clear hxy HUS HUC
      refine wp_region_held_drew (S := (fun W => W.cell? ⟨w.heap.size, lv, none⟩ = some (.slice (some ⟨b1, o1, none⟩) q c1) ∧ W.cell? ⟨b1, o1 + i, none⟩ = some (.string x) ∧ W.cell? ⟨w.heap.size + 1, lv, none⟩ = some (.slice (some ⟨b2, o2, none⟩) q c2) ∧ W.cell? ⟨b2, o2 + i, none⟩ = some (.string y))) (by kernel_rfl) ⟨hc1, hd1, hc2, hd2⟩ (fun hHeld => ?_)
      refine wpAnyH_take (i := 0) (oi := _) (v := ?vq14) rfl (by kernel_rfl) (by kernel_rfl) (by kernel_rfl) (fun _ _ _ h => h) (Or.inl ⟨by rfl, ?hq14⟩) (by assumption) ?rq14
      case hq14 => (intro w hSw; go_simp; try with_reducible rfl)
      try dsimp only [Act.put, List.getElem_toArray, List.getElem_cons_zero, List.getElem_cons_succ]; try simp only [List.setIfInBounds_toArray, List.set_cons_zero, List.set_cons_succ]
      refine wpAnyH_take (i := 1) (oi := _) (v := ?vq15) rfl (by kernel_rfl) (by kernel_rfl) (by kernel_rfl) (fun _ _ _ h => h) (Or.inl ⟨by rfl, ?hq15⟩) (by assumption) ?rq15
      case hq15 => (intro w hSw; go_simp; try with_reducible rfl)
      try dsimp only [Act.put, List.getElem_toArray, List.getElem_cons_zero, List.getElem_cons_succ]; try simp only [List.setIfInBounds_toArray, List.set_cons_zero, List.set_cons_succ]
      refine wpAnyH_take (i := 2) (oi := _) (v := ?vq16) rfl (by kernel_rfl) (by kernel_rfl) (by kernel_rfl) (fun _ _ _ h => h) (Or.inl ⟨by rfl, ?hq16⟩) (by assumption) ?rq16
      case hq16 => (intro w hSw; go_simp; try with_reducible rfl)
      try dsimp only [Act.put, List.getElem_toArray, List.getElem_cons_zero, List.getElem_cons_succ]; try simp only [List.setIfInBounds_toArray, List.set_cons_zero, List.set_cons_succ]
      refine wpAnyH_take (i := 3) (oi := _) (v := ?vq17) rfl (by kernel_rfl) (by kernel_rfl) (by kernel_rfl) (fun _ _ _ h => h) (Or.inl ⟨by rfl, ?hq17⟩) (by assumption) ?rq17
      case hq17 => (intro w hSw; go_simp; try with_reducible rfl)
      try dsimp only [Act.put, List.getElem_toArray, List.getElem_cons_zero, List.getElem_cons_succ]; try simp only [List.setIfInBounds_toArray, List.set_cons_zero, List.set_cons_succ]
      refine wpAnyH_take (i := 4) (oi := _) (v := ?vq18) rfl (by kernel_rfl) (by kernel_rfl) (by kernel_rfl) (fun _ _ _ h => h) (Or.inl ⟨by rfl, ?hq18⟩) (by assumption) ?rq18
      case hq18 => (intro w hSw; go_simp; try with_reducible rfl)
      try dsimp only [Act.put, List.getElem_toArray, List.getElem_cons_zero, List.getElem_cons_succ]; try simp only [List.setIfInBounds_toArray, List.set_cons_zero, List.set_cons_succ]
      refine wpAnyH_take (i := 5) (oi := _) (v := ?vq19) rfl (by kernel_rfl) (by kernel_rfl) (by kernel_rfl) (fun _ _ _ h => h) (Or.inl ⟨by rfl, ?hq19⟩) (by assumption) ?rq19
      case hq19 => (intro w hSw; go_simp; try with_reducible rfl)
      try dsimp only [Act.put, List.getElem_toArray, List.getElem_cons_zero, List.getElem_cons_succ]; try simp only [List.setIfInBounds_toArray, List.set_cons_zero, List.set_cons_succ]
      refine wpAnyH_take (i := 6) (oi := _) (v := ?vq20) rfl (by kernel_rfl) (by kernel_rfl) (by kernel_rfl) (fun _ _ _ h => h) (Or.inl ⟨by rfl, ?hq20⟩) (by assumption) ?rq20
      case hq20 => (intro w hSw; go_simp; try with_reducible rfl)
      try dsimp only [Act.put, List.getElem_toArray, List.getElem_cons_zero, List.getElem_cons_succ]; try simp only [List.setIfInBounds_toArray, List.set_cons_zero, List.set_cons_succ]
      refine wpAnyH_take (i := 7) (oi := _) (v := ?vq21) rfl (by kernel_rfl) (by kernel_rfl) (by kernel_rfl) (fun _ _ _ h => h) (Or.inl ⟨by rfl, ?hq21⟩) (by assumption) ?rq21
      case hq21 => (intro w hSw; go_simp; try with_reducible rfl)
      try dsimp only [Act.put, List.getElem_toArray, List.getElem_cons_zero, List.getElem_cons_succ]; try simp only [List.setIfInBounds_toArray, List.set_cons_zero, List.set_cons_succ]
      refine wpAnyH_take (i := 8) (oi := _) (v := ?vq22) rfl (by kernel_rfl) (by kernel_rfl) (by kernel_rfl) (fun _ _ _ h => h) (Or.inl ⟨by rfl, ?hq22⟩) (by assumption) ?rq22
      case hq22 => (intro w hSw; go_simp; try with_reducible rfl)
      try dsimp only [Act.put, List.getElem_toArray, List.getElem_cons_zero, List.getElem_cons_succ]; try simp only [List.setIfInBounds_toArray, List.set_cons_zero, List.set_cons_succ]
      refine wpAnyH_take (i := 9) (oi := _) (v := ?vq23) rfl (by kernel_rfl) (by kernel_rfl) (by kernel_rfl) (fun _ _ _ h => h) (Or.inl ⟨by rfl, ?hq23⟩) (by assumption) ?rq23
      case hq23 => (intro w hSw; go_simp; try with_reducible rfl)
      try dsimp only [Act.put, List.getElem_toArray, List.getElem_cons_zero, List.getElem_cons_succ]; try simp only [List.setIfInBounds_toArray, List.set_cons_zero, List.set_cons_succ]
      refine wpAnyH_take (i := 10) (oi := _) (v := ?vq24) rfl (by kernel_rfl) (by kernel_rfl) (by kernel_rfl) (fun _ _ _ h => h) (Or.inl ⟨by rfl, ?hq24⟩) (by assumption) ?rq24
      case hq24 => (intro w hSw; go_simp; try with_reducible rfl)
      try dsimp only [Act.put, List.getElem_toArray, List.getElem_cons_zero, List.getElem_cons_succ]; try simp only [List.setIfInBounds_toArray, List.set_cons_zero, List.set_cons_succ]
      refine wpAnyH_take (i := 11) (oi := _) (v := ?vq25) rfl (by kernel_rfl) (by kernel_rfl) (by kernel_rfl) (fun _ _ _ h => h) (Or.inl ⟨by rfl, ?hq25⟩) (by assumption) ?rq25
      case hq25 => (intro w hSw; go_simp; try with_reducible rfl)
      try dsimp only [Act.put, List.getElem_toArray, List.getElem_cons_zero, List.getElem_cons_succ]; try simp only [List.setIfInBounds_toArray, List.set_cons_zero, List.set_cons_succ]
      refine wpAnyH_take (i := 12) (oi := _) (v := ?vq26) rfl (by kernel_rfl) (by kernel_rfl) (by kernel_rfl) (fun _ _ _ h => h) (Or.inl ⟨by rfl, ?hq26⟩) (by assumption) ?rq26
      case hq26 => (intro w hSw; go_simp; try with_reducible rfl)
      try dsimp only [Act.put, List.getElem_toArray, List.getElem_cons_zero, List.getElem_cons_succ]; try simp only [List.setIfInBounds_toArray, List.set_cons_zero, List.set_cons_succ]
      refine wpAnyH_done (by kernel_rfl) ?_ _
      have HFIN : Hid (UnR la lb 0 i w (.returned (.tuple #[.slice (some ⟨W2.heap.size, 0, none⟩) 1 1, .int .i64 1])) (W2.alloc (.cells #[.int .i64 (i : Int)] 3)).drew) := Lib.hid (by unfold UnR; rw [HU.out]; exact ⟨_, rfl, own_mono (own_one W2 (.int .i64 (i : Int)) 3) HB2.out.size, (HB2.out.alloc HB2.out.size (.cells #[.int .i64 (i : Int)] 3)).drew⟩)
      clear hc1 hc2 hd1 hd2
      go_wp2_with fail
      go_ret2
      exact HFIN.out
  | succ h ih =>
    have HIH := Lib.hid ih; clear ih
    intro lv i w hlv hi hva hvb
    have HAR := Lib.hid (show (2 * i < 2 ^ (lv + 1) ∧ 2 * i + 1 < 2 ^ (lv + 1)) by rw [Nat.pow_succ]; omega)
    have hl7 : lv < 7 := by omega
    have HI := Lib.hid (show (Try.prog.info? 44).map (·.size) = some va.size by rw [hva.1]; kernel_rfl)
    have HI2 := Lib.hid (show (Try.prog.info? 44).map (·.size) = some vb.size by rw [hvb.1]; kernel_rfl)
    obtain ⟨hg1, hg2, hb2⟩ := two_blocks w va vb 44
    obtain ⟨b1, o1, c1, hc1, hd1⟩ := ag_at (hva.below hb2) hg1 hl7 hi
    obtain ⟨b2, o2, c2, hc2, hd2⟩ := ag_at (hvb.below hb2) hg2 hl7 hi
    rw [show 6 - lv = (h + 1) by omega] at hd1 hd2
    have hp2 := two_lt hl7
    have HVA := Lib.hid (hva.below hb2); have HVB := Lib.hid (hvb.below hb2); have HB2 := Lib.hid hb2; have HG1 := Lib.hid hg1; have HG2 := Lib.hid hg2
    have HNA := Lib.hid (show nodeL la (h + 1) i = nodeL la (h + 1) i from rfl)
    have HUS := Lib.hid (fun e => unH_same2 (x := nodeL la) (y := nodeL lb) (h := (h + 1)) (i := i) e)
    have HUC := Lib.hid (show ¬ nodeL la (h + 1) i = nodeL lb (h + 1) i → unH (nodeL la) (nodeL lb) (h + 1) i = ((unH (nodeL la) (nodeL lb) h (2 * i)).1 ++ (unH (nodeL la) (nodeL lb) h (2 * i + 1)).1, (unH (nodeL la) (nodeL lb) h (2 * i)).2 + (unH (nodeL la) (nodeL lb) h (2 * i + 1)).2 + 1) from fun e => by rw [show unH (nodeL la) (nodeL lb) (h + 1) i = if nodeL la (h + 1) i = nodeL lb (h + 1) i then _ else _ from rfl, if_neg e])
    generalize hxx : nodeL la (h + 1) i = x at hd1 HUS HUC
    generalize hyy : nodeL lb (h + 1) i = y at hd2 HUS HUC
    have HXX := Lib.hid hxx; have HYY := Lib.hid hyy
    have HI2L := Lib.hid hi; have HLV := Lib.hid hlv
    generalize 2 ^ lv = q at hi hp2 hc1 hc2
    have hi0 : (i : Int) < (q : Int) := by omega
    have hlv7 : (lv : Int) < 7 := by omega
    clear hva hvb hg1 hg2 hb2 hi hlv hxx hyy HNA
    go_enter Try.func58, Try.ntmps58
    go_wp2_with fail
    generalize (w.alloc (.cells va 44)).alloc (.cells vb 44) = W2 at hc1 hc2 hd1 hd2 HVA HVB HB2 HG1 HG2 ⊢
    by_cases hxy : x = y
    · subst hxy
      have hxb : (x.toList == x.toList) = true := by simp
      refine wp_region_held_drew (S := (fun W => W.cell? ⟨w.heap.size, lv, none⟩ = some (.slice (some ⟨b1, o1, none⟩) q c1) ∧ W.cell? ⟨b1, o1 + i, none⟩ = some (.string x) ∧ W.cell? ⟨w.heap.size + 1, lv, none⟩ = some (.slice (some ⟨b2, o2, none⟩) q c2) ∧ W.cell? ⟨b2, o2 + i, none⟩ = some (.string x))) (by kernel_rfl) ⟨hc1, hd1, hc2, hd2⟩ (fun hHeld => ?_)
      refine wpAnyH_take (i := 0) (oi := _) (v := ?vq27) rfl (by kernel_rfl) (by kernel_rfl) (by kernel_rfl) (fun _ _ _ h => h) (Or.inl ⟨by rfl, ?hq27⟩) (by assumption) ?rq27
      case hq27 => (intro w hSw; go_simp; try with_reducible rfl)
      try dsimp only [Act.put, List.getElem_toArray, List.getElem_cons_zero, List.getElem_cons_succ]; try simp only [List.setIfInBounds_toArray, List.set_cons_zero, List.set_cons_succ]
      refine wpAnyH_take (i := 1) (oi := _) (v := ?vq28) rfl (by kernel_rfl) (by kernel_rfl) (by kernel_rfl) (fun _ _ _ h => h) (Or.inl ⟨by rfl, ?hq28⟩) (by assumption) ?rq28
      case hq28 => (intro w hSw; go_simp; try with_reducible rfl)
      try dsimp only [Act.put, List.getElem_toArray, List.getElem_cons_zero, List.getElem_cons_succ]; try simp only [List.setIfInBounds_toArray, List.set_cons_zero, List.set_cons_succ]
      refine wpAnyH_take (i := 2) (oi := _) (v := ?vq29) rfl (by kernel_rfl) (by kernel_rfl) (by kernel_rfl) (fun _ _ _ h => h) (Or.inl ⟨by rfl, ?hq29⟩) (by assumption) ?rq29
      case hq29 => (intro w hSw; go_simp; try with_reducible rfl)
      try dsimp only [Act.put, List.getElem_toArray, List.getElem_cons_zero, List.getElem_cons_succ]; try simp only [List.setIfInBounds_toArray, List.set_cons_zero, List.set_cons_succ]
      refine wpAnyH_take (i := 3) (oi := _) (v := ?vq30) rfl (by kernel_rfl) (by kernel_rfl) (by kernel_rfl) (fun _ _ _ h => h) (Or.inl ⟨by rfl, ?hq30⟩) (by assumption) ?rq30
      case hq30 => (intro w hSw; go_simp; try with_reducible rfl)
      try dsimp only [Act.put, List.getElem_toArray, List.getElem_cons_zero, List.getElem_cons_succ]; try simp only [List.setIfInBounds_toArray, List.set_cons_zero, List.set_cons_succ]
      refine wpAnyH_take (i := 4) (oi := _) (v := ?vq31) rfl (by kernel_rfl) (by kernel_rfl) (by kernel_rfl) (fun _ _ _ h => h) (Or.inl ⟨by rfl, ?hq31⟩) (by assumption) ?rq31
      case hq31 => (intro w hSw; go_simp; try with_reducible rfl)
      try dsimp only [Act.put, List.getElem_toArray, List.getElem_cons_zero, List.getElem_cons_succ]; try simp only [List.setIfInBounds_toArray, List.set_cons_zero, List.set_cons_succ]
      refine wpAnyH_take (i := 5) (oi := _) (v := ?vq32) rfl (by kernel_rfl) (by kernel_rfl) (by kernel_rfl) (fun _ _ _ h => h) (Or.inl ⟨by rfl, ?hq32⟩) (by assumption) ?rq32
      case hq32 => (intro w hSw; go_simp; try with_reducible rfl)
      try dsimp only [Act.put, List.getElem_toArray, List.getElem_cons_zero, List.getElem_cons_succ]; try simp only [List.setIfInBounds_toArray, List.set_cons_zero, List.set_cons_succ]
      refine wpAnyH_take (i := 6) (oi := _) (v := ?vq33) rfl (by kernel_rfl) (by kernel_rfl) (by kernel_rfl) (fun _ _ _ h => h) (Or.inl ⟨by rfl, ?hq33⟩) (by assumption) ?rq33
      case hq33 => (intro w hSw; go_simp; try with_reducible rfl)
      try dsimp only [Act.put, List.getElem_toArray, List.getElem_cons_zero, List.getElem_cons_succ]; try simp only [List.setIfInBounds_toArray, List.set_cons_zero, List.set_cons_succ]
      refine wpAnyH_take (i := 7) (oi := _) (v := ?vq34) rfl (by kernel_rfl) (by kernel_rfl) (by kernel_rfl) (fun _ _ _ h => h) (Or.inl ⟨by rfl, ?hq34⟩) (by assumption) ?rq34
      case hq34 => (intro w hSw; go_simp; try with_reducible rfl)
      try dsimp only [Act.put, List.getElem_toArray, List.getElem_cons_zero, List.getElem_cons_succ]; try simp only [List.setIfInBounds_toArray, List.set_cons_zero, List.set_cons_succ]
      refine wpAnyH_take (i := 8) (oi := _) (v := ?vq35) rfl (by kernel_rfl) (by kernel_rfl) (by kernel_rfl) (fun _ _ _ h => h) (Or.inl ⟨by rfl, ?hq35⟩) (by assumption) ?rq35
      case hq35 => (intro w hSw; go_simp; try with_reducible rfl)
      try dsimp only [Act.put, List.getElem_toArray, List.getElem_cons_zero, List.getElem_cons_succ]; try simp only [List.setIfInBounds_toArray, List.set_cons_zero, List.set_cons_succ]
      refine wpAnyH_take (i := 9) (oi := _) (v := ?vq36) rfl (by kernel_rfl) (by kernel_rfl) (by kernel_rfl) (fun _ _ _ h => h) (Or.inl ⟨by rfl, ?hq36⟩) (by assumption) ?rq36
      case hq36 => (intro w hSw; go_simp; try with_reducible rfl)
      try dsimp only [Act.put, List.getElem_toArray, List.getElem_cons_zero, List.getElem_cons_succ]; try simp only [List.setIfInBounds_toArray, List.set_cons_zero, List.set_cons_succ]
      refine wpAnyH_take (i := 10) (oi := _) (v := ?vq37) rfl (by kernel_rfl) (by kernel_rfl) (by kernel_rfl) (fun _ _ _ h => h) (Or.inl ⟨by rfl, ?hq37⟩) (by assumption) ?rq37
      case hq37 => (intro w hSw; go_simp; try with_reducible rfl)
      try dsimp only [Act.put, List.getElem_toArray, List.getElem_cons_zero, List.getElem_cons_succ]; try simp only [List.setIfInBounds_toArray, List.set_cons_zero, List.set_cons_succ]
      refine wpAnyH_take (i := 11) (oi := _) (v := ?vq38) rfl (by kernel_rfl) (by kernel_rfl) (by kernel_rfl) (fun _ _ _ h => h) (Or.inl ⟨by rfl, ?hq38⟩) (by assumption) ?rq38
      case hq38 => (intro w hSw; go_simp; try with_reducible rfl)
      try dsimp only [Act.put, List.getElem_toArray, List.getElem_cons_zero, List.getElem_cons_succ]; try simp only [List.setIfInBounds_toArray, List.set_cons_zero, List.set_cons_succ]
      refine wpAnyH_take (i := 12) (oi := _) (v := ?vq39) rfl (by kernel_rfl) (by kernel_rfl) (by kernel_rfl) (fun _ _ _ h => h) (Or.inl ⟨by rfl, ?hq39⟩) (by assumption) ?rq39
      case hq39 => (intro w hSw; go_simp; try with_reducible rfl)
      try dsimp only [Act.put, List.getElem_toArray, List.getElem_cons_zero, List.getElem_cons_succ]; try simp only [List.setIfInBounds_toArray, List.set_cons_zero, List.set_cons_succ]
      refine wpAnyH_done (by kernel_rfl) ?_ _
      have HU := Lib.hid (HUS.out rfl)
      have HFIN : Hid (UnR la lb (h + 1) i w (.returned (.tuple #[.slice none 0 0, .int .i64 1])) W2.drew) := Lib.hid (by unfold UnR; rw [HU.out]; exact ⟨_, rfl, World.ownsRow_nil _ _ _ _, HB2.out.drew⟩)
      clear HUS HUC HU hc1 hc2 hd1 hd2
      go_wp2
      go_ret2
      exact HFIN.out
    · have hxb : (x.toList == y.toList) = false := by rw [str_beq]; simp [hxy]
      have HU := Lib.hid (HUC.out hxy)
      have hl6 : ((lv : Int) == 6) = false := by have := HLV.out; simp; omega
      clear hxy HUS HUC
      have HC1 := Lib.hid (fun W (h1 : AgS W base 9 7 va levN (levV la)) (h2 : AgS W bas2 9 7 vb levN (levV lb)) => (show Calls Try.prog 58 #[.agg va, .agg vb, .int .i64 ((lv : Int) + 1), .int .i64 (2 * (i : Int))] W (UnR la lb h (2 * i) W) from by
        rw [show ((lv : Int) + 1) = ((lv + 1 : Nat) : Int) by omega, show (2 * (i : Int)) = ((2 * i : Nat) : Int) by omega]
        exact HIH.out (lv + 1) (2 * i) W (by have := HLV.out; omega) HAR.out.1 h1 h2))
      have HC2 := Lib.hid (fun W (h1 : AgS W base 9 7 va levN (levV la)) (h2 : AgS W bas2 9 7 vb levN (levV lb)) => (show Calls Try.prog 58 #[.agg va, .agg vb, .int .i64 ((lv : Int) + 1), .int .i64 (2 * (i : Int) + 1)] W (UnR la lb h (2 * i + 1) W) from by
        rw [show ((lv : Int) + 1) = ((lv + 1 : Nat) : Int) by omega, show (2 * (i : Int) + 1) = ((2 * i + 1 : Nat) : Int) by omega]
        exact HIH.out (lv + 1) (2 * i + 1) W (by have := HLV.out; omega) HAR.out.2 h1 h2))
      refine wp_region_held_drew (S := (fun W => W.cell? ⟨w.heap.size, lv, none⟩ = some (.slice (some ⟨b1, o1, none⟩) q c1) ∧ W.cell? ⟨b1, o1 + i, none⟩ = some (.string x) ∧ W.cell? ⟨w.heap.size + 1, lv, none⟩ = some (.slice (some ⟨b2, o2, none⟩) q c2) ∧ W.cell? ⟨b2, o2 + i, none⟩ = some (.string y))) (by kernel_rfl) ⟨hc1, hd1, hc2, hd2⟩ (fun hHeld => ?_)
      refine wpAnyH_take (i := 0) (oi := _) (v := ?vq40) rfl (by kernel_rfl) (by kernel_rfl) (by kernel_rfl) (fun _ _ _ h => h) (Or.inl ⟨by rfl, ?hq40⟩) (by assumption) ?rq40
      case hq40 => (intro w hSw; go_simp; try with_reducible rfl)
      try dsimp only [Act.put, List.getElem_toArray, List.getElem_cons_zero, List.getElem_cons_succ]; try simp only [List.setIfInBounds_toArray, List.set_cons_zero, List.set_cons_succ]
      refine wpAnyH_take (i := 1) (oi := _) (v := ?vq41) rfl (by kernel_rfl) (by kernel_rfl) (by kernel_rfl) (fun _ _ _ h => h) (Or.inl ⟨by rfl, ?hq41⟩) (by assumption) ?rq41
      case hq41 => (intro w hSw; go_simp; try with_reducible rfl)
      try dsimp only [Act.put, List.getElem_toArray, List.getElem_cons_zero, List.getElem_cons_succ]; try simp only [List.setIfInBounds_toArray, List.set_cons_zero, List.set_cons_succ]
      refine wpAnyH_take (i := 2) (oi := _) (v := ?vq42) rfl (by kernel_rfl) (by kernel_rfl) (by kernel_rfl) (fun _ _ _ h => h) (Or.inl ⟨by rfl, ?hq42⟩) (by assumption) ?rq42
      case hq42 => (intro w hSw; go_simp; try with_reducible rfl)
      try dsimp only [Act.put, List.getElem_toArray, List.getElem_cons_zero, List.getElem_cons_succ]; try simp only [List.setIfInBounds_toArray, List.set_cons_zero, List.set_cons_succ]
      refine wpAnyH_take (i := 3) (oi := _) (v := ?vq43) rfl (by kernel_rfl) (by kernel_rfl) (by kernel_rfl) (fun _ _ _ h => h) (Or.inl ⟨by rfl, ?hq43⟩) (by assumption) ?rq43
      case hq43 => (intro w hSw; go_simp; try with_reducible rfl)
      try dsimp only [Act.put, List.getElem_toArray, List.getElem_cons_zero, List.getElem_cons_succ]; try simp only [List.setIfInBounds_toArray, List.set_cons_zero, List.set_cons_succ]
      refine wpAnyH_take (i := 4) (oi := _) (v := ?vq44) rfl (by kernel_rfl) (by kernel_rfl) (by kernel_rfl) (fun _ _ _ h => h) (Or.inl ⟨by rfl, ?hq44⟩) (by assumption) ?rq44
      case hq44 => (intro w hSw; go_simp; try with_reducible rfl)
      try dsimp only [Act.put, List.getElem_toArray, List.getElem_cons_zero, List.getElem_cons_succ]; try simp only [List.setIfInBounds_toArray, List.set_cons_zero, List.set_cons_succ]
      refine wpAnyH_take (i := 5) (oi := _) (v := ?vq45) rfl (by kernel_rfl) (by kernel_rfl) (by kernel_rfl) (fun _ _ _ h => h) (Or.inl ⟨by rfl, ?hq45⟩) (by assumption) ?rq45
      case hq45 => (intro w hSw; go_simp; try with_reducible rfl)
      try dsimp only [Act.put, List.getElem_toArray, List.getElem_cons_zero, List.getElem_cons_succ]; try simp only [List.setIfInBounds_toArray, List.set_cons_zero, List.set_cons_succ]
      refine wpAnyH_take (i := 6) (oi := _) (v := ?vq46) rfl (by kernel_rfl) (by kernel_rfl) (by kernel_rfl) (fun _ _ _ h => h) (Or.inl ⟨by rfl, ?hq46⟩) (by assumption) ?rq46
      case hq46 => (intro w hSw; go_simp; try with_reducible rfl)
      try dsimp only [Act.put, List.getElem_toArray, List.getElem_cons_zero, List.getElem_cons_succ]; try simp only [List.setIfInBounds_toArray, List.set_cons_zero, List.set_cons_succ]
      refine wpAnyH_take (i := 7) (oi := _) (v := ?vq47) rfl (by kernel_rfl) (by kernel_rfl) (by kernel_rfl) (fun _ _ _ h => h) (Or.inl ⟨by rfl, ?hq47⟩) (by assumption) ?rq47
      case hq47 => (intro w hSw; go_simp; try with_reducible rfl)
      try dsimp only [Act.put, List.getElem_toArray, List.getElem_cons_zero, List.getElem_cons_succ]; try simp only [List.setIfInBounds_toArray, List.set_cons_zero, List.set_cons_succ]
      refine wpAnyH_take (i := 8) (oi := _) (v := ?vq48) rfl (by kernel_rfl) (by kernel_rfl) (by kernel_rfl) (fun _ _ _ h => h) (Or.inl ⟨by rfl, ?hq48⟩) (by assumption) ?rq48
      case hq48 => (intro w hSw; go_simp; try with_reducible rfl)
      try dsimp only [Act.put, List.getElem_toArray, List.getElem_cons_zero, List.getElem_cons_succ]; try simp only [List.setIfInBounds_toArray, List.set_cons_zero, List.set_cons_succ]
      refine wpAnyH_take (i := 9) (oi := _) (v := ?vq49) rfl (by kernel_rfl) (by kernel_rfl) (by kernel_rfl) (fun _ _ _ h => h) (Or.inl ⟨by rfl, ?hq49⟩) (by assumption) ?rq49
      case hq49 => (intro w hSw; go_simp; try with_reducible rfl)
      try dsimp only [Act.put, List.getElem_toArray, List.getElem_cons_zero, List.getElem_cons_succ]; try simp only [List.setIfInBounds_toArray, List.set_cons_zero, List.set_cons_succ]
      refine wpAnyH_take (i := 10) (oi := _) (v := ?vq50) rfl (by kernel_rfl) (by kernel_rfl) (by kernel_rfl) (fun _ _ _ h => h) (Or.inl ⟨by rfl, ?hq50⟩) (by assumption) ?rq50
      case hq50 => (intro w hSw; go_simp; try with_reducible rfl)
      try dsimp only [Act.put, List.getElem_toArray, List.getElem_cons_zero, List.getElem_cons_succ]; try simp only [List.setIfInBounds_toArray, List.set_cons_zero, List.set_cons_succ]
      refine wpAnyH_take (i := 11) (oi := _) (v := ?vq51) rfl (by kernel_rfl) (by kernel_rfl) (by kernel_rfl) (fun _ _ _ h => h) (Or.inl ⟨by rfl, ?hq51⟩) (by assumption) ?rq51
      case hq51 => (intro w hSw; go_simp; try with_reducible rfl)
      try dsimp only [Act.put, List.getElem_toArray, List.getElem_cons_zero, List.getElem_cons_succ]; try simp only [List.setIfInBounds_toArray, List.set_cons_zero, List.set_cons_succ]
      refine wpAnyH_take (i := 12) (oi := _) (v := ?vq52) rfl (by kernel_rfl) (by kernel_rfl) (by kernel_rfl) (fun _ _ _ h => h) (Or.inl ⟨by rfl, ?hq52⟩) (by assumption) ?rq52
      case hq52 => (intro w hSw; go_simp; try with_reducible rfl)
      try dsimp only [Act.put, List.getElem_toArray, List.getElem_cons_zero, List.getElem_cons_succ]; try simp only [List.setIfInBounds_toArray, List.set_cons_zero, List.set_cons_succ]
      refine wpAnyH_done (by kernel_rfl) ?_ _
      unfold UnR at HC1 HC2
      have HP6 := two_lt (L := h + 1) (by have := HLV.out; omega)
      have HL1 := unH_big (nodeL la) (nodeL lb) h (2 * i); have HL2 := unH_big (nodeL la) (nodeL lb) h (2 * i + 1)
      rw [Nat.pow_succ] at HP6 HL1 HL2
      generalize unH (nodeL la) (nodeL lb) h (2 * i) = u1 at HC1 HL1 HU
      generalize unH (nodeL la) (nodeL lb) h (2 * i + 1) = u2 at HC2 HL2 HU
      obtain ⟨p1, m1⟩ := u1
      obtain ⟨p2, m2⟩ := u2
      simp only at HC1 HC2 HL1 HL2 HU
      have hm1 : m1 ≤ 64 := by omega
      have hm2 : m2 ≤ 64 := by omega
      have hp1 : p1.length ≤ 64 := by omega
      have hp2 : p2.length ≤ 64 := by omega
      generalize hn1 : p1.length = n1 at HC1 hp1
      generalize hn2 : p2.length = n2 at HC2 hp2
      have HN1 := Lib.hid hn1; have HN2 := Lib.hid hn2
      clear HL1 HL2 HP6 hn1 hn2 hc1 hc2 hd1 hd2
      have HB3 := Lib.hid HB2.out.drew
      have HG1 := Lib.hid (show W2.drew.heap[w.heap.size]? = some (.cells va 44 (0, 0)) from HG1.out); have HG2 := Lib.hid (show W2.drew.heap[w.heap.size + 1]? = some (.cells vb 44 (0, 0)) from HG2.out)
      have HVA := Lib.hid (HVA.out.below (Below.refl _ _).drew); have HVB := Lib.hid (HVB.out.below (Below.refl _ _).drew)
      clear HB2
      generalize W2.drew = W3 at HB3 HG1 HG2 HVA HVB ⊢
      have HZ := Lib.hid (show w.heap.size + 1 < W3.heap.size from (Array.getElem?_eq_some_iff.1 HG2.out).1)
      go_wp2_with (first | (refine wpList_load_row (by rfl) 44 (.tmp 4) (by rfl) w.heap.size (by rfl) 44 va (0, 0) _ HG1.out Try.underlying44 rfl HI.out ?_) | (refine wpList_load_row (by rfl) 44 (.tmp 5) (by rfl) (w.heap.size + 1) (by rfl) 44 vb (0, 0) _ HG2.out Try.underlying44 rfl HI2.out ?_))
      refine (HC1.out W3 HVA.out HVB.out).mono ?_
      rintro e W4 ⟨v1, rfl, hown, hb⟩
      obtain ⟨A1, k1, rfl⟩ := own_form hown
      have HR1 := Lib.hid (Rd.of_own hown)
      have HG1 := Lib.hid ((hb.block _ (by have := HZ.out; omega)).trans HG1.out); have HG2 := Lib.hid ((hb.block _ HZ.out).trans HG2.out)
      have HVA := Lib.hid (HVA.out.below hb); have HVB := Lib.hid (HVB.out.below hb)
      have HZ := Lib.hid (Nat.lt_of_lt_of_le HZ.out hb.size)
      have HB4 := Lib.hid (then_ HB3.out hb)
      clear hown hb HC1 HB3
      go_wp2_with (first | (refine wpList_load_row (by rfl) 44 (.tmp 4) (by rfl) w.heap.size (by rfl) 44 va (0, 0) _ HG1.out Try.underlying44 rfl HI.out ?_) | (refine wpList_load_row (by rfl) 44 (.tmp 5) (by rfl) (w.heap.size + 1) (by rfl) 44 vb (0, 0) _ HG2.out Try.underlying44 rfl HI2.out ?_))
      refine (HC2.out W4 HVA.out HVB.out).mono ?_
      rintro e W5 ⟨v2, rfl, hown, hb⟩
      obtain ⟨A2, k2, rfl⟩ := own_form hown
      have HR2 := Lib.hid (Rd.of_own hown); have HR1 := Lib.hid (HR1.out.below hb)
      have HB5 := Lib.hid (then_ HB4.out hb)
      clear hown hb HC2 HB4 HG1 HG2 HVA HVB HZ HIH
      go_wp2_with (at_builtin; first | (refine wpList_app elInt (by rfl) (.tmp 53) (.tmp 54) (by rfl) w.heap.size (.slice none 0 0) 0 [] (by rfl) (World.ownsRow_nil _ _ _ _) A1 n1 k1 (ints p1) (by rfl) (by rw [ints_len, HN1.out, Nat.mul_one]) HR1.out (ints_one _) (by unfold maxLen; omega) (by omega) HB5.out.size ?_; intro v3 W6 hown1 hbel1 hgrow1 _; have HO6 := Lib.hid hown1; have HB6 := Lib.hid (HB5.out.trans hbel1); have HR6 := Lib.hid (HR2.out.below (below_grown hgrow1)); clear hown1 hbel1 hgrow1; rw [Nat.zero_add, List.nil_append] at HO6) | (refine wpList_app elInt (by rfl) (.tmp 56) (.tmp 57) (by rfl) w.heap.size v3 n1 (ints p1) (by rfl) HO6.out A2 n2 k2 (ints p2) (by rfl) (by rw [ints_len, HN2.out, Nat.mul_one]) HR6.out (ints_one _) (by unfold maxLen; omega) (by omega) HB6.out.size ?_; intro v4 W7 hown1 hbel1 _ _; have HO7 := Lib.hid hown1; have HB7 := Lib.hid (HB6.out.trans hbel1); clear hown1 hbel1))
      go_wp2
      go_ret2
      unfold UnR
      rw [HU.out]
      exact ⟨v4, congrArg (fun t => Ending.returned (.tuple #[v4, .int .i64 t])) (by omega : (m1 : Int) + (m2 : Int) + 1 = ((m1 + m2 + 1 : Nat) : Int)), by rw [List.length_append, HN1.out, HN2.out, ints_app]; exact HO7.out, HB7.out⟩
set_option maxRecDepth 100000 in
set_option maxHeartbeats 4000000 in
theorem rUnlike_any (la lb : List Leaf) (base bas2 : Nat) (va vb : Array Value) (w : World) (hva : AgS w base 9 7 va levN (levV la)) (hvb : AgS w bas2 9 7 vb levN (levV lb)) :
    Calls Try.prog 33 #[.agg va, .agg vb] w (UnR la lb 6 0 w) := by
  have HI := Lib.hid (show (Try.prog.info? 44).map (·.size) = some va.size by rw [hva.1]; kernel_rfl)
  have HI2 := Lib.hid (show (Try.prog.info? 44).map (·.size) = some vb.size by rw [hvb.1]; kernel_rfl)
  obtain ⟨hg1, hg2, hb2⟩ := two_blocks w va vb 44
  have HX := Lib.hid (show Calls Try.prog 58 #[.agg va, .agg vb, .int .i64 0, .int .i64 0] ((w.alloc (.cells va 44)).alloc (.cells vb 44)) (UnR la lb 6 0 ((w.alloc (.cells va 44)).alloc (.cells vb 44))) from rrun_any la lb base bas2 va vb 6 0 0 _ rfl (by decide) (hva.below hb2) (hvb.below hb2))
  have HG1 := Lib.hid hg1; have HG2 := Lib.hid hg2; have HB2 := Lib.hid hb2
  clear hva hvb hg1 hg2 hb2
  unfold UnR at HX ⊢
  generalize unH (nodeL la) (nodeL lb) 6 0 = u at HX ⊢
  go_enter Try.func33, Try.ntmps33
  go_wp2_with (first | (refine wpList_load_row (by rfl) 44 (.tmp 2) (by rfl) w.heap.size (by rfl) 44 va (0, 0) _ HG1.out Try.underlying44 rfl HI.out ?_) | (refine wpList_load_row (by rfl) 44 (.tmp 3) (by rfl) (w.heap.size + 1) (by rfl) 44 vb (0, 0) _ HG2.out Try.underlying44 rfl HI2.out ?_))
  refine HX.out.mono ?_
  rintro e W3 ⟨v, rfl, hown, hb⟩
  have HF := Lib.hid (own_mono hown HB2.out.size); have HB3 := Lib.hid (then_ HB2.out hb)
  clear hown hb HX
  go_wp2
  go_ret2
  exact ⟨v, rfl, HF.out, HB3.out⟩
set_option maxRecDepth 100000 in
set_option maxHeartbeats 8000000 in
theorem rProve_any (l : List Leaf) (base : Nat) (va : Array Value) (b : Int) (w : World) (hva : AgS w base 9 7 va levN (levV l)) :
    Calls Try.prog 39 #[.agg va, .int .i64 b] w (MakesS (proveL l b) w) := by
  have HI := Lib.hid (show (Try.prog.info? 44).map (·.size) = some va.size by rw [hva.1]; kernel_rfl)
  have hb1 := (Below.refl w.heap.size w).alloc (Nat.le_refl _) (.cells va 44)
  have HVA := Lib.hid (hva.below hb1); have HB1 := Lib.hid hb1; have HG1 := Lib.hid (heap_alloc_new w (.cells va 44))
  clear hva hb1
  by_cases hb : 0 ≤ b ∧ b < 64
  rotate_left
  · have HP := Lib.hid (show proveL l b = [] from if_neg hb)
    rw [HP.out]
    have HFIN : Hid (MakesS [] w (.returned (.slice none 0 0)) (w.alloc (.cells va 44))) := Lib.hid ⟨_, rfl, World.ownsRow_nil _ _ _ _, HB1.out⟩
    by_cases h0 : b < 0
    · clear hb
      go_enter Try.func39, Try.ntmps39
      go_wp2
      go_ret
      exact HFIN.out
    · have h63 : 63 < b := by omega
      have h00 : 0 ≤ b := by omega
      clear hb h0
      go_enter Try.func39, Try.ntmps39
      go_wp2
      go_ret
      exact HFIN.out
  obtain ⟨k0, rfl⟩ : ∃ k0 : Nat, b = k0 := ⟨b.toNat, by omega⟩
  have hk0 : k0 < 64 := by omega
  have HP := Lib.hid (show proveL l k0 = wayL (nodeL l) 6 0 k0 by unfold proveL; rw [if_pos hb]; simp)
  rw [HP.out]
  have HLE := Lib.hid (wayL_len (nodeL l) 6 0 k0)
  generalize hww : wayL (nodeL l) 6 0 k0 = ww at HLE
  have HWW := Lib.hid hww
  have hk63 : (k0 : Int) ≤ 63 := by omega
  clear hb hww HP
  go_enter Try.func39, Try.ntmps39
  go_wp2
  generalize w.alloc (.cells va 44) = W1 at HVA HB1 HG1 ⊢
  go_loopw [1, 5, 6] (fun kb v i wr => ∃ (m k : Nat) (acc : List ByteArray), m ≤ 6 ∧ i = .int .i64 m ∧ kb = .int .i64 k ∧ Hid (k < 2 ^ m) ∧ acc.length + m = 6 ∧ Hid (wr.ownsRow W1.heap.size 9 1 v acc.length (acc.map Value.string)) ∧ Hid (acc ++ wayL (nodeL l) m (6 - m) k = ww) ∧ Below W1.heap.size W1 wr) (fun _ _ i _ => (intOf i).toNat)
  case atStart => exact ⟨6, k0, [], Nat.le_refl _, rfl, rfl, Lib.hid hk0, rfl, Lib.hid (World.ownsRow_nil _ _ _ _), Lib.hid HWW.out, Below.refl _ _⟩
  case round =>
    obtain ⟨m, k, acc, hm, rfl, rfl, HK, hlen, HO, HE, hbel⟩ := hrel
    rcases Nat.eq_zero_or_pos m with hm0 | hmp
    · have HF : Hid (MakesS ww w (.returned _) wr) := Lib.hid ⟨_, rfl, by
        have h1 := HE.out
        have h2 : wayL (nodeL l) m (6 - m) k = [] := by rw [hm0]; rfl
        rw [h2, List.append_nil] at h1
        rw [← h1]; exact own_mono HO.out HB1.out.size, then_ HB1.out hbel⟩
      have hmz : (m : Int) ≤ 0 := by omega
      clear HE HO hbel
      go_wp2
      go_ret
      exact HF.out
    · obtain ⟨p, hpm⟩ : ∃ p, m = p + 1 := ⟨m - 1, by omega⟩
      have HMP := Lib.hid hpm
      have hk2 : k < 2 ^ (p + 1) := by have := HK.out; rwa [hpm] at this
      have hk64 : k < 64 := Nat.lt_of_lt_of_le hk2 (show 2 ^ (p + 1) ≤ 2 ^ 6 from Nat.pow_le_pow_right (by decide) (by omega))
      have hxr := xor_one k hk64
      obtain ⟨b2, off, cc, hc, hd⟩ := ag_at HVA.out HG1.out (L := m) (i := kx k) (by omega) (by rw [hpm]; exact kx_lt hk2)
      have hkx : kx k < 2 ^ m := by rw [hpm]; exact kx_lt hk2
      have HE2 := Lib.hid HE.out
      rw [hpm, wayL_succ, show 6 - (p + 1) + 1 = 6 - p by omega, ← hpm] at HE2
      generalize nodeL l (6 - m) (kx k) = s at hd HE2
      generalize kx k = kk at hxr hd hkx
      generalize 2 ^ m = q at hc hkx
      have hc := cell_below hbel hc
      have hd := cell_below hbel hd
      have hkq : (kk : Int) < (q : Int) := by omega
      have hm7 : (m : Int) < 7 := by omega
      have hmp1 : (0 : Int) < (m : Int) := by omega
      have HZ := Lib.hid hbel.size; have HB := Lib.hid hbel
      have HQ2 := Lib.hid (quo_two k); have hq2 := quo_two k
      have hal : acc.length ≤ 6 := by omega
      have HLN := Lib.hid hlen
      have HKP := Lib.hid hk2
      clear HE hbel hlen hpm hk2 hkx hmp
      go_wp2_with (at_builtin; refine wpList_app elStr (by rfl) (.tmp 17) (.tmp 25) (by rfl) W1.heap.size _ acc.length _ (by rfl) (HO.out.alloc _) (some ⟨wr.heap.size, 0, none⟩) 1 1 [.string s] rfl rfl (Rd.new wr #[.string s] _) (by intro u hu; simp at hu; subst hu; rfl) (by unfold maxLen; omega) (by omega) (by have := HZ.out; simp; omega) ?_; intro v1 w3 hown1 hbel1 _ _)
      go_roundw
      case rel => exact ⟨p, k / 2, acc ++ [s], by have := HMP.out; omega, congrArg (Value.int .i64) (by have := HMP.out; omega), by first | rfl | (rw [HQ2.out]), Lib.hid (by have := HKP.out; rw [Nat.pow_succ] at this; omega), by have := HLN.out; have := HMP.out; rw [List.length_append]; simp; omega, Lib.hid (by rw [List.length_append, List.map_append]; exact hown1), Lib.hid (by rw [List.append_assoc]; exact HE2.out), (HB.out.alloc HZ.out _).trans hbel1⟩
      case measure => simp [intOf]; omega
set_option maxRecDepth 100000 in
set_option maxHeartbeats 4000000 in
theorem pin_any (A : Option Addr) (n c : Nat) (l : List Leaf) (q : Int) (w : World) (hr : Rd w A (leafc l)) (hn : l.length = n) (hm : n ≤ 1000) (hok : ∀ m ∈ l, smallL m) :
    Calls Try.prog 41 #[.slice A n c, .int .i64 q] w (MakesL (inL (bktB q) l) w) := by
  have HR := Lib.hid hr; have HN := Lib.hid hn; have HOK := Lib.hid hok
  clear hr hn hok
  go_enter Try.func41, Try.ntmps41
  go_wp2
  go_loopw [5, 10] (fun v i wr => ∃ k : Nat, k ≤ n ∧ i = .int .i64 k ∧ Hid (wr.ownsRow w.heap.size 48 2 v (inL (bktB q) (l.take k)).length (leafc (inL (bktB q) (l.take k)))) ∧ Below w.heap.size w wr) (fun _ i _ => n - (intOf i).toNat)
  case atStart => exact ⟨0, Nat.zero_le _, rfl, Lib.hid (World.ownsRow_nil _ _ _ _), Below.refl _ _⟩
  case round =>
    obtain ⟨k, hk, rfl, HO, hbel⟩ := hrel
    by_cases hlt : k < n
    · have hx : k < l.length := by have := HN.out; omega
      obtain ⟨b, off, rfl, hrg⟩ := row_leaf.at_ (HR.out.below hbel) k hx
      have hs := HOK.out l[k] (List.getElem_mem hx)
      have hll : (inL (bktB q) (l.take k)).length ≤ 1000 := Nat.le_trans (inL_len _ _) (by rw [List.length_take]; omega)
      have HS := Lib.hid (inL_succ (bktB q) hx)
      generalize inL (bktB q) (l.take k) = u at HO hll HS
      generalize l[k] = s at hrg hs HS
      obtain ⟨sp, sd⟩ := s
      have c0 : wr.cell? ⟨b, off + k * 2, none⟩ = some (.string sp) := rangeAt_cell hrg 0 rfl
      have c1 : wr.cell? ⟨b, off + k * 2 + 1, none⟩ = some (.string sd) := rangeAt_cell hrg 1 rfl
      have HX := Lib.hid (fun W => bucket_any sp W (by have := hs.1; simp only at this; omega))
      have HQ := Lib.hid (show bktB q sp = (((bktOf sp : Nat) : Int) == q) from rfl)
      generalize bktOf sp = g at HX HQ
      clear hs hrg
      go_wp2_with fail
      have hb1 := (Below.refl wr.heap.size wr).alloc (Nat.le_refl _) (.cells #[.string sp, .string sd] 48)
      have hx0 : (wr.alloc (.cells #[.string sp, .string sd] 48)).cell? ⟨wr.heap.size, 0, none⟩ = some (.string sp) := by rw [World.cell?_alloc_at _ _ _ _ rfl]; rfl
      have hx1 : (wr.alloc (.cells #[.string sp, .string sd] 48)).cell? ⟨wr.heap.size, 1, none⟩ = some (.string sd) := by rw [World.cell?_alloc_at _ _ _ _ rfl]; rfl
      refine (HX.out _).mono ?_
      rintro e w1 ⟨rfl, hb2⟩
      have hy0 := cell_below hb2 hx0; have hy1 := cell_below hb2 hx1
      have HO1 := Lib.hid (own_below HO.out (then_ hb1 hb2)); have HB1 := Lib.hid (then_ hbel (then_ hb1 hb2))
      have HZ := Lib.hid HB1.out.size
      clear hb1 hb2 hx0 hx1 c0 c1 HO hbel HX
      generalize wr.heap.size = z at hy0 hy1
      by_cases hgq : ((g : Int) == q) = true
      · have HQ2 := Lib.hid (HQ.out.trans hgq)
        go_wp2_with (at_builtin; refine wpList_app el_leaf (by rfl) (.tmp 19) (.tmp 21) (by rfl) w.heap.size _ u.length _ (by rfl) (HO1.out.alloc _) (some ⟨w1.heap.size, 0, none⟩) 1 1 [.string sp, .string sd] rfl rfl (Rd.new w1 #[.string sp, .string sd] _) (by intro u hu; simp at hu; rcases hu with rfl | rfl <;> rfl) (by unfold maxLen; omega) (by omega) (by have := HZ.out; simp; omega) ?_; intro v1 w3 hown1 hbel1 _ _)
        go_roundw
        case rel => exact ⟨k + 1, by omega, by go_num, Lib.hid (by rw [HS.out]; rw [if_pos HQ2.out, List.length_append, leafc_app]; exact hown1), (HB1.out.alloc HZ.out _).trans hbel1⟩
        case measure => simp [intOf]; omega
      · have hgf : ((g : Int) == q) = false := Bool.eq_false_iff.2 hgq
        have HQ2 := Lib.hid (HQ.out.trans hgf)
        clear hgq
        go_wp2
        go_roundw
        case rel => exact ⟨k + 1, by omega, by go_num, Lib.hid (by rw [HS.out]; rw [if_neg (by rw [HQ2.out]; decide), List.append_nil]; exact HO1.out), HB1.out⟩
        case measure => simp [intOf]; omega
    · obtain rfl : k = n := by omega
      have hfull : l.take k = l := List.take_of_length_le (by rw [HN.out]; omega)
      rw [hfull] at HO
      go_wp2
      go_ret
      exact ⟨_, rfl, HO.out, hbel⟩
end Go.Proofs.Ytgmafnpkhmlnnaa
