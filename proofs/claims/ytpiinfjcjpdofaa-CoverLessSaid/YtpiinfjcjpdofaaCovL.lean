/- The walk of CoverTries. -/
import Derived.Test.YtpiinfjcjpdofaaCovK
import Derived.Test.YtpiinfjcjpdofaaOpen
import Derived.Deep.Cut
import Derived.Says
attribute [local go_sem ↓] Go.wp_at_zero Go.wp_at_succ
namespace Go.Proofs.Ytpiinfjcjpdofaa
open Go.RowKit Go.Mem Go.Cov
set_option linter.unusedVariables false
set_option linter.unusedSimpArgs false

def pairc (x : Pair) : List Value := [.int .i64 x.1, .int .i64 x.2]
theorem prc_pairc (l : List Pair) : l.flatMap pairc = prc l := rfl
def okPair (p : Pair) : Prop := inOk p.1 ∧ inOk p.2
theorem cells_int : Try.prog.cellsOf 3 = 1 := by kernel_rfl
theorem cells_arr2i : Try.prog.cellsOf 50 = 2 := by kernel_rfl
theorem cells_arr3i : Try.prog.cellsOf 38 = 3 := by kernel_rfl
theorem is_pair {H : Type} {enc : TypeId × Value → H} {w : World} {cs : List Value} (h : Is enc Try.prog w 50 cs) : ∃ x : Pair, cs = pairc x ∧ okPair x := by
  obtain ⟨hl, hf⟩ := is_array Try.underlying50 h
  rw [cells_arr2i] at hl
  obtain ⟨c0, r0, rfl, hl0⟩ := cons_of hl
  obtain ⟨c1, r1, rfl, hl1⟩ := cons_of hl0
  obtain rfl := nil_of hl1
  obtain ⟨s0, h0, w0⟩ := is_int Try.underlying3 (hf 0 (by omega))
  obtain ⟨s1, h1, w1⟩ := is_int Try.underlying3 (hf 1 (by omega))
  simp [cells_int] at h0 h1
  subst h0 h1
  exact ⟨⟨s0, s1⟩, rfl, w0, w1⟩
def arr3i (x : Int × Int × Int) : Array Value := #[.int .i64 x.1, .int .i64 x.2.1, .int .i64 x.2.2]
def wf3i (x : Int × Int × Int) : Prop := inOk x.1 ∧ inOk x.2.1 ∧ inOk x.2.2
theorem is_arr3i {H : Type} {enc : TypeId × Value → H} {w : World} {cs : List Value} (h : Is enc Try.prog w 38 cs) : ∃ x : Int × Int × Int, cs = (arr3i x).toList ∧ wf3i x := by
  obtain ⟨hl, hf⟩ := is_array Try.underlying38 h
  rw [cells_arr3i] at hl
  obtain ⟨c0, r0, rfl, hl0⟩ := cons_of hl
  obtain ⟨c1, r1, rfl, hl1⟩ := cons_of hl0
  obtain ⟨c2, r2, rfl, hl2⟩ := cons_of hl1
  obtain rfl := nil_of hl2
  obtain ⟨s0, h0, w0⟩ := is_int Try.underlying3 (hf 0 (by omega))
  obtain ⟨s1, h1, w1⟩ := is_int Try.underlying3 (hf 1 (by omega))
  obtain ⟨s2, h2, w2⟩ := is_int Try.underlying3 (hf 2 (by omega))
  simp [cells_int] at h0 h1 h2
  subst h0 h1 h2
  exact ⟨⟨s0, s1, s2⟩, rfl, w0, w1, w2⟩
theorem okP_of {l : List Pair} (h : ∀ m ∈ l, okPair m) : okP l := fun p hp => h p hp
theorem best_same {l : List Pair} {many : Int} {x y x' y' : Nat} (h : BestR l many x y) (k : BestD l many x' y') : x = x' ∧ y = y' := by
  by_cases hm : 0 ≤ many ∧ many ≤ l.length
  · obtain ⟨m, rfl⟩ : ∃ m : Nat, many = m := ⟨many.toNat, by omega⟩
    exact (h.best m rfl (by omega)).1.eq (k.best m rfl (by omega))
  · have h1 := h.out hm; have h2 := k.out hm
    omega
theorem pick_same {l : List Pair} {many : Int} {cs ds : List Nat} (h : PickR l many cs) (k : PickD l many ds) : cs = ds := by
  by_cases hm : 0 ≤ many ∧ many ≤ l.length
  · obtain ⟨m, rfl⟩ : ∃ m : Nat, many = m := ⟨many.toNat, by omega⟩
    obtain ⟨x, y, h1, h2, h3⟩ := h.first m rfl (by omega)
    obtain ⟨x', y', k1, k2⟩ := k.first m rfl (by omega)
    obtain ⟨rfl, rfl⟩ := h1.eq k1
    rw [h3] at k2; injection k2
  · rw [h.out hm, k.out hm]
set_option maxRecDepth 100000 in
set_option maxHeartbeats 16000000 in
theorem coverTries_walk (A : Option Addr) (n c : Nat) (l : List Pair) (nn : Int × Int × Int) (w : World) (hr0 : Rd w A (l.flatMap pairc)) (hn : l.length = n) (hc : n ≤ c) (hm : c ≤ maxLen) (hok0 : ∀ m ∈ l, okPair m) :
    Calls Try.prog 5 #[.slice A n c, .agg (arr3i nn)] w fun e w' => e = .returned (.bool true) ∧ Below w.heap.size w w' := by
  obtain ⟨z0, z1, z2⟩ := nn
  have hok : okP l := okP_of hok0
  have hr : Rd w A (prc l) := hr0
  have hb0 := (Below.refl w.heap.size w).alloc (Nat.le_refl _) (.cells #[.int .i64 z0, .int .i64 z1, .int .i64 z2] 38)
  have HN0 := Lib.hid (show (w.alloc (.cells #[.int .i64 z0, .int .i64 z1, .int .i64 z2] 38)).cell? ⟨w.heap.size, 0, none⟩ = some (.int .i64 z0) ∧ (w.alloc (.cells #[.int .i64 z0, .int .i64 z1, .int .i64 z2] 38)).cell? ⟨w.heap.size, 1, none⟩ = some (.int .i64 z1) ∧ (w.alloc (.cells #[.int .i64 z0, .int .i64 z1, .int .i64 z2] 38)).cell? ⟨w.heap.size, 2, none⟩ = some (.int .i64 z2) from
    ⟨by rw [World.cell?_alloc_at _ _ _ _ rfl]; rfl, by rw [World.cell?_alloc_at _ _ _ _ rfl]; rfl, by rw [World.cell?_alloc_at _ _ _ _ rfl]; rfl⟩)
  have HN := Lib.hid hn; have HR := Lib.hid (hr.below hb0); have HOK := Lib.hid hok; have HB0 := Lib.hid hb0
  clear hr hok hb0 hr0 hok0 hn
  unfold arr3i
  simp only
  go_enter Try.func5, Try.ntmps5
  by_cases hfew : n ≤ 8
  rotate_left
  · have h8 : (8 : Int) < (n : Int) := by omega
    clear HN0
    go_wp2_with fail
    refine (awake17_any _).mono ?_
    rintro e w2 ⟨rfl, hb2⟩
    go_wp2_with fail
    go_ret
    exact ⟨rfl, then_ HB0.out hb2⟩
  have h8 : (n : Int) ≤ 8 := by omega
  have hz0 := HN0.out.1
  go_wp2_with fail
  clear hz0
  generalize w.alloc (.cells #[.int .i64 z0, .int .i64 z1, .int .i64 z2] 38) = W0 at HN0 HR HB0 ⊢
  generalize hnb : w.heap.size = nb at HN0 ⊢
  clear hnb
  refine (Best_any A n c l z0 HN.out (by omega) HOK.out W0 HR.out).mono ?_
  rintro e w1 ⟨x, y, rfl, hb, hb1⟩
  have HBR := Lib.hid hb
  have HR1 := Lib.hid (HR.out.below hb1); have HB1 := Lib.hid (then_ HB0.out hb1); have HN1 := Lib.hid (And.intro (cell_below hb1 HN0.out.1) (And.intro (cell_below hb1 HN0.out.2.1) (cell_below hb1 HN0.out.2.2)))
  clear hb hb1 HR HB0 HN0
  have hz0 := HN1.out.1
  go_wp2_with fail
  clear hz0
  refine (rBest_any A n c l z0 HN.out (by omega) w1 HR1.out).mono ?_
  rintro e w2 ⟨x', y', rfl, hb, hb1⟩
  obtain ⟨rfl, rfl⟩ := best_same HBR.out hb
  have HR2 := Lib.hid (HR1.out.below hb1); have HB2 := Lib.hid (then_ HB1.out hb1); have HN2 := Lib.hid (And.intro (cell_below hb1 HN1.out.1) (And.intro (cell_below hb1 HN1.out.2.1) (cell_below hb1 HN1.out.2.2)))
  clear hb hb1 HR1 HB1 HN1 HBR
  go_wp2_with fail
  have HC1 := Lib.hid (fun W (h : Below w2.heap.size w2 W) => Can_any A n c l z0 z1 z2 HN.out (by omega) HOK.out W (HR2.out.below h))
  have HC2 := Lib.hid (fun W (h : Below w2.heap.size w2 W) => rCan_any A n c l z0 z1 z2 HN.out (by omega) W (HR2.out.below h))
  generalize doesB l z0 z1 z2 [] [] = q at HC1 HC2
  have HP1 := Lib.hid (fun W (h : Below w2.heap.size w2 W) => pick_any A n c l z0 HN.out (by omega) hc hm HOK.out W (HR2.out.below h))
  have HP2 := Lib.hid (fun W (h : Below w2.heap.size w2 W) => rPick_any A n c l z0 HN.out (by omega) W (HR2.out.below h))
  have HC := Lib.hid (fun W (h : Below w2.heap.size w2 W) => (⟨cell_below h HN2.out.1, cell_below h HN2.out.2.1, cell_below h HN2.out.2.2⟩ : W.cell? ⟨nb, 0, none⟩ = some (.int .i64 z0) ∧ W.cell? ⟨nb, 1, none⟩ = some (.int .i64 z1) ∧ W.cell? ⟨nb, 2, none⟩ = some (.int .i64 z2)))
  have hqq : (q == q) = true := by simp
  have hxx : ((x : Int) == (x : Int)) = true := by simp
  have hyy : ((y : Int) == (y : Int)) = true := by simp
  have hb : Below w2.heap.size w2 w2.drew := (Below.refl _ _).drew
  refine wp_region_held_drew (S := (fun W => W.cell? ⟨nb, 0, none⟩ = some (.int .i64 z0) ∧ W.cell? ⟨nb, 1, none⟩ = some (.int .i64 z1) ∧ W.cell? ⟨nb, 2, none⟩ = some (.int .i64 z2))) (by kernel_rfl) (HC.out _ hb) (fun hHeld => ?_)
  refine wpAnyH_take (i := 0) (oi := _) (v := ?vq1) rfl (by kernel_rfl) (by kernel_rfl) (by kernel_rfl) (fun _ _ _ h => h) (Or.inl ⟨by rfl, ?hq1⟩) (by assumption) ?rq1
  case hq1 => (intro w hSw; go_simp; try with_reducible rfl)
  try dsimp only [Act.put, List.getElem_toArray, List.getElem_cons_zero, List.getElem_cons_succ]; try simp only [List.setIfInBounds_toArray, List.set_cons_zero, List.set_cons_succ]
  refine wpAnyH_take (i := 1) (oi := _) (v := ?vq2) rfl (by kernel_rfl) (by kernel_rfl) (by kernel_rfl) (fun _ _ _ h => h) (Or.inl ⟨by rfl, ?hq2⟩) (by assumption) ?rq2
  case hq2 => (intro w hSw; go_simp; try with_reducible rfl)
  try dsimp only [Act.put, List.getElem_toArray, List.getElem_cons_zero, List.getElem_cons_succ]; try simp only [List.setIfInBounds_toArray, List.set_cons_zero, List.set_cons_succ]
  refine wpAnyH_take (i := 2) (oi := _) (v := ?vq3) rfl (by kernel_rfl) (by kernel_rfl) (by kernel_rfl) (fun _ _ _ h => h) (Or.inl ⟨by rfl, ?hq3⟩) (by assumption) ?rq3
  case hq3 => (intro w hSw; go_simp; try with_reducible rfl)
  try dsimp only [Act.put, List.getElem_toArray, List.getElem_cons_zero, List.getElem_cons_succ]; try simp only [List.setIfInBounds_toArray, List.set_cons_zero, List.set_cons_succ]
  refine wpAnyH_take (i := 3) (oi := _) (v := ?vq4) rfl (by kernel_rfl) (by kernel_rfl) (by kernel_rfl) (fun _ _ _ h => h) (Or.inl ⟨by rfl, ?hq4⟩) (by assumption) ?rq4
  case hq4 => (intro w hSw; go_simp; try with_reducible rfl)
  try dsimp only [Act.put, List.getElem_toArray, List.getElem_cons_zero, List.getElem_cons_succ]; try simp only [List.setIfInBounds_toArray, List.set_cons_zero, List.set_cons_succ]
  refine wpAnyH_take (i := 4) (oi := _) (v := ?vq5) rfl (by kernel_rfl) (by kernel_rfl) (by kernel_rfl) (fun _ _ _ h => h) (Or.inl ⟨by rfl, ?hq5⟩) (by assumption) ?rq5
  case hq5 => (intro w hSw; go_simp; try with_reducible rfl)
  try dsimp only [Act.put, List.getElem_toArray, List.getElem_cons_zero, List.getElem_cons_succ]; try simp only [List.setIfInBounds_toArray, List.set_cons_zero, List.set_cons_succ]
  refine wpAnyH_take (i := 5) (oi := _) (v := ?vq6) rfl (by kernel_rfl) (by kernel_rfl) (by kernel_rfl) (fun _ _ _ h => h) (Or.inl ⟨by rfl, ?hq6⟩) (by assumption) ?rq6
  case hq6 => (intro w hSw; go_simp; try with_reducible rfl)
  try dsimp only [Act.put, List.getElem_toArray, List.getElem_cons_zero, List.getElem_cons_succ]; try simp only [List.setIfInBounds_toArray, List.set_cons_zero, List.set_cons_succ]
  refine wpAnyH_take (i := 6) (oi := _) (v := ?vq7) rfl (by kernel_rfl) (by kernel_rfl) (by kernel_rfl) (fun _ _ _ h => h) (Or.inl ⟨by rfl, ?hq7⟩) (by assumption) ?rq7
  case hq7 => (intro w hSw; go_simp; try with_reducible rfl)
  try dsimp only [Act.put, List.getElem_toArray, List.getElem_cons_zero, List.getElem_cons_succ]; try simp only [List.setIfInBounds_toArray, List.set_cons_zero, List.set_cons_succ]
  refine wpAnyH_take (i := 8) (oi := _) (v := ?vq8) rfl (by kernel_rfl) (by kernel_rfl) (by kernel_rfl) (fun _ _ _ h => h) (Or.inl ⟨by rfl, ?hq8⟩) (by assumption) ?rq8
  case hq8 => (intro w hSw; go_simp; try with_reducible rfl)
  try dsimp only [Act.put, List.getElem_toArray, List.getElem_cons_zero, List.getElem_cons_succ]; try simp only [List.setIfInBounds_toArray, List.set_cons_zero, List.set_cons_succ]
  refine wpAnyH_take (i := 9) (oi := _) (v := ?vq9) rfl (by kernel_rfl) (by kernel_rfl) (by kernel_rfl) (fun _ _ _ h => h) (Or.inl ⟨by rfl, ?hq9⟩) (by assumption) ?rq9
  case hq9 => (intro w hSw; go_simp; try with_reducible rfl)
  try dsimp only [Act.put, List.getElem_toArray, List.getElem_cons_zero, List.getElem_cons_succ]; try simp only [List.setIfInBounds_toArray, List.set_cons_zero, List.set_cons_succ]
  refine wpAnyH_take (i := 10) (oi := _) (v := ?vq10) rfl (by kernel_rfl) (by kernel_rfl) (by kernel_rfl) (fun _ _ _ h => h) (Or.inl ⟨by rfl, ?hq10⟩) (by assumption) ?rq10
  case hq10 => (intro w hSw; go_simp; try with_reducible rfl)
  try dsimp only [Act.put, List.getElem_toArray, List.getElem_cons_zero, List.getElem_cons_succ]; try simp only [List.setIfInBounds_toArray, List.set_cons_zero, List.set_cons_succ]
  refine wpAnyH_take (i := 11) (oi := _) (v := ?vq11) rfl (by kernel_rfl) (by kernel_rfl) (by kernel_rfl) (fun _ _ _ h => h) (Or.inl ⟨by rfl, ?hq11⟩) (by assumption) ?rq11
  case hq11 => (intro w hSw; go_simp; try with_reducible rfl)
  try dsimp only [Act.put, List.getElem_toArray, List.getElem_cons_zero, List.getElem_cons_succ]; try simp only [List.setIfInBounds_toArray, List.set_cons_zero, List.set_cons_succ]
  refine wpAnyH_take (i := 12) (oi := _) (v := ?vq12) rfl (by kernel_rfl) (by kernel_rfl) (by kernel_rfl) (fun _ _ _ h => h) (Or.inl ⟨by rfl, ?hq12⟩) (by assumption) ?rq12
  case hq12 => (intro w hSw; go_simp; try with_reducible rfl)
  try dsimp only [Act.put, List.getElem_toArray, List.getElem_cons_zero, List.getElem_cons_succ]; try simp only [List.setIfInBounds_toArray, List.set_cons_zero, List.set_cons_succ]
  refine wpAnyH_take (i := 13) (oi := _) (v := ?vq13) rfl (by kernel_rfl) (by kernel_rfl) (by kernel_rfl) (fun _ _ _ h => h) (Or.inl ⟨by rfl, ?hq13⟩) (by assumption) ?rq13
  case hq13 => (intro w hSw; go_simp; try with_reducible rfl)
  try dsimp only [Act.put, List.getElem_toArray, List.getElem_cons_zero, List.getElem_cons_succ]; try simp only [List.setIfInBounds_toArray, List.set_cons_zero, List.set_cons_succ]
  refine wpAnyH_take (i := 14) (oi := _) (v := ?vq14) rfl (by kernel_rfl) (by kernel_rfl) (by kernel_rfl) (fun _ _ _ h => h) (Or.inl ⟨by rfl, ?hq14⟩) (by assumption) ?rq14
  case hq14 => (intro w hSw; go_simp; try with_reducible rfl)
  try dsimp only [Act.put, List.getElem_toArray, List.getElem_cons_zero, List.getElem_cons_succ]; try simp only [List.setIfInBounds_toArray, List.set_cons_zero, List.set_cons_succ]
  refine wpAnyH_ready (rs := [7]) (by kernel_rfl) (by simp) ?_
  refine AllReadyH.cons (o := _) rfl (fun K hK => ?_) ?_
  · rw [if_pos (by rfl)]
    go_simp
    refine (HC1.out _ hb).mono ?_
    rintro e wx ⟨rfl, hbx⟩
    have hb := then_ hb hbx
    clear hbx
    go_wp2_with fail
    refine hK.out _ _ (HC.out _ hb) (fun hHeld => ?_)
    clear hK K
    try dsimp only [Act.put, List.getElem_toArray, List.getElem_cons_zero, List.getElem_cons_succ]; try simp only [List.setIfInBounds_toArray, List.set_cons_zero, List.set_cons_succ]
    refine wpAnyH_ready (rs := [15]) (by kernel_rfl) (by simp) ?_
    refine AllReadyH.cons (o := _) rfl (fun K hK => ?_) ?_
    · rw [if_pos (by rfl)]
      go_simp
      refine (HC2.out _ hb).mono ?_
      rintro e wx ⟨rfl, hbx⟩
      have hb := then_ hb hbx
      clear hbx
      go_wp2_with fail
      refine hK.out _ _ (HC.out _ hb) (fun hHeld => ?_)
      clear hK K
      try dsimp only [Act.put, List.getElem_toArray, List.getElem_cons_zero, List.getElem_cons_succ]; try simp only [List.setIfInBounds_toArray, List.set_cons_zero, List.set_cons_succ]
      refine wpAnyH_take (i := 16) (oi := _) (v := ?vq15) rfl (by kernel_rfl) (by kernel_rfl) (by kernel_rfl) (fun _ _ _ h => h) (Or.inl ⟨by rfl, ?hq15⟩) (by assumption) ?rq15
      case hq15 => (intro w hSw; go_simp; try with_reducible rfl)
      try dsimp only [Act.put, List.getElem_toArray, List.getElem_cons_zero, List.getElem_cons_succ]; try simp only [List.setIfInBounds_toArray, List.set_cons_zero, List.set_cons_succ]
      refine wpAnyH_take (i := 17) (oi := _) (v := ?vq16) rfl (by kernel_rfl) (by kernel_rfl) (by kernel_rfl) (fun _ _ _ h => h) (Or.inl ⟨by rfl, ?hq16⟩) (by assumption) ?rq16
      case hq16 => (intro w hSw; go_simp; try with_reducible rfl)
      try dsimp only [Act.put, List.getElem_toArray, List.getElem_cons_zero, List.getElem_cons_succ]; try simp only [List.setIfInBounds_toArray, List.set_cons_zero, List.set_cons_succ]
      refine wpAnyH_take (i := 18) (oi := _) (v := ?vq17) rfl (by kernel_rfl) (by kernel_rfl) (by kernel_rfl) (fun _ _ _ h => h) (Or.inl ⟨by rfl, ?hq17⟩) (by assumption) ?rq17
      case hq17 => (intro w hSw; go_simp; try with_reducible rfl)
      try dsimp only [Act.put, List.getElem_toArray, List.getElem_cons_zero, List.getElem_cons_succ]; try simp only [List.setIfInBounds_toArray, List.set_cons_zero, List.set_cons_succ]
      refine wpAnyH_take (i := 19) (oi := _) (v := ?vq18) rfl (by kernel_rfl) (by kernel_rfl) (by kernel_rfl) (fun _ _ _ h => h) (Or.inl ⟨by rfl, ?hq18⟩) (by assumption) ?rq18
      case hq18 => (intro w hSw; go_simp; try with_reducible rfl)
      try dsimp only [Act.put, List.getElem_toArray, List.getElem_cons_zero, List.getElem_cons_succ]; try simp only [List.setIfInBounds_toArray, List.set_cons_zero, List.set_cons_succ]
      refine wpAnyH_take (i := 20) (oi := _) (v := ?vq19) rfl (by kernel_rfl) (by kernel_rfl) (by kernel_rfl) (fun _ _ _ h => h) (Or.inl ⟨by rfl, ?hq19⟩) (by assumption) ?rq19
      case hq19 => (intro w hSw; go_simp; try with_reducible rfl)
      try dsimp only [Act.put, List.getElem_toArray, List.getElem_cons_zero, List.getElem_cons_succ]; try simp only [List.setIfInBounds_toArray, List.set_cons_zero, List.set_cons_succ]
      refine wpAnyH_take (i := 21) (oi := _) (v := ?vq20) rfl (by kernel_rfl) (by kernel_rfl) (by kernel_rfl) (fun _ _ _ h => h) (Or.inl ⟨by rfl, ?hq20⟩) (by assumption) ?rq20
      case hq20 => (intro w hSw; go_simp; try with_reducible rfl)
      try dsimp only [Act.put, List.getElem_toArray, List.getElem_cons_zero, List.getElem_cons_succ]; try simp only [List.setIfInBounds_toArray, List.set_cons_zero, List.set_cons_succ]
      refine wpAnyH_take (i := 22) (oi := _) (v := ?vq21) rfl (by kernel_rfl) (by kernel_rfl) (by kernel_rfl) (fun _ _ _ h => h) (Or.inl ⟨by rfl, ?hq21⟩) (by assumption) ?rq21
      case hq21 => (intro w hSw; go_simp; try with_reducible rfl)
      try dsimp only [Act.put, List.getElem_toArray, List.getElem_cons_zero, List.getElem_cons_succ]; try simp only [List.setIfInBounds_toArray, List.set_cons_zero, List.set_cons_succ]
      refine wpAnyH_take (i := 23) (oi := _) (v := ?vq22) rfl (by kernel_rfl) (by kernel_rfl) (by kernel_rfl) (fun _ _ _ h => h) (Or.inl ⟨by rfl, ?hq22⟩) (by assumption) ?rq22
      case hq22 => (intro w hSw; go_simp; try with_reducible rfl)
      try dsimp only [Act.put, List.getElem_toArray, List.getElem_cons_zero, List.getElem_cons_succ]; try simp only [List.setIfInBounds_toArray, List.set_cons_zero, List.set_cons_succ]
      refine wpAnyH_take (i := 24) (oi := _) (v := ?vq23) rfl (by kernel_rfl) (by kernel_rfl) (by kernel_rfl) (fun _ _ _ h => h) (Or.inl ⟨by rfl, ?hq23⟩) (by assumption) ?rq23
      case hq23 => (intro w hSw; go_simp; try with_reducible rfl)
      try dsimp only [Act.put, List.getElem_toArray, List.getElem_cons_zero, List.getElem_cons_succ]; try simp only [List.setIfInBounds_toArray, List.set_cons_zero, List.set_cons_succ]
      refine wpAnyH_take (i := 25) (oi := _) (v := ?vq24) rfl (by kernel_rfl) (by kernel_rfl) (by kernel_rfl) (fun _ _ _ h => h) (Or.inl ⟨by rfl, ?hq24⟩) (by assumption) ?rq24
      case hq24 => (intro w hSw; go_simp; try with_reducible rfl)
      try dsimp only [Act.put, List.getElem_toArray, List.getElem_cons_zero, List.getElem_cons_succ]; try simp only [List.setIfInBounds_toArray, List.set_cons_zero, List.set_cons_succ]
      refine wpAnyH_take (i := 26) (oi := _) (v := ?vq25) rfl (by kernel_rfl) (by kernel_rfl) (by kernel_rfl) (fun _ _ _ h => h) (Or.inl ⟨by rfl, ?hq25⟩) (by assumption) ?rq25
      case hq25 => (intro w hSw; go_simp; try with_reducible rfl)
      try dsimp only [Act.put, List.getElem_toArray, List.getElem_cons_zero, List.getElem_cons_succ]; try simp only [List.setIfInBounds_toArray, List.set_cons_zero, List.set_cons_succ]
      refine wpAnyH_take (i := 27) (oi := _) (v := ?vq26) rfl (by kernel_rfl) (by kernel_rfl) (by kernel_rfl) (fun _ _ _ h => h) (Or.inl ⟨by rfl, ?hq26⟩) (by assumption) ?rq26
      case hq26 => (intro w hSw; go_simp; try with_reducible rfl)
      try dsimp only [Act.put, List.getElem_toArray, List.getElem_cons_zero, List.getElem_cons_succ]; try simp only [List.setIfInBounds_toArray, List.set_cons_zero, List.set_cons_succ]
      refine wpAnyH_take (i := 28) (oi := _) (v := ?vq27) rfl (by kernel_rfl) (by kernel_rfl) (by kernel_rfl) (fun _ _ _ h => h) (Or.inl ⟨by rfl, ?hq27⟩) (by assumption) ?rq27
      case hq27 => (intro w hSw; go_simp; try with_reducible rfl)
      try dsimp only [Act.put, List.getElem_toArray, List.getElem_cons_zero, List.getElem_cons_succ]; try simp only [List.setIfInBounds_toArray, List.set_cons_zero, List.set_cons_succ]
      refine wpAnyH_take (i := 29) (oi := _) (v := ?vq28) rfl (by kernel_rfl) (by kernel_rfl) (by kernel_rfl) (fun _ _ _ h => h) (Or.inl ⟨by rfl, ?hq28⟩) (by assumption) ?rq28
      case hq28 => (intro w hSw; go_simp; try with_reducible rfl)
      try dsimp only [Act.put, List.getElem_toArray, List.getElem_cons_zero, List.getElem_cons_succ]; try simp only [List.setIfInBounds_toArray, List.set_cons_zero, List.set_cons_succ]
      refine wpAnyH_take (i := 30) (oi := _) (v := ?vq29) rfl (by kernel_rfl) (by kernel_rfl) (by kernel_rfl) (fun _ _ _ h => h) (Or.inl ⟨by rfl, ?hq29⟩) (by assumption) ?rq29
      case hq29 => (intro w hSw; go_simp; try with_reducible rfl)
      try dsimp only [Act.put, List.getElem_toArray, List.getElem_cons_zero, List.getElem_cons_succ]; try simp only [List.setIfInBounds_toArray, List.set_cons_zero, List.set_cons_succ]
      refine wpAnyH_take (i := 32) (oi := _) (v := ?vq30) rfl (by kernel_rfl) (by kernel_rfl) (by kernel_rfl) (fun _ _ _ h => h) (Or.inl ⟨by rfl, ?hq30⟩) (by assumption) ?rq30
      case hq30 => (intro w hSw; go_simp; try with_reducible rfl)
      try dsimp only [Act.put, List.getElem_toArray, List.getElem_cons_zero, List.getElem_cons_succ]; try simp only [List.setIfInBounds_toArray, List.set_cons_zero, List.set_cons_succ]
      refine wpAnyH_take (i := 33) (oi := _) (v := ?vq31) rfl (by kernel_rfl) (by kernel_rfl) (by kernel_rfl) (fun _ _ _ h => h) (Or.inl ⟨by rfl, ?hq31⟩) (by assumption) ?rq31
      case hq31 => (intro w hSw; go_simp; try with_reducible rfl)
      try dsimp only [Act.put, List.getElem_toArray, List.getElem_cons_zero, List.getElem_cons_succ]; try simp only [List.setIfInBounds_toArray, List.set_cons_zero, List.set_cons_succ]
      refine wpAnyH_take (i := 34) (oi := _) (v := ?vq32) rfl (by kernel_rfl) (by kernel_rfl) (by kernel_rfl) (fun _ _ _ h => h) (Or.inl ⟨by rfl, ?hq32⟩) (by assumption) ?rq32
      case hq32 => (intro w hSw; go_simp; try with_reducible rfl)
      try dsimp only [Act.put, List.getElem_toArray, List.getElem_cons_zero, List.getElem_cons_succ]; try simp only [List.setIfInBounds_toArray, List.set_cons_zero, List.set_cons_succ]
      refine wpAnyH_ready (rs := [31]) (by kernel_rfl) (by simp) ?_
      refine AllReadyH.cons (o := _) rfl (fun K hK => ?_) ?_
      · rw [if_pos (by rfl)]
        go_simp
        refine (HP1.out _ hb).mono ?_
        rintro e wx ⟨cs, v, hp1, rfl, hown, hbx⟩
        obtain ⟨A5, c5, rfl⟩ := own_form hown
        have HO5 := Lib.hid (Rd.of_own hown)
        have HPR := Lib.hid hp1
        have hb := then_ hb hbx
        clear hown hp1
        have HLC := Lib.hid (show True from trivial)
        clear hbx
        go_wp2_with fail
        refine hK.out _ _ (HC.out _ hb) (fun hHeld => ?_)
        clear hK K
        try dsimp only [Act.put, List.getElem_toArray, List.getElem_cons_zero, List.getElem_cons_succ]; try simp only [List.setIfInBounds_toArray, List.set_cons_zero, List.set_cons_succ]
        refine wpAnyH_ready (rs := [35]) (by kernel_rfl) (by simp) ?_
        refine AllReadyH.cons (o := _) rfl (fun K hK => ?_) ?_
        · rw [if_pos (by rfl)]
          go_simp
          refine (HP2.out _ hb).mono ?_
          rintro e wx ⟨ds, B5, d5, hp2, rfl, hrd, hbx⟩
          have hcd := pick_same HPR.out hp2
          have HLE := Lib.hid hp2.le
          subst hcd
          have HO5 := Lib.hid (HO5.out.below hbx)
          have HO6 := Lib.hid hrd
          have hb := then_ hb hbx
          clear hbx hrd hp2 HPR
          go_wp2_with fail
          refine hK.out _ _ (HC.out _ hb) (fun hHeld => ?_)
          clear hK K
          try dsimp only [Act.put, List.getElem_toArray, List.getElem_cons_zero, List.getElem_cons_succ]; try simp only [List.setIfInBounds_toArray, List.set_cons_zero, List.set_cons_succ]
          refine wpAnyH_ready (rs := [36]) (by kernel_rfl) (by simp) ?_
          refine AllReadyH.cons (o := _) rfl (fun K hK => ?_) ?_
          · rw [if_pos (by rfl)]
            go_simp
            refine (sameInts_any A5 cs.length c5 (natI cs) B5 cs.length d5 (natI cs) _ HO5.out (by simp [natI]) (by have := HLE.out; have := HN.out; omega) HO6.out (by simp [natI]) (by have := HLE.out; have := HN.out; omega)).mono ?_
            rintro e wx ⟨rfl, hbx⟩
            rw [decide_eq_true rfl]
            have hb := then_ hb hbx
            clear hbx
            go_wp2_with fail
            refine hK.out _ _ (HC.out _ hb) (fun hHeld => ?_)
            clear hK K
            try dsimp only [Act.put, List.getElem_toArray, List.getElem_cons_zero, List.getElem_cons_succ]; try simp only [List.setIfInBounds_toArray, List.set_cons_zero, List.set_cons_succ]
            refine wpAnyH_take (i := 37) (oi := _) (v := ?vq33) rfl (by kernel_rfl) (by kernel_rfl) (by kernel_rfl) (fun _ _ _ h => h) (Or.inl ⟨by rfl, ?hq33⟩) (by assumption) ?rq33
            case hq33 => (intro w hSw; go_simp; try with_reducible rfl)
            try dsimp only [Act.put, List.getElem_toArray, List.getElem_cons_zero, List.getElem_cons_succ]; try simp only [List.setIfInBounds_toArray, List.set_cons_zero, List.set_cons_succ]
            refine wpAnyH_take (i := 38) (oi := _) (v := ?vq34) rfl (by kernel_rfl) (by kernel_rfl) (by kernel_rfl) (fun _ _ _ h => h) (Or.inl ⟨by rfl, ?hq34⟩) (by assumption) ?rq34
            case hq34 => (intro w hSw; go_simp; try with_reducible rfl)
            try dsimp only [Act.put, List.getElem_toArray, List.getElem_cons_zero, List.getElem_cons_succ]; try simp only [List.setIfInBounds_toArray, List.set_cons_zero, List.set_cons_succ]
            refine wpAnyH_ready (rs := [39]) (by kernel_rfl) (by simp) ?_
            refine AllReadyH.cons (o := _) rfl (fun K hK => ?_) ?_
            · rw [if_pos (by rfl)]
              go_simp
              refine (awake17_any _).mono ?_
              rintro e wx ⟨rfl, hbx⟩
              have hb := then_ hb hbx
              clear hbx
              go_wp2_with fail
              refine hK.out _ _ (HC.out _ hb) (fun hHeld => ?_)
              clear hK K
              try dsimp only [Act.put, List.getElem_toArray, List.getElem_cons_zero, List.getElem_cons_succ]; try simp only [List.setIfInBounds_toArray, List.set_cons_zero, List.set_cons_succ]
              refine wpAnyH_take (i := 40) (oi := _) (v := ?vq35) rfl (by kernel_rfl) (by kernel_rfl) (by kernel_rfl) (fun _ _ _ h => h) (Or.inl ⟨by rfl, ?hq35⟩) (by assumption) ?rq35
              case hq35 => (intro w hSw; go_simp; try with_reducible rfl)
              try dsimp only [Act.put, List.getElem_toArray, List.getElem_cons_zero, List.getElem_cons_succ]; try simp only [List.setIfInBounds_toArray, List.set_cons_zero, List.set_cons_succ]
              refine wpAnyH_take (i := 41) (oi := _) (v := ?vq36) rfl (by kernel_rfl) (by kernel_rfl) (by kernel_rfl) (fun _ _ _ h => h) (Or.inl ⟨by rfl, ?hq36⟩) (by assumption) ?rq36
              case hq36 => (intro w hSw; go_simp; try with_reducible rfl)
              try dsimp only [Act.put, List.getElem_toArray, List.getElem_cons_zero, List.getElem_cons_succ]; try simp only [List.setIfInBounds_toArray, List.set_cons_zero, List.set_cons_succ]
              refine wpAnyH_done (by kernel_rfl) ?_ _
              go_wp2
              go_ret
              exact ⟨rfl, then_ HB2.out hb⟩
            exact AllReadyH.nil
          exact AllReadyH.nil
        exact AllReadyH.nil
      exact AllReadyH.nil
    exact AllReadyH.nil
  exact AllReadyH.nil
end Go.Proofs.Ytpiinfjcjpdofaa
