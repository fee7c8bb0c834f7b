/- The walk of PreferIs. -/
import Derived.Test.YtpiinfjcjpdofaaPreH
import Derived.Test.YtpiinfjcjpdofaaOpen
import Derived.Deep.Cut
import Derived.Says
attribute [local go_sem ↓] Go.wp_at_zero Go.wp_at_succ
namespace Go.Proofs.Ytpiinfjcjpdofaa
open Go.RowKit Go.Mem Go.Cov
set_option linter.unusedVariables false
set_option linter.unusedSimpArgs false

theorem cells_member : Try.prog.cellsOf 34 = 4 := by kernel_rfl
theorem cells_string : Try.prog.cellsOf 9 = 1 := by kernel_rfl
theorem cells_bool : Try.prog.cellsOf 4 = 1 := by kernel_rfl
theorem is_member {H : Type} {enc : TypeId × Value → H} {w : World} {cs : List Value} (h : Is enc Try.prog w 34 cs) : ∃ m : Mb, cs = m.cells ∧ True := by
  obtain ⟨hl, hf⟩ := is_struct Try.underlying34 h
  rw [cells_member] at hl
  obtain ⟨c0, r0, rfl, hl0⟩ := cons_of hl
  obtain ⟨c1, r1, rfl, hl1⟩ := cons_of hl0
  obtain ⟨c2, r2, rfl, hl2⟩ := cons_of hl1
  obtain ⟨c3, r3, rfl, hl3⟩ := cons_of hl2
  obtain rfl := nil_of hl3
  obtain ⟨s0, h0, _⟩ := is_string Try.underlying9 (hf 0 _ rfl)
  obtain ⟨s1, h1, _⟩ := is_string Try.underlying9 (hf 1 _ rfl)
  obtain ⟨s2, h2, _⟩ := is_string Try.underlying9 (hf 2 _ rfl)
  obtain ⟨s3, h3⟩ := is_bool Try.underlying4 (hf 3 _ rfl)
  simp [cells_string, cells_bool] at h0 h1 h2 h3
  subst h0 h1 h2 h3
  exact ⟨⟨s0, s1, s2, s3⟩, rfl, trivial⟩
def arr2i (x : Int × Int) : Array Value := #[.int .i64 x.1, .int .i64 x.2]
def wf2i (x : Int × Int) : Prop := (Lit.int .i64 x.1).wf = true ∧ (Lit.int .i64 x.2).wf = true
theorem cells_int : Try.prog.cellsOf 3 = 1 := by kernel_rfl
theorem cells_arr2i : Try.prog.cellsOf 50 = 2 := by kernel_rfl
theorem is_arr2i {H : Type} {enc : TypeId × Value → H} {w : World} {cs : List Value} (h : Is enc Try.prog w 50 cs) : ∃ x : Int × Int, cs = (arr2i x).toList ∧ wf2i x := by
  obtain ⟨hl, hf⟩ := is_array Try.underlying50 h
  rw [cells_arr2i] at hl
  obtain ⟨c0, r0, rfl, hl0⟩ := cons_of hl
  obtain ⟨c1, r1, rfl, hl1⟩ := cons_of hl0
  obtain rfl := nil_of hl1
  obtain ⟨s0, h0, w0⟩ := is_int Try.underlying3 (hf 0 (by omega))
  obtain ⟨s1, h1, w1⟩ := is_int Try.underlying3 (hf 1 (by omega))
  simp [cells_int] at h0 h1
  subst h0 h1
  exact ⟨⟨s0, s1⟩, rfl, w0, w1⟩
theorem okM_few {ms : List Mb} (h : ∀ m ∈ ms, m.name.size ≤ 100 ∧ m.rack.size ≤ 100 ∧ m.zone.size ≤ 100) : okM ms := fun x hx => by
  obtain ⟨h1, h2, h3⟩ := h x hx
  unfold maxLen
  exact ⟨by omega, by omega, by omega⟩
theorem listF_le (ss : List ByteArray) (ms : List Mb) (part q : Int) : (listF ss ms part q).length ≤ ms.length := by
  unfold listF
  split
  · unfold choF; rw [List.length_map]; exact Nat.le_trans (chN_le _ _ _ _) (upM_len ms)
  · simp
set_option maxRecDepth 100000 in
set_option maxHeartbeats 16000000 in
theorem preferIs_walk (A : Option Addr) (n c : Nat) (ss : List ByteArray) (B : Option Addr) (m d : Nat) (ms : List Mb) (nn : Int × Int) (w : World) (hr : Rd w A (ss.map Value.string)) (hn : ss.length = n) (hn' : n ≤ maxLen) (hr' : Rd w B (ms.flatMap Mb.cells)) (hm : ms.length = m) (hm' : m ≤ maxLen) (hok : ∀ x ∈ ms, True) (hwf : wf2i nn) :
    Calls Try.prog 8 #[.slice A n c, .slice B m d, .agg (arr2i nn)] w fun e w' => e = .returned (.bool true) ∧ Below w.heap.size w w' := by
  obtain ⟨z0, z1⟩ := nn
  obtain ⟨hz0, hz1⟩ := hwf
  simp only at hz0 hz1
  have hb0 := (Below.refl w.heap.size w).alloc (Nat.le_refl _) (.cells #[.int .i64 z0, .int .i64 z1] 50)
  have HN0 := Lib.hid (show (w.alloc (.cells #[.int .i64 z0, .int .i64 z1] 50)).cell? ⟨w.heap.size, 0, none⟩ = some (.int .i64 z0) ∧ (w.alloc (.cells #[.int .i64 z0, .int .i64 z1] 50)).cell? ⟨w.heap.size, 1, none⟩ = some (.int .i64 z1) from
    ⟨by rw [World.cell?_alloc_at _ _ _ _ rfl]; rfl, by rw [World.cell?_alloc_at _ _ _ _ rfl]; rfl⟩)
  have HR := Lib.hid (hr.below hb0); have HR' := Lib.hid (hr'.below hb0); have HB0 := Lib.hid hb0; have HN := Lib.hid hn; have HM := Lib.hid hm
  clear hr hr' hb0 hok
  unfold arr2i
  simp only
  go_enter Try.func8, Try.ntmps8
  go_wp2_with fail
  generalize w.alloc (.cells #[.int .i64 z0, .int .i64 z1] 50) = W0 at HN0 HR HR' HB0 ⊢
  generalize hnb : w.heap.size = nb at HN0 ⊢
  clear hnb
  refine (few18_any A n c ss W0 HR.out HN.out hn').mono ?_
  rintro e w1 ⟨b1, hb1, rfl, rfl⟩
  have HF1 := Lib.hid hb1; clear hb1
  cases b1 with
  | false =>
    go_wp2_with fail
    refine (awake18_any _).mono ?_
    rintro e w2 ⟨rfl, hb⟩
    go_wp2_with fail
    go_ret
    exact ⟨rfl, then_ HB0.out hb⟩
  | true =>
    go_wp2_with fail
    refine (few13_any B m d ms 8 W0 HR'.out HM.out hm' (by omega)).mono ?_
    rintro e w2 ⟨b2, hb2, rfl, rfl⟩
    have HF2 := Lib.hid hb2; clear hb2
    cases b2 with
    | false =>
      go_wp2_with fail
      refine (awake18_any _).mono ?_
      rintro e w2 ⟨rfl, hb⟩
      go_wp2_with fail
      go_ret
      exact ⟨rfl, then_ HB0.out hb⟩
    | true =>
      obtain ⟨hn20, hss⟩ := HF1.out (by simp)
      obtain ⟨hm8, hms⟩ := HF2.out (by simp)
      have HSS := Lib.hid (show ∀ s ∈ ss, s.size ≤ maxLen from fun s hs => Nat.le_trans (hss s hs) (by unfold maxLen; omega))
      have HMS := Lib.hid (okM_few hms)
      clear hss hms HF1 HF2
      have HL1 := Lib.hid (fun W (h : Below W0.heap.size W0 W) => list_any A n c ss B m d ms z0 z1 W (HR.out.below h) HN.out (by omega) (HR'.out.below h) HM.out (by omega) hz0 HSS.out HMS.out)
      have HL2 := Lib.hid (fun W (h : Below W0.heap.size W0 W) => rList_any A n c ss B m d ms z0 z1 W (HR.out.below h) HN.out (by omega) (HR'.out.below h) HM.out (by omega) hz0)
      have HC1 := Lib.hid (fun W (h : Below W0.heap.size W0 W) => claimed_any A n c ss B m d ms z0 z1 W (HR.out.below h) HN.out (by omega) (HR'.out.below h) HM.out (by omega) hz0 HSS.out HMS.out)
      have HC2 := Lib.hid (fun W (h : Below W0.heap.size W0 W) => rClaimed_any A n c ss B m d ms z0 z1 W (HR.out.below h) HN.out (by omega) (HR'.out.below h) HM.out (by omega) hz0)
      have hle := listF_le ss ms z0 z1
      have hcl := claimedF_le ss ms z0 z1
      rw [HM.out] at hle hcl
      generalize listF ss ms z0 z1 = l at HL1 HL2 hle
      generalize claimedF ss ms z0 z1 = cl at HC1 HC2 hcl
      have HCE := Lib.hid (fun W (h : Below W0.heap.size W0 W) => (⟨cell_below h HN0.out.1, cell_below h HN0.out.2⟩ : W.cell? ⟨nb, 0, none⟩ = some (.int .i64 z0) ∧ W.cell? ⟨nb, 1, none⟩ = some (.int .i64 z1)))
      have hb : Below W0.heap.size W0 W0.drew := (Below.refl _ _).drew
      go_wp2_with fail
      refine wp_region_held_drew (S := (fun W => W.cell? ⟨nb, 0, none⟩ = some (.int .i64 z0) ∧ W.cell? ⟨nb, 1, none⟩ = some (.int .i64 z1))) (by kernel_rfl) (HCE.out _ hb) (fun hHeld => ?_)
      refine wpAnyH_take (i := 0) (oi := _) (v := ?vq1) rfl (by kernel_rfl) (by kernel_rfl) (by kernel_rfl) (fun _ _ _ h => h) (Or.inl ⟨by rfl, ?hq1⟩) (by assumption) ?rq1
      case hq1 => (intro w hSw; go_simp; try with_reducible rfl)
      try dsimp only [Act.put, List.getElem_toArray, List.getElem_cons_zero, List.getElem_cons_succ]; try simp only [List.setIfInBounds_toArray, List.set_cons_zero, List.set_cons_succ]
      refine wpAnyH_take (i := 1) (oi := _) (v := ?vq2) rfl (by kernel_rfl) (by kernel_rfl) (by kernel_rfl) (fun _ _ _ h => h) (Or.inl ⟨by rfl, ?hq2⟩) (by assumption) ?rq2
      case hq2 => (intro w hSw; go_simp; try with_reducible rfl)
      try dsimp only [Act.put, List.getElem_toArray, List.getElem_cons_zero, List.getElem_cons_succ]; try simp only [List.setIfInBounds_toArray, List.set_cons_zero, List.set_cons_succ]
      refine wpAnyH_take (i := 2) (oi := _) (v := ?vq3) rfl (by kernel_rfl) (by kernel_rfl) (by kernel_rfl) (fun _ _ _ h => h) (Or.inl ⟨by rfl, ?hq3⟩) (by assumption) ?rq3
      case hq3 => (intro w hSw; go_simp; try with_reducible rfl)
      try dsimp only [Act.put, List.getElem_toArray, List.getElem_cons_zero, List.getElem_cons_succ]; try simp only [List.setIfInBounds_toArray, List.set_cons_zero, List.set_cons_succ]
      refine wpAnyH_take (i := 3) (oi := _) (v := ?vq4) rfl (by kernel_rfl) (by kernel_rfl) (by kernel_rfl) (fun _ _ _ h => h) (Or.inl ⟨by rfl, ?hq4⟩) (by assumption) ?rq4
      case hq4 => (intro w hSw; go_simp; try with_reducible rfl)
      try dsimp only [Act.put, List.getElem_toArray, List.getElem_cons_zero, List.getElem_cons_succ]; try simp only [List.setIfInBounds_toArray, List.set_cons_zero, List.set_cons_succ]
      refine wpAnyH_take (i := 4) (oi := _) (v := ?vq5) rfl (by kernel_rfl) (by kernel_rfl) (by kernel_rfl) (fun _ _ _ h => h) (Or.inl ⟨by rfl, ?hq5⟩) (by assumption) ?rq5
      case hq5 => (intro w hSw; go_simp; try with_reducible rfl)
      try dsimp only [Act.put, List.getElem_toArray, List.getElem_cons_zero, List.getElem_cons_succ]; try simp only [List.setIfInBounds_toArray, List.set_cons_zero, List.set_cons_succ]
      refine wpAnyH_take (i := 5) (oi := _) (v := ?vq6) rfl (by kernel_rfl) (by kernel_rfl) (by kernel_rfl) (fun _ _ _ h => h) (Or.inl ⟨by rfl, ?hq6⟩) (by assumption) ?rq6
      case hq6 => (intro w hSw; go_simp; try with_reducible rfl)
      try dsimp only [Act.put, List.getElem_toArray, List.getElem_cons_zero, List.getElem_cons_succ]; try simp only [List.setIfInBounds_toArray, List.set_cons_zero, List.set_cons_succ]
      refine wpAnyH_take (i := 7) (oi := _) (v := ?vq7) rfl (by kernel_rfl) (by kernel_rfl) (by kernel_rfl) (fun _ _ _ h => h) (Or.inl ⟨by rfl, ?hq7⟩) (by assumption) ?rq7
      case hq7 => (intro w hSw; go_simp; try with_reducible rfl)
      try dsimp only [Act.put, List.getElem_toArray, List.getElem_cons_zero, List.getElem_cons_succ]; try simp only [List.setIfInBounds_toArray, List.set_cons_zero, List.set_cons_succ]
      refine wpAnyH_take (i := 8) (oi := _) (v := ?vq8) rfl (by kernel_rfl) (by kernel_rfl) (by kernel_rfl) (fun _ _ _ h => h) (Or.inl ⟨by rfl, ?hq8⟩) (by assumption) ?rq8
      case hq8 => (intro w hSw; go_simp; try with_reducible rfl)
      try dsimp only [Act.put, List.getElem_toArray, List.getElem_cons_zero, List.getElem_cons_succ]; try simp only [List.setIfInBounds_toArray, List.set_cons_zero, List.set_cons_succ]
      refine wpAnyH_take (i := 9) (oi := _) (v := ?vq9) rfl (by kernel_rfl) (by kernel_rfl) (by kernel_rfl) (fun _ _ _ h => h) (Or.inl ⟨by rfl, ?hq9⟩) (by assumption) ?rq9
      case hq9 => (intro w hSw; go_simp; try with_reducible rfl)
      try dsimp only [Act.put, List.getElem_toArray, List.getElem_cons_zero, List.getElem_cons_succ]; try simp only [List.setIfInBounds_toArray, List.set_cons_zero, List.set_cons_succ]
      refine wpAnyH_take (i := 10) (oi := _) (v := ?vq10) rfl (by kernel_rfl) (by kernel_rfl) (by kernel_rfl) (fun _ _ _ h => h) (Or.inl ⟨by rfl, ?hq10⟩) (by assumption) ?rq10
      case hq10 => (intro w hSw; go_simp; try with_reducible rfl)
      try dsimp only [Act.put, List.getElem_toArray, List.getElem_cons_zero, List.getElem_cons_succ]; try simp only [List.setIfInBounds_toArray, List.set_cons_zero, List.set_cons_succ]
      refine wpAnyH_take (i := 11) (oi := _) (v := ?vq11) rfl (by kernel_rfl) (by kernel_rfl) (by kernel_rfl) (fun _ _ _ h => h) (Or.inl ⟨by rfl, ?hq11⟩) (by assumption) ?rq11
      case hq11 => (intro w hSw; go_simp; try with_reducible rfl)
      try dsimp only [Act.put, List.getElem_toArray, List.getElem_cons_zero, List.getElem_cons_succ]; try simp only [List.setIfInBounds_toArray, List.set_cons_zero, List.set_cons_succ]
      refine wpAnyH_take (i := 12) (oi := _) (v := ?vq12) rfl (by kernel_rfl) (by kernel_rfl) (by kernel_rfl) (fun _ _ _ h => h) (Or.inl ⟨by rfl, ?hq12⟩) (by assumption) ?rq12
      case hq12 => (intro w hSw; go_simp; try with_reducible rfl)
      try dsimp only [Act.put, List.getElem_toArray, List.getElem_cons_zero, List.getElem_cons_succ]; try simp only [List.setIfInBounds_toArray, List.set_cons_zero, List.set_cons_succ]
      refine wpAnyH_ready (rs := [6]) (by kernel_rfl) (by simp) ?_
      refine AllReadyH.cons (o := _) rfl (fun K hK => ?_) ?_
      · rw [if_pos (by rfl)]
        go_simp
        refine (HL1.out _ hb).mono ?_
        rintro e wx ⟨va, rfl, hown, hbx⟩
        obtain ⟨Aa, ca, rfl⟩ := own_form hown
        have HRa := Lib.hid (Rd.of_own hown)
        have hb := then_ hb hbx
        clear hown hbx 
        go_wp2_with fail
        refine hK.out _ _ (HCE.out _ hb) (fun hHeld => ?_)
        clear hK K
        try dsimp only [Act.put, List.getElem_toArray, List.getElem_cons_zero, List.getElem_cons_succ]; try simp only [List.setIfInBounds_toArray, List.set_cons_zero, List.set_cons_succ]
        refine wpAnyH_ready (rs := [13]) (by kernel_rfl) (by simp) ?_
        refine AllReadyH.cons (o := _) rfl (fun K hK => ?_) ?_
        · rw [if_pos (by rfl)]
          go_simp
          refine (HL2.out _ hb).mono ?_
          rintro e wx ⟨vb, rfl, hown, hbx⟩
          obtain ⟨Ab, cb, rfl⟩ := own_form hown
          have HRa := Lib.hid (HRa.out.below hbx)
          have HRb := Lib.hid (Rd.of_own hown)
          have hb := then_ hb hbx
          clear hown hbx 
          go_wp2_with fail
          refine hK.out _ _ (HCE.out _ hb) (fun hHeld => ?_)
          clear hK K
          try dsimp only [Act.put, List.getElem_toArray, List.getElem_cons_zero, List.getElem_cons_succ]; try simp only [List.setIfInBounds_toArray, List.set_cons_zero, List.set_cons_succ]
          refine wpAnyH_take (i := 14) (oi := _) (v := ?vq13) rfl (by kernel_rfl) (by kernel_rfl) (by kernel_rfl) (fun _ _ _ h => h) (Or.inl ⟨by rfl, ?hq13⟩) (by assumption) ?rq13
          case hq13 => (intro w hSw; go_simp; try with_reducible rfl)
          try dsimp only [Act.put, List.getElem_toArray, List.getElem_cons_zero, List.getElem_cons_succ]; try simp only [List.setIfInBounds_toArray, List.set_cons_zero, List.set_cons_succ]
          refine wpAnyH_take (i := 15) (oi := _) (v := ?vq14) rfl (by kernel_rfl) (by kernel_rfl) (by kernel_rfl) (fun _ _ _ h => h) (Or.inl ⟨by rfl, ?hq14⟩) (by assumption) ?rq14
          case hq14 => (intro w hSw; go_simp; try with_reducible rfl)
          try dsimp only [Act.put, List.getElem_toArray, List.getElem_cons_zero, List.getElem_cons_succ]; try simp only [List.setIfInBounds_toArray, List.set_cons_zero, List.set_cons_succ]
          refine wpAnyH_done (by kernel_rfl) ?_ _
          have HPL := Lib.hid (show (primF l).length ≤ 8 by unfold primF nodesF; rw [List.length_map]; exact Nat.le_trans (List.length_filter_le _ _) (by omega))
          have HNL := Lib.hid (show (nodesF l).length = l.length by unfold nodesF; simp)
          clear HL1 HL2
          rename World => W1
          have hb := hb.drew
          have HRa : Hid (Rd W1.drew Aa (choc l)) := Lib.hid HRa.out
          have HRb : Hid (Rd W1.drew Ab (choc l)) := Lib.hid HRb.out
          go_wp2_with fail
          refine wp_region_held_drew (S := (fun W => W.cell? ⟨nb, 0, none⟩ = some (.int .i64 z0) ∧ W.cell? ⟨nb, 1, none⟩ = some (.int .i64 z1))) (by kernel_rfl) (HCE.out _ hb) (fun hHeld => ?_)
          refine wpAnyH_take (i := 0) (oi := _) (v := ?vq15) rfl (by kernel_rfl) (by kernel_rfl) (by kernel_rfl) (fun _ _ _ h => h) (Or.inl ⟨by rfl, ?hq15⟩) (by assumption) ?rq15
          case hq15 => (intro w hSw; go_simp; try with_reducible rfl)
          try dsimp only [Act.put, List.getElem_toArray, List.getElem_cons_zero, List.getElem_cons_succ]; try simp only [List.setIfInBounds_toArray, List.set_cons_zero, List.set_cons_succ]
          refine wpAnyH_take (i := 1) (oi := _) (v := ?vq16) rfl (by kernel_rfl) (by kernel_rfl) (by kernel_rfl) (fun _ _ _ h => h) (Or.inl ⟨by rfl, ?hq16⟩) (by assumption) ?rq16
          case hq16 => (intro w hSw; go_simp; try with_reducible rfl)
          try dsimp only [Act.put, List.getElem_toArray, List.getElem_cons_zero, List.getElem_cons_succ]; try simp only [List.setIfInBounds_toArray, List.set_cons_zero, List.set_cons_succ]
          refine wpAnyH_take (i := 2) (oi := _) (v := ?vq17) rfl (by kernel_rfl) (by kernel_rfl) (by kernel_rfl) (fun _ _ _ h => h) (Or.inl ⟨by rfl, ?hq17⟩) (by assumption) ?rq17
          case hq17 => (intro w hSw; go_simp; try with_reducible rfl)
          try dsimp only [Act.put, List.getElem_toArray, List.getElem_cons_zero, List.getElem_cons_succ]; try simp only [List.setIfInBounds_toArray, List.set_cons_zero, List.set_cons_succ]
          refine wpAnyH_take (i := 3) (oi := _) (v := ?vq18) rfl (by kernel_rfl) (by kernel_rfl) (by kernel_rfl) (fun _ _ _ h => h) (Or.inl ⟨by rfl, ?hq18⟩) (by assumption) ?rq18
          case hq18 => (intro w hSw; go_simp; try with_reducible rfl)
          try dsimp only [Act.put, List.getElem_toArray, List.getElem_cons_zero, List.getElem_cons_succ]; try simp only [List.setIfInBounds_toArray, List.set_cons_zero, List.set_cons_succ]
          refine wpAnyH_take (i := 4) (oi := _) (v := ?vq19) rfl (by kernel_rfl) (by kernel_rfl) (by kernel_rfl) (fun _ _ _ h => h) (Or.inl ⟨by rfl, ?hq19⟩) (by assumption) ?rq19
          case hq19 => (intro w hSw; go_simp; try with_reducible rfl)
          try dsimp only [Act.put, List.getElem_toArray, List.getElem_cons_zero, List.getElem_cons_succ]; try simp only [List.setIfInBounds_toArray, List.set_cons_zero, List.set_cons_succ]
          refine wpAnyH_take (i := 5) (oi := _) (v := ?vq20) rfl (by kernel_rfl) (by kernel_rfl) (by kernel_rfl) (fun _ _ _ h => h) (Or.inl ⟨by rfl, ?hq20⟩) (by assumption) ?rq20
          case hq20 => (intro w hSw; go_simp; try with_reducible rfl)
          try dsimp only [Act.put, List.getElem_toArray, List.getElem_cons_zero, List.getElem_cons_succ]; try simp only [List.setIfInBounds_toArray, List.set_cons_zero, List.set_cons_succ]
          refine wpAnyH_take (i := 7) (oi := _) (v := ?vq21) rfl (by kernel_rfl) (by kernel_rfl) (by kernel_rfl) (fun _ _ _ h => h) (Or.inl ⟨by rfl, ?hq21⟩) (by assumption) ?rq21
          case hq21 => (intro w hSw; go_simp; try with_reducible rfl)
          try dsimp only [Act.put, List.getElem_toArray, List.getElem_cons_zero, List.getElem_cons_succ]; try simp only [List.setIfInBounds_toArray, List.set_cons_zero, List.set_cons_succ]
          refine wpAnyH_take (i := 8) (oi := _) (v := ?vq22) rfl (by kernel_rfl) (by kernel_rfl) (by kernel_rfl) (fun _ _ _ h => h) (Or.inl ⟨by rfl, ?hq22⟩) (by assumption) ?rq22
          case hq22 => (intro w hSw; go_simp; try with_reducible rfl)
          try dsimp only [Act.put, List.getElem_toArray, List.getElem_cons_zero, List.getElem_cons_succ]; try simp only [List.setIfInBounds_toArray, List.set_cons_zero, List.set_cons_succ]
          refine wpAnyH_take (i := 9) (oi := _) (v := ?vq23) rfl (by kernel_rfl) (by kernel_rfl) (by kernel_rfl) (fun _ _ _ h => h) (Or.inl ⟨by rfl, ?hq23⟩) (by assumption) ?rq23
          case hq23 => (intro w hSw; go_simp; try with_reducible rfl)
          try dsimp only [Act.put, List.getElem_toArray, List.getElem_cons_zero, List.getElem_cons_succ]; try simp only [List.setIfInBounds_toArray, List.set_cons_zero, List.set_cons_succ]
          refine wpAnyH_take (i := 10) (oi := _) (v := ?vq24) rfl (by kernel_rfl) (by kernel_rfl) (by kernel_rfl) (fun _ _ _ h => h) (Or.inl ⟨by rfl, ?hq24⟩) (by assumption) ?rq24
          case hq24 => (intro w hSw; go_simp; try with_reducible rfl)
          try dsimp only [Act.put, List.getElem_toArray, List.getElem_cons_zero, List.getElem_cons_succ]; try simp only [List.setIfInBounds_toArray, List.set_cons_zero, List.set_cons_succ]
          refine wpAnyH_take (i := 11) (oi := _) (v := ?vq25) rfl (by kernel_rfl) (by kernel_rfl) (by kernel_rfl) (fun _ _ _ h => h) (Or.inl ⟨by rfl, ?hq25⟩) (by assumption) ?rq25
          case hq25 => (intro w hSw; go_simp; try with_reducible rfl)
          try dsimp only [Act.put, List.getElem_toArray, List.getElem_cons_zero, List.getElem_cons_succ]; try simp only [List.setIfInBounds_toArray, List.set_cons_zero, List.set_cons_succ]
          refine wpAnyH_take (i := 12) (oi := _) (v := ?vq26) rfl (by kernel_rfl) (by kernel_rfl) (by kernel_rfl) (fun _ _ _ h => h) (Or.inl ⟨by rfl, ?hq26⟩) (by assumption) ?rq26
          case hq26 => (intro w hSw; go_simp; try with_reducible rfl)
          try dsimp only [Act.put, List.getElem_toArray, List.getElem_cons_zero, List.getElem_cons_succ]; try simp only [List.setIfInBounds_toArray, List.set_cons_zero, List.set_cons_succ]
          refine wpAnyH_ready (rs := [6]) (by kernel_rfl) (by simp) ?_
          refine AllReadyH.cons (o := _) rfl (fun K hK => ?_) ?_
          · rw [if_pos (by rfl)]
            go_simp
            refine (HC1.out _ hb).mono ?_
            rintro e wx ⟨vc, rfl, hown, hbx⟩
            obtain ⟨Ac, cc, rfl⟩ := own_form hown
            have HRa := Lib.hid (HRa.out.below hbx)
            have HRb := Lib.hid (HRb.out.below hbx)
            have HRc := Lib.hid (Rd.of_own hown)
            have hb := then_ hb hbx
            clear hown hbx 
            go_wp2_with fail
            refine hK.out _ _ (HCE.out _ hb) (fun hHeld => ?_)
            clear hK K
            try dsimp only [Act.put, List.getElem_toArray, List.getElem_cons_zero, List.getElem_cons_succ]; try simp only [List.setIfInBounds_toArray, List.set_cons_zero, List.set_cons_succ]
            refine wpAnyH_ready (rs := [13]) (by kernel_rfl) (by simp) ?_
            refine AllReadyH.cons (o := _) rfl (fun K hK => ?_) ?_
            · rw [if_pos (by rfl)]
              go_simp
              refine (HC2.out _ hb).mono ?_
              rintro e wx ⟨vd, rfl, hown, hbx⟩
              obtain ⟨Ad, cd, rfl⟩ := own_form hown
              have HRa := Lib.hid (HRa.out.below hbx)
              have HRb := Lib.hid (HRb.out.below hbx)
              have HRc := Lib.hid (HRc.out.below hbx)
              have HRd := Lib.hid (Rd.of_own hown)
              have hb := then_ hb hbx
              clear hown hbx 
              go_wp2_with fail
              refine hK.out _ _ (HCE.out _ hb) (fun hHeld => ?_)
              clear hK K
              try dsimp only [Act.put, List.getElem_toArray, List.getElem_cons_zero, List.getElem_cons_succ]; try simp only [List.setIfInBounds_toArray, List.set_cons_zero, List.set_cons_succ]
              refine wpAnyH_ready (rs := [14]) (by kernel_rfl) (by simp) ?_
              refine AllReadyH.cons (o := _) rfl (fun K hK => ?_) ?_
              · rw [if_pos (by rfl)]
                go_simp
                have HS := Lib.hid (sameTexts_any Ac cl.length cc cl Ad cl.length cd cl _ HRc.out rfl (by unfold maxLen; omega) HRd.out rfl (by unfold maxLen; omega))
                rw [decide_eq_true rfl] at HS
                refine HS.out.mono ?_
                rintro e wx ⟨rfl, hbx⟩
                have HRa := Lib.hid (HRa.out.below hbx)
                have HRb := Lib.hid (HRb.out.below hbx)
                have hb := then_ hb hbx
                clear hbx HS HRc HRd
                go_wp2_with fail
                refine hK.out _ _ (HCE.out _ hb) (fun hHeld => ?_)
                clear hK K
                try dsimp only [Act.put, List.getElem_toArray, List.getElem_cons_zero, List.getElem_cons_succ]; try simp only [List.setIfInBounds_toArray, List.set_cons_zero, List.set_cons_succ]
                refine wpAnyH_take (i := 15) (oi := _) (v := ?vq27) rfl (by kernel_rfl) (by kernel_rfl) (by kernel_rfl) (fun _ _ _ h => h) (Or.inl ⟨by rfl, ?hq27⟩) (by assumption) ?rq27
                case hq27 => (intro w hSw; go_simp; try with_reducible rfl)
                try dsimp only [Act.put, List.getElem_toArray, List.getElem_cons_zero, List.getElem_cons_succ]; try simp only [List.setIfInBounds_toArray, List.set_cons_zero, List.set_cons_succ]
                refine wpAnyH_take (i := 16) (oi := _) (v := ?vq28) rfl (by kernel_rfl) (by kernel_rfl) (by kernel_rfl) (fun _ _ _ h => h) (Or.inl ⟨by rfl, ?hq28⟩) (by assumption) ?rq28
                case hq28 => (intro w hSw; go_simp; try with_reducible rfl)
                try dsimp only [Act.put, List.getElem_toArray, List.getElem_cons_zero, List.getElem_cons_succ]; try simp only [List.setIfInBounds_toArray, List.set_cons_zero, List.set_cons_succ]
                refine wpAnyH_take (i := 17) (oi := _) (v := ?vq29) rfl (by kernel_rfl) (by kernel_rfl) (by kernel_rfl) (fun _ _ _ h => h) (Or.inl ⟨by rfl, ?hq29⟩) (by assumption) ?rq29
                case hq29 => (intro w hSw; go_simp; try with_reducible rfl)
                try dsimp only [Act.put, List.getElem_toArray, List.getElem_cons_zero, List.getElem_cons_succ]; try simp only [List.setIfInBounds_toArray, List.set_cons_zero, List.set_cons_succ]
                refine wpAnyH_ready (rs := [18]) (by kernel_rfl) (by simp) ?_
                refine AllReadyH.cons (o := _) rfl (fun K hK => ?_) ?_
                · rw [if_pos (by rfl)]
                  go_simp
                  refine (sameCho_any Aa l.length ca l Ab cb _ HRa.out HRb.out rfl (by omega)).mono ?_
                  rintro e wx ⟨rfl, hbx⟩
                  have HRa := Lib.hid (HRa.out.below hbx)
                  have HRb := Lib.hid (HRb.out.below hbx)
                  have hb := then_ hb hbx
                  clear hbx
                  go_wp2_with fail
                  refine hK.out _ _ (HCE.out _ hb) (fun hHeld => ?_)
                  clear hK K
                  try dsimp only [Act.put, List.getElem_toArray, List.getElem_cons_zero, List.getElem_cons_succ]; try simp only [List.setIfInBounds_toArray, List.set_cons_zero, List.set_cons_succ]
                  refine wpAnyH_take (i := 19) (oi := _) (v := ?vq30) rfl (by kernel_rfl) (by kernel_rfl) (by kernel_rfl) (fun _ _ _ h => h) (Or.inl ⟨by rfl, ?hq30⟩) (by assumption) ?rq30
                  case hq30 => (intro w hSw; go_simp; try with_reducible rfl)
                  try dsimp only [Act.put, List.getElem_toArray, List.getElem_cons_zero, List.getElem_cons_succ]; try simp only [List.setIfInBounds_toArray, List.set_cons_zero, List.set_cons_succ]
                  refine wpAnyH_take (i := 20) (oi := _) (v := ?vq31) rfl (by kernel_rfl) (by kernel_rfl) (by kernel_rfl) (fun _ _ _ h => h) (Or.inl ⟨by rfl, ?hq31⟩) (by assumption) ?rq31
                  case hq31 => (intro w hSw; go_simp; try with_reducible rfl)
                  try dsimp only [Act.put, List.getElem_toArray, List.getElem_cons_zero, List.getElem_cons_succ]; try simp only [List.setIfInBounds_toArray, List.set_cons_zero, List.set_cons_succ]
                  refine wpAnyH_take (i := 21) (oi := _) (v := ?vq32) rfl (by kernel_rfl) (by kernel_rfl) (by kernel_rfl) (fun _ _ _ h => h) (Or.inl ⟨by rfl, ?hq32⟩) (by assumption) ?rq32
                  case hq32 => (intro w hSw; go_simp; try with_reducible rfl)
                  try dsimp only [Act.put, List.getElem_toArray, List.getElem_cons_zero, List.getElem_cons_succ]; try simp only [List.setIfInBounds_toArray, List.set_cons_zero, List.set_cons_succ]
                  refine wpAnyH_take (i := 23) (oi := _) (v := ?vq33) rfl (by kernel_rfl) (by kernel_rfl) (by kernel_rfl) (fun _ _ _ h => h) (Or.inl ⟨by rfl, ?hq33⟩) (by assumption) ?rq33
                  case hq33 => (intro w hSw; go_simp; try with_reducible rfl)
                  try dsimp only [Act.put, List.getElem_toArray, List.getElem_cons_zero, List.getElem_cons_succ]; try simp only [List.setIfInBounds_toArray, List.set_cons_zero, List.set_cons_succ]
                  refine wpAnyH_ready (rs := [22]) (by kernel_rfl) (by simp) ?_
                  refine AllReadyH.cons (o := _) rfl (fun K hK => ?_) ?_
                  · rw [if_pos (by rfl)]
                    go_simp
                    refine (primaries_any Aa l.length ca l _ HRa.out rfl (by omega)).mono ?_
                    rintro e wx ⟨ve, rfl, hown, hbx⟩
                    obtain ⟨Ae, ce, rfl⟩ := own_form hown
                    have HRa := Lib.hid (HRa.out.below hbx)
                    have HRb := Lib.hid (HRb.out.below hbx)
                    have HRe := Lib.hid (Rd.of_own hown)
                    have hb := then_ hb hbx
                    clear hown hbx 
                    go_wp2_with fail
                    refine hK.out _ _ (HCE.out _ hb) (fun hHeld => ?_)
                    clear hK K
                    try dsimp only [Act.put, List.getElem_toArray, List.getElem_cons_zero, List.getElem_cons_succ]; try simp only [List.setIfInBounds_toArray, List.set_cons_zero, List.set_cons_succ]
                    refine wpAnyH_ready (rs := [24]) (by kernel_rfl) (by simp) ?_
                    refine AllReadyH.cons (o := _) rfl (fun K hK => ?_) ?_
                    · rw [if_pos (by rfl)]
                      go_simp
                      have HQ := Lib.hid (rNodes_any Ab l.length cb l true _ HRb.out rfl (by omega))
                      rw [nodesB_true] at HQ
                      refine (HQ.out).mono ?_
                      rintro e wx ⟨vf, rfl, hown, hbx⟩
                      obtain ⟨Af, cf, rfl⟩ := own_form hown
                      have HRa := Lib.hid (HRa.out.below hbx)
                      have HRb := Lib.hid (HRb.out.below hbx)
                      have HRe := Lib.hid (HRe.out.below hbx)
                      have HRf := Lib.hid (Rd.of_own hown)
                      have hb := then_ hb hbx
                      clear hown hbx HQ
                      go_wp2_with fail
                      refine hK.out _ _ (HCE.out _ hb) (fun hHeld => ?_)
                      clear hK K
                      try dsimp only [Act.put, List.getElem_toArray, List.getElem_cons_zero, List.getElem_cons_succ]; try simp only [List.setIfInBounds_toArray, List.set_cons_zero, List.set_cons_succ]
                      refine wpAnyH_ready (rs := [25]) (by kernel_rfl) (by simp) ?_
                      refine AllReadyH.cons (o := _) rfl (fun K hK => ?_) ?_
                      · rw [if_pos (by rfl)]
                        go_simp
                        have HS := Lib.hid (sameTexts_any Ae (primF l).length ce (primF l) Af (primF l).length cf (primF l) _ HRe.out rfl (by have := HPL.out; unfold maxLen; omega) HRf.out rfl (by have := HPL.out; unfold maxLen; omega))
                        rw [decide_eq_true rfl] at HS
                        refine HS.out.mono ?_
                        rintro e wx ⟨rfl, hbx⟩
                        have HRa := Lib.hid (HRa.out.below hbx)
                        have HRb := Lib.hid (HRb.out.below hbx)
                        have hb := then_ hb hbx
                        clear hbx HS HRe HRf
                        go_wp2_with fail
                        refine hK.out _ _ (HCE.out _ hb) (fun hHeld => ?_)
                        clear hK K
                        try dsimp only [Act.put, List.getElem_toArray, List.getElem_cons_zero, List.getElem_cons_succ]; try simp only [List.setIfInBounds_toArray, List.set_cons_zero, List.set_cons_succ]
                        refine wpAnyH_take (i := 26) (oi := _) (v := ?vq34) rfl (by kernel_rfl) (by kernel_rfl) (by kernel_rfl) (fun _ _ _ h => h) (Or.inl ⟨by rfl, ?hq34⟩) (by assumption) ?rq34
                        case hq34 => (intro w hSw; go_simp; try with_reducible rfl)
                        try dsimp only [Act.put, List.getElem_toArray, List.getElem_cons_zero, List.getElem_cons_succ]; try simp only [List.setIfInBounds_toArray, List.set_cons_zero, List.set_cons_succ]
                        refine wpAnyH_take (i := 27) (oi := _) (v := ?vq35) rfl (by kernel_rfl) (by kernel_rfl) (by kernel_rfl) (fun _ _ _ h => h) (Or.inl ⟨by rfl, ?hq35⟩) (by assumption) ?rq35
                        case hq35 => (intro w hSw; go_simp; try with_reducible rfl)
                        try dsimp only [Act.put, List.getElem_toArray, List.getElem_cons_zero, List.getElem_cons_succ]; try simp only [List.setIfInBounds_toArray, List.set_cons_zero, List.set_cons_succ]
                        refine wpAnyH_take (i := 28) (oi := _) (v := ?vq36) rfl (by kernel_rfl) (by kernel_rfl) (by kernel_rfl) (fun _ _ _ h => h) (Or.inl ⟨by rfl, ?hq36⟩) (by assumption) ?rq36
                        case hq36 => (intro w hSw; go_simp; try with_reducible rfl)
                        try dsimp only [Act.put, List.getElem_toArray, List.getElem_cons_zero, List.getElem_cons_succ]; try simp only [List.setIfInBounds_toArray, List.set_cons_zero, List.set_cons_succ]
                        refine wpAnyH_take (i := 30) (oi := _) (v := ?vq37) rfl (by kernel_rfl) (by kernel_rfl) (by kernel_rfl) (fun _ _ _ h => h) (Or.inl ⟨by rfl, ?hq37⟩) (by assumption) ?rq37
                        case hq37 => (intro w hSw; go_simp; try with_reducible rfl)
                        try dsimp only [Act.put, List.getElem_toArray, List.getElem_cons_zero, List.getElem_cons_succ]; try simp only [List.setIfInBounds_toArray, List.set_cons_zero, List.set_cons_succ]
                        refine wpAnyH_ready (rs := [29]) (by kernel_rfl) (by simp) ?_
                        refine AllReadyH.cons (o := _) rfl (fun K hK => ?_) ?_
                        · rw [if_pos (by rfl)]
                          go_simp
                          refine (nodes_any Aa l.length ca l _ HRa.out rfl (by omega)).mono ?_
                          rintro e wx ⟨ve, rfl, hown, hbx⟩
                          obtain ⟨Ae, ce, rfl⟩ := own_form hown
                          have HRa := Lib.hid (HRa.out.below hbx)
                          have HRb := Lib.hid (HRb.out.below hbx)
                          have HRe := Lib.hid (Rd.of_own hown)
                          have hb := then_ hb hbx
                          clear hown hbx 
                          go_wp2_with fail
                          refine hK.out _ _ (HCE.out _ hb) (fun hHeld => ?_)
                          clear hK K
                          try dsimp only [Act.put, List.getElem_toArray, List.getElem_cons_zero, List.getElem_cons_succ]; try simp only [List.setIfInBounds_toArray, List.set_cons_zero, List.set_cons_succ]
                          refine wpAnyH_ready (rs := [31]) (by kernel_rfl) (by simp) ?_
                          refine AllReadyH.cons (o := _) rfl (fun K hK => ?_) ?_
                          · rw [if_pos (by rfl)]
                            go_simp
                            have HQ := Lib.hid (rNodes_any Ab l.length cb l false _ HRb.out rfl (by omega))
                            rw [nodesB_false, HNL.out] at HQ
                            refine (HQ.out).mono ?_
                            rintro e wx ⟨vf, rfl, hown, hbx⟩
                            obtain ⟨Af, cf, rfl⟩ := own_form hown
                            have HRa := Lib.hid (HRa.out.below hbx)
                            have HRb := Lib.hid (HRb.out.below hbx)
                            have HRe := Lib.hid (HRe.out.below hbx)
                            have HRf := Lib.hid (Rd.of_own hown)
                            have hb := then_ hb hbx
                            clear hown hbx HQ
                            go_wp2_with fail
                            refine hK.out _ _ (HCE.out _ hb) (fun hHeld => ?_)
                            clear hK K
                            try dsimp only [Act.put, List.getElem_toArray, List.getElem_cons_zero, List.getElem_cons_succ]; try simp only [List.setIfInBounds_toArray, List.set_cons_zero, List.set_cons_succ]
                            refine wpAnyH_ready (rs := [32]) (by kernel_rfl) (by simp) ?_
                            refine AllReadyH.cons (o := _) rfl (fun K hK => ?_) ?_
                            · rw [if_pos (by rfl)]
                              go_simp
                              have HS := Lib.hid (sameTexts_any Ae l.length ce (nodesF l) Af l.length cf (nodesF l) _ HRe.out HNL.out (by unfold maxLen; omega) HRf.out HNL.out (by unfold maxLen; omega))
                              rw [decide_eq_true rfl] at HS
                              refine HS.out.mono ?_
                              rintro e wx ⟨rfl, hbx⟩
                              have HRa := Lib.hid (HRa.out.below hbx)
                              have HRb := Lib.hid (HRb.out.below hbx)
                              have hb := then_ hb hbx
                              clear hbx HS HRe HRf
                              go_wp2_with fail
                              refine hK.out _ _ (HCE.out _ hb) (fun hHeld => ?_)
                              clear hK K
                              try dsimp only [Act.put, List.getElem_toArray, List.getElem_cons_zero, List.getElem_cons_succ]; try simp only [List.setIfInBounds_toArray, List.set_cons_zero, List.set_cons_succ]
                              refine wpAnyH_take (i := 33) (oi := _) (v := ?vq38) rfl (by kernel_rfl) (by kernel_rfl) (by kernel_rfl) (fun _ _ _ h => h) (Or.inl ⟨by rfl, ?hq38⟩) (by assumption) ?rq38
                              case hq38 => (intro w hSw; go_simp; try with_reducible rfl)
                              try dsimp only [Act.put, List.getElem_toArray, List.getElem_cons_zero, List.getElem_cons_succ]; try simp only [List.setIfInBounds_toArray, List.set_cons_zero, List.set_cons_succ]
                              refine wpAnyH_take (i := 34) (oi := _) (v := ?vq39) rfl (by kernel_rfl) (by kernel_rfl) (by kernel_rfl) (fun _ _ _ h => h) (Or.inl ⟨by rfl, ?hq39⟩) (by assumption) ?rq39
                              case hq39 => (intro w hSw; go_simp; try with_reducible rfl)
                              try dsimp only [Act.put, List.getElem_toArray, List.getElem_cons_zero, List.getElem_cons_succ]; try simp only [List.setIfInBounds_toArray, List.set_cons_zero, List.set_cons_succ]
                              refine wpAnyH_ready (rs := [35]) (by kernel_rfl) (by simp) ?_
                              refine AllReadyH.cons (o := _) rfl (fun K hK => ?_) ?_
                              · rw [if_pos (by rfl)]
                                go_simp
                                refine (awake18_any _).mono ?_
                                rintro e wx ⟨rfl, hbx⟩
                                have hb := then_ hb hbx
                                clear hbx
                                go_wp2_with fail
                                refine hK.out _ _ (HCE.out _ hb) (fun hHeld => ?_)
                                clear hK K
                                try dsimp only [Act.put, List.getElem_toArray, List.getElem_cons_zero, List.getElem_cons_succ]; try simp only [List.setIfInBounds_toArray, List.set_cons_zero, List.set_cons_succ]
                                refine wpAnyH_take (i := 36) (oi := _) (v := ?vq40) rfl (by kernel_rfl) (by kernel_rfl) (by kernel_rfl) (fun _ _ _ h => h) (Or.inl ⟨by rfl, ?hq40⟩) (by assumption) ?rq40
                                case hq40 => (intro w hSw; go_simp; try with_reducible rfl)
                                try dsimp only [Act.put, List.getElem_toArray, List.getElem_cons_zero, List.getElem_cons_succ]; try simp only [List.setIfInBounds_toArray, List.set_cons_zero, List.set_cons_succ]
                                refine wpAnyH_take (i := 37) (oi := _) (v := ?vq41) rfl (by kernel_rfl) (by kernel_rfl) (by kernel_rfl) (fun _ _ _ h => h) (Or.inl ⟨by rfl, ?hq41⟩) (by assumption) ?rq41
                                case hq41 => (intro w hSw; go_simp; try with_reducible rfl)
                                try dsimp only [Act.put, List.getElem_toArray, List.getElem_cons_zero, List.getElem_cons_succ]; try simp only [List.setIfInBounds_toArray, List.set_cons_zero, List.set_cons_succ]
                                refine wpAnyH_done (by kernel_rfl) ?_ _
                                go_wp2
                                go_ret
                                exact ⟨rfl, then_ HB0.out hb⟩
                              exact AllReadyH.nil
                            exact AllReadyH.nil
                          exact AllReadyH.nil
                        exact AllReadyH.nil
                      exact AllReadyH.nil
                    exact AllReadyH.nil
                  exact AllReadyH.nil
                exact AllReadyH.nil
              exact AllReadyH.nil
            exact AllReadyH.nil
          exact AllReadyH.nil
        exact AllReadyH.nil
      exact AllReadyH.nil
end Go.Proofs.Ytpiinfjcjpdofaa
