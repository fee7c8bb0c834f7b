/- What must come of tries, whatever the arguments are; the walk of ProofChecks. -/
import Derived.Test.YtgmafnpkhmlnnaaTriH
attribute [local go_sem ↓] Go.wp_at_zero Go.wp_at_succ
namespace Go.Proofs.Ytgmafnpkhmlnnaa
open Go.RowKit Go.Mem Go.Num Go.Tri
set_option linter.unusedVariables false
set_option linter.unusedSimpArgs false

def lP : Leaf := ⟨⟨#[98, 47, 107]⟩, ⟨#[120]⟩⟩
theorem lP_ok : ∀ m ∈ [lP], smallL m := fun m hm => by rw [List.mem_singleton] at hm; subst hm; exact ⟨by decide, by decide⟩
theorem unH_same (x : Nat → Nat → ByteArray) (h i : Nat) : unH x x h i = ([], 1) := by cases h <;> (unfold unH; rw [if_pos rfl])
theorem at_root (l : List Leaf) : atL l 0 0 = rootT l := atL_in l (lv := 0) (ix := 0) (by omega) (by decide)
theorem at_7 (l : List Leaf) : atL l 7 0 = ⟨#[]⟩ := atL_out l (by omega)
theorem at_6 (l : List Leaf) : atL l 6 64 = ⟨#[]⟩ := atL_out l (fun h => absurd h.2.2.2 (by decide))
theorem prove_3 (l : List Leaf) : (proveL l 3).length = 6 := by unfold proveL; rw [if_pos (by omega)]; exact wayL_len _ _ _ _
theorem prove_64 (l : List Leaf) : proveL l 64 = [] := if_neg (by omega)
set_option maxRecDepth 100000 in
set_option maxHeartbeats 8000000 in
theorem awake49_any (w : World) : Calls Try.prog 26 #[] w fun e w' => e = .returned (.bool true) ∧ Below w.heap.size w w' := by
  have HA := Lib.hid (show Rd (w.alloc (.cells #[.string ⟨#[98, 47, 107]⟩, .string ⟨#[120]⟩] 48)) (some ⟨w.heap.size, 0, none⟩) (leafc [lP]) from Rd.new w #[.string ⟨#[98, 47, 107]⟩, .string ⟨#[120]⟩] 48)
  have HB := Lib.hid ((Below.refl w.heap.size w).alloc (Nat.le_refl _) (.cells #[.string ⟨#[98, 47, 107]⟩, .string ⟨#[120]⟩] 48))
  go_enter Try.func26, Try.ntmps26
  go_wp2_with fail
  refine (build_any (some ⟨w.heap.size, 0, none⟩) 1 1 [lP] _ HA.out rfl (by decide) lP_ok).mono ?_
  rintro e w1 ⟨tb, rfl, hT, hb1⟩
  have HT := Lib.hid hT; have HB := Lib.hid (then_ HB.out hb1)
  clear hT hb1 HA
  go_wp2_with fail
  refine (trieUnlike_any tb tb [lP] [lP] w1 HT.out HT.out).mono ?_
  rintro e w2 ⟨v2, rfl, hown, hb1⟩
  rw [unH_same] at hown ⊢
  obtain ⟨A2, c2, rfl⟩ := own_form hown
  have HT := Lib.hid (HT.out.below hb1); have HB := Lib.hid (then_ HB.out hb1)
  clear hown hb1
  go_wp2_with fail
  refine (trieRoot_any tb [lP] w2 HT.out).mono ?_
  rintro e w' ⟨rfl, rfl⟩
  have hsz := rootT_size [lP]
  have HAT := Lib.hid (at_any tb [lP] 0 0 w2 HT.out); have HRT := Lib.hid (trieRoot_any tb [lP] w2 HT.out)
  rw [at_root] at HAT
  generalize rootT [lP] = r0 at hsz HAT HRT ⊢
  have hsz2 : ((r0.size : Int) == 32) = true := by rw [hsz]; rfl
  clear hsz
  go_wp2_with fail
  refine HAT.out.mono ?_
  rintro e w' ⟨rfl, rfl⟩
  go_wp2_with fail
  refine HRT.out.mono ?_
  rintro e w' ⟨rfl, rfl⟩
  have hrr : (r0.toList == r0.toList) = true := by simp
  go_wp2_with fail
  refine (at_any tb [lP] 7 0 w2 HT.out).mono ?_
  rw [at_7]
  rintro e w' ⟨rfl, rfl⟩
  go_wp2_with fail
  refine (at_any tb [lP] 6 64 w2 HT.out).mono ?_
  rw [at_6]
  rintro e w' ⟨rfl, rfl⟩
  go_wp2_with fail
  refine (prove_any tb [lP] 3 w2 HT.out).mono ?_
  rintro e w3 ⟨v3, rfl, hown, hb1⟩
  rw [prove_3] at hown
  obtain ⟨A3, c3, rfl⟩ := own_form hown
  have HT := Lib.hid (HT.out.below hb1); have HB := Lib.hid (then_ HB.out hb1)
  clear hown hb1
  go_wp2_with fail
  refine (prove_any tb [lP] 64 w3 HT.out).mono ?_
  rintro e w4 ⟨v4, rfl, hown, hb1⟩
  rw [prove_64] at hown
  obtain ⟨A4, c4, rfl⟩ := own_form hown
  have HB := Lib.hid (then_ HB.out hb1)
  clear hown hb1
  go_wp2
  go_ret
  exact ⟨rfl, HB.out⟩
theorem fin49 (w W : World) (h : Below w.heap.size w W) : Calls Try.prog 26 #[] W fun e w' => e = .returned (.bool true) ∧ Below w.heap.size w w' := (awake49_any W).mono fun _ _ ⟨h1, h2⟩ => ⟨h1, then_ h h2⟩
set_option maxRecDepth 100000 in
set_option maxHeartbeats 8000000 in
theorem proofChecks_walk (A : Option Addr) (n c : Nat) (l : List Leaf) (B : Option Addr) (m d : Nat) (ss : List ByteArray) (k : Int) (w : World)
    (hr : Rd w A (leafc l)) (hn : l.length = n) (hm : n ≤ maxLen) (hok : ∀ m ∈ l, m.ok w) (hr2 : Rd w B (ss.map Value.string)) (hn2 : ss.length = m) (hc2 : m ≤ d) (hm2 : d ≤ maxLen) :
    Calls Try.prog 7 #[.slice A n c, .slice B m d, .int .i64 k] w fun e w' => e = .returned (.bool true) ∧ Below w.heap.size w w' := by
  have HR := Lib.hid hr; have HN := Lib.hid hn; have HR2 := Lib.hid hr2; have HN2 := Lib.hid hn2
  have HF1 := Lib.hid (few49_any A n c l w hr hn hm hok)
  have HF2 := Lib.hid (fun W (h : Below w.heap.size w W) => few01_any B m d ss W (hr2.below h) hn2 (Nat.le_trans hc2 hm2))
  have HC2 := Lib.hid hc2; have HM2 := Lib.hid hm2
  clear hr hn hok hr2 hn2 hm hc2 hm2
  go_enter Try.func7, Try.ntmps7
  go_wp2_with fail
  refine HF1.out.mono ?_
  rintro e w1 ⟨few, hfew, rfl, hb1⟩
  cases few
  · clear hfew
    go_wp2_with fail
    refine (fin49 w w1 hb1).mono ?_
    rintro e w2 ⟨rfl, hb2⟩
    go_wp2
    go_ret
    exact ⟨rfl, hb2⟩
  have HL := Lib.hid (hfew rfl); clear hfew
  go_wp2_with fail
  refine (HF2.out _ hb1).mono ?_
  rintro e w2 ⟨few, hfew, rfl, rfl⟩
  cases few
  · clear hfew
    go_wp2_with fail
    refine (fin49 w w1 hb1).mono ?_
    rintro e w2 ⟨rfl, hb2⟩
    go_wp2
    go_ret
    exact ⟨rfl, hb2⟩
  have HS := Lib.hid (hfew.1 rfl); clear hfew HF1 HF2
  by_cases hm0 : m = 0
  · have hmz : ((m : Int) == 0) = true := by simp [hm0]
    go_wp2_with fail
    refine (fin49 w w1 hb1).mono ?_
    rintro e w2 ⟨rfl, hb2⟩
    go_wp2
    go_ret
    exact ⟨rfl, hb2⟩
  have hmz : ((m : Int) == 0) = false := by simp [hm0]
  have hmm : m ≤ d := HC2.out
  have hm1 : 1 ≤ m := by omega
  have hmi : (1 : Int) ≤ (m : Int) := by omega
  have hm0i : (0 : Int) < (m : Int) := by omega
  have hdd : d ≤ maxLen := HM2.out
  unfold maxLen at hdd
  have hr2 := HR2.out.below hb1
  obtain ⟨b, off, rfl, hcell⟩ := hr2.at_ 0 (by rw [List.length_map, HN2.out]; exact hm1)
  simp only [List.getElem_map, Nat.add_zero] at hcell
  have hlen0 : 0 < ss.length := by rw [HN2.out]; exact hm1
  generalize hroot : ss[0] = root at hcell
  obtain ⟨B', hB'⟩ : ∃ B', (if d = 1 then some (⟨b, off, none⟩ : Addr) else some ⟨b, off + 1, none⟩) = B' := ⟨_, rfl⟩
  have hrd' : Rd w1 B' ((ss.drop 1).map Value.string) := by
    by_cases hd1 : d = 1
    · have : ss.drop 1 = [] := List.drop_of_length_le (by rw [HN2.out]; omega)
      rw [this]; exact Rd.nil
    · rw [if_neg hd1] at hB'
      subst hB'
      intro j u hj
      rw [List.map_drop, List.getElem?_drop] at hj
      have := rd_cell hr2 hj
      exact ⟨b, off + 1, rfl, by rw [Nat.add_assoc]; exact this⟩
  have HX := Lib.hid (fun W (h : Below w1.heap.size w1 W) => check_any root k A n c l B' (m - 1) (d - 1) (ss.drop 1) W ((HR.out.below hb1).below h) HN.out (by have := HL.out.1; have := HN.out; omega) HL.out.2 (hrd'.below h) (by rw [List.length_drop, HN2.out]) (by unfold maxLen; omega) (fun s hs => Nat.le_trans (HS.out.2 s (List.mem_of_mem_drop hs)) (by decide)))
  have HY := Lib.hid (fun W (h : Below w1.heap.size w1 W) => rcheck_any root k A n c l B' (m - 1) (d - 1) (ss.drop 1) W ((HR.out.below hb1).below h) HN.out (by have := HL.out.1; have := HN.out; omega) HL.out.2 (hrd'.below h) (by rw [List.length_drop, HN2.out]) (by unfold maxLen; omega) (fun s hs => Nat.le_trans (HS.out.2 s (List.mem_of_mem_drop hs)) (by decide)))
  generalize chkB root k l (ss.drop 1) = q at HX HY
  have hqq : (q == q) = true := by cases q <;> rfl
  have HB1 := Lib.hid hb1
  clear hr2 hb1 hroot hrd' HS HL HM2 HC2
  have hb : Below w1.heap.size w1 w1.drew := (Below.refl _ _).drew
  have HCC := Lib.hid hcell
  have hc1 : w1.drew.cell? ⟨b, off, none⟩ = some (.string root) := hcell
  have hm2' : ¬ m < 1 := by omega
  have hm0n : 0 < m := by omega
  go_wp2_with fail
  refine wp_region_held_drew (S := (fun W => W.cell? ⟨b, off, none⟩ = some (.string root))) (by kernel_rfl) hc1 (fun hHeld => ?_)
  refine wpAnyH_take (i := 0) (oi := _) (v := ?vq1) rfl (by kernel_rfl) (by kernel_rfl) (by kernel_rfl) (fun _ _ _ h => h) (Or.inl ⟨by rfl, ?hq1⟩) (by assumption) ?rq1
  case hq1 => (intro w hSw; go_simp; try with_reducible rfl)
  try dsimp only [Act.put, List.getElem_toArray, List.getElem_cons_zero, List.getElem_cons_succ]; try simp only [List.setIfInBounds_toArray, List.set_cons_zero, List.set_cons_succ]
  refine wpAnyH_take (i := 1) (oi := _) (v := ?vq2) rfl (by kernel_rfl) (by kernel_rfl) (by kernel_rfl) (fun _ _ _ h => h) (Or.inl ⟨by rfl, ?hq2⟩) (by assumption) ?rq2
  case hq2 => (intro w hSw; go_simp; try with_reducible rfl)
  try dsimp only [Act.put, List.getElem_toArray, List.getElem_cons_zero, List.getElem_cons_succ]; try simp only [List.setIfInBounds_toArray, List.set_cons_zero, List.set_cons_succ]
  refine wpAnyH_take (i := 2) (oi := _) (v := ?vq3) rfl (by kernel_rfl) (by kernel_rfl) (by kernel_rfl) (fun _ _ _ h => h) (Or.inl ⟨by rfl, ?hq3⟩) (by assumption) ?rq3
  case hq3 => (intro w hSw; go_simp; try with_reducible rfl)
  try dsimp only [Act.put, List.getElem_toArray, List.getElem_cons_zero, List.getElem_cons_succ]; try simp only [List.setIfInBounds_toArray, List.set_cons_zero, List.set_cons_succ]
  refine wpAnyH_take (i := 3) (oi := _) (v := ?vq4) rfl (by kernel_rfl) (by kernel_rfl) (by kernel_rfl) (fun _ _ _ h => h) (Or.inl ⟨by rfl, ?hq4⟩) (by assumption) ?rq4
  case hq4 => (intro w hSw; go_simp; try with_reducible rfl)
  try dsimp only [Act.put, List.getElem_toArray, List.getElem_cons_zero, List.getElem_cons_succ]; try simp only [List.setIfInBounds_toArray, List.set_cons_zero, List.set_cons_succ]
  refine wpAnyH_take (i := 4) (oi := _) (v := ?vq5) rfl (by kernel_rfl) (by kernel_rfl) (by kernel_rfl) (fun _ _ _ h => h) (Or.inl ⟨by rfl, ?hq5⟩) (by assumption) ?rq5
  case hq5 => (intro w hSw; go_simp; try with_reducible rfl)
  try dsimp only [Act.put, List.getElem_toArray, List.getElem_cons_zero, List.getElem_cons_succ]; try simp only [List.setIfInBounds_toArray, List.set_cons_zero, List.set_cons_succ]
  refine wpAnyH_take (i := 5) (oi := _) (v := ?vq6) rfl (by kernel_rfl) (by kernel_rfl) (by kernel_rfl) (fun _ _ _ h => h) (Or.inl ⟨by rfl, ?hq6⟩) (by assumption) ?rq6
  case hq6 => (intro w hSw; go_simp; try with_reducible rfl)
  try dsimp only [Act.put, List.getElem_toArray, List.getElem_cons_zero, List.getElem_cons_succ]; try simp only [List.setIfInBounds_toArray, List.set_cons_zero, List.set_cons_succ]
  refine wpAnyH_take (i := 6) (oi := _) (v := ?vq7) rfl (by kernel_rfl) (by kernel_rfl) (by kernel_rfl) (fun _ _ _ h => h) (Or.inl ⟨by rfl, ?hq7⟩) (by assumption) ?rq7
  case hq7 => (intro w hSw; go_simp; try with_reducible rfl)
  try dsimp only [Act.put, List.getElem_toArray, List.getElem_cons_zero, List.getElem_cons_succ]; try simp only [List.setIfInBounds_toArray, List.set_cons_zero, List.set_cons_succ]
  refine wpAnyH_take (i := 8) (oi := _) (v := ?vq8) rfl (by kernel_rfl) (by kernel_rfl) (by kernel_rfl) (fun _ _ _ h => h) (Or.inl ⟨by rfl, ?hq8⟩) (by assumption) ?rq8
  case hq8 => (intro w hSw; go_simp; try with_reducible rfl)
  try dsimp only [Act.put, List.getElem_toArray, List.getElem_cons_zero, List.getElem_cons_succ]; try simp only [List.setIfInBounds_toArray, List.set_cons_zero, List.set_cons_succ]
  refine wpAnyH_take (i := 9) (oi := _) (v := ?vq9) rfl (by kernel_rfl) (by kernel_rfl) (by kernel_rfl) (fun _ _ _ h => h) (Or.inl ⟨by rfl, ?hq9⟩) (by assumption) ?rq9
  case hq9 => (intro w hSw; go_simp; try with_reducible rfl)
  try dsimp only [Act.put, List.getElem_toArray, List.getElem_cons_zero, List.getElem_cons_succ]; try simp only [List.setIfInBounds_toArray, List.set_cons_zero, List.set_cons_succ]
  refine wpAnyH_take (i := 10) (oi := _) (v := ?vq10) rfl (by kernel_rfl) (by kernel_rfl) (by kernel_rfl) (fun _ _ _ h => h) (Or.inl ⟨by rfl, ?hq10⟩) (by assumption) ?rq10
  case hq10 => (intro w hSw; go_simp; try with_reducible rfl)
  try dsimp only [Act.put, List.getElem_toArray, List.getElem_cons_zero, List.getElem_cons_succ]; try simp only [List.setIfInBounds_toArray, List.set_cons_zero, List.set_cons_succ]
  refine wpAnyH_take (i := 11) (oi := _) (v := ?vq11) rfl (by kernel_rfl) (by kernel_rfl) (by kernel_rfl) (fun _ _ _ h => h) (Or.inl ⟨by rfl, ?hq11⟩) (by assumption) ?rq11
  case hq11 => (intro w hSw; go_simp; try with_reducible rfl)
  try dsimp only [Act.put, List.getElem_toArray, List.getElem_cons_zero, List.getElem_cons_succ]; try simp only [List.setIfInBounds_toArray, List.set_cons_zero, List.set_cons_succ]
  refine wpAnyH_take (i := 12) (oi := _) (v := ?vq12) rfl (by kernel_rfl) (by kernel_rfl) (by kernel_rfl) (fun _ _ _ h => h) (Or.inl ⟨by rfl, ?hq12⟩) (by assumption) ?rq12
  case hq12 => (intro w hSw; go_simp; try with_reducible rfl)
  try dsimp only [Act.put, List.getElem_toArray, List.getElem_cons_zero, List.getElem_cons_succ]; try simp only [List.setIfInBounds_toArray, List.set_cons_zero, List.set_cons_succ]
  refine wpAnyH_take (i := 13) (oi := _) (v := ?vq13) rfl (by kernel_rfl) (by kernel_rfl) (by kernel_rfl) (fun _ _ _ h => h) (Or.inl ⟨by rfl, ?hq13⟩) (by assumption) ?rq13
  case hq13 => (intro w hSw; go_simp; try with_reducible rfl)
  try dsimp only [Act.put, List.getElem_toArray, List.getElem_cons_zero, List.getElem_cons_succ]; try simp only [List.setIfInBounds_toArray, List.set_cons_zero, List.set_cons_succ]
  refine wpAnyH_take (i := 14) (oi := _) (v := ?vq14) rfl (by kernel_rfl) (by kernel_rfl) (by kernel_rfl) (fun _ _ _ h => h) (Or.inl ⟨by rfl, ?hq14⟩) (by assumption) ?rq14
  case hq14 => (intro w hSw; go_simp; try with_reducible rfl)
  try dsimp only [Act.put, List.getElem_toArray, List.getElem_cons_zero, List.getElem_cons_succ]; try simp only [List.setIfInBounds_toArray, List.set_cons_zero, List.set_cons_succ]
  refine wpAnyH_ready (rs := [7]) (by kernel_rfl) (by simp) ?_
  refine AllReadyH.cons (o := _) rfl (fun K hK => ?_) ?_
  · rw [if_pos (by rfl)]
    go_simp
    refine (HX.out _ hb).mono ?_
    rintro e wx ⟨rfl, hbx⟩
    have hb := then_ hb hbx
    clear hbx
    go_wp2_with fail
    refine hK.out _ _ (cell_below hb HCC.out) (fun hHeld => ?_)
    clear hK K
    try dsimp only [Act.put, List.getElem_toArray, List.getElem_cons_zero, List.getElem_cons_succ]; try simp only [List.setIfInBounds_toArray, List.set_cons_zero, List.set_cons_succ]
    refine wpAnyH_ready (rs := [15]) (by kernel_rfl) (by simp) ?_
    refine AllReadyH.cons (o := _) rfl (fun K hK => ?_) ?_
    · rw [if_pos (by rfl)]
      go_simp
      refine (HY.out _ hb).mono ?_
      rintro e wx ⟨rfl, hbx⟩
      have hb := then_ hb hbx
      clear hbx
      go_wp2_with fail
      refine hK.out _ _ (cell_below hb HCC.out) (fun hHeld => ?_)
      clear hK K
      try dsimp only [Act.put, List.getElem_toArray, List.getElem_cons_zero, List.getElem_cons_succ]; try simp only [List.setIfInBounds_toArray, List.set_cons_zero, List.set_cons_succ]
      refine wpAnyH_take (i := 16) (oi := _) (v := ?vq15) rfl (by kernel_rfl) (by kernel_rfl) (by kernel_rfl) (fun _ _ _ h => h) (Or.inl ⟨by rfl, ?hq15⟩) (by assumption) ?rq15
      case hq15 => (intro w hSw; go_simp; try with_reducible rfl)
      try dsimp only [Act.put, List.getElem_toArray, List.getElem_cons_zero, List.getElem_cons_succ]; try simp only [List.setIfInBounds_toArray, List.set_cons_zero, List.set_cons_succ]
      refine wpAnyH_take (i := 17) (oi := _) (v := ?vq16) rfl (by kernel_rfl) (by kernel_rfl) (by kernel_rfl) (fun _ _ _ h => h) (Or.inl ⟨by rfl, ?hq16⟩) (by assumption) ?rq16
      case hq16 => (intro w hSw; go_simp; try with_reducible rfl)
      try dsimp only [Act.put, List.getElem_toArray, List.getElem_cons_zero, List.getElem_cons_succ]; try simp only [List.setIfInBounds_toArray, List.set_cons_zero, List.set_cons_succ]
      refine wpAnyH_ready (rs := [18]) (by kernel_rfl) (by simp) ?_
      refine AllReadyH.cons (o := _) rfl (fun K hK => ?_) ?_
      · rw [if_pos (by rfl)]
        go_simp
        refine (awake49_any _).mono ?_
        rintro e wx ⟨rfl, hbx⟩
        have hb := then_ hb hbx
        clear hbx
        go_wp2_with fail
        refine hK.out _ _ (cell_below hb HCC.out) (fun hHeld => ?_)
        clear hK K
        try dsimp only [Act.put, List.getElem_toArray, List.getElem_cons_zero, List.getElem_cons_succ]; try simp only [List.setIfInBounds_toArray, List.set_cons_zero, List.set_cons_succ]
        refine wpAnyH_take (i := 19) (oi := _) (v := ?vq17) rfl (by kernel_rfl) (by kernel_rfl) (by kernel_rfl) (fun _ _ _ h => h) (Or.inl ⟨by rfl, ?hq17⟩) (by assumption) ?rq17
        case hq17 => (intro w hSw; go_simp; try with_reducible rfl)
        try dsimp only [Act.put, List.getElem_toArray, List.getElem_cons_zero, List.getElem_cons_succ]; try simp only [List.setIfInBounds_toArray, List.set_cons_zero, List.set_cons_succ]
        refine wpAnyH_take (i := 20) (oi := _) (v := ?vq18) rfl (by kernel_rfl) (by kernel_rfl) (by kernel_rfl) (fun _ _ _ h => h) (Or.inl ⟨by rfl, ?hq18⟩) (by assumption) ?rq18
        case hq18 => (intro w hSw; go_simp; try with_reducible rfl)
        try dsimp only [Act.put, List.getElem_toArray, List.getElem_cons_zero, List.getElem_cons_succ]; try simp only [List.setIfInBounds_toArray, List.set_cons_zero, List.set_cons_succ]
        refine wpAnyH_done (by kernel_rfl) ?_ _
        go_wp2
        go_ret
        exact ⟨rfl, then_ HB1.out hb⟩
      exact AllReadyH.nil
    exact AllReadyH.nil
  exact AllReadyH.nil
end Go.Proofs.Ytgmafnpkhmlnnaa
