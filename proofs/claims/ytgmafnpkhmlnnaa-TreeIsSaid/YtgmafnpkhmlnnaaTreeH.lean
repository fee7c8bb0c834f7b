/- The walk of TreeIs. -/
import Derived.Test.YtgmafnpkhmlnnaaTreeG
import Derived.AtR
attribute [local go_sem ↓] Go.wp_at_zero Go.wp_at_succ
namespace Go.Proofs.Ytgmafnpkhmlnnaa
open Go.RowKit Go.Mem Go.Num
set_option linter.unusedVariables false
set_option linter.unusedSimpArgs false

theorem unL_fits {a b : List ByteArray} (h1 : a.length ≤ 20) (h2 : b.length ≤ 20) : (unL a b).length ≤ 1000000 := Nat.le_trans (unK_len a b (max a.length b.length)) (Nat.le_trans (Nat.max_le.2 ⟨h1, h2⟩) (by decide))
set_option maxRecDepth 100000 in
set_option maxHeartbeats 8000000 in
theorem treeIs_walk (A : Option Addr) (n c : Nat) (l : List Leaf) (B : Option Addr) (m d : Nat) (ss : List ByteArray) (C : Option Addr) (o f : Nat) (ts : List ByteArray) (w : World)
    (hr : Rd w A (leafc l)) (hn : l.length = n) (hm : n ≤ maxLen) (hok : ∀ m ∈ l, m.ok w) (hr2 : Rd w B (ss.map Value.string)) (hn2 : ss.length = m) (hm2 : m ≤ maxLen) (hr3 : Rd w C (ts.map Value.string)) (hn3 : ts.length = o) (hm3 : o ≤ maxLen) :
    Calls Try.prog 3 #[.slice A n c, .slice B m d, .slice C o f] w fun e w' => e = .returned (.bool true) ∧ Below w.heap.size w w' := by
  have HR := Lib.hid hr; have HN := Lib.hid hn; have HR2 := Lib.hid hr2; have HN2 := Lib.hid hn2; have HR3 := Lib.hid hr3; have HN3 := Lib.hid hn3
  have HF1 := Lib.hid (few28_any A n c l w hr hn hm hok)
  have HF2 := Lib.hid (fun W (h : Below w.heap.size w W) => few01_any B m d ss W (hr2.below h) hn2 hm2)
  have HF3 := Lib.hid (fun W (h : Below w.heap.size w W) => few01_any C o f ts W (hr3.below h) hn3 hm3)
  clear hr hn hok hr2 hn2 hr3 hn3 hm hm2 hm3
  go_enter Try.func3, Try.ntmps3
  go_wp2_with fail
  refine HF1.out.mono ?_
  rintro e w1 ⟨few, hfew, rfl, hb1⟩
  cases few
  · clear hfew
    go_wp2_with fail
    refine (fin28 w w1 hb1).mono ?_
    rintro e w2 ⟨rfl, hb2⟩
    go_wp2
    go_ret
    exact ⟨rfl, hb2⟩
  have HL := Lib.hid (hfew rfl); clear hfew
  go_wp2_with fail
  refine (HF2.out _ hb1).mono ?_
  rintro e w2 ⟨few, hfew, rfl, rfl⟩
  cases few
  · clear hfew
    go_wp2_with fail
    refine (fin28 w w1 hb1).mono ?_
    rintro e w2 ⟨rfl, hb2⟩
    go_wp2
    go_ret
    exact ⟨rfl, hb2⟩
  have HS := Lib.hid (hfew.1 rfl); clear hfew
  go_wp2_with fail
  refine (HF3.out _ hb1).mono ?_
  rintro e w2 ⟨few, hfew, rfl, rfl⟩
  cases few
  · clear hfew
    go_wp2_with fail
    refine (fin28 w w1 hb1).mono ?_
    rintro e w2 ⟨rfl, hb2⟩
    go_wp2
    go_ret
    exact ⟨rfl, hb2⟩
  have HT := Lib.hid (hfew.1 rfl); clear hfew HF1 HF2 HF3
  have hn : n ≤ 20 := by have := HL.out.1; rw [HN.out] at this; exact this
  have hm : m ≤ 20 := by have := HS.out.1; rw [HN2.out] at this; exact this
  have ho : o ≤ 20 := by have := HT.out.1; rw [HN3.out] at this; exact this
  have HR := Lib.hid (HR.out.below hb1); have HR2 := Lib.hid (HR2.out.below hb1); have HR3 := Lib.hid (HR3.out.below hb1); have HB1 := Lib.hid hb1
  clear hb1
  go_wp2
  go_loopw [7] (fun i wr => ∃ k : Nat, k ≤ m ∧ i = .int .i64 k ∧ Below w1.heap.size w1 wr) (fun i _ => m - (intOf i).toNat)
  case atStart => exact ⟨0, Nat.zero_le _, rfl, Below.refl _ _⟩
  case round =>
    obtain ⟨k, hk, rfl, hbel⟩ := hrel
    by_cases hlt : k < m
    · have hx : k < ss.length := by have := HN2.out; omega
      obtain ⟨b, off, rfl, hcell⟩ := (HR2.out.below hbel).at_ k (by simpa using hx)
      simp only [List.getElem_map] at hcell
      have hz := HS.out.2 ss[k] (List.getElem_mem hx)
      generalize ss[k] = s at hcell hz
      have HX := Lib.hid (fun W => segment_any s W (by omega)); have HY := Lib.hid (fun W => rsegment_any s W (by omega))
      generalize segOf s = g at HX HY
      have hgg : ((g : Int) != (g : Int)) = false := by simp
      have HBL := Lib.hid hbel
      clear hz
      have hb : Below wr.heap.size wr wr.drew := (Below.refl _ _).drew
      have hc : wr.drew.cell? ⟨b, off + k, none⟩ = some (.string s) := hcell
      have HCC := Lib.hid hcell
      clear hbel
      go_wp2_with fail
      refine wp_region_held_drew (S := (fun W => W.cell? ⟨b, off + k, none⟩ = some (.string s))) (by kernel_rfl) hc (fun hHeld => ?_)
      refine wpAnyH_take (i := 0) (oi := _) (v := ?vq1) rfl (by kernel_rfl) (by kernel_rfl) (by kernel_rfl) (fun _ _ _ h => h) (Or.inl ⟨by rfl, ?hq1⟩) (by assumption) ?rq1
      case hq1 => (intro w hSw; go_simp; try with_reducible rfl)
      try dsimp only [Act.put, List.getElem_toArray, List.getElem_cons_zero, List.getElem_cons_succ]; try simp only [List.setIfInBounds_toArray, List.set_cons_zero, List.set_cons_succ]
      refine wpAnyH_take (i := 1) (oi := _) (v := ?vq2) rfl (by kernel_rfl) (by kernel_rfl) (by kernel_rfl) (fun _ _ _ h => h) (Or.inl ⟨by rfl, ?hq2⟩) (by assumption) ?rq2
      case hq2 => (intro w hSw; go_simp; try with_reducible rfl)
      try dsimp only [Act.put, List.getElem_toArray, List.getElem_cons_zero, List.getElem_cons_succ]; try simp only [List.setIfInBounds_toArray, List.set_cons_zero, List.set_cons_succ]
      refine wpAnyH_take (i := 2) (oi := _) (v := ?vq3) rfl (by kernel_rfl) (by kernel_rfl) (by kernel_rfl) (fun _ _ _ h => h) (Or.inl ⟨by rfl, ?hq3⟩) (by assumption) ?rq3
      case hq3 => (intro w hSw; go_simp; try with_reducible rfl)
      try dsimp only [Act.put, List.getElem_toArray, List.getElem_cons_zero, List.getElem_cons_succ]; try simp only [List.setIfInBounds_toArray, List.set_cons_zero, List.set_cons_succ]
      refine wpAnyH_take (i := 3) (oi := _) (v := ?vq4) rfl (by kernel_rfl) (by kernel_rfl) (by kernel_rfl) (fun _ _ _ h => h) (Or.inl ⟨by rfl, ?hq4⟩) (by assumption) ?rq4
      case hq4 => (intro w hSw; go_simp; try with_reducible rfl)
      try dsimp only [Act.put, List.getElem_toArray, List.getElem_cons_zero, List.getElem_cons_succ]; try simp only [List.setIfInBounds_toArray, List.set_cons_zero, List.set_cons_succ]
      refine wpAnyH_take (i := 5) (oi := _) (v := ?vq5) rfl (by kernel_rfl) (by kernel_rfl) (by kernel_rfl) (fun _ _ _ h => h) (Or.inl ⟨by rfl, ?hq5⟩) (by assumption) ?rq5
      case hq5 => (intro w hSw; go_simp; try with_reducible rfl)
      try dsimp only [Act.put, List.getElem_toArray, List.getElem_cons_zero, List.getElem_cons_succ]; try simp only [List.setIfInBounds_toArray, List.set_cons_zero, List.set_cons_succ]
      refine wpAnyH_take (i := 6) (oi := _) (v := ?vq6) rfl (by kernel_rfl) (by kernel_rfl) (by kernel_rfl) (fun _ _ _ h => h) (Or.inl ⟨by rfl, ?hq6⟩) (by assumption) ?rq6
      case hq6 => (intro w hSw; go_simp; try with_reducible rfl)
      try dsimp only [Act.put, List.getElem_toArray, List.getElem_cons_zero, List.getElem_cons_succ]; try simp only [List.setIfInBounds_toArray, List.set_cons_zero, List.set_cons_succ]
      refine wpAnyH_take (i := 7) (oi := _) (v := ?vq7) rfl (by kernel_rfl) (by kernel_rfl) (by kernel_rfl) (fun _ _ _ h => h) (Or.inl ⟨by rfl, ?hq7⟩) (by assumption) ?rq7
      case hq7 => (intro w hSw; go_simp; try with_reducible rfl)
      try dsimp only [Act.put, List.getElem_toArray, List.getElem_cons_zero, List.getElem_cons_succ]; try simp only [List.setIfInBounds_toArray, List.set_cons_zero, List.set_cons_succ]
      refine wpAnyH_take (i := 8) (oi := _) (v := ?vq8) rfl (by kernel_rfl) (by kernel_rfl) (by kernel_rfl) (fun _ _ _ h => h) (Or.inl ⟨by rfl, ?hq8⟩) (by assumption) ?rq8
      case hq8 => (intro w hSw; go_simp; try with_reducible rfl)
      try dsimp only [Act.put, List.getElem_toArray, List.getElem_cons_zero, List.getElem_cons_succ]; try simp only [List.setIfInBounds_toArray, List.set_cons_zero, List.set_cons_succ]
      refine wpAnyH_ready (rs := [4]) (by kernel_rfl) (by simp) ?_
      refine AllReadyH.cons (o := _) rfl (fun K hK => ?_) ?_
      · rw [if_pos (by rfl)]
        go_simp
        refine (HX.out _).mono ?_
        rintro e wx ⟨rfl, hbx⟩
        have hb := then_ hb hbx
        clear hbx
        go_wp2_with fail
        refine hK.out _ _ (cell_below hb HCC.out) (fun hHeld => ?_)
        clear hK K
        try dsimp only [Act.put, List.getElem_toArray, List.getElem_cons_zero, List.getElem_cons_succ]; try simp only [List.setIfInBounds_toArray, List.set_cons_zero, List.set_cons_succ]
        refine wpAnyH_ready (rs := [9]) (by kernel_rfl) (by simp) ?_
        refine AllReadyH.cons (o := _) rfl (fun K hK => ?_) ?_
        · rw [if_pos (by rfl)]
          go_simp
          refine (HY.out _).mono ?_
          rintro e wx ⟨rfl, hbx⟩
          have hb := then_ hb hbx
          clear hbx
          go_wp2_with fail
          refine hK.out _ _ (cell_below hb HCC.out) (fun hHeld => ?_)
          clear hK K
          try dsimp only [Act.put, List.getElem_toArray, List.getElem_cons_zero, List.getElem_cons_succ]; try simp only [List.setIfInBounds_toArray, List.set_cons_zero, List.set_cons_succ]
          refine wpAnyH_take (i := 10) (oi := _) (v := ?vq9) rfl (by kernel_rfl) (by kernel_rfl) (by kernel_rfl) (fun _ _ _ h => h) (Or.inl ⟨by rfl, ?hq9⟩) (by assumption) ?rq9
          case hq9 => (intro w hSw; go_simp; try with_reducible rfl)
          try dsimp only [Act.put, List.getElem_toArray, List.getElem_cons_zero, List.getElem_cons_succ]; try simp only [List.setIfInBounds_toArray, List.set_cons_zero, List.set_cons_succ]
          refine wpAnyH_done (by kernel_rfl) ?_ _
          go_wp2
          go_roundw
          case rel => exact ⟨k + 1, by omega, by go_num, then_ HBL.out hb⟩
          case measure => simp [intOf]; omega
        exact AllReadyH.nil
      exact AllReadyH.nil
    · obtain rfl : k = m := by omega
      have hb2 := then_ HB1.out hbel
      have HR := Lib.hid (HR.out.below hbel); have HR2 := Lib.hid (HR2.out.below hbel); have HR3 := Lib.hid (HR3.out.below hbel); have HB := Lib.hid hb2
      clear hbel hb2 HB1
      go_wp2_with fail
      refine (of_any A n c l wr HR.out HN.out (by omega) HL.out.2).mono ?_
      rintro e w2 ⟨v2, rfl, hown, hb1⟩
      have HTL := Lib.hid (treeL_len l); have HRL := Lib.hid (show rootL l = hashT (treeL l) from rfl)
      rw [HTL.out] at hown
      obtain ⟨A2, c2, rfl⟩ := own_form hown
      have HX := Lib.hid (Rd.of_own hown)
      have HR := Lib.hid (HR.out.below hb1); have HR2 := Lib.hid (HR2.out.below hb1); have HR3 := Lib.hid (HR3.out.below hb1); have HB := Lib.hid (then_ HB.out hb1)
      clear hb1 hown
      go_wp2_with fail
      refine (of28_any A n c l w2 HR.out HN.out (by omega) HL.out.2).mono ?_
      rintro e w3 ⟨v3, rfl, hown, hb1⟩
      rw [HTL.out] at hown
      obtain ⟨A3, c3, rfl⟩ := own_form hown
      have HY := Lib.hid (Rd.of_own hown); have HX := Lib.hid (HX.out.below hb1)
      have HR := Lib.hid (HR.out.below hb1); have HR2 := Lib.hid (HR2.out.below hb1); have HR3 := Lib.hid (HR3.out.below hb1); have HB := Lib.hid (then_ HB.out hb1)
      clear hb1 hown
      go_wp2_with fail
      refine (sameTexts_any A2 16 c2 (treeL l) A3 16 c3 (treeL l) w3 HX.out HTL.out (by decide) HY.out HTL.out (by decide)).mono ?_
      rw [decide_eq_true (rfl : treeL l = treeL l)]
      rintro e w4 ⟨rfl, hb1⟩
      have HR := Lib.hid (HR.out.below hb1); have HR2 := Lib.hid (HR2.out.below hb1); have HR3 := Lib.hid (HR3.out.below hb1); have HB := Lib.hid (then_ HB.out hb1)
      clear hb1 HX HY
      go_wp2_with fail
      refine (root_any A n c l w4 HR.out HN.out (by omega) HL.out.2).mono ?_
      rintro e w5 ⟨rfl, hb1⟩
      have HR := Lib.hid (HR.out.below hb1); have HR2 := Lib.hid (HR2.out.below hb1); have HR3 := Lib.hid (HR3.out.below hb1); have HB := Lib.hid (then_ HB.out hb1)
      clear hb1
      go_wp2_with fail
      refine (root28_any A n c l w5 HR.out HN.out (by omega) HL.out.2).mono ?_
      rintro e w6 ⟨rfl, hb1⟩
      have HR2 := Lib.hid (HR2.out.below hb1); have HR3 := Lib.hid (HR3.out.below hb1); have HB := Lib.hid (then_ HB.out hb1)
      clear hb1 HR
      generalize rootL l = t at HRL ⊢
      have htt : (t.toList == t.toList) = true := by simp
      go_wp2_with fail
      refine (unlike_any B k d ss C o f ts w6 HR2.out HN2.out (by omega) HR3.out HN3.out (by omega)).mono ?_
      rintro e w7 ⟨v7, rfl, hown, hb1⟩
      have HUL := Lib.hid (unL_fits (a := ss) (b := ts) (by rw [HN2.out]; exact hm) (by rw [HN3.out]; exact ho))
      have HB := Lib.hid (then_ HB.out hb1)
      have HRU := Lib.hid (runlike_any B k d ss C o f ts w7 (HR2.out.below hb1) HN2.out (by omega) (HR3.out.below hb1) HN3.out (by omega))
      unfold MakesI at HRU
      generalize unL ss ts = u at hown HUL HRU ⊢
      generalize hul : u.length = ul at hown HUL HRU ⊢
      have HUE := Lib.hid hul
      obtain ⟨A7, c7, rfl⟩ := own_form hown
      have HX := Lib.hid (Rd.of_own hown)
      clear hb1 hown htt hul HR2 HR3 HL HS HT HTL HRL
      go_wp2_with fail
      refine HRU.out.mono ?_
      rintro e w8 ⟨v8, rfl, hown, hb1⟩
      obtain ⟨A8, c8, rfl⟩ := own_form hown
      have HY := Lib.hid (Rd.of_own hown); have HX := Lib.hid (HX.out.below hb1)
      have HB := Lib.hid (then_ HB.out hb1)
      clear hb1 hown HRU
      go_wp2_with fail
      refine (sameInts_any A7 ul c7 u A8 ul c8 u w8 HX.out HUE.out HUL.out HY.out HUE.out HUL.out).mono ?_
      rw [decide_eq_true (rfl : u = u)]
      rintro e w9 ⟨rfl, hb1⟩
      have HB := Lib.hid (then_ HB.out hb1)
      clear hb1
      go_wp2_with fail
      refine (fin28 w w9 HB.out).mono ?_
      rintro e w10 ⟨rfl, hb2⟩
      go_wp2
      go_ret
      exact ⟨rfl, hb2⟩
end Go.Proofs.Ytgmafnpkhmlnnaa
