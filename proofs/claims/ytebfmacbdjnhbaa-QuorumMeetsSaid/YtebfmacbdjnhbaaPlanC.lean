/- The references of the package plan: what each function returns, for every argument. -/
import Derived.Test.YtebfmacbdjnhbaaPlanB
namespace Go.Proofs.Ytebfmacbdjnhbaa
open Go.RowKit Go.Mem
set_option linter.unusedVariables false

set_option maxRecDepth 100000 in
set_option maxHeartbeats 1000000 in
theorem same50_any (A : Option Addr) (n c : Nat) (ss : List Ord) (B : Option Addr) (m d : Nat) (ts : List Ord) (w : World) (hr : Rd w A (ss.flatMap Ord.cells)) (hn : ss.length = n) (hm : n ≤ 1000000)
    (hr' : Rd w B (ts.flatMap Ord.cells)) (hn' : ts.length = m) (hm' : m ≤ 1000000) (hss : ss = ts) :
    Calls Try.prog 53 #[.slice A n c, .slice B m d] w fun e w' => e = .returned (.bool true) ∧ Below w.heap.size w w' := by
  subst hss
  obtain rfl : n = m := by omega
  have HN := Lib.hid hn; clear hn hn' hm'
  go_enter Try.func53, Try.ntmps53
  go_wp2
  go_loopw [5] (fun i wr => ∃ k : Nat, k ≤ n ∧ i = .int .i64 k ∧ Below w.heap.size w wr) (fun i _ => n - (intOf i).toNat)
  case atStart => exact ⟨0, Nat.zero_le _, rfl, Below.refl _ _⟩
  case round =>
    obtain ⟨k, hk, rfl, hbel⟩ := hrel
    by_cases hlt : k < n
    · have hx : k < ss.length := by have := HN.out; omega
      obtain ⟨b, off, rfl, hc0, hc1, hc2⟩ := ord_row (hr.below hbel) k hx
      obtain ⟨b', off', rfl, hd0, hd1, hd2⟩ := ord_row (hr'.below hbel) k hx
      have hd : decide ((k : Int) < (n : Int)) = true := by simp; omega
      have hi0 : (0 : Int) ≤ (k : Int) := by omega
      generalize ss[k] = mk at hc0 hc1 hc2 hd0 hd1 hd2
      obtain ⟨xp, xf, xt⟩ := mk
      simp only at hc0 hc1 hc2 hd0 hd1 hd2
      go_wp2
      go_quiet (fail)
      go_wp2
      go_roundw
      case rel => exact ⟨k + 1, by omega, by go_num, drewN_ hbel _⟩
      case measure => simp [intOf]; omega
    · obtain rfl : k = n := by omega
      have hd : decide ((k : Int) < (k : Int)) = false := by simp
      go_wp2
      go_ret
      exact ⟨rfl, hbel⟩


/-- what is to be done, of whatever lists -/
def ordersE (place : ByteArray) (was now : List ByteArray) : List Ord := if was.length = 0 ∨ now.length = 0 then [] else ordersL place was now

set_option maxRecDepth 100000 in
set_option maxHeartbeats 4000000 in
theorem ordersE_any (place : ByteArray) (A : Option Addr) (n c : Nat) (ss : List ByteArray) (B : Option Addr) (m d : Nat) (ts : List ByteArray) (w : World) (hr : Rd w A (ss.map Value.string)) (hn : ss.length = n) (hm : n ≤ 50000)
    (hr' : Rd w B (ts.map Value.string)) (hn' : ts.length = m) (hm' : m ≤ 50000) :
    Calls Try.prog 54 #[.string place, .slice A n c, .slice B m d] w (Makes 77 3 (ordersE place ss ts).length ((ordersE place ss ts).flatMap Ord.cells) w) := by
  by_cases h0 : n = 0 ∨ m = 0
  · have he : ordersE place ss ts = [] := by unfold ordersE; rw [if_pos (by omega)]
    rw [he]
    by_cases h1 : n = 0
    · have hd1 : ((n : Int) == 0) = true := by simp; omega
      clear h0 h1 hn hn' he
      go_enter Try.func54, Try.ntmps54
      go_wp2
      go_ret
      exact ⟨_, rfl, World.ownsRow_nil _ _ _ _, (Below.refl _ _).alloc (Nat.le_refl _) _⟩
    · have hd1 : ((n : Int) == 0) = false := by simp; omega
      have hd2 : ((m : Int) == 0) = true := by simp; omega
      clear h0 h1 hn hn' he
      go_enter Try.func54, Try.ntmps54
      go_wp2
      go_ret
      exact ⟨_, rfl, World.ownsRow_nil _ _ _ _, (Below.refl _ _).alloc (Nat.le_refl _) _⟩
  · have he : ordersE place ss ts = ordersL place ss ts := by unfold ordersE; rw [if_neg (by omega)]
    rw [he]
    exact orders_any place A n c ss B m d ts w hr hn hm hr' hn' hm' (by omega) (by omega)

set_option maxRecDepth 100000 in
set_option maxHeartbeats 4000000 in
theorem rorders_any (place : ByteArray) (A : Option Addr) (n c : Nat) (ss : List ByteArray) (B : Option Addr) (m d : Nat) (ts : List ByteArray) (w : World) (hr : Rd w A (ss.map Value.string)) (hn : ss.length = n) (hm : n ≤ 50000)
    (hr' : Rd w B (ts.map Value.string)) (hn' : ts.length = m) (hm' : m ≤ 50000) (hn0 : 0 < n) (hm0 : 0 < m) :
    Calls Try.prog 55 #[.string place, .slice A n c, .slice B m d] w (Makes 77 3 (ordersL place ss ts).length ((ordersL place ss ts).flatMap Ord.cells) w) := by
  have HN := Lib.hid hn; have HN' := Lib.hid hn'; clear hn hn'
  have hd1 : ((n : Int) == 0) = false := by simp; omega
  have hd2 : ((m : Int) == 0) = false := by simp; omega
  have hx : 0 < ss.length := by have := HN.out; omega
  obtain ⟨b, off, rfl, hcell⟩ := hr.at_ 0 (by simp; exact hx)
  simp only [List.getElem_map, Nat.add_zero] at hcell
  have hhd : ss.headD ByteArray.empty = ss[0] := by cases ss with | nil => simp at hx | cons a l => rfl
  have hfl : fromL ss ts = (restsL ts ss).head?.getD ss[0] := by unfold fromL; rw [hhd]
  generalize hs0 : ss[0] = s0 at hcell hfl
  have HFL := Lib.hid hfl; clear hfl hhd hs0
  have hrl : (restsL ts ss).length ≤ 50000 := Nat.le_trans (List.length_filter_le _ _) (by have := HN.out; omega)
  have hgl : (gainsL ss ts).length ≤ 50000 := Nat.le_trans (List.length_filter_le _ _) (by have := HN'.out; omega)
  have hgl' : (gainsL ts ss).length ≤ 50000 := Nat.le_trans (List.length_filter_le _ _) (by have := HN.out; omega)
  go_enter Try.func55, Try.ntmps55
  go_wp2_with fail
  refine (rrests_any B m d ts (some ⟨b, off, none⟩) n c ss _ hr' HN'.out (by omega) hr HN.out (by omega)).mono ?_
  rintro e w1 ⟨v1, rfl, ho1, hb1⟩
  obtain ⟨G1, c1, rfl⟩ := own_form ho1
  have hg1 := Rd.of_own ho1
  -- the two ways to find where from: each leaves the same text
  obtain ⟨fr, HFR⟩ : ∃ fr, Hid (fromL ss ts = fr) := ⟨_, rfl⟩
  have key : ∀ l : List ByteArray, l = restsL ts ss → (l = [] → fr = s0) ∧ (∀ x r, l = x :: r → fr = x) := by
    intro l hl
    have h := HFL.out
    rw [HFR.out, ← hl] at h
    exact ⟨fun e => by rw [h, e]; rfl, fun x r e => by rw [h, e]; rfl⟩
  have hk := key _ rfl
  generalize hrr : restsL ts ss = rr at hg1 hrl hk ho1
  have fin : ∀ (l : List ByteArray), l.length = rr.length → True := fun _ _ => trivial
  clear key HFL hrr ho1 fin
  rcases rr with _ | ⟨x, r⟩
  rotate_left
  obtain rfl := hk.2 _ _ rfl
  obtain ⟨b1, off1, rfl, hc1⟩ := hg1.at_ 0 (by simp)
  simp only [List.map_cons, List.getElem_cons_zero, Nat.add_zero] at hc1
  have hc2 := hc1
  clear hk
  rotate_left
  obtain rfl := hk.1 rfl
  have hc2 := hcell
  clear hk
  all_goals
    go_wp2_with fail
    refine (rgains_any (some ⟨b, off, none⟩) n c ss B m d ts w1 (hr.below hb1) HN.out (by omega) (hr'.below hb1) HN'.out (by omega)).mono ?_
    rintro e w2 ⟨v2, rfl, ho2, hb2⟩
    obtain ⟨G2, c2, rfl⟩ := own_form ho2
    have hg2 := Rd.of_own ho2
    have hbw2 := then_ hb1 hb2
    clear hb1 hb2 ho2 hg1
    generalize hgg : gainsL ss ts = gg at hg2 hgl
    have HGG := Lib.hid hgg; clear hgg
    clear hc2
    go_wp2_with fail
    go_loopw [9, 11] (fun v i wr => ∃ k : Nat, k ≤ gg.length ∧ i = .int .i64 k ∧ wr.ownsRow w2.heap.size 77 3 v k ((gg.take k).map (Ord.mk place fr) |>.flatMap Ord.cells) ∧ Below w2.heap.size w2 wr) (fun _ i _ => gg.length - (intOf i).toNat)
    case atStart => exact ⟨0, Nat.zero_le _, rfl, World.ownsRow_nil _ _ _ _, Below.refl _ _⟩
    case round =>
      obtain ⟨k, hk, rfl, hown, hbel⟩ := hrel
      by_cases hlt : k < gg.length
      · obtain ⟨b2, off2, rfl, hcl⟩ := (hg2.below hbel).at_ k (by simp; exact hlt)
        simp only [List.getElem_map] at hcl
        have hts : (gg.take (k + 1)).map (Ord.mk place fr) = (gg.take k).map (Ord.mk place fr) ++ [⟨place, fr, gg[k]⟩] := by
          rw [List.take_succ_eq_append_getElem hlt, List.map_append]; rfl
        generalize gg[k] = t at hcl hts
        have HT := Lib.hid hts; have HO := Lib.hid hown; clear hts hown
        go_wp2_with (at_builtin; refine wpList_app el_order rfl _ _ rfl w2.heap.size _ _ _ rfl (HO.out.alloc _) (some ⟨wr.heap.size, 0, none⟩) 1 1 (Ord.cells ⟨place, fr, t⟩) rfl rfl (Rd.new wr #[.string place, .string fr, .string t] _) (by intro u hu; simp [Ord.cells] at hu; rcases hu with rfl | rfl | rfl <;> rfl) (by unfold maxLen; omega) (by omega) (by have := hbel.size; simp; omega) ?_; intro v3 w3 hown3 hbel3 _ _)
        go_roundw
        case rel => exact ⟨k + 1, by omega, by go_num, by rw [HT.out, List.flatMap_append]; simpa using hown3, (hbel.alloc hbel.size _).trans hbel3⟩
        case measure => simp [intOf]; omega
      · obtain rfl : k = gg.length := by omega
        rw [List.take_length] at hown
        obtain ⟨G3, c3, rfl⟩ := own_form hown
        have hbw3 := then_ hbw2 hbel
        have hsz3 := hbel.size
        have HO3 := Lib.hid hown
        obtain ⟨w3, rfl⟩ : ∃ w3, w3 = wr := ⟨_, rfl⟩
        clear hown hg2 hbel
        go_wp2_with fail
        refine (rgains_any B m d ts (some ⟨b, off, none⟩) n c ss w3 (hr'.below hbw3) HN'.out (by omega) (hr.below hbw3) HN.out (by omega)).mono ?_
        rintro e w4 ⟨v4, rfl, ho4, hb4⟩
        obtain ⟨G4, c4, rfl⟩ := own_form ho4
        have hg4 := Rd.of_own ho4
        have hF4 : Far (.slice G3 gg.length c3) G4 := far_own ho4 (fun k hk => (HO3.out.lt k hk).2)
        have HO4 := Lib.hid (own_below HO3.out hb4)
        have hbw4 := then_ hbw3 hb4
        have hsz4 : w2.heap.size ≤ w4.heap.size := Nat.le_trans hsz3 hb4.size
        generalize hdd : gainsL ts ss = dd at hg4 hgl'
        have HDD := Lib.hid hdd; clear hdd ho4 hb4 HO3
        go_wp2_with fail
        go_loopw [9, 13] (fun v i wr => ∃ k : Nat, k ≤ dd.length ∧ i = .int .i64 k ∧ wr.ownsRow w2.heap.size 77 3 v (gg.length + k) ((gg.map (Ord.mk place fr) ++ (dd.take k).map (Ord.mk place ByteArray.empty)).flatMap Ord.cells) ∧ Rd wr G4 (dd.map Value.string) ∧ Far v G4 ∧ Below w2.heap.size w4 wr) (fun _ i _ => dd.length - (intOf i).toNat)
        case atStart => exact ⟨0, Nat.zero_le _, rfl, by simpa using HO4.out, hg4, hF4, Below.refl _ _⟩
        case round =>
          clear HO4 hg4 hF4
          obtain ⟨k, hk, rfl, hown, hrd, hfr, hbel⟩ := hrel
          by_cases hlt : k < dd.length
          · obtain ⟨b2, off2, rfl, hcl⟩ := hrd.at_ k (by simp; exact hlt)
            simp only [List.getElem_map] at hcl
            have hts : (dd.take (k + 1)).map (Ord.mk place ByteArray.empty) = (dd.take k).map (Ord.mk place ByteArray.empty) ++ [⟨place, ByteArray.empty, dd[k]⟩] := by
              rw [List.take_succ_eq_append_getElem hlt, List.map_append]; rfl
            have hb2 := World.block_lt_of_cell? _ _ hcl
            simp only at hb2
            generalize dd[k] = t at hcl hts
            have HT := Lib.hid hts; have HO := Lib.hid hown; clear hts hown
            have hsz5 := hbel.size
            go_wp2_with (at_builtin; refine wpList_app el_order rfl _ _ rfl w2.heap.size _ _ _ rfl (HO.out.alloc _) (some ⟨wr.heap.size, 0, none⟩) 1 1 (Ord.cells ⟨place, ByteArray.empty, t⟩) rfl rfl (by exact Rd.new wr #[.string place, .string ByteArray.empty, .string t] _) (by intro u hu; simp [Ord.cells] at hu; rcases hu with rfl | rfl | rfl <;> rfl) (by unfold maxLen; omega) (by omega) (by simp; omega) ?_; intro v6 w6 hown6 hbel6 hgr6 hat6)
            go_roundw
            case rel =>
              refine ⟨k + 1, by omega, by go_num, by rw [HT.out, ← List.append_assoc, List.flatMap_append]; simpa [Nat.add_assoc] using hown6, rd_grown (hrd.alloc _) hgr6 hfr, ?_, (hbel.alloc (by omega) _).trans hbel6⟩
              intro b' off' e
              injection e with e; injection e with e1 e2
              subst e1 e2
              rcases hat6 with h | h
              · rw [h]; exact hfr _ _ rfl
              · rw [h]; simp; omega
            case measure => simp [intOf]; omega
          · obtain rfl : k = dd.length := by omega
            rw [List.take_length] at hown
            have hbw5 := hbw4.trans (hbel.mono hbw2.size)
            go_wp2
            go_ret
            refine ⟨_, rfl, ?_, hbw5⟩
            have h7 := own_mono hown hbw2.size
            unfold ordersL
            rw [HFR.out, HGG.out, HDD.out, List.length_append, List.length_map, List.length_map]
            exact h7
end Go.Proofs.Ytebfmacbdjnhbaa
