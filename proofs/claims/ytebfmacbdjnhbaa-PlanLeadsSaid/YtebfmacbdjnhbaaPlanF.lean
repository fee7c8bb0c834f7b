/- once of layer 50, and the walk of the law PlanLeads. -/
import Derived.Test.YtebfmacbdjnhbaaPlanP
namespace Go.Proofs.Ytebfmacbdjnhbaa
open Go.RowKit Go.Mem
set_option linter.unusedVariables false

/-- an answer that says, if it is yes, that no text is twice in a list, and none empty -/
def SaysOnce (ss : List ByteArray) (w : World) (e : Ending) (w' : World) : Prop := ∃ b : Bool, (b = true → ss.Nodup ∧ ∀ s ∈ ss, s ≠ ByteArray.empty) ∧ e = .returned (.bool b) ∧ Below w.heap.size w w'

set_option maxRecDepth 100000 in
set_option maxHeartbeats 1000000 in
theorem once50_any (A : Option Addr) (n c : Nat) (ss : List ByteArray) (w : World) (hr : Rd w A (ss.map Value.string)) (hn : ss.length = n) (hm : n ≤ 1000000) :
    Calls Try.prog 56 #[.slice A n c] w (SaysOnce ss w) := by
  have HN := Lib.hid hn; clear hn
  go_enter Try.func56, Try.ntmps56
  go_wp2
  go_loopw [3] (fun i wr => ∃ k : Nat, k ≤ n ∧ i = .int .i64 k ∧ ((ss.take k).Nodup ∧ ∀ s ∈ ss.take k, s ≠ ByteArray.empty) ∧ Below w.heap.size w wr) (fun i _ => n - (intOf i).toNat)
  case atStart => exact ⟨0, Nat.zero_le _, rfl, by simp, Below.refl _ _⟩
  case round =>
    obtain ⟨k, hk, rfl, hok, hbel⟩ := hrel
    have HOK := Lib.hid hok; clear hok
    by_cases hlt : k < n
    · have hx : k < ss.length := by have := HN.out; omega
      obtain ⟨wo, rfl⟩ : ∃ wo, wo = wr := ⟨_, rfl⟩
      go_wp2
      go_loopw [4] (fun i wr => ∃ j : Nat, j ≤ k ∧ i = .int .i64 j ∧ ss[k] ∉ ss.take j ∧ Below w.heap.size w wr) (fun i _ => k - (intOf i).toNat)
      case atStart => exact ⟨0, Nat.zero_le _, rfl, by simp, hbel⟩
      case round =>
        clear hbel
        obtain ⟨j, hj, rfl, hnot, hbel⟩ := hrel
        have HNOT := Lib.hid hnot; clear hnot
        by_cases hlj : j < k
        · have hxj : j < ss.length := by omega
          obtain ⟨b, off, rfl, hcell⟩ := (hr.below hbel).at_ k (by simp; exact hx)
          obtain ⟨b', off', e', hcell'⟩ := (hr.below hbel).at_ j (by simp; exact hxj)
          injection e' with e'; injection e' with e1 e2
          subst e1 e2
          simp only [List.getElem_map] at hcell hcell'
          generalize hs : ss[k] = s at hcell HNOT
          generalize ht : ss[j] = t at hcell'
          have HS := Lib.hid hs; have HT := Lib.hid ht; clear hs ht
          have hi0 : (0 : Int) ≤ (k : Int) := by omega
          have hi1 : (k : Int) < (n : Int) := by omega
          have hj0 : (0 : Int) ≤ (j : Int) := by omega
          have hj1 : (j : Int) < (n : Int) := by omega
          by_cases hst : t = s
          · have hne : (t.toList == s.toList) = true := by rw [str_beq]; simpa using hst
            clear hst
            go_wp2
            go_quiet (fail)
            go_wp2
            go_ret
            exact ⟨false, by simp, rfl, drewN_ hbel _⟩
          · have hne : (t.toList == s.toList) = false := by rw [str_beq]; simpa using hst
            go_wp2
            go_quiet (fail)
            go_wp2
            go_roundw
            case rel => exact ⟨j + 1, by omega, by go_num, by rw [take_succ_mem _ _ hxj, HT.out]; rintro (h | h); exact HNOT.out h; exact hst h.symm, drewN_ hbel _⟩
            case measure => simp [intOf]; omega
        · obtain rfl : j = k := by omega
          obtain ⟨b, off, rfl, hcell⟩ := (hr.below hbel).at_ j (by simp; exact hx)
          simp only [List.getElem_map] at hcell
          have hnd : (ss.take (j + 1)).Nodup ∧ ((ss[j] ≠ ByteArray.empty) → ∀ s ∈ ss.take (j + 1), s ≠ ByteArray.empty) := by
            rw [List.take_succ_eq_append_getElem hx]
            refine ⟨List.nodup_append.2 ⟨HOK.out.1, by simp, fun a ha b hb => ?_⟩, fun h s hs => ?_⟩
            · rw [List.mem_singleton] at hb; subst hb; rintro rfl; exact HNOT.out ha
            · rw [List.mem_append, List.mem_singleton] at hs
              rcases hs with hs | rfl
              · exact HOK.out.2 s hs
              · exact h
          have HND := Lib.hid hnd; clear hnd HNOT
          generalize ss[j] = s at hcell HND
          by_cases hse : s = ByteArray.empty
          · have hd : s.toList.isEmpty = true := by rw [isEmpty_iff]; simpa using hse
            clear hse
            go_wp2
            go_ret
            exact ⟨false, by simp, rfl, hbel⟩
          · have hd : s.toList.isEmpty = false := by rw [isEmpty_iff]; simpa using hse
            go_wp2
            go_roundw
            case rel => exact ⟨j + 1, by omega, by go_num, ⟨HND.out.1, HND.out.2 hse⟩, hbel⟩
            case measure => simp [intOf]; omega
    · obtain rfl : k = n := by omega
      go_wp2
      go_ret
      have h := HOK.out
      rw [List.take_of_length_le (by rw [HN.out]; omega)] at h
      exact ⟨true, fun _ => h, rfl, hbel⟩

theorem rd_take_n {w : World} {A : Option Addr} {ms : List Ord} (h : Rd w A (ms.flatMap Ord.cells)) (i : Nat) : Rd w A ((ms.take i).flatMap Ord.cells) := by
  have e : ms.flatMap Ord.cells = (ms.take i).flatMap Ord.cells ++ (ms.drop i).flatMap Ord.cells := by rw [← List.flatMap_append, List.take_append_drop]
  rw [e] at h
  have := h.take ((ms.take i).flatMap Ord.cells).length
  rwa [List.take_left] at this

set_option maxRecDepth 100000 in
set_option maxHeartbeats 4000000 in
theorem planLeads_walk (A : Option Addr) (n c : Nat) (ss : List ByteArray) (B : Option Addr) (m d : Nat) (ts : List ByteArray) (w : World) (hr : Rd w A (ss.map Value.string)) (hn : ss.length = n) (hm : n ≤ maxLen)
    (hr' : Rd w B (ts.map Value.string)) (hn' : ts.length = m) (hm' : m ≤ maxLen) :
    Calls Try.prog 11 #[.slice A n c, .slice B m d] w fun e w' => e = .returned (.bool true) ∧ Below w.heap.size w w' := by
  have HN := Lib.hid hn; have HN' := Lib.hid hn'; clear hn hn'
  go_enter Try.func11, Try.ntmps11
  go_wp2_with fail
  refine (few50_any A n c ss 12 w hr HN.out hm (by omega)).mono ?_
  rintro e w1 ⟨rfl, rfl⟩
  generalize hf : fewT ss 12 = b1
  have HF1 := Lib.hid hf; clear hf
  cases b1
  · go_wp2_with fail
    refine (awake50_any _).mono ?_
    rintro e w1 ⟨rfl, hb1⟩
    go_wp2
    go_ret
    exact ⟨rfl, hb1⟩
  go_wp2_with fail
  refine (few50_any B m d ts 12 w hr' HN'.out hm' (by omega)).mono ?_
  rintro e w1 ⟨rfl, rfl⟩
  generalize hf : fewT ts 12 = b2
  have HF2 := Lib.hid hf; clear hf
  cases b2
  · go_wp2_with fail
    refine (awake50_any _).mono ?_
    rintro e w1 ⟨rfl, hb1⟩
    go_wp2
    go_ret
    exact ⟨rfl, hb1⟩
  have hl1 : n ≤ 12 := by have := (fewT_true HF1.out).1; rw [HN.out] at this; exact this
  have hl2 : m ≤ 12 := by have := (fewT_true HF2.out).1; rw [HN'.out] at this; exact this
  clear hm hm' HF1 HF2
  go_wp2_with fail
  refine (once50_any A n c ss _ hr HN.out (by omega)).mono ?_
  rintro e w1 ⟨b1, hob1, rfl, hbo1⟩
  cases b1
  · go_wp2_with fail
    refine (awake50_any _).mono ?_
    rintro e w9 ⟨rfl, hb9⟩
    go_wp2
    go_ret
    exact ⟨rfl, then_ hbo1 hb9⟩
  go_wp2_with fail
  refine (once50_any B m d ts _ (hr'.below hbo1) HN'.out (by omega)).mono ?_
  rintro e w2 ⟨b2, hob2, rfl, hbo2⟩
  cases b2
  · go_wp2_with fail
    refine (awake50_any _).mono ?_
    rintro e w9 ⟨rfl, hb9⟩
    go_wp2
    go_ret
    exact ⟨rfl, then_ (then_ hbo1 hbo2) hb9⟩
  have hbw := then_ hbo1 hbo2
  obtain ⟨hnd1, hne1⟩ := hob1 (by trivial)
  obtain ⟨hnd2, hne2⟩ := hob2 (by trivial)
  have HD1 := Lib.hid hnd1; have HD2 := Lib.hid hnd2; have HE1 := Lib.hid hne1
  clear hbo1 hbo2 hob1 hob2 hnd1 hnd2 hne1 hne2
  by_cases hn0 : n = 0
  · have hd0 : ((n : Int) == 0) = true := by simp; omega
    clear hn0
    go_wp2_with fail
    refine (awake50_any _).mono ?_
    rintro e w9 ⟨rfl, hb9⟩
    go_wp2
    go_ret
    exact ⟨rfl, then_ hbw hb9⟩
  have hd0 : ((n : Int) == 0) = false := by simp; omega
  by_cases hm0 : m = 0
  · have hd0' : ((m : Int) == 0) = true := by simp; omega
    clear hm0
    go_wp2_with fail
    refine (awake50_any _).mono ?_
    rintro e w9 ⟨rfl, hb9⟩
    go_wp2
    go_ret
    exact ⟨rfl, then_ hbw hb9⟩
  have hd0' : ((m : Int) == 0) = false := by simp; omega
  have hx1 : ss ≠ [] := by rintro rfl; exact hn0 HN.out.symm
  have hx2 : ts ≠ [] := by rintro rfl; exact hm0 HN'.out.symm
  have HX1 := Lib.hid hx1; have HX2 := Lib.hid hx2
  clear hx1 hx2
  go_wp2_with fail
  refine (orders_any sbk A n c ss B m d ts w2 (hr.below hbw) HN.out (by omega) (hr'.below hbw) HN'.out (by omega) (by omega) (by omega)).mono ?_
  rintro e w3 ⟨v3, rfl, ho3, hb3⟩
  obtain ⟨G3, c3, rfl⟩ := own_form ho3
  have hc3 : (ordersL sbk ss ts).length ≤ c3 := by
    rcases ho3.2 with ⟨hv, h0⟩ | ⟨_, _, _, hv, _, _, hcc, _⟩
    · omega
    · injection hv with _ _ h; omega
  have hg3 := Rd.of_own ho3
  have hbw := then_ hbw hb3
  have hlead := Lib.hid (leads_at sbk ss ts HD1.out HD2.out HE1.out HX1.out HX2.out)
  have hlen : (ordersL sbk ss ts).length = (gainsL ss ts).length + (gainsL ts ss).length := by unfold ordersL; simp
  have hgl : (gainsL ss ts).length ≤ m := Nat.le_trans (List.length_filter_le _ _) (by rw [HN'.out]; omega)
  have hgl' : (gainsL ts ss).length ≤ n := Nat.le_trans (List.length_filter_le _ _) (by rw [HN.out]; omega)
  have hend := Lib.hid (nodes_end ss ts HD1.out HD2.out)
  have HLEN := Lib.hid hlen
  have hol : (ordersL sbk ss ts).length ≤ 24 := by omega
  generalize hOL : ordersL sbk ss ts = ol at hg3 hc3 hlead HLEN hol
  clear hb3 ho3 hlen hOL
  go_wp2_with fail
  go_loopw [6] (fun i wr => ∃ k : Nat, k ≤ ol.length + 1 ∧ i = .int .i64 k ∧ Below w3.heap.size w3 wr) (fun i _ => ol.length + 1 - (intOf i).toNat)
  case atStart => exact ⟨0, Nat.zero_le _, rfl, Below.refl _ _⟩
  case round =>
    obtain ⟨k, hk, rfl, hbel⟩ := hrel
    obtain ⟨wo, rfl⟩ : ∃ wo, wo = wr := ⟨_, rfl⟩
    by_cases hlt : k ≤ ol.length
    · have hta : (ol.take k).length = k := by rw [List.length_take]; omega
      have hkc : k ≤ c3 := by omega
      have HTA := Lib.hid hta; clear hta
      have hbw3 := then_ hbw hbel
      have hrt := rd_take_n (hg3.below hbel) k
      have hdo := hlead.out k hlt
      have hnl : (nodesL ss ts k).length ≤ 24 := by
        refine Nat.le_trans (List.length_filter_le _ _) ?_
        rw [List.length_append, List.length_take, HN.out]; omega
      have hin := Lib.hid (nodes_in ss ts k)
      have hns := nodes_some ss ts HX1.out HX2.out k
      have hlast : k = ol.length → (nodesL ss ts k).length = m ∧ ∀ s ∈ ts, s ∈ nodesL ss ts k := fun e => by
        have := hend.out; rw [← HLEN.out, ← e, HN'.out] at this; exact this
      have HLAST := Lib.hid hlast; clear hlast
      go_wp2_with fail
      refine (do_any A n c ss sbk G3 k c3 (ol.take k) wo (hr.below hbw3) HN.out (by omega) hrt HTA.out (by omega)).mono ?_
      rw [hdo]
      intro e w4 h4
      obtain ⟨hb4, G4, n4, c4, rfl, hg4, hl4⟩ := h4.view
      have hg4 : Rd w4 G4 ((nodesL ss ts k).map Value.string) := hg4
      have hl4 : (nodesL ss ts k).length = n4 := hl4
      generalize nodesL ss ts k = nd at hnl hin hns HLAST hg4 hl4
      have hz : (resOf (some nd)).2 = 0 := rfl
      have hn4 : 0 < n4 := by rcases nd with _ | ⟨x, r⟩; exact absurd rfl hns; simp at hl4; omega
      have hd4 : ((n4 : Int) == 0) = false := by simp; omega
      have hn4' : n4 ≤ 24 := by omega
      rw [hz]
      have HL4 := Lib.hid hl4
      have hbel4 := then_ hbel hb4
      clear hz h4 hl4 hns hb4 hbel hrt hdo hbw3
      go_wp2_with fail
      go_loopw [9] (fun i wr => ∃ j : Nat, j ≤ n4 ∧ i = .int .i64 j ∧ Below w3.heap.size w3 wr ∧ Below w4.heap.size w4 wr) (fun i _ => n4 - (intOf i).toNat)
      case atStart => exact ⟨0, Nat.zero_le _, rfl, hbel4, Below.refl _ _⟩
      case round =>
        clear hbel4
        obtain ⟨j, hj, rfl, hbel5, hb5⟩ := hrel
        by_cases hlj : j < n4
        · have hxj : j < nd.length := by have := HL4.out; omega
          obtain ⟨b, off, rfl, hcell⟩ := (hg4.below hb5).at_ j (by simp; exact hxj)
          simp only [List.getElem_map] at hcell
          have hor := hin.out nd[j] (List.getElem_mem hxj)
          generalize nd[j] = s at hcell hor
          have HOR := Lib.hid hor; clear hor
          have hbw5 := then_ hbw hbel5
          go_wp2_with fail
          refine (in50_any A n c ss s _ (hr.below hbw5) HN.out (by unfold maxLen; omega)).mono ?_
          rintro e w' ⟨rfl, rfl⟩
          generalize hm1 : mem s ss = m1
          have HM1 := Lib.hid hm1; clear hm1
          cases m1
          · go_wp2_with fail
            refine (in50_any B m d ts s _ (hr'.below hbw5) HN'.out (by unfold maxLen; omega)).mono ?_
            rintro e w' ⟨rfl, rfl⟩
            have hm2 : mem s ts = true := by
              rw [mem_iff]
              rcases HOR.out with h | h
              · exact absurd h (mem_false.1 HM1.out)
              · exact h
            rw [hm2]
            clear hm2 hbw5
            go_wp2
            go_roundw
            case rel => exact ⟨j + 1, by omega, by go_num, hbel5, hb5⟩
            case measure => simp [intOf]; omega
          · clear hbw5
            go_wp2
            go_roundw
            case rel => exact ⟨j + 1, by omega, by go_num, hbel5, hb5⟩
            case measure => simp [intOf]; omega
        · obtain rfl : j = n4 := by omega
          by_cases hkl : k < ol.length
          · go_wp2
            go_roundw
            case rel => exact ⟨k + 1, by omega, by go_num, hbel5⟩
            case measure => simp [intOf]; omega
          · obtain ⟨hlm, hlin⟩ := HLAST.out (by omega)
            have hd5 : ((j : Int) != (m : Int)) = false := by have := HL4.out; simp; omega
            have HLIN := Lib.hid hlin; clear hlin
            obtain ⟨w5, rfl⟩ : ∃ w5, w5 = wr := ⟨_, rfl⟩
            go_wp2_with fail
            go_loopw [10] (fun i wr => ∃ q : Nat, q ≤ m ∧ i = .int .i64 q ∧ Below w3.heap.size w3 wr ∧ Below w4.heap.size w4 wr) (fun i _ => m - (intOf i).toNat)
            case atStart => exact ⟨0, Nat.zero_le _, rfl, hbel5, hb5⟩
            case round =>
              clear hbel5 hb5
              obtain ⟨q, hq, rfl, hbel5, hb5⟩ := hrel
              by_cases hlq : q < m
              · have hxq : q < ts.length := by have := HN'.out; omega
                obtain ⟨b, off, rfl, hcell⟩ := (hr'.below (then_ hbw hbel5)).at_ q (by simp; exact hxq)
                simp only [List.getElem_map] at hcell
                have hmm : mem ts[q] nd = true := mem_iff.2 (HLIN.out _ (List.getElem_mem hxq))
                generalize ts[q] = s at hcell hmm
                have HMM := Lib.hid hmm; clear hmm
                go_wp2_with fail
                refine (in50_any G4 j c4 nd s _ (hg4.below hb5) HL4.out (by unfold maxLen; omega)).mono ?_
                rintro e w' ⟨rfl, rfl⟩
                rw [HMM.out]
                go_wp2
                go_roundw
                case rel => exact ⟨q + 1, by omega, by go_num, hbel5, hb5⟩
                case measure => simp [intOf]; omega
              · obtain rfl : q = m := by omega
                go_wp2
                go_roundw
                case rel => exact ⟨k + 1, by omega, by go_num, hbel5⟩
                case measure => simp [intOf]; omega
    · have hbw5 := then_ hbw hbel
      clear hbel
      go_wp2_with fail
      go_loopw [11, 12] (fun v i wr => ∃ q : Nat, q ≤ m ∧ i = .int .i64 q ∧ v = .int .i64 ((gainsL ss (ts.take q)).length : Nat) ∧ Below w.heap.size w wr) (fun _ i _ => m - (intOf i).toNat)
      case atStart => exact ⟨0, Nat.zero_le _, rfl, rfl, hbw5⟩
      case round =>
        clear hbw5
        obtain ⟨q, hq, rfl, rfl, hbw5⟩ := hrel
        have hql : (gainsL ss (ts.take q)).length ≤ 12 := Nat.le_trans (List.length_filter_le _ _) (by rw [List.length_take]; omega)
        by_cases hlq : q < m
        · have hxq : q < ts.length := by have := HN'.out; omega
          obtain ⟨b, off, rfl, hcell⟩ := (hr'.below hbw5).at_ q (by simp; exact hxq)
          simp only [List.getElem_map] at hcell
          have hs1 : (gainsL ss (ts.take (q + 1))).length = (gainsL ss (ts.take q)).length + (if mem ts[q] ss then 0 else 1) := by
            unfold gainsL
            rw [List.take_succ_eq_append_getElem hxq, List.filter_append, List.length_append]
            by_cases h : mem ts[q] ss <;> simp [h]
          generalize ts[q] = s at hcell hs1
          generalize (gainsL ss (ts.take q)).length = gq at hql hs1
          have HS := Lib.hid hs1; clear hs1
          go_wp2_with fail
          refine (in50_any A n c ss s _ (hr.below hbw5) HN.out (by unfold maxLen; omega)).mono ?_
          rintro e w' ⟨rfl, rfl⟩
          generalize hm1 : mem s ss = m1 at HS
          clear hm1
          cases m1
          · go_wp2
            go_roundw
            case rel => exact ⟨q + 1, by omega, by go_num, by rw [HS.out]; go_num, hbw5⟩
            case measure => simp [intOf]; omega
          · go_wp2
            go_roundw
            case rel => exact ⟨q + 1, by omega, by go_num, by rw [HS.out]; go_num, hbw5⟩
            case measure => simp [intOf]; omega
        · obtain rfl : q = m := by omega
          rw [List.take_of_length_le (by rw [HN'.out]; omega)]
          obtain ⟨w6, rfl⟩ : ∃ w6, w6 = wr := ⟨_, rfl⟩
          generalize hgg : (gainsL ss ts).length = gn at hgl HLEN
          clear hgg hql
          go_wp2_with fail
          go_loopw [11, 13] (fun v i wr => ∃ q : Nat, q ≤ n ∧ i = .int .i64 q ∧ v = .int .i64 ((gn + (gainsL ts (ss.take q)).length : Nat) : Int) ∧ Below w.heap.size w wr) (fun _ i _ => n - (intOf i).toNat)
          case atStart => exact ⟨0, Nat.zero_le _, rfl, rfl, hbw5⟩
          case round =>
            clear hbw5
            obtain ⟨r, hrq, rfl, rfl, hbw5⟩ := hrel
            have hql : (gainsL ts (ss.take r)).length ≤ 12 := Nat.le_trans (List.length_filter_le _ _) (by rw [List.length_take]; omega)
            by_cases hlq : r < n
            · have hxq : r < ss.length := by have := HN.out; omega
              obtain ⟨b, off, rfl, hcell⟩ := (hr.below hbw5).at_ r (by simp; exact hxq)
              simp only [List.getElem_map] at hcell
              have hs1 : (gainsL ts (ss.take (r + 1))).length = (gainsL ts (ss.take r)).length + (if mem ss[r] ts then 0 else 1) := by
                unfold gainsL
                rw [List.take_succ_eq_append_getElem hxq, List.filter_append, List.length_append]
                by_cases h : mem ss[r] ts <;> simp [h]
              generalize ss[r] = s at hcell hs1
              generalize (gainsL ts (ss.take r)).length = gq at hql hs1
              have HS := Lib.hid hs1; clear hs1
              go_wp2_with fail
              refine (in50_any B q d ts s _ (hr'.below hbw5) HN'.out (by unfold maxLen; omega)).mono ?_
              rintro e w' ⟨rfl, rfl⟩
              generalize hm1 : mem s ts = m1 at HS
              clear hm1
              cases m1
              · go_wp2
                go_roundw
                case rel => exact ⟨r + 1, by omega, by go_num, by rw [HS.out]; go_num, hbw5⟩
                case measure => simp [intOf]; omega
              · go_wp2
                go_roundw
                case rel => exact ⟨r + 1, by omega, by go_num, by rw [HS.out]; go_num, hbw5⟩
                case measure => simp [intOf]; omega
            · obtain rfl : r = n := by omega
              rw [List.take_of_length_le (by rw [HN.out]; omega), ← HLEN.out]
              go_wp2_with fail
              refine (awake50_any _).mono ?_
              rintro e w9 ⟨rfl, hb9⟩
              go_wp2
              go_ret
              exact ⟨rfl, then_ hbw5 hb9⟩
end Go.Proofs.Ytebfmacbdjnhbaa
