/- The walk of EraseIs: what it asks of erase is so, for every argument. -/
import Derived.Test.YtebfmacbdjnhbaaEraseH
attribute [local go_sem ↓] Go.wp_at_zero Go.wp_at_succ
namespace Go.Proofs.Ytebfmacbdjnhbaa
open Go.RowKit Go.Mem
set_option linter.unusedVariables false

theorem hidEv {w : World} {b o : Nat} {e : Ev} (h : w.rangeAt b o e.arr.toList) : ∃ q : Array Value, w.rangeAt b o q.toList ∧ q[0]? = some (.int .i64 e.kind) ∧ q[3]? = some (.string e.lane) ∧ (Try.prog.info? 34).map (·.size) = some q.size :=
  ⟨e.arr, h, (evCells e).c0, (evCells e).c3, row_ev.hi⟩
theorem erL_ok {w : World} {l : List Ev} (h : ∀ m ∈ l, m.ok w) (t : ByteArray) : ∀ m ∈ erL t l, m.ok w := fun m hm => h m (List.mem_filter.1 hm).1
theorem caL_ok {w : World} {l : List Ev} (h : ∀ m ∈ l, m.ok w) (t : ByteArray) : ∀ m ∈ caL t l, m.ok w := fun m hm => by
  obtain ⟨e, he, rfl⟩ := List.mem_map.1 hm
  exact (h e (List.mem_filter.1 he).1).2.2.2.2.2.1
theorem evs_ok {w w' : World} {l : List Ev} (h : ∀ m ∈ l, m.ok w) (hb : Below w.heap.size w w') : ∀ m ∈ l, m.ok w' := fun m hm => (h m hm).below hb
theorem cals_ok {w w' : World} {l : List Cal} (h : ∀ m ∈ l, m.ok w) (hb : Below w.heap.size w w') : ∀ m ∈ l, m.ok w' := fun m hm => (h m hm).below hb

set_option maxRecDepth 100000 in
set_option maxHeartbeats 4000000 in
theorem eraseIs_walk (A : Option Addr) (n c : Nat) (l : List Ev) (t : ByteArray) (w : World) (hr : Rd w A (evs l)) (hn : l.length = n) (hm : n ≤ maxLen) (hok : ∀ m ∈ l, m.ok w) (ht : t.size ≤ maxLen) :
    Calls Try.prog 3 #[.slice A n c, .string t] w (YesB w) := by
  have HOK := Lib.hid hok; have HN := Lib.hid hn
  have HF := Lib.hid (few43_any ⟨A, n, c, l⟩ 60 w ⟨hr, hn, hm, hok⟩)
  clear hok hn
  unfold maxLen at hm ht
  go_enter Try.func3, Try.ntmps3
  go_wp2_with fail
  refine HF.out.mono ?_
  rintro e w1 ⟨b1, hb60, rfl, hb1⟩
  clear HF
  cases b1
  · go_wp2_with fail
    refine (awake45_any _).mono ?_
    rintro e w2 ⟨rfl, hb2⟩
    go_wp2
    go_ret
    exact ⟨rfl, then_ hb1 hb2⟩
  have h60 : n ≤ 60 := by have := hb60 rfl; omega
  clear hb60
  by_cases h100 : 100 < t.size
  · go_wp2_with fail
    refine (awake45_any _).mono ?_
    rintro e w2 ⟨rfl, hb2⟩
    go_wp2
    go_ret
    exact ⟨rfl, then_ hb1 hb2⟩
  go_wp2
  go_loopw [5] (fun i wr => ∃ k : Nat, k ≤ n ∧ i = .int .i64 k ∧ Below w.heap.size w wr) (fun i _ => n - (intOf i).toNat)
  case atStart => exact ⟨0, Nat.zero_le _, rfl, hb1⟩
  case round =>
    obtain ⟨k, hk, rfl, hbel⟩ := hrel
    clear hb1
    by_cases hlt : k < n
    · have hx : k < l.length := by have := HN.out; omega
      obtain ⟨b, off, rfl, hrg⟩ := row_ev.at_ (hr.below hbel) k hx
      obtain ⟨q, hrg, c0, c3, hi⟩ := hidEv hrg
      have HRG := Lib.hid hrg; have HI := Lib.hid hi
      clear hrg hi
      have hd : decide ((k : Int) < (n : Int)) = true := by simp; omega
      have hi0 : (0 : Int) ≤ (k : Int) := by omega
      generalize l[k].kind = kd at c0
      generalize l[k].lane = ln at c3
      generalize hp : othersB kd ln t = p
      have hE : ∀ W, Calls Try.prog 17 #[.agg q, .string t] W fun e w' => e = .returned (.bool p) ∧ Below W.heap.size W w' := fun W => by rw [← hp]; exact othersE_any _ _ _ _ W c0 c3
      have hR : ∀ W, Calls Try.prog 18 #[.agg q, .string t] W fun e w' => e = .returned (.bool p) ∧ Below W.heap.size W w' := fun W => by rw [← hp]; exact othersR_any _ _ _ _ W c0 c3
      have HE := Lib.hid hE; have HR := Lib.hid hR
      clear hE hR c0 c3 hp
      have hpp : (p != p) = false := by rw [bne_eq_false_iff_eq]
      go_upto_region 6 with fail
      have hb : Below wr.heap.size wr wr.drew := (Below.refl _ _).drew
      refine wp_region_held_drew (S := (fun W => W.rangeAt b (off + k * 22) q.toList)) (by kernel_rfl) HRG.out (fun hHeld => ?_)
      refine wpAnyH_take (i := 0) (oi := _) (v := ?va0) rfl (by kernel_rfl) (by kernel_rfl) (by kernel_rfl) (fun _ _ _ h => h) (Or.inl ⟨by rfl, ?ha0⟩) (by assumption) ?ra0
      case ha0 => (intro w hSw; go_simp; try with_reducible rfl)
      try dsimp only [Act.put, List.getElem_toArray, List.getElem_cons_zero, List.getElem_cons_succ]; try simp only [List.setIfInBounds_toArray, List.set_cons_zero, List.set_cons_succ]
      refine wpAnyH_take (i := 1) (oi := _) (v := ?va1) rfl (by kernel_rfl) (by kernel_rfl) (by kernel_rfl) (fun _ _ _ h => h) (Or.inl ⟨by rfl, ?ha1⟩) (by assumption) ?ra1
      case ha1 => (intro w hSw; go_simp; try with_reducible rfl)
      try dsimp only [Act.put, List.getElem_toArray, List.getElem_cons_zero, List.getElem_cons_succ]; try simp only [List.setIfInBounds_toArray, List.set_cons_zero, List.set_cons_succ]
      refine wpAnyH_take (i := 2) (oi := _) (v := ?va2) rfl (by kernel_rfl) (by kernel_rfl) (by kernel_rfl) (fun _ _ _ h => h) (Or.inl ⟨by rfl, ?ha2⟩) (by assumption) ?ra2
      case ha2 => (intro w hSw; go_simp; try with_reducible rfl)
      try dsimp only [Act.put, List.getElem_toArray, List.getElem_cons_zero, List.getElem_cons_succ]; try simp only [List.setIfInBounds_toArray, List.set_cons_zero, List.set_cons_succ]
      refine wpAnyH_take (i := 3) (oi := _) (v := _) rfl (by kernel_rfl) (by kernel_rfl) (by kernel_rfl) (fun _ _ _ h => h) (wp_load_arr (w := wr) (by rfl) _ rfl b (off + k * 22) rfl q (fun w hSw => hSw) row_ev.d HI.out) (by assumption) ?_
      try dsimp only [Act.put, List.getElem_toArray, List.getElem_cons_zero, List.getElem_cons_succ]; try simp only [List.setIfInBounds_toArray, List.set_cons_zero, List.set_cons_succ]
      refine wpAnyH_take (i := 4) (oi := _) (v := ?va4) rfl (by kernel_rfl) (by kernel_rfl) (by kernel_rfl) (fun _ _ _ h => h) (Or.inl ⟨by rfl, ?ha4⟩) (by assumption) ?ra4
      case ha4 => (intro w hSw; go_simp; try with_reducible rfl)
      try dsimp only [Act.put, List.getElem_toArray, List.getElem_cons_zero, List.getElem_cons_succ]; try simp only [List.setIfInBounds_toArray, List.set_cons_zero, List.set_cons_succ]
      refine wpAnyH_take (i := 6) (oi := _) (v := ?va6) rfl (by kernel_rfl) (by kernel_rfl) (by kernel_rfl) (fun _ _ _ h => h) (Or.inl ⟨by rfl, ?ha6⟩) (by assumption) ?ra6
      case ha6 => (intro w hSw; go_simp; try with_reducible rfl)
      try dsimp only [Act.put, List.getElem_toArray, List.getElem_cons_zero, List.getElem_cons_succ]; try simp only [List.setIfInBounds_toArray, List.set_cons_zero, List.set_cons_succ]
      refine wpAnyH_take (i := 7) (oi := _) (v := ?va7) rfl (by kernel_rfl) (by kernel_rfl) (by kernel_rfl) (fun _ _ _ h => h) (Or.inl ⟨by rfl, ?ha7⟩) (by assumption) ?ra7
      case ha7 => (intro w hSw; go_simp; try with_reducible rfl)
      try dsimp only [Act.put, List.getElem_toArray, List.getElem_cons_zero, List.getElem_cons_succ]; try simp only [List.setIfInBounds_toArray, List.set_cons_zero, List.set_cons_succ]
      refine wpAnyH_take (i := 8) (oi := _) (v := ?va8) rfl (by kernel_rfl) (by kernel_rfl) (by kernel_rfl) (fun _ _ _ h => h) (Or.inl ⟨by rfl, ?ha8⟩) (by assumption) ?ra8
      case ha8 => (intro w hSw; go_simp; try with_reducible rfl)
      try dsimp only [Act.put, List.getElem_toArray, List.getElem_cons_zero, List.getElem_cons_succ]; try simp only [List.setIfInBounds_toArray, List.set_cons_zero, List.set_cons_succ]
      refine wpAnyH_take (i := 9) (oi := _) (v := _) rfl (by kernel_rfl) (by kernel_rfl) (by kernel_rfl) (fun _ _ _ h => h) (wp_load_arr (w := wr) (by rfl) _ rfl b (off + k * 22) rfl q (fun w hSw => hSw) row_ev.d HI.out) (by assumption) ?_
      try dsimp only [Act.put, List.getElem_toArray, List.getElem_cons_zero, List.getElem_cons_succ]; try simp only [List.setIfInBounds_toArray, List.set_cons_zero, List.set_cons_succ]
      refine wpAnyH_take (i := 10) (oi := _) (v := ?va10) rfl (by kernel_rfl) (by kernel_rfl) (by kernel_rfl) (fun _ _ _ h => h) (Or.inl ⟨by rfl, ?ha10⟩) (by assumption) ?ra10
      case ha10 => (intro w hSw; go_simp; try with_reducible rfl)
      try dsimp only [Act.put, List.getElem_toArray, List.getElem_cons_zero, List.getElem_cons_succ]; try simp only [List.setIfInBounds_toArray, List.set_cons_zero, List.set_cons_succ]
      refine wpAnyH_ready (rs := [5]) (by kernel_rfl) (by simp) ?_
      refine AllReadyH.cons (o := _) rfl (fun K hK => ?_) ?_
      · rw [if_pos (by rfl)]
        go_simp
        refine (HE.out _).mono ?_
        rintro e wx ⟨rfl, hbx⟩
        have hb := then_ hb hbx
        clear hbx
        go_wp2_with fail
        refine hK.out _ _ (rangeAt_below HRG.out hb) (fun hHeld => ?_)
        clear hK K
        try dsimp only [Act.put, List.getElem_toArray, List.getElem_cons_zero, List.getElem_cons_succ]; try simp only [List.setIfInBounds_toArray, List.set_cons_zero, List.set_cons_succ]
        refine wpAnyH_ready (rs := [11]) (by kernel_rfl) (by simp) ?_
        refine AllReadyH.cons (o := _) rfl (fun K hK => ?_) ?_
        · rw [if_pos (by rfl)]
          go_simp
          refine (HR.out _).mono ?_
          rintro e wx ⟨rfl, hbx⟩
          have hb := then_ hb hbx
          clear hbx
          go_wp2_with fail
          refine hK.out _ _ (rangeAt_below HRG.out hb) (fun hHeld => ?_)
          clear hK K
          try dsimp only [Act.put, List.getElem_toArray, List.getElem_cons_zero, List.getElem_cons_succ]; try simp only [List.setIfInBounds_toArray, List.set_cons_zero, List.set_cons_succ]
          refine wpAnyH_take (i := 12) (oi := _) (v := ?va12) rfl (by kernel_rfl) (by kernel_rfl) (by kernel_rfl) (fun _ _ _ h => h) (Or.inl ⟨by rfl, ?ha12⟩) (by assumption) ?ra12
          case ha12 => (intro w hSw; go_simp; try with_reducible rfl)
          try dsimp only [Act.put, List.getElem_toArray, List.getElem_cons_zero, List.getElem_cons_succ]; try simp only [List.setIfInBounds_toArray, List.set_cons_zero, List.set_cons_succ]
          refine wpAnyH_done (by kernel_rfl) ?_ _
          go_wp2
          go_roundw
          case rel => exact ⟨k + 1, by omega, by go_num, then_ hbel hb⟩
          case measure => simp [intOf]; omega
        exact AllReadyH.nil
      exact AllReadyH.nil
    · obtain rfl : k = n := by omega
      have hle1 := erL_le t l; have hle2 := caL_le t l
      rw [HN.out] at hle1 hle2
      go_wp2_with fail
      refine (erase_any A k c l t _ (hr.below hbel) HN.out (by omega)).mono ?_
      rintro e wa ⟨va, rfl, howna, hba⟩
      obtain ⟨A1, c1, rfl⟩ := own_form howna
      have hela := then_ hbel hba
      go_wp2_with fail
      refine (rerase_any A k c l t _ (hr.below hela) HN.out (by omega)).mono ?_
      rintro e wb ⟨vb, rfl, hownb, hbb⟩
      obtain ⟨A2, c2, rfl⟩ := own_form hownb
      have helb := then_ hela hbb
      go_wp2_with fail
      refine (sameEvents_any A1 _ c1 A2 c2 (erL t l) _ ((Rd.of_own howna).below hbb) (Rd.of_own hownb) rfl (by omega) (evs_ok (erL_ok HOK.out t) helb)).mono ?_
      rintro e wc ⟨rfl, hbc⟩
      have helc := then_ helb hbc
      clear howna hownb hba hbb hbc hela helb hbel
      go_wp2_with fail
      refine (calls_any A k c l t _ (hr.below helc) HN.out (by omega)).mono ?_
      rintro e wd ⟨vd, rfl, hownd, hbd⟩
      obtain ⟨A3, c3, rfl⟩ := own_form hownd
      have held := then_ helc hbd
      go_wp2_with fail
      refine (rcalls_any A k c l t _ (hr.below held) HN.out (by omega)).mono ?_
      rintro e we ⟨ve, rfl, howne, hbe⟩
      obtain ⟨A4, c4, rfl⟩ := own_form howne
      have hele := then_ held hbe
      go_wp2_with fail
      refine (sameCalls_any A3 _ c3 A4 c4 (caL t l) _ ((Rd.of_own hownd).below hbe) (Rd.of_own howne) rfl (by omega) (cals_ok (caL_ok HOK.out t) hele)).mono ?_
      rintro e wf ⟨rfl, hbf⟩
      have helf := then_ hele hbf
      clear hownd howne hbd hbe hbf helc held hele
      go_wp2_with fail
      refine (awake45_any _).mono ?_
      rintro e wg ⟨rfl, hbg⟩
      go_wp2
      go_ret
      exact ⟨rfl, then_ helf hbg⟩
end Go.Proofs.Ytebfmacbdjnhbaa
