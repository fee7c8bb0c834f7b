/- awake of layer 50, and the walk of the law PlanIs. -/
import Derived.Test.YtebfmacbdjnhbaaPlanD
namespace Go.Proofs.Ytebfmacbdjnhbaa
open Go.RowKit Go.Mem
set_option linter.unusedVariables false

set_option maxRecDepth 100000 in
set_option maxHeartbeats 4000000 in
theorem rordersE_any (place : ByteArray) (A : Option Addr) (n c : Nat) (ss : List ByteArray) (B : Option Addr) (m d : Nat) (ts : List ByteArray) (w : World) (hr : Rd w A (ss.map Value.string)) (hn : ss.length = n) (hm : n ≤ 50000)
    (hr' : Rd w B (ts.map Value.string)) (hn' : ts.length = m) (hm' : m ≤ 50000) :
    Calls Try.prog 55 #[.string place, .slice A n c, .slice B m d] w (Makes 77 3 (ordersE place ss ts).length ((ordersE place ss ts).flatMap Ord.cells) w) := by
  by_cases h0 : n = 0 ∨ m = 0
  · have he : ordersE place ss ts = [] := by unfold ordersE; rw [if_pos (by omega)]
    rw [he]
    by_cases h1 : n = 0
    · have hd1 : ((n : Int) == 0) = true := by simp; omega
      clear h0 h1 hn hn' he
      go_enter Try.func55, Try.ntmps55
      go_wp2
      go_ret
      exact ⟨_, rfl, World.ownsRow_nil _ _ _ _, Below.refl _ _⟩
    · have hd1 : ((n : Int) == 0) = false := by simp; omega
      have hd2 : ((m : Int) == 0) = true := by simp; omega
      clear h0 h1 hn hn' he
      go_enter Try.func55, Try.ntmps55
      go_wp2
      go_ret
      exact ⟨_, rfl, World.ownsRow_nil _ _ _ _, Below.refl _ _⟩
  · have he : ordersE place ss ts = ordersL place ss ts := by unfold ordersE; rw [if_neg (by omega)]
    rw [he]
    exact rorders_any place A n c ss B m d ts w hr hn hm hr' hn' hm' (by omega) (by omega)


abbrev sbk : ByteArray := ⟨#[98, 47, 107]⟩

theorem resDo_len (place : ByteArray) (ss : List ByteArray) (ms : List Ord) : (resOf (doL place ss ms)).1.length ≤ ss.length + ms.length := by
  cases h : doL place ss ms with
  | none => simp [resOf]
  | some o => exact doL_len h
theorem ordersE_len (place : ByteArray) (ss ts : List ByteArray) : (ordersE place ss ts).length ≤ ss.length + ts.length := by
  unfold ordersE
  split
  · simp
  · unfold ordersL
    rw [List.length_append, List.length_map, List.length_map]
    have h1 : (gainsL ss ts).length ≤ ts.length := List.length_filter_le _ _
    have h2 : (gainsL ts ss).length ≤ ss.length := List.length_filter_le _ _
    omega

set_option maxRecDepth 100000 in
set_option maxHeartbeats 4000000 in
theorem awake50_any (w : World) : Calls Try.prog 50 #[] w fun e w' => e = .returned (.bool true) ∧ Below w.heap.size w w' := by
  go_enter Try.func50, Try.ntmps50
  go_wp2_with fail
  refine (ordersE_any sbk _ 2 2 [sa, sb] _ 2 2 [sb, sc] _ (by exact (rd_new _ _ _ _ rfl rfl).alloc _) rfl (by omega) (by exact rd_new _ _ _ _ (by simp) rfl) rfl (by omega)).mono ?_
  rintro e w1 ⟨v1, rfl, ho1, hb1⟩
  rw [show ordersE sbk [sa, sb] [sb, sc] = [⟨sbk, sb, sc⟩, ⟨sbk, ByteArray.empty, sa⟩] by kernel_rfl] at ho1
  obtain ⟨G1, c1, rfl⟩ := own_form ho1
  have hr1 := Rd.of_own ho1
  have hbw1 := ba (ba hb1)
  clear hb1 ho1
  go_wp2_with fail
  refine (do_any _ 2 2 [sa, sb] sbk _ _ _ [⟨sbk, sb, sc⟩, ⟨sbk, ByteArray.empty, sa⟩] _ (by exact rd_new _ _ _ _ rfl rfl) rfl (by omega) (by exact hr1.alloc _) rfl (by simp)).mono ?_
  intro e w2 h2
  obtain ⟨hb2, G2, n2, c2, rfl, hg2, hl2⟩ := h2.view
  rw [show resOf (doL sbk [sa, sb] [⟨sbk, sb, sc⟩, ⟨sbk, ByteArray.empty, sa⟩]) = ([sb, sc], 0) by kernel_rfl] at hg2 hl2 ⊢
  have hl2 : 2 = n2 := hl2
  subst hl2
  have hb2' := ba hb2
  have hr1 := hr1.below hb2'
  have hbw2 := then_ hbw1 hb2'
  clear h2 hb2 hb2' hbw1
  go_wp2_with fail
  refine (do_any _ 1 1 [sa] sbk _ 1 1 [⟨sbk, ByteArray.empty, sa⟩] _ (by exact (rd_new _ _ _ _ rfl rfl).alloc _) rfl (by omega) (by exact rd_new _ _ _ _ (by simp) rfl) rfl (by simp)).mono ?_
  intro e w3 h3
  obtain ⟨hb3, G3, n3, c3, rfl, hg3, hl3⟩ := h3.view
  rw [show resOf (doL sbk [sa] [⟨sbk, ByteArray.empty, sa⟩]) = ([], 1) by kernel_rfl] at hg3 hl3 ⊢
  have hb3' := ba (ba hb3)
  have hr1 := hr1.below hb3'
  have hg2 := hg2.below hb3'
  have hbw3 := then_ hbw2 hb3'
  clear h3 hb3 hb3' hbw2 hg3 hl3
  go_wp2_with fail
  refine (same50_any _ _ _ [⟨sbk, sb, sc⟩, ⟨sbk, ByteArray.empty, sa⟩] _ 2 2 [⟨sbk, sb, sc⟩, ⟨sbk, ByteArray.empty, sa⟩] _ (by exact hr1.alloc _) rfl (by simp) (by exact rd_new _ _ _ _ rfl rfl) rfl (by omega) rfl).mono ?_
  rintro e w4 ⟨rfl, hb4⟩
  have hb34 := ba hb4
  have hg2 := hg2.below hb34
  have hbw4 := then_ hbw3 hb34
  clear hb4 hb34 hr1 hbw3
  go_wp2_with fail
  refine (sameTexts_any _ 2 _ [sb, sc] _ 2 2 [sb, sc] _ (by exact hg2.alloc _) rfl (by simp) (by exact rd_new _ _ _ _ rfl rfl) rfl (by omega)).mono ?_
  rintro e w5 ⟨rfl, hb5⟩
  rw [decide_eq_true rfl]
  have hbw5 := then_ hbw4 (ba hb5)
  go_wp2
  go_ret
  exact ⟨rfl, hbw5⟩

theorem cells_order : Try.prog.cellsOf 77 = 3 := by kernel_rfl
theorem is_order {H : Type} {enc : TypeId × Value → H} {w : World} {cs : List Value} (h : Is enc Try.prog w 77 cs) : ∃ m : Ord, cs = m.cells ∧ True := by
  obtain ⟨hl, hf⟩ := is_struct Try.underlying77 h
  rw [cells_order] at hl
  obtain ⟨c0, c1, c2, rfl⟩ := list3 hl
  have f0 := hf 0 _ rfl
  have f1 := hf 1 _ rfl
  have f2 := hf 2 _ rfl
  obtain ⟨p, h0, _⟩ := is_string Try.underlying9 f0
  obtain ⟨a, h1, _⟩ := is_string Try.underlying9 f1
  obtain ⟨b, h2, _⟩ := is_string Try.underlying9 f2
  simp [cells_string] at h0 h1 h2
  subst h0 h1 h2
  exact ⟨⟨p, a, b⟩, rfl, trivial⟩

set_option maxRecDepth 100000 in
set_option maxHeartbeats 4000000 in
theorem planIs_walk (A : Option Addr) (n c : Nat) (ss : List ByteArray) (B : Option Addr) (m d : Nat) (ts : List ByteArray) (C : Option Addr) (l f : Nat) (ms : List Ord) (w : World) (hr : Rd w A (ss.map Value.string)) (hn : ss.length = n) (hm : n ≤ maxLen)
    (hr' : Rd w B (ts.map Value.string)) (hn' : ts.length = m) (hm' : m ≤ maxLen) (hr'' : Rd w C (ms.flatMap Ord.cells)) (hn'' : ms.length = l) (hm'' : l ≤ maxLen) (hok : ∀ m ∈ ms, True) :
    Calls Try.prog 10 #[.slice A n c, .slice B m d, .slice C l f] w fun e w' => e = .returned (.bool true) ∧ Below w.heap.size w w' := by
  have HN := Lib.hid hn; have HN' := Lib.hid hn'; have HN'' := Lib.hid hn''; clear hn hn' hn'' hok
  go_enter Try.func10, Try.ntmps10
  go_wp2_with fail
  refine (few50_any A n c ss 12 w hr HN.out hm (by omega)).mono ?_
  rintro e w1 ⟨rfl, rfl⟩
  generalize hf : fewT ss 12 = b1
  have HF1 := Lib.hid hf; clear hf
  cases b1
  · go_wp2_with fail
    refine (awake50_any _).mono ?_
    rintro e w1 ⟨rfl, hb1⟩
    go_wp2
    go_ret
    exact ⟨rfl, hb1⟩
  go_wp2_with fail
  refine (few50_any B m d ts 12 w hr' HN'.out hm' (by omega)).mono ?_
  rintro e w1 ⟨rfl, rfl⟩
  generalize hf : fewT ts 12 = b2
  have HF2 := Lib.hid hf; clear hf
  cases b2
  · go_wp2_with fail
    refine (awake50_any _).mono ?_
    rintro e w1 ⟨rfl, hb1⟩
    go_wp2
    go_ret
    exact ⟨rfl, hb1⟩
  have hl1 : n ≤ 12 := by have := (fewT_true HF1.out).1; rw [HN.out] at this; exact this
  have hl2 : m ≤ 12 := by have := (fewT_true HF2.out).1; rw [HN'.out] at this; exact this
  clear hm hm' HF1 HF2
  by_cases hl3 : 20 < l
  · have hd : decide (20 < (l : Int)) = true := by simp; omega
    unfold maxLen at hm''
    go_wp2_with fail
    refine (awake50_any _).mono ?_
    rintro e w1 ⟨rfl, hb1⟩
    go_wp2
    go_ret
    exact ⟨rfl, hb1⟩
  have hd : decide (20 < (l : Int)) = false := by simp; omega
  have hl3 : l ≤ 20 := by omega
  clear hm''
  go_wp2_with fail
  go_loopw [7] (fun i wr => ∃ k : Nat, k ≤ l ∧ i = .int .i64 k ∧ Below w.heap.size w wr) (fun i _ => l - (intOf i).toNat)
  case atStart => exact ⟨0, Nat.zero_le _, rfl, Below.refl _ _⟩
  case round =>
    obtain ⟨k, hk, rfl, hbel⟩ := hrel
    by_cases hlt : k < l
    · have hx : k < ms.length := by have := HN''.out; omega
      obtain ⟨b, off, rfl, hc0, hc1, hc2⟩ := ord_row (hr''.below hbel) k hx
      generalize ms[k] = mk at hc0 hc1 hc2
      obtain ⟨xp, xf, xt⟩ := mk
      simp only at hc0 hc1 hc2
      have hi0 : (0 : Int) ≤ (k : Int) := by omega
      have hi1 : (k : Int) < (l : Int) := by omega
      go_wp2
      go_still_tail 15, (by kernel_rfl)
      change wpList _ _ _ _ _ wr.drew
      have hbel2 : Below w.heap.size w wr.drew := hbel.drew
      generalize wr.drew = w2 at hbel2 ⊢
      clear hbel hc0 hc1 hc2
      go_wp2_with fail
      refine (few50_any _ 3 3 [xp, xf, xt] 3 _ (by exact rd_new _ _ _ _ rfl rfl) rfl (by unfold maxLen; omega) (by omega)).mono ?_
      rintro e w3 ⟨rfl, rfl⟩
      generalize hf : fewT [xp, xf, xt] 3 = b3
      clear hf
      cases b3
      · go_wp2_with fail
        refine (awake50_any _).mono ?_
        rintro e w4 ⟨rfl, hb4⟩
        go_wp2
        go_ret
        exact ⟨rfl, then_ hbel2 (ba hb4)⟩
      · go_wp2
        go_roundw
        case rel => exact ⟨k + 1, by omega, by go_num, hbel2.alloc hbel2.size _⟩
        case measure => simp [intOf]; omega
    · obtain rfl : k = l := by omega
      obtain ⟨w0, rfl⟩ : ∃ w0, w0 = wr := ⟨_, rfl⟩
      go_wp2_with fail
      refine (do_any A n c ss sbk C k f ms w0 (hr.below hbel) HN.out (by omega) (hr''.below hbel) HN''.out (by omega)).mono ?_
      intro e w1 h1
      obtain ⟨hb1, G1, n1, c1, rfl, hg1, hl1'⟩ := h1.view
      have hrl := resDo_len sbk ss ms
      rw [HN.out, HN''.out] at hrl
      generalize hr0 : resOf (doL sbk ss ms) = r at hg1 hl1' hrl
      have HR := Lib.hid hr0; have HL1 := Lib.hid hl1'; clear h1 hr0 hl1'
      have hbw := then_ hbel hb1
      clear hbel hb1
      go_wp2_with fail
      refine (rdo_any A n c ss sbk C k f ms w1 (hr.below hbw) HN.out (by omega) (hr''.below hbw) HN''.out (by omega)).mono ?_
      intro e w2 h2
      obtain ⟨hb2, G2, n2, c2, rfl, hg2, hl2'⟩ := h2.view
      rw [HR.out] at hg2 hl2' ⊢
      have hg1 := hg1.below hb2
      have HL2 := Lib.hid hl2'; clear h2 hl2'
      have hbw := then_ hbw hb2
      clear hb2
      go_wp2_with fail
      refine (ordersE_any sbk A n c ss B m d ts w2 (hr.below hbw) HN.out (by omega) (hr'.below hbw) HN'.out (by omega)).mono ?_
      rintro e w3 ⟨v3, rfl, ho3, hb3⟩
      obtain ⟨G3, c3, rfl⟩ := own_form ho3
      have hg3 := Rd.of_own ho3
      have hg1 := hg1.below hb3
      have hg2 := hg2.below hb3
      have hbw := then_ hbw hb3
      clear hb3 ho3
      go_wp2_with fail
      refine (rordersE_any sbk A n c ss B m d ts w3 (hr.below hbw) HN.out (by omega) (hr'.below hbw) HN'.out (by omega)).mono ?_
      rintro e w4 ⟨v4, rfl, ho4, hb4⟩
      obtain ⟨G4, c4, rfl⟩ := own_form ho4
      have hg4 := Rd.of_own ho4
      have hg1 := hg1.below hb4
      have hg2 := hg2.below hb4
      have hg3 := hg3.below hb4
      have hbw := then_ hbw hb4
      have hpl := ordersE_len sbk ss ts
      rw [HN.out, HN'.out] at hpl
      clear hb4 ho4
      go_wp2_with fail
      refine (same50_any G3 _ c3 (ordersE sbk ss ts) G4 _ c4 (ordersE sbk ss ts) w4 hg3 rfl (by omega) hg4 rfl (by omega) rfl).mono ?_
      rintro e w5 ⟨rfl, hb5⟩
      have hg1 := hg1.below hb5
      have hg2 := hg2.below hb5
      have hbw := then_ hbw hb5
      clear hb5 hg3 hg4
      go_wp2_with fail
      refine (sameTexts_any G1 n1 c1 r.1 G2 n2 c2 r.1 w5 hg1 HL1.out (by have := HL1.out; omega) hg2 HL2.out (by have := HL2.out; omega)).mono ?_
      rintro e w6 ⟨rfl, hb6⟩
      rw [decide_eq_true rfl]
      have hbw := then_ hbw hb6
      clear hb6 hg1 hg2
      go_wp2_with fail
      refine (awake50_any _).mono ?_
      rintro e w7 ⟨rfl, hb7⟩
      go_wp2
      go_ret
      exact ⟨rfl, then_ hbw hb7⟩
end Go.Proofs.Ytebfmacbdjnhbaa
