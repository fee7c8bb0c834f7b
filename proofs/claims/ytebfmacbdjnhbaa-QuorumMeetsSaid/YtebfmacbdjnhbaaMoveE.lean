/- The walks of the laws MoveIs and MoveParts. -/
import Derived.Test.YtebfmacbdjnhbaaMoveD
namespace Go.Proofs.Ytebfmacbdjnhbaa
open Go.RowKit Go.Mem
set_option linter.unusedVariables false

abbrev sa : ByteArray := ⟨#[97]⟩
abbrev sb : ByteArray := ⟨#[98]⟩
abbrev sc : ByteArray := ⟨#[99]⟩

theorem rd_new {g : Nat} (w : World) (arr : Array Value) (e : TypeId) (cs : List Value) (hg : g = w.heap.size) (h : arr.toList = cs) : Rd (w.alloc (.cells arr e)) (some ⟨g, 0, none⟩) cs := by
  subst hg h; exact Rd.new w arr e

/-- what a call leaves that came behind a new block -/
theorem ba {w w1 : World} {o : Obj} (h : Below (w.alloc o).heap.size (w.alloc o) w1) : Below w.heap.size w w1 := ((Below.refl _ _).alloc (Nat.le_refl _) o).trans (h.mono (by simp))

set_option maxRecDepth 100000 in
set_option maxHeartbeats 2000000 in
theorem awake20_any (w : World) : Calls Try.prog 27 #[] w fun e w' => e = .returned (.bool true) ∧ Below w.heap.size w w' := by
  go_enter Try.func27, Try.ntmps27
  go_wp2_with fail
  refine (plan_any _ 2 2 [sa, sb] _ 2 2 [sa, sc] _ (by exact (rd_new _ _ _ _ rfl rfl).alloc _) rfl (by omega) (by exact rd_new _ _ _ _ (by simp) rfl) rfl (by omega)).mono ?_
  rintro e w1 ⟨v1, rfl, ho1, hb1⟩
  rw [show planTo [sa, sb] [sa, sc] (min 2 2) = [⟨1, sb, sc⟩] by kernel_rfl] at ho1
  obtain ⟨G1, c1, rfl⟩ := own_form ho1
  have hbw1 := ((Below.refl w.heap.size w).alloc (Nat.le_refl _) (.cells #[.string sa, .string sb] 9)).alloc (by simp) (.cells #[.string sa, .string sc] 9) |>.trans (hb1.mono (by simp; omega))
  have hr1 := Rd.of_own ho1
  clear hb1 ho1
  go_wp2_with fail
  refine (apply_any _ 2 2 [sa, sb] _ _ _ [⟨1, sb, sc⟩] _ (by exact rd_new _ _ _ _ rfl rfl) rfl (by omega) (by exact hr1.alloc _) rfl (by simp)).mono ?_
  rintro e w2 ⟨hb2, ⟨out, v2, h2, rfl, ho2⟩ | ⟨h2, rfl⟩⟩
  case inr => simp [applyL] at h2
  rw [show applyL [sa, sb] [⟨1, sb, sc⟩] = some [sa, sc] by kernel_rfl] at h2
  injection h2 with h2
  subst h2
  obtain ⟨G2, c2, rfl⟩ := own_form ho2
  have hr2 := Rd.of_own ho2
  have hb12 := ((Below.refl _ _).alloc (Nat.le_refl _) (.cells #[.string sa, .string sb] 9) |>.trans (hb2.mono (by simp)) : Below w1.heap.size w1 w2)
  have hr12 := hr1.below hb12
  have hbw2 := then_ hbw1 hb12
  clear hb2 ho2 hb12 hr1 hbw1
  go_wp2_with fail
  refine (apply_any _ 2 2 [sa, sc] _ _ _ [⟨1, sb, sc⟩] _ (by exact rd_new _ _ _ _ rfl rfl) rfl (by omega) (by exact hr12.alloc _) rfl (by simp)).mono ?_
  rintro e w3 ⟨hb3, ⟨out, v3, h3, rfl, ho3⟩ | ⟨h3, rfl⟩⟩
  case inl =>
    rw [show applyL [sa, sc] [⟨1, sb, sc⟩] = none by kernel_rfl] at h3
    cases h3
  have hb23 := ((Below.refl _ _).alloc (Nat.le_refl _) (.cells #[.string sa, .string sc] 9) |>.trans (hb3.mono (by simp)) : Below w2.heap.size w2 w3)
  have hr13 := hr12.below hb23
  have hr23 := hr2.below hb23
  have hbw3 := then_ hbw2 hb23
  clear hb3 hb23 hr12 hr2 hbw2
  go_wp2_with fail
  refine (same20_any _ _ _ [⟨1, sb, sc⟩] _ 1 1 [⟨1, sb, sc⟩] _ (by exact hr13.alloc _) rfl (by simp) (by exact rd_new _ _ _ _ rfl rfl) rfl (by omega) rfl).mono ?_
  rintro e w4 ⟨rfl, hb4⟩
  have hb34 := ba hb4
  have hr24 := hr23.below hb34
  have hbw4 := then_ hbw3 hb34
  clear hb4 hb34 hr13 hr23 hbw3 h3
  go_wp2_with fail
  refine (sameTexts_any _ _ _ [sa, sc] _ 2 2 [sa, sc] _ (by exact hr24.alloc _) rfl (by simp) (by exact rd_new _ _ _ _ rfl rfl) rfl (by omega)).mono ?_
  rintro e w5 ⟨rfl, hb5⟩
  rw [decide_eq_true rfl]
  have hbw5 := then_ hbw4 (ba hb5)
  clear hb5 hr24 hbw4
  go_wp2_with fail
  refine (gains_any _ 1 1 [sa] _ 2 2 [sb, sa] _ (by exact (rd_new _ _ _ _ rfl rfl).alloc _) rfl (by omega) (by exact rd_new _ _ _ _ (by simp) rfl) rfl (by omega)).mono ?_
  rintro e w6 ⟨v6, rfl, ho6, hb6⟩
  rw [show gainsL [sa] [sb, sa] = [sb] by kernel_rfl] at ho6
  obtain ⟨G6, c6, rfl⟩ := own_form ho6
  have hr6 := Rd.of_own ho6
  have hbw6 := then_ hbw5 (ba (ba hb6))
  clear hb6 hbw5 ho6
  go_wp2_with fail
  refine (sameTexts_any _ _ _ [sb] _ 1 1 [sb] _ (by exact hr6.alloc _) rfl (by simp) (by exact rd_new _ _ _ _ rfl rfl) rfl (by omega)).mono ?_
  rintro e w7 ⟨rfl, hb7⟩
  rw [decide_eq_true rfl]
  have hbw7 := then_ hbw6 (ba hb7)
  clear hb7 hr6 hbw6
  go_wp2_with fail
  refine (rests_any _ 1 1 [sa] _ 2 2 [sb, sa] _ (by exact (rd_new _ _ _ _ rfl rfl).alloc _) rfl (by omega) (by exact rd_new _ _ _ _ (by simp) rfl) rfl (by omega)).mono ?_
  rintro e w8 ⟨v8, rfl, ho8, hb8⟩
  rw [show restsL [sa] [sb, sa] = [sa] by kernel_rfl] at ho8
  obtain ⟨G8, c8, rfl⟩ := own_form ho8
  have hr8 := Rd.of_own ho8
  have hbw8 := then_ hbw7 (ba (ba hb8))
  clear hb8 hbw7 ho8
  go_wp2_with fail
  refine (sameTexts_any _ _ _ [sa] _ 1 1 [sa] _ (by exact hr8.alloc _) rfl (by simp) (by exact rd_new _ _ _ _ rfl rfl) rfl (by omega)).mono ?_
  rintro e w9 ⟨rfl, hb9⟩
  rw [decide_eq_true rfl]
  have hbw9 := then_ hbw8 (ba hb9)
  go_wp2
  go_ret
  exact ⟨rfl, hbw9⟩

/-- what owners behind moves come to, as two results -/
def resOf : Option (List ByteArray) → List ByteArray × Int
  | some out => (out, 0)
  | none => ([], 1)
theorem Applies.view {r : Option (List ByteArray)} {w : World} {e : Ending} {w' : World} (h : Applies r w e w') :
    Below w.heap.size w w' ∧ ∃ G n c, e = .returned (.tuple #[.slice G n c, .int .i64 (resOf r).2]) ∧ Rd w' G ((resOf r).1.map Value.string) ∧ (resOf r).1.length = n := by
  obtain ⟨hb, ⟨out, v, rfl, rfl, ho⟩ | ⟨rfl, rfl⟩⟩ := h
  · obtain ⟨G, c, rfl⟩ := own_form ho
    exact ⟨hb, G, _, c, rfl, Rd.of_own ho, rfl⟩
  · exact ⟨hb, none, 0, 0, rfl, Rd.nil, rfl⟩
theorem resOf_len (ss : List ByteArray) (ms : List Mv) : (resOf (applyL ss ms)).1.length ≤ ss.length := by
  cases h : applyL ss ms with
  | none => simp [resOf]
  | some o => simp [resOf, applyL_length h]

set_option maxRecDepth 100000 in
set_option maxHeartbeats 2000000 in
theorem moveIs_walk (A : Option Addr) (n c : Nat) (ss : List ByteArray) (B : Option Addr) (m d : Nat) (ts : List ByteArray) (C : Option Addr) (l f : Nat) (ms : List Mv) (w : World) (hr : Rd w A (ss.map Value.string)) (hn : ss.length = n) (hm : n ≤ maxLen)
    (hr' : Rd w B (ts.map Value.string)) (hn' : ts.length = m) (hm' : m ≤ maxLen) (hr'' : Rd w C (ms.flatMap Mv.cells)) (hn'' : ms.length = l) (hm'' : l ≤ maxLen) (hok : ∀ m ∈ ms, True) :
    Calls Try.prog 5 #[.slice A n c, .slice B m d, .slice C l f] w fun e w' => e = .returned (.bool true) ∧ Below w.heap.size w w' := by
  have HN := Lib.hid hn; have HN' := Lib.hid hn'; have HN'' := Lib.hid hn''; clear hn hn' hn''
  go_enter Try.func5, Try.ntmps5
  go_wp2_with fail
  refine (few19_any A n c ss 40 w hr HN.out hm (by omega)).mono ?_
  rintro e w1 ⟨rfl, rfl⟩
  generalize hf : fewT ss 40 = b1
  have HF1 := Lib.hid hf; clear hf
  cases b1
  · go_wp2_with fail
    refine (awake20_any _).mono ?_
    rintro e w1 ⟨rfl, hb1⟩
    go_wp2
    go_ret
    exact ⟨rfl, hb1⟩
  go_wp2_with fail
  refine (few19_any B m d ts 40 w hr' HN'.out hm' (by omega)).mono ?_
  rintro e w1 ⟨rfl, rfl⟩
  generalize hf : fewT ts 40 = b2
  have HF2 := Lib.hid hf; clear hf
  cases b2
  · go_wp2_with fail
    refine (awake20_any _).mono ?_
    rintro e w1 ⟨rfl, hb1⟩
    go_wp2
    go_ret
    exact ⟨rfl, hb1⟩
  go_wp2_with fail
  refine (few20_any C l f ms w hr'' HN''.out hm'').mono ?_
  rintro e w1 ⟨b3, hb3, rfl, rfl⟩
  cases b3
  · go_wp2_with fail
    refine (awake20_any _).mono ?_
    rintro e w1 ⟨rfl, hb1⟩
    go_wp2
    go_ret
    exact ⟨rfl, hb1⟩
  have hl1 : n ≤ 40 := by have := (fewT_true HF1.out).1; rw [HN.out] at this; exact this
  have hl2 : m ≤ 40 := by have := (fewT_true HF2.out).1; rw [HN'.out] at this; exact this
  have hl3 : l ≤ 20 := hb3 rfl
  clear hb3 hm hm' hm'' HF1 HF2
  go_wp2_with fail
  refine (apply_any A n c ss C l f ms w hr HN.out (by omega) hr'' HN''.out (by omega)).mono ?_
  intro e w1 h1
  obtain ⟨hb1, G1, n1, c1, rfl, hg1, hl1'⟩ := h1.view
  have hrl := resOf_len ss ms
  rw [HN.out] at hrl
  generalize hr0 : resOf (applyL ss ms) = r at hg1 hl1' hrl
  have HR := Lib.hid hr0; have HL1 := Lib.hid hl1'; clear h1 hr0 hl1'
  go_wp2_with fail
  refine (rapply_any A n c ss C l f ms w1 (hr.below hb1) HN.out (by omega) (hr''.below hb1) HN''.out (by omega)).mono ?_
  intro e w2 h2
  obtain ⟨hb2, G2, n2, c2, rfl, hg2, hl2'⟩ := h2.view
  rw [HR.out] at hg2 hl2' ⊢
  have hg1 := hg1.below hb2
  have HL2 := Lib.hid hl2'; clear h2 hl2'
  have hbw := then_ hb1 hb2
  clear hb1 hb2
  go_wp2_with fail
  refine (plan_any A n c ss B m d ts w2 (hr.below hbw) HN.out (by omega) (hr'.below hbw) HN'.out (by omega)).mono ?_
  rintro e w3 ⟨v3, rfl, ho3, hb3⟩
  obtain ⟨G3, c3, rfl⟩ := own_form ho3
  have hg3 := Rd.of_own ho3
  have hg1 := hg1.below hb3
  have hg2 := hg2.below hb3
  have hbw := then_ hbw hb3
  clear hb3 ho3
  go_wp2_with fail
  refine (rplan_any A n c ss B m d ts w3 (hr.below hbw) HN.out (by omega) (hr'.below hbw) HN'.out (by omega)).mono ?_
  rintro e w4 ⟨v4, rfl, ho4, hb4⟩
  obtain ⟨G4, c4, rfl⟩ := own_form ho4
  have hg4 := Rd.of_own ho4
  have hg1 := hg1.below hb4
  have hg2 := hg2.below hb4
  have hg3 := hg3.below hb4
  have hbw := then_ hbw hb4
  have hpl := planTo_le ss ts (min n m)
  clear hb4 ho4
  go_wp2_with fail
  refine (same20_any G3 _ c3 (planTo ss ts (min n m)) G4 _ c4 (planTo ss ts (min n m)) w4 hg3 rfl (by omega) hg4 rfl (by omega) rfl).mono ?_
  rintro e w5 ⟨rfl, hb5⟩
  have hg1 := hg1.below hb5
  have hg2 := hg2.below hb5
  have hbw := then_ hbw hb5
  clear hb5 hg3 hg4
  go_wp2_with fail
  refine (sameTexts_any G1 n1 c1 r.1 G2 n2 c2 r.1 w5 hg1 HL1.out (by have := HL1.out; omega) hg2 HL2.out (by have := HL2.out; omega)).mono ?_
  rintro e w6 ⟨rfl, hb6⟩
  rw [decide_eq_true rfl]
  have hbw := then_ hbw hb6
  clear hb6 hg1 hg2
  go_wp2_with fail
  refine (gains_any A n c ss B m d ts w6 (hr.below hbw) HN.out (by omega) (hr'.below hbw) HN'.out (by omega)).mono ?_
  rintro e w7 ⟨v7, rfl, ho7, hb7⟩
  obtain ⟨G7, c7, rfl⟩ := own_form ho7
  have hg7 := Rd.of_own ho7
  have hbw := then_ hbw hb7
  have hlg : (gainsL ss ts).length ≤ 40 := Nat.le_trans (List.length_filter_le _ _) (by rw [HN'.out]; omega)
  clear hb7 ho7
  go_wp2_with fail
  refine (rgains_any A n c ss B m d ts w7 (hr.below hbw) HN.out (by omega) (hr'.below hbw) HN'.out (by omega)).mono ?_
  rintro e w8 ⟨v8, rfl, ho8, hb8⟩
  obtain ⟨G8, c8, rfl⟩ := own_form ho8
  have hg8 := Rd.of_own ho8
  have hg7 := hg7.below hb8
  have hbw := then_ hbw hb8
  clear hb8 ho8
  go_wp2_with fail
  refine (sameTexts_any G7 _ c7 (gainsL ss ts) G8 _ c8 (gainsL ss ts) w8 hg7 rfl (by omega) hg8 rfl (by omega)).mono ?_
  rintro e w9 ⟨rfl, hb9⟩
  rw [decide_eq_true rfl]
  have hbw := then_ hbw hb9
  clear hb9 hg7 hg8 hlg
  go_wp2_with fail
  refine (rests_any A n c ss B m d ts w9 (hr.below hbw) HN.out (by omega) (hr'.below hbw) HN'.out (by omega)).mono ?_
  rintro e w10 ⟨v10, rfl, ho10, hb10⟩
  obtain ⟨G10, c10, rfl⟩ := own_form ho10
  have hg10 := Rd.of_own ho10
  have hbw := then_ hbw hb10
  have hlg : (restsL ss ts).length ≤ 40 := Nat.le_trans (List.length_filter_le _ _) (by rw [HN'.out]; omega)
  clear hb10 ho10
  go_wp2_with fail
  refine (rrests_any A n c ss B m d ts w10 (hr.below hbw) HN.out (by omega) (hr'.below hbw) HN'.out (by omega)).mono ?_
  rintro e w11 ⟨v11, rfl, ho11, hb11⟩
  obtain ⟨G11, c11, rfl⟩ := own_form ho11
  have hg11 := Rd.of_own ho11
  have hg10 := hg10.below hb11
  have hbw := then_ hbw hb11
  clear hb11 ho11
  go_wp2_with fail
  refine (sameTexts_any G10 _ c10 (restsL ss ts) G11 _ c11 (restsL ss ts) w11 hg10 rfl (by omega) hg11 rfl (by omega)).mono ?_
  rintro e w12 ⟨rfl, hb12⟩
  rw [decide_eq_true rfl]
  have hbw := then_ hbw hb12
  clear hb12 hg10 hg11 hlg
  go_wp2_with fail
  refine (awake20_any _).mono ?_
  rintro e w13 ⟨rfl, hb13⟩
  go_wp2
  go_ret
  exact ⟨rfl, then_ hbw hb13⟩

theorem cells_move : Try.prog.cellsOf 55 = 3 := by kernel_rfl
theorem cells_int : Try.prog.cellsOf 3 = 1 := by kernel_rfl
theorem cells_string : Try.prog.cellsOf 9 = 1 := by kernel_rfl
theorem list3 {T : Type} {l : List T} (h : l.length = 3) : ∃ a b c, l = [a, b, c] := by
  match l, h with
  | [a, b, c], _ => exact ⟨a, b, c, rfl⟩
theorem is_move {H : Type} {enc : TypeId × Value → H} {w : World} {cs : List Value} (h : Is enc Try.prog w 55 cs) : ∃ m : Mv, cs = m.cells ∧ True := by
  obtain ⟨hl, hf⟩ := is_struct Try.underlying55 h
  rw [cells_move] at hl
  obtain ⟨c0, c1, c2, rfl⟩ := list3 hl
  have f0 := hf 0 _ rfl
  have f1 := hf 1 _ rfl
  have f2 := hf 2 _ rfl
  obtain ⟨p, h0, _⟩ := is_int Try.underlying3 f0
  obtain ⟨a, h1, _⟩ := is_string Try.underlying9 f1
  obtain ⟨b, h2, _⟩ := is_string Try.underlying9 f2
  simp [cells_int, cells_string] at h0 h1 h2
  subst h0 h1 h2
  exact ⟨⟨p, a, b⟩, rfl, trivial⟩
end Go.Proofs.Ytebfmacbdjnhbaa
