/- The walk of TreeTells. -/
import Derived.Test.YtgmafnpkhmlnnaaTreeI
attribute [local go_sem ↓] Go.wp_at_zero Go.wp_at_succ
namespace Go.Proofs.Ytgmafnpkhmlnnaa
open Go.RowKit Go.Mem Go.Num
set_option linter.unusedVariables false
set_option linter.unusedSimpArgs false

set_option maxRecDepth 100000 in
set_option maxHeartbeats 8000000 in
theorem treeTells_walk (A : Option Addr) (n c : Nat) (a : List Leaf) (B : Option Addr) (m d : Nat) (b : List Leaf) (w : World)
    (hr : Rd w A (leafc a)) (hn : a.length = n) (hm : n ≤ maxLen) (hok : ∀ m ∈ a, m.ok w) (hr2 : Rd w B (leafc b)) (hn2 : b.length = m) (hm2 : m ≤ maxLen) (hok2 : ∀ m ∈ b, m.ok w) :
    Calls Try.prog 4 #[.slice A n c, .slice B m d] w fun e w' => e = .returned (.bool true) ∧ Below w.heap.size w w' := by
  have HR := Lib.hid hr; have HN := Lib.hid hn; have HR2 := Lib.hid hr2; have HN2 := Lib.hid hn2
  have HF1 := Lib.hid (few28_any A n c a w hr hn hm hok)
  have HF2 := Lib.hid (fun W (h : Below w.heap.size w W) => few28_any B m d b W (hr2.below h) hn2 hm2 (fun x hx => Leaf.ok.below (hok2 x hx) h))
  clear hr hn hok hr2 hn2 hok2 hm hm2
  go_enter Try.func4, Try.ntmps4
  go_wp2_with fail
  refine HF1.out.mono ?_
  rintro e w1 ⟨few, hfew, rfl, hb1⟩
  cases few
  · clear hfew
    go_wp2_with fail
    refine (fin28 w w1 hb1).mono ?_
    rintro e w2 ⟨rfl, hb2⟩
    go_wp2
    go_ret
    exact ⟨rfl, hb2⟩
  have HL := Lib.hid (hfew rfl); clear hfew
  go_wp2_with fail
  refine (HF2.out _ hb1).mono ?_
  rintro e w2 ⟨few, hfew, rfl, hb2⟩
  have hb2 := then_ hb1 hb2
  cases few
  · clear hfew
    go_wp2_with fail
    refine (fin28 w w2 hb2).mono ?_
    rintro e w3 ⟨rfl, hb3⟩
    go_wp2
    go_ret
    exact ⟨rfl, hb3⟩
  have HL2 := Lib.hid (hfew rfl); clear hfew HF1 HF2
  have hn : n ≤ 20 := by have := HL.out.1; rw [HN.out] at this; exact this
  have hm : m ≤ 20 := by have := HL2.out.1; rw [HN2.out] at this; exact this
  have HR := Lib.hid (HR.out.below hb2); have HR2 := Lib.hid (HR2.out.below hb2); have HB := Lib.hid hb2
  clear hb1 hb2
  go_wp2_with fail
  refine (once_any A n c a B m d b w2 HR.out HN.out ⟨hn, HL.out.2⟩ HR2.out HN2.out ⟨hm, HL2.out.2⟩).mono ?_
  rintro e w3 ⟨q, hq, rfl, hb1⟩
  have HR := Lib.hid (HR.out.below hb1); have HR2 := Lib.hid (HR2.out.below hb1); have HB := Lib.hid (then_ HB.out hb1)
  clear hb1
  cases q
  rotate_left
  · clear hq
    go_wp2_with fail
    refine (fin28 w w3 HB.out).mono ?_
    rintro e w4 ⟨rfl, hb3⟩
    go_wp2
    go_ret
    exact ⟨rfl, hb3⟩
  have HO := Lib.hid (hq rfl); clear hq
  go_wp2_with fail
  refine (of_any A n c a w3 HR.out HN.out (by omega) HL.out.2).mono ?_
  rintro e w4 ⟨v4, rfl, hown, hb1⟩
  have HTA := Lib.hid (treeL_len a); have HTB := Lib.hid (treeL_len b)
  rw [HTA.out] at hown
  obtain ⟨A4, c4, rfl⟩ := own_form hown
  have HX := Lib.hid (Rd.of_own hown)
  have HR := Lib.hid (HR.out.below hb1); have HR2 := Lib.hid (HR2.out.below hb1); have HB := Lib.hid (then_ HB.out hb1)
  clear hb1 hown
  go_wp2_with fail
  refine (of_any B m d b w4 HR2.out HN2.out (by omega) HL2.out.2).mono ?_
  rintro e w5 ⟨v5, rfl, hown, hb1⟩
  rw [HTB.out] at hown
  obtain ⟨A5, c5, rfl⟩ := own_form hown
  have HY := Lib.hid (Rd.of_own hown); have HX := Lib.hid (HX.out.below hb1)
  have HR := Lib.hid (HR.out.below hb1); have HR2 := Lib.hid (HR2.out.below hb1); have HB := Lib.hid (then_ HB.out hb1)
  clear hb1 hown
  go_wp2_with fail
  refine (unlike_any A4 16 c4 (treeL a) A5 16 c5 (treeL b) w5 HX.out HTA.out (by decide) HY.out HTB.out (by decide)).mono ?_
  rintro e w6 ⟨v6, rfl, hown, hb1⟩
  have HUL := Lib.hid (show (unL (treeL a) (treeL b)).length ≤ 1000000 from Nat.le_trans (unK_len _ _ _) (by rw [HTA.out, HTB.out]; decide))
  obtain ⟨A6, c6, rfl⟩ := own_form hown
  have HU := Lib.hid (Rd.of_own hown)
  have HR := Lib.hid (HR.out.below hb1); have HR2 := Lib.hid (HR2.out.below hb1); have HB := Lib.hid (then_ HB.out hb1)
  clear hb1 hown HX HY
  have HWT := Lib.hid (show wantK a b 16 = unL (treeL a) (treeL b) from wantS HO.out)
  have HRT := Lib.hid (roots_tell HO.out)
  generalize unL (treeL a) (treeL b) = u at HU HUL HWT HRT ⊢
  generalize hul : u.length = ul at HUL ⊢
  have HUE := Lib.hid hul
  clear hul HO
  go_wp2
  go_loopw [6, 7] (fun v i wr => ∃ k : Nat, k ≤ 16 ∧ i = .int .i64 k ∧ Hid (wr.ownsRow w6.heap.size 3 1 v (wantK a b k).length (ints (wantK a b k))) ∧ Below w6.heap.size w6 wr) (fun _ i _ => 16 - (intOf i).toNat)
  case atStart => exact ⟨0, Nat.zero_le _, rfl, Lib.hid (World.ownsRow_nil _ _ _ _), Below.refl _ _⟩
  case round =>
    obtain ⟨k, hk, rfl, HV, hbel⟩ := hrel
    have hkl := wantK_len a b k
    by_cases hlt : k < 16
    · have HYES := Lib.hid (wantK_yes (a := a) (b := b) (k := k)); have HNO := Lib.hid (wantK_no (a := a) (b := b) (k := k))
      generalize wantK a b k = u2 at HV HYES HNO hkl
      have hll : u2.length ≤ 16 := by omega
      have HP1 := Lib.hid (texts28_any A n c a (k : Int) wr (HR.out.below hbel) HN.out (by omega) HL.out.2)
      have HP2 := Lib.hid (fun W (h : Below wr.heap.size wr W) => texts28_any B m d b (k : Int) W ((HR2.out.below hbel).below h) HN2.out (by omega) HL2.out.2)
      have HM1 := Lib.hid (texP_fits (segB (k : Int)) a (by have := HL.out.1; exact this)); have HM2 := Lib.hid (texP_fits (segB (k : Int)) b (by have := HL2.out.1; exact this))
      generalize texP (segB (k : Int)) a = ta at HP1 HM1 HYES HNO
      generalize texP (segB (k : Int)) b = tb at HP2 HM2 HYES HNO
      have HBL := Lib.hid hbel
      clear hbel hkl
      have hk2 : ((k : Int) < 16) := by omega
      go_wp2_with fail
      refine HP1.out.mono ?_
      rintro e x1 ⟨vx, rfl, hown, hb1⟩
      obtain ⟨P1, p1, rfl⟩ := own_form hown
      have RR1 := Lib.hid (Rd.of_own hown)
      have HV1 := Lib.hid (own_below HV.out hb1)
      clear hown
      go_wp2_with fail
      refine (HP2.out _ hb1).mono ?_
      rintro e x2 ⟨vx, rfl, hown, hb2⟩
      obtain ⟨P2, p2, rfl⟩ := own_form hown
      have RR2 := Lib.hid (Rd.of_own hown)
      have RR1 := Lib.hid (RR1.out.below hb2)
      have HV1 := Lib.hid (own_below HV1.out hb2)
      have hb2 := then_ hb1 hb2
      clear hown hb1
      go_wp2_with fail
      refine (sameTexts_any P1 ta.length p1 ta P2 tb.length p2 tb _ RR1.out rfl HM1.out RR2.out rfl HM2.out).mono ?_
      rintro e x3 ⟨rfl, hb3⟩
      have HV1 := Lib.hid (own_below HV1.out hb3)
      have HB3 := Lib.hid (then_ HBL.out (then_ hb2 hb3))
      have HZ := Lib.hid HB3.out.size
      clear hb2 hb3
      by_cases heq : ta = tb
      · rw [decide_eq_true heq]
        have HN1 := Lib.hid (HNO.out heq)
        clear heq
        go_wp2
        go_roundw
        case rel => exact ⟨k + 1, by omega, by go_num, Lib.hid (by rw [HN1.out]; exact HV1.out), HB3.out⟩
        case measure => simp [intOf]; omega
      · rw [decide_eq_false heq]
        have HY1 := Lib.hid (HYES.out heq)
        clear heq
        go_wp2_with (at_builtin; refine wpList_app elInt (by rfl) (.tmp 38) (.tmp 40) (by rfl) w6.heap.size _ u2.length _ (by rfl) (HV1.out.alloc _) (some ⟨x3.heap.size, 0, none⟩) 1 1 [.int .i64 k] rfl rfl (Rd.new x3 #[.int .i64 k] _) (by intro u hu; simp at hu; subst hu; rfl) (by unfold maxLen; omega) (by omega) (by have := HZ.out; simp; omega) ?_; intro v1 w7 hown1 hbel1 _ _)
        go_roundw
        case rel => exact ⟨k + 1, by omega, by go_num, Lib.hid (by rw [HY1.out, List.length_append]; unfold ints at hown1 ⊢; rw [List.map_append]; exact hown1), (HB3.out.alloc HZ.out _).trans hbel1⟩
        case measure => simp [intOf]; omega
    · obtain rfl : k = 16 := by omega
      rw [HWT.out] at HV
      obtain ⟨A7, c7, rfl⟩ := own_form HV.out
      have HV1 := Lib.hid (Rd.of_own HV.out)
      have HR := Lib.hid (HR.out.below hbel); have HR2 := Lib.hid (HR2.out.below hbel); have HB := Lib.hid (then_ HB.out hbel); have HU := Lib.hid (HU.out.below hbel)
      rw [HUE.out] at HV ⊢
      clear hbel hkl HV
      go_wp2_with fail
      refine (sameInts_any A6 ul c6 u A7 ul c7 u wr HU.out HUE.out HUL.out HV1.out HUE.out HUL.out).mono ?_
      rw [decide_eq_true (rfl : u = u)]
      rintro e w7 ⟨rfl, hb1⟩
      have HR := Lib.hid (HR.out.below hb1); have HR2 := Lib.hid (HR2.out.below hb1); have HB := Lib.hid (then_ HB.out hb1)
      clear hb1 HU HV1
      go_wp2_with fail
      refine (root_any A n c a w7 HR.out HN.out (by omega) HL.out.2).mono ?_
      rintro e w8 ⟨rfl, hb1⟩
      have HR2 := Lib.hid (HR2.out.below hb1); have HB := Lib.hid (then_ HB.out hb1)
      clear hb1 HR
      generalize rootL a = ra at HRT ⊢
      go_wp2_with fail
      refine (root_any B m d b w8 HR2.out HN2.out (by omega) HL2.out.2).mono ?_
      rintro e w9 ⟨rfl, hb1⟩
      have HB := Lib.hid (then_ HB.out hb1)
      clear hb1 HR2
      generalize rootL b = rb at HRT ⊢
      have hbb : (ra.toList == rb.toList) = ((ul : Int) == 0) := by
        rw [str_beq, Bool.eq_iff_iff]
        simp only [decide_eq_true_eq, beq_iff_eq]
        rw [HRT.out, ← List.length_eq_zero_iff, HUE.out]
        omega
      generalize hq0 : ((ul : Int) == 0) = q0 at hbb
      have hqq : (q0 == q0) = true := by cases q0 <;> rfl
      have HQ0 := Lib.hid hq0
      go_wp2_with fail
      refine (fin28 w w9 HB.out).mono ?_
      rintro e w10 ⟨rfl, hb2⟩
      go_wp2
      go_ret
      exact ⟨rfl, hb2⟩
end Go.Proofs.Ytgmafnpkhmlnnaa
