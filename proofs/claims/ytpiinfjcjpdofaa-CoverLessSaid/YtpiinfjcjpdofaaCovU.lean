/- The walk of CoverLess. -/
import Derived.Test.YtpiinfjcjpdofaaCovL
import Derived.Deep.Cut
import Derived.Says
attribute [local go_sem ↓] Go.wp_at_zero Go.wp_at_succ
namespace Go.Proofs.Ytpiinfjcjpdofaa
open Go.RowKit Go.Mem Go.Cov
set_option linter.unusedVariables false
set_option linter.unusedSimpArgs false

theorem cells_uint8 : Try.prog.cellsOf 5 = 1 := by kernel_rfl
theorem cells_arr3u : Try.prog.cellsOf 48 = 3 := by kernel_rfl
def arr3u (x : Int × Int × Int) : Array Value := #[.int .u8 x.1, .int .u8 x.2.1, .int .u8 x.2.2]
def wf3u (x : Int × Int × Int) : Prop := (Lit.int .u8 x.1).wf = true ∧ (Lit.int .u8 x.2.1).wf = true ∧ (Lit.int .u8 x.2.2).wf = true
theorem is_arr3u {H : Type} {enc : TypeId × Value → H} {w : World} {cs : List Value} (h : Is enc Try.prog w 48 cs) : ∃ x : Int × Int × Int, cs = (arr3u x).toList ∧ wf3u x := by
  obtain ⟨hl, hf⟩ := is_array Try.underlying48 h
  rw [cells_arr3u] at hl
  obtain ⟨c0, r0, rfl, hl0⟩ := cons_of hl
  obtain ⟨c1, r1, rfl, hl1⟩ := cons_of hl0
  obtain ⟨c2, r2, rfl, hl2⟩ := cons_of hl1
  obtain rfl := nil_of hl2
  obtain ⟨s0, h0, w0⟩ := is_int Try.underlying5 (hf 0 (by omega))
  obtain ⟨s1, h1, w1⟩ := is_int Try.underlying5 (hf 1 (by omega))
  obtain ⟨s2, h2, w2⟩ := is_int Try.underlying5 (hf 2 (by omega))
  simp [cells_uint8] at h0 h1 h2
  subst h0 h1 h2
  exact ⟨⟨s0, s1, s2⟩, rfl, w0, w1, w2⟩
theorem u8_range {a : Int} (h : (Lit.int .u8 a).wf = true) : 0 ≤ a ∧ a ≤ 255 := by
  unfold Lit.wf at h; simp [IntKind.min, IntKind.max, IntKind.signed, IntKind.bits] at h; omega
theorem does_less {l : List Pair} {m a b a' b' : Int} {L R : List Int} (h : Does l m a b L R) (ha : a' ≤ a) (hb : b' ≤ b) : Does l m a' b' L R := by
  obtain ⟨S, h1, h2, h3, h4⟩ := h
  exact ⟨S, h1, h2, by omega, by omega⟩
theorem does_more {l : List Pair} {m a b : Int} {L R : List Int} (h : Does l m a b L R) (hm : m < l.length) : Does l (m + 1) a b L R := by
  obtain ⟨S, h1, h2, h3, h4⟩ := h
  obtain ⟨S', k1, k2, k3⟩ := sub_pad h1 (by omega)
  have := nl_mono (L := L) k1; have := nr_mono (L := R) k1
  exact ⟨S', k2, by omega, by omega, by omega⟩
theorem doesB_less {l : List Pair} {m a b a' b' : Int} (h : doesB l m a b [] [] = true) (ha : a' ≤ a) (hb : b' ≤ b) : doesB l m a' b' [] [] = true := doesB_iff.2 (does_less (doesB_iff.1 h) ha hb)
theorem doesB_more {l : List Pair} {m a b : Int} (h : doesB l m a b [] [] = true) (hm : m < l.length) : doesB l (m + 1) a b [] [] = true := doesB_iff.2 (does_more (doesB_iff.1 h) hm)
theorem doesB_le {l : List Pair} {m a b : Int} (h : doesB l m a b [] [] = true) : m ≤ l.length := by
  obtain ⟨S, h1, h2, _⟩ := doesB_iff.1 h
  have := h1.length_le; omega
set_option maxRecDepth 100000 in
set_option maxHeartbeats 16000000 in
theorem coverLess_walk (A : Option Addr) (n c : Nat) (l : List Pair) (nn : Int × Int × Int) (w : World) (hr0 : Rd w A (l.flatMap pairc)) (hn : l.length = n) (hc : n ≤ c) (hm : c ≤ maxLen) (hok0 : ∀ m ∈ l, okPair m) (hwf : wf3u nn) :
    Calls Try.prog 7 #[.slice A n c, .agg (arr3u nn)] w fun e w' => e = .returned (.bool true) ∧ Below w.heap.size w w' := by
  obtain ⟨z0, z1, z2⟩ := nn
  have hok : okP l := okP_of hok0
  have hr : Rd w A (prc l) := hr0
  obtain ⟨hz0, hz1, hz2⟩ := hwf
  have hz0 := u8_range hz0; have hz1 := u8_range hz1; have hz2 := u8_range hz2
  simp only at hz0 hz1 hz2
  have hb0 := (Below.refl w.heap.size w).alloc (Nat.le_refl _) (.cells #[.int .u8 z0, .int .u8 z1, .int .u8 z2] 48)
  have HN0 := Lib.hid (show (w.alloc (.cells #[.int .u8 z0, .int .u8 z1, .int .u8 z2] 48)).cell? ⟨w.heap.size, 0, none⟩ = some (.int .u8 z0) ∧ (w.alloc (.cells #[.int .u8 z0, .int .u8 z1, .int .u8 z2] 48)).cell? ⟨w.heap.size, 1, none⟩ = some (.int .u8 z1) ∧ (w.alloc (.cells #[.int .u8 z0, .int .u8 z1, .int .u8 z2] 48)).cell? ⟨w.heap.size, 2, none⟩ = some (.int .u8 z2) from
    ⟨by rw [World.cell?_alloc_at _ _ _ _ rfl]; rfl, by rw [World.cell?_alloc_at _ _ _ _ rfl]; rfl, by rw [World.cell?_alloc_at _ _ _ _ rfl]; rfl⟩)
  have HN := Lib.hid hn; have HR := Lib.hid (hr.below hb0); have HOK := Lib.hid hok; have HB0 := Lib.hid hb0
  clear hr hok hb0 hr0 hok0 hn
  unfold arr3u
  simp only
  go_enter Try.func7, Try.ntmps7
  by_cases hfew : n ≤ 60
  rotate_left
  · have h8 : (60 : Int) < (n : Int) := by omega
    clear HN0
    go_wp2_with fail
    refine (awake17_any _).mono ?_
    rintro e w2 ⟨rfl, hb2⟩
    go_wp2_with fail
    go_ret
    exact ⟨rfl, then_ HB0.out hb2⟩
  have h8 : (n : Int) ≤ 60 := by omega
  have hc0 := HN0.out.1; have hc1 := HN0.out.2.1; have hc2 := HN0.out.2.2
  have hw0 : IntKind.i64.wrap z0 = z0 := IntWalk.i64_in _ (by omega)
  have hw1 : IntKind.i64.wrap z1 = z1 := IntWalk.i64_in _ (by omega)
  have hw2 : IntKind.i64.wrap z2 = z2 := IntWalk.i64_in _ (by omega)
  go_wp2_with fail
  generalize w.alloc (.cells #[.int .u8 z0, .int .u8 z1, .int .u8 z2] 48) = W0 at HN0 HR HB0 hc0 hc1 hc2 ⊢
  go_quiet (fail)
  rename_i nq
  have HR1 : Hid (Rd (W0.drewN nq) A (prc l)) := Lib.hid (HR.out.below (drewN_ (Below.refl _ _) nq)); have HB1 := Lib.hid (drewN_ HB0.out nq)
  clear hc0 hc1 hc2 HR HB0 HN0 hw0 hw1 hw2
  generalize W0.drewN nq = w1 at HR1 HB1 ⊢
  have HC := Lib.hid (fun W a b c' (h : Rd W A (prc l)) => Can_any A n c l a b c' HN.out (by omega) HOK.out W h)
  have HCA := Lib.hid (HC.out w1 z0 z1 z2 HR1.out)
  cases hq : doesB l z0 z1 z2 [] [] with
  | false =>
    rw [hq] at HCA
    clear hq
    go_wp2_with fail
    refine HCA.out.mono ?_
    rintro e w2 ⟨rfl, hb2⟩
    go_wp2_with fail
    refine (awake17_any _).mono ?_
    rintro e w3 ⟨rfl, hb3⟩
    go_wp2_with fail
    go_ret
    exact ⟨rfl, then_ HB1.out (then_ hb2 hb3)⟩
  | true =>
    rw [hq] at HCA
    have hle := doesB_le hq
    rw [HN.out] at hle
    have HL1 := Lib.hid (doesB_less (a' := z1 - 1) (b' := z2) hq (by omega) (by omega))
    have HL2 := Lib.hid (doesB_less (a' := z1) (b' := z2 - 1) hq (by omega) (by omega))
    have HL3 := Lib.hid (fun h => doesB_more hq h)
    rw [HN.out] at HL3
    clear hq
    have hw1 : IntKind.i64.wrap (z1 - 1) = z1 - 1 := IntWalk.i64_in _ (by omega)
    have hw2 : IntKind.i64.wrap (z2 - 1) = z2 - 1 := IntWalk.i64_in _ (by omega)
    have hw0 : IntKind.i64.wrap (z0 + 1) = z0 + 1 := IntWalk.i64_in _ (by omega)
    go_wp2_with fail
    refine HCA.out.mono ?_
    rintro e w2 ⟨rfl, hb2⟩
    have HR2 := Lib.hid (HR1.out.below hb2); have HB2 := Lib.hid (then_ HB1.out hb2)
    clear hb2 HCA HR1 HB1
    by_cases hpl : 0 < z1
    · have HCR := Lib.hid (HC.out _ z0 (z1 - 1) z2 HR2.out)
      rw [HL1.out] at HCR
      go_wp2_with fail
      refine HCR.out.mono ?_
      rintro e w3 ⟨rfl, hb3⟩
      have HR3 := Lib.hid (HR2.out.below hb3); have HB3 := Lib.hid (then_ HB2.out hb3)
      clear hb3 HCR HR2 HB2
      by_cases hpr : 0 < z2
      · have HCR := Lib.hid (HC.out _ z0 z1 (z2 - 1) HR3.out)
        rw [HL2.out] at HCR
        go_wp2_with fail
        refine HCR.out.mono ?_
        rintro e w4 ⟨rfl, hb4⟩
        have HR9 := Lib.hid (HR3.out.below hb4); have HB9 := Lib.hid (then_ HB3.out hb4)
        clear hb4 HCR HR3 HB3
        by_cases hz : z0 = (n : Int)
        · have hz1 : (z0 == (n : Int)) = true := by simp [hz]
          clear hz
          go_wp2_with fail
          refine (awake17_any _).mono ?_
          rintro e w8 ⟨rfl, hb8⟩
          go_wp2_with fail
          go_ret
          exact ⟨rfl, then_ HB9.out hb8⟩
        · have hz1 : (z0 == (n : Int)) = false := by simp [hz]
          have HM := HL3.out (by omega)
          have HCM := Lib.hid (HC.out _ (z0 + 1) z1 z2 HR9.out)
          rw [HM] at HCM
          clear hz HM
          go_wp2_with fail
          refine HCM.out.mono ?_
          rintro e w7 ⟨rfl, hb7⟩
          have HB7 := Lib.hid (then_ HB9.out hb7)
          clear hb7 HCM
          go_wp2_with fail
          refine (awake17_any _).mono ?_
          rintro e w8 ⟨rfl, hb8⟩
          go_wp2_with fail
          go_ret
          exact ⟨rfl, then_ HB7.out hb8⟩
      · have hpr2 : z2 ≤ 0 := by omega
        have HR9 := HR3; have HB9 := HB3
        clear HR3 HB3
        by_cases hz : z0 = (n : Int)
        · have hz1 : (z0 == (n : Int)) = true := by simp [hz]
          clear hz
          go_wp2_with fail
          refine (awake17_any _).mono ?_
          rintro e w8 ⟨rfl, hb8⟩
          go_wp2_with fail
          go_ret
          exact ⟨rfl, then_ HB9.out hb8⟩
        · have hz1 : (z0 == (n : Int)) = false := by simp [hz]
          have HM := HL3.out (by omega)
          have HCM := Lib.hid (HC.out _ (z0 + 1) z1 z2 HR9.out)
          rw [HM] at HCM
          clear hz HM
          go_wp2_with fail
          refine HCM.out.mono ?_
          rintro e w7 ⟨rfl, hb7⟩
          have HB7 := Lib.hid (then_ HB9.out hb7)
          clear hb7 HCM
          go_wp2_with fail
          refine (awake17_any _).mono ?_
          rintro e w8 ⟨rfl, hb8⟩
          go_wp2_with fail
          go_ret
          exact ⟨rfl, then_ HB7.out hb8⟩
    · have hpl2 : z1 ≤ 0 := by omega
      have HR3 := HR2; have HB3 := HB2
      clear HR2 HB2
      by_cases hpr : 0 < z2
      · have HCR := Lib.hid (HC.out _ z0 z1 (z2 - 1) HR3.out)
        rw [HL2.out] at HCR
        go_wp2_with fail
        refine HCR.out.mono ?_
        rintro e w4 ⟨rfl, hb4⟩
        have HR9 := Lib.hid (HR3.out.below hb4); have HB9 := Lib.hid (then_ HB3.out hb4)
        clear hb4 HCR HR3 HB3
        by_cases hz : z0 = (n : Int)
        · have hz1 : (z0 == (n : Int)) = true := by simp [hz]
          clear hz
          go_wp2_with fail
          refine (awake17_any _).mono ?_
          rintro e w8 ⟨rfl, hb8⟩
          go_wp2_with fail
          go_ret
          exact ⟨rfl, then_ HB9.out hb8⟩
        · have hz1 : (z0 == (n : Int)) = false := by simp [hz]
          have HM := HL3.out (by omega)
          have HCM := Lib.hid (HC.out _ (z0 + 1) z1 z2 HR9.out)
          rw [HM] at HCM
          clear hz HM
          go_wp2_with fail
          refine HCM.out.mono ?_
          rintro e w7 ⟨rfl, hb7⟩
          have HB7 := Lib.hid (then_ HB9.out hb7)
          clear hb7 HCM
          go_wp2_with fail
          refine (awake17_any _).mono ?_
          rintro e w8 ⟨rfl, hb8⟩
          go_wp2_with fail
          go_ret
          exact ⟨rfl, then_ HB7.out hb8⟩
      · have hpr2 : z2 ≤ 0 := by omega
        have HR9 := HR3; have HB9 := HB3
        clear HR3 HB3
        by_cases hz : z0 = (n : Int)
        · have hz1 : (z0 == (n : Int)) = true := by simp [hz]
          clear hz
          go_wp2_with fail
          refine (awake17_any _).mono ?_
          rintro e w8 ⟨rfl, hb8⟩
          go_wp2_with fail
          go_ret
          exact ⟨rfl, then_ HB9.out hb8⟩
        · have hz1 : (z0 == (n : Int)) = false := by simp [hz]
          have HM := HL3.out (by omega)
          have HCM := Lib.hid (HC.out _ (z0 + 1) z1 z2 HR9.out)
          rw [HM] at HCM
          clear hz HM
          go_wp2_with fail
          refine HCM.out.mono ?_
          rintro e w7 ⟨rfl, hb7⟩
          have HB7 := Lib.hid (then_ HB9.out hb7)
          clear hb7 HCM
          go_wp2_with fail
          refine (awake17_any _).mono ?_
          rintro e w8 ⟨rfl, hb8⟩
          go_wp2_with fail
          go_ret
          exact ⟨rfl, then_ HB7.out hb8⟩
end Go.Proofs.Ytpiinfjcjpdofaa
