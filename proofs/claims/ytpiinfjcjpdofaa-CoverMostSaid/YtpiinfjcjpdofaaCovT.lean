/- The walk of CoverMost. -/
import Derived.Test.YtpiinfjcjpdofaaCovL
import Derived.Deep.Cut
import Derived.Says
attribute [local go_sem ↓] Go.wp_at_zero Go.wp_at_succ
namespace Go.Proofs.Ytpiinfjcjpdofaa
open Go.RowKit Go.Mem Go.Cov
set_option linter.unusedVariables false
set_option linter.unusedSimpArgs false

/-- what the picked ones are: as many as asked, rising, in range, the best -/
structure Most (l : List Pair) (m : Nat) (p : List Nat) (x y : Nat) : Prop where
  len : p.length = m
  rise : (natI p).Pairwise (· < ·)
  lt : ∀ i ∈ p, i < l.length
  xs : nl [] (sel l p) = x
  ys : nr [] (sel l p) = y
  best : Best l m x y
  left : x = min (nl [] l) m
theorem most_of {l : List Pair} {m : Nat} (hm : m ≤ l.length) {p : List Nat} (h : PickR l (m : Int) p) : ∃ x y, Most l m p x y := by
  obtain ⟨x, y, h1, h2, h3⟩ := h.first m rfl hm
  have h4 : p ∈ ch l.length m := List.mem_of_find?_eq_some h3
  have h5 : okc l x y [] [] p = true := List.find?_some h3
  obtain ⟨h6, h7⟩ := (best_okc h1 h4).1 h5
  obtain ⟨_, _, h8, h9, h10⟩ := ch_props l m p h4
  refine ⟨x, y, h8, ?_, h10, h6, h7, h1, h2⟩
  unfold natI
  rw [List.pairwise_map]
  exact h9.imp (by omega)
theorem both_iff {l : List Pair} {m x y : Nat} {p : List Nat} (h : Most l m p x y) : doesB l m ((min (nl [] l) m : Nat) : Int) ((min (nr [] l) m : Nat) : Int) [] [] = decide (y = min (nr [] l) m) := by
  rw [Bool.eq_iff_iff, doesB_iff, decide_eq_true_iff]
  exact best_right h.best h.left
set_option maxRecDepth 100000 in
set_option maxHeartbeats 16000000 in
theorem coverMost_walk (A : Option Addr) (n c : Nat) (l : List Pair) (a : Int) (w : World) (hr0 : Rd w A (l.flatMap pairc)) (hn : l.length = n) (hc : n ≤ c) (hm : c ≤ maxLen) (hok0 : ∀ m ∈ l, okPair m) (ha : (Lit.int .u8 a).wf = true) :
    Calls Try.prog 6 #[.slice A n c, .int .u8 a] w fun e w' => e = .returned (.bool true) ∧ Below w.heap.size w w' := by
  have hok : okP l := okP_of hok0
  have hr : Rd w A (prc l) := hr0
  have hab : 0 ≤ a ∧ a ≤ 255 := by
    unfold Lit.wf at ha; simp [IntKind.min, IntKind.max, IntKind.signed, IntKind.bits] at ha; omega
  have HN := Lib.hid hn; have HR := Lib.hid hr; have HOK := Lib.hid hok
  clear hr hok hr0 hok0 hn ha
  go_enter Try.func6, Try.ntmps6
  by_cases hfew : n ≤ 60
  rotate_left
  · have h8 : (60 : Int) < (n : Int) := by omega
    go_wp2_with fail
    refine (awake17_any _).mono ?_
    rintro e w2 ⟨rfl, hb2⟩
    go_wp2_with fail
    go_ret
    exact ⟨rfl, hb2⟩
  have h8 : (n : Int) ≤ 60 := by omega
  have hw1 : IntKind.i64.wrap ((n : Int) + 1) = (n : Int) + 1 := IntWalk.i64_in _ (by omega)
  have hn1 : (n : Int) + 1 ≠ 0 := by omega
  go_wp2_with fail
  obtain ⟨m, hme⟩ : ∃ m : Nat, a % ((n : Int) + 1) = m := ⟨(a % ((n : Int) + 1)).toNat, by have := Int.emod_nonneg a hn1; omega⟩
  have hmn : m ≤ n := by have := Int.emod_lt_of_pos a (show (0 : Int) < (n : Int) + 1 by omega); omega
  rw [hme]
  clear hme hw1 hn1 hab
  refine (rSides_any A n c l HN.out (by omega) w HR.out).mono ?_
  rintro e w1 ⟨rfl, hb1⟩
  have HR1 := Lib.hid (HR.out.below hb1); have HB1 := Lib.hid hb1
  clear hb1 HR
  go_wp2_with fail
  refine (pick_any A n c l m HN.out (by omega) hc hm HOK.out w1 HR1.out).mono ?_
  rintro e w2 ⟨p, v, hp, rfl, hown, hb2⟩
  obtain ⟨x, y, hmo⟩ := most_of (by rw [HN.out]; exact hmn) hp
  have HMO := Lib.hid hmo
  obtain ⟨A5, c5, rfl⟩ := own_form hown
  have HO2 := Lib.hid (Rd.of_own hown); have HR2 := Lib.hid (HR1.out.below hb2); have HB2 := Lib.hid (then_ HB1.out hb2)
  have hpl : p.length = m := hmo.len
  have HPL := Lib.hid hpl
  rw [hpl]
  clear hown hb2 hp HR1 HB1 hmo hpl
  have hmm : ((m : Int) != (m : Int)) = false := by simp
  have hmm2 : (m != m) = false := by simp
  go_wp2_with fail
  refine (rise_any A5 m c5 (natI p) HMO.out.rise w2 HO2.out (by simp [natI]; exact HPL.out) (by omega)).mono ?_
  rintro e w3 ⟨rfl, hb3⟩
  have HO3 := Lib.hid (HO2.out.below hb3); have HR3 := Lib.hid (HR2.out.below hb3); have HB3 := Lib.hid (then_ HB2.out hb3)
  clear hb3 HO2 HR2 HB2 hmm hmm2
  go_wp2_with fail
  go_loopw [9] (fun i wr => ∃ k : Nat, k ≤ m ∧ i = .int .i64 k ∧ Hid (Below w3.heap.size w3 wr)) (fun i _ => m - (intOf i).toNat)
  case atStart => exact ⟨0, Nat.zero_le _, rfl, Lib.hid (Below.refl _ _)⟩
  case round =>
    obtain ⟨k, hk, rfl, HB⟩ := hrel
    by_cases hlt : k < m
    · have hx : k < p.length := by have := HPL.out; omega
      have hpk : p[k] < n := by have := HMO.out.lt _ (List.getElem_mem hx); rwa [HN.out] at this
      obtain ⟨b, off, rfl, hcell⟩ := (HO3.out.below HB.out).at_ k (by simp [ints, natI]; exact hx)
      simp only [ints, natI, List.map_map, List.getElem_map, Function.comp_apply] at hcell
      generalize p[k] = u at hcell hpk
      have h1 : (0 : Int) ≤ (u : Int) := by omega
      have h2 : (u : Int) < (n : Int) := by omega
      have hkm : (k : Int) < (m : Int) := by omega
      have hk0 : (0 : Int) ≤ (k : Int) := by omega
      clear hlt hx
      go_wp2_with fail
      exact ⟨⟨k + 1, by omega, by go_num, HB⟩, by simp [intOf]; omega⟩
    have hkm : (m : Int) ≤ (k : Int) := by omega
    have HO4 := Lib.hid (HO3.out.below HB.out); have HR4 := Lib.hid (HR3.out.below HB.out); have HB4 := Lib.hid (then_ HB3.out HB.out)
    clear HO3 HR3 HB3 HB hlt
    rename World => w4
    have HCV := Lib.hid (covers_any A n c l A5 m c5 p HN.out (by omega) HPL.out (by omega) (fun i hi => by have := HMO.out.lt i hi; rwa [HN.out] at this) w4 HR4.out HO4.out)
    rw [HMO.out.xs, HMO.out.ys] at HCV
    go_wp2_with fail
    refine HCV.out.mono ?_
    rintro e w5 ⟨rfl, hb5⟩
    have HR5 := Lib.hid (HR4.out.below hb5); have HB5 := Lib.hid (then_ HB4.out hb5)
    clear hb5 HCV HR4 HB4 HO4
    go_wp2_with fail
    refine (Best_any A n c l m HN.out (by omega) HOK.out w5 HR5.out).mono ?_
    rintro e w6 ⟨x', y', rfl, hbr, hb6⟩
    obtain ⟨rfl, rfl⟩ := HMO.out.best.eq (hbr.best m rfl (by rw [HN.out]; exact hmn)).1
    have HR6 := Lib.hid (HR5.out.below hb6); have HB6 := Lib.hid (then_ HB5.out hb6)
    have HBO := Lib.hid (both_iff HMO.out)
    have hxl := HMO.out.left
    clear hb6 hbr HR5 HB5
    have HCA := Lib.hid (Can_any A n c l (m : Int) ((min (nl [] l) m : Nat) : Int) ((min (nr [] l) m : Nat) : Int) HN.out (by omega) HOK.out w6 HR6.out)
    rw [HBO.out] at HCA
    clear HBO
    generalize nl [] l = L at HCA hxl ⊢
    generalize nr [] l = R at HCA ⊢
    have hxx : ((x : Int) == (x : Int)) = true := by simp
    have hyy : ((y : Int) == (y : Int)) = true := by simp
    by_cases hL : L < m
    · have hL1 : (L : Int) < (m : Int) := by omega
      rw [show min L m = L by omega] at HCA hxl
      have hxm : ((x : Int) == (L : Int)) = true := by simp; omega
      have hxm2 : (x == L) = true := by simp; omega
      by_cases hR : R < m
      · have hR1 : (R : Int) < (m : Int) := by omega
        rw [show min R m = R by omega] at HCA
        clear hL hR
        by_cases hy : y = R
        · have hy1 : ((y : Int) == (R : Int)) = true := by simp; omega
          have hy2 : (y == R) = true := by simp; omega
          rw [decide_eq_true hy] at HCA
          clear hy hxl
          go_wp2_with fail
          refine HCA.out.mono ?_
          rintro e w7 ⟨rfl, hb7⟩
          have HB7 := Lib.hid (then_ HB6.out hb7)
          clear hb7 HCA
          go_wp2_with fail
          refine (awake17_any _).mono ?_
          rintro e w8 ⟨rfl, hb8⟩
          go_wp2_with fail
          go_ret
          exact ⟨rfl, then_ HB7.out hb8⟩
        · have hy1 : ((y : Int) == (R : Int)) = false := by simp; omega
          have hy2 : (y == R) = false := by simp; omega
          rw [decide_eq_false hy] at HCA
          clear hy hxl
          go_wp2_with fail
          refine HCA.out.mono ?_
          rintro e w7 ⟨rfl, hb7⟩
          have HB7 := Lib.hid (then_ HB6.out hb7)
          clear hb7 HCA
          go_wp2_with fail
          refine (awake17_any _).mono ?_
          rintro e w8 ⟨rfl, hb8⟩
          go_wp2_with fail
          go_ret
          exact ⟨rfl, then_ HB7.out hb8⟩
      · have hR1 : (m : Int) ≤ (R : Int) := by omega
        rw [show min R m = m by omega] at HCA
        clear hL hR
        by_cases hy : y = m
        · have hy1 : ((y : Int) == (m : Int)) = true := by simp; omega
          have hy2 : (y == m) = true := by simp; omega
          rw [decide_eq_true hy] at HCA
          clear hy hxl
          go_wp2_with fail
          refine HCA.out.mono ?_
          rintro e w7 ⟨rfl, hb7⟩
          have HB7 := Lib.hid (then_ HB6.out hb7)
          clear hb7 HCA
          go_wp2_with fail
          refine (awake17_any _).mono ?_
          rintro e w8 ⟨rfl, hb8⟩
          go_wp2_with fail
          go_ret
          exact ⟨rfl, then_ HB7.out hb8⟩
        · have hy1 : ((y : Int) == (m : Int)) = false := by simp; omega
          have hy2 : (y == m) = false := by simp; omega
          rw [decide_eq_false hy] at HCA
          clear hy hxl
          go_wp2_with fail
          refine HCA.out.mono ?_
          rintro e w7 ⟨rfl, hb7⟩
          have HB7 := Lib.hid (then_ HB6.out hb7)
          clear hb7 HCA
          go_wp2_with fail
          refine (awake17_any _).mono ?_
          rintro e w8 ⟨rfl, hb8⟩
          go_wp2_with fail
          go_ret
          exact ⟨rfl, then_ HB7.out hb8⟩
    · have hL1 : (m : Int) ≤ (L : Int) := by omega
      rw [show min L m = m by omega] at HCA hxl
      have hxm : ((x : Int) == (m : Int)) = true := by simp; omega
      have hxm2 : (x == m) = true := by simp; omega
      by_cases hR : R < m
      · have hR1 : (R : Int) < (m : Int) := by omega
        rw [show min R m = R by omega] at HCA
        clear hL hR
        by_cases hy : y = R
        · have hy1 : ((y : Int) == (R : Int)) = true := by simp; omega
          have hy2 : (y == R) = true := by simp; omega
          rw [decide_eq_true hy] at HCA
          clear hy hxl
          go_wp2_with fail
          refine HCA.out.mono ?_
          rintro e w7 ⟨rfl, hb7⟩
          have HB7 := Lib.hid (then_ HB6.out hb7)
          clear hb7 HCA
          go_wp2_with fail
          refine (awake17_any _).mono ?_
          rintro e w8 ⟨rfl, hb8⟩
          go_wp2_with fail
          go_ret
          exact ⟨rfl, then_ HB7.out hb8⟩
        · have hy1 : ((y : Int) == (R : Int)) = false := by simp; omega
          have hy2 : (y == R) = false := by simp; omega
          rw [decide_eq_false hy] at HCA
          clear hy hxl
          go_wp2_with fail
          refine HCA.out.mono ?_
          rintro e w7 ⟨rfl, hb7⟩
          have HB7 := Lib.hid (then_ HB6.out hb7)
          clear hb7 HCA
          go_wp2_with fail
          refine (awake17_any _).mono ?_
          rintro e w8 ⟨rfl, hb8⟩
          go_wp2_with fail
          go_ret
          exact ⟨rfl, then_ HB7.out hb8⟩
      · have hR1 : (m : Int) ≤ (R : Int) := by omega
        rw [show min R m = m by omega] at HCA
        clear hL hR
        by_cases hy : y = m
        · have hy1 : ((y : Int) == (m : Int)) = true := by simp; omega
          have hy2 : (y == m) = true := by simp; omega
          rw [decide_eq_true hy] at HCA
          clear hy hxl
          go_wp2_with fail
          refine HCA.out.mono ?_
          rintro e w7 ⟨rfl, hb7⟩
          have HB7 := Lib.hid (then_ HB6.out hb7)
          clear hb7 HCA
          go_wp2_with fail
          refine (awake17_any _).mono ?_
          rintro e w8 ⟨rfl, hb8⟩
          go_wp2_with fail
          go_ret
          exact ⟨rfl, then_ HB7.out hb8⟩
        · have hy1 : ((y : Int) == (m : Int)) = false := by simp; omega
          have hy2 : (y == m) = false := by simp; omega
          rw [decide_eq_false hy] at HCA
          clear hy hxl
          go_wp2_with fail
          refine HCA.out.mono ?_
          rintro e w7 ⟨rfl, hb7⟩
          have HB7 := Lib.hid (then_ HB6.out hb7)
          clear hb7 HCA
          go_wp2_with fail
          refine (awake17_any _).mono ?_
          rintro e w8 ⟨rfl, hb8⟩
          go_wp2_with fail
          go_ret
          exact ⟨rfl, then_ HB7.out hb8⟩
end Go.Proofs.Ytpiinfjcjpdofaa
