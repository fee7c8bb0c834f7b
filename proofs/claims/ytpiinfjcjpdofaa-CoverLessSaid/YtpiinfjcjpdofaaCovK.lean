/- What must come, whatever the arguments are; do numbers rise: the walks. -/
import Derived.Test.YtpiinfjcjpdofaaCovJ
import Derived.Test.YtpiinfjcjpdofaaCovG
import Derived.Deep.Cut
import Derived.Says
attribute [local go_sem ↓] Go.wp_at_zero Go.wp_at_succ
namespace Go.Proofs.Ytpiinfjcjpdofaa
open Go.RowKit Go.Mem Go.Cov
set_option linter.unusedVariables false
set_option linter.unusedSimpArgs false

theorem doesB_any (l : List Pair) (many a b : Int) : doesB l many a b [] [] = (chz l.length many).any (okc l a b [] []) := by
  rw [Bool.eq_iff_iff, doesB_iff, does_chz, List.any_eq_true]
theorem natI_inj {a b : List Nat} : natI a = natI b ↔ a = b := by
  unfold natI
  constructor
  · intro h
    exact (List.map_inj_right (fun x y h => by omega)).1 h
  · rintro rfl; rfl
/-- three pairs -/
def l3 : List Pair := [(1, 1), (1, 2), (2, 1)]
theorem best3 {x y : Nat} (h : BestR l3 2 x y) : x = 2 ∧ y = 2 := by
  have h1 := (h.best 2 rfl (by decide)).1
  have h2 := best_ch (l := l3) (m := 2) (by decide)
  have h3 := h1.eq h2
  rw [show bestF l3 (ch l3.length 2) = (2, 2) by decide +kernel] at h3
  exact h3
theorem pick3 {cs : List Nat} (h : PickR l3 2 cs) : cs = [1, 2] := by
  obtain ⟨x, y, h1, h2, h3⟩ := h.first 2 rfl (by decide)
  have h4 := best_ch (l := l3) (m := 2) (by decide)
  have h5 := h1.eq h4
  rw [show bestF l3 (ch l3.length 2) = (2, 2) by decide +kernel] at h5
  obtain ⟨rfl, rfl⟩ := h5
  rw [show firstC l3 2 ((2 : Nat) : Int) ((2 : Nat) : Int) [] [] = some [1, 2] by decide +kernel] at h3
  injection h3 with h3
  exact h3.symm
theorem can3a : doesB l3 2 2 2 [] [] = true := by rw [doesB_any]; decide +kernel
theorem can3b : doesB l3 1 2 1 [] [] = false := by rw [doesB_any]; decide +kernel
theorem ok3 : okP l3 := fun p hp => by
  simp only [l3, List.mem_cons, List.mem_nil_iff, or_false] at hp
  rcases hp with rfl | rfl | rfl <;> exact ⟨by unfold inOk; decide, by unfold inOk; decide⟩
set_option maxRecDepth 100000 in
set_option maxHeartbeats 8000000 in
theorem awake17_any (w : World) : Calls Try.prog 20 #[] w fun e w' => e = .returned (.bool true) ∧ Below w.heap.size w w' := by
  have hal : Below w.heap.size w (w.alloc (.cells #[.int .i64 1, .int .i64 1, .int .i64 1, .int .i64 2, .int .i64 2, .int .i64 1] 50)) := (Below.refl _ _).alloc (Nat.le_refl _) _
  have HRD := Lib.hid (show Rd (w.alloc (.cells #[.int .i64 1, .int .i64 1, .int .i64 1, .int .i64 2, .int .i64 2, .int .i64 1] 50)) (some ⟨w.heap.size, 0, none⟩) (prc l3) from Rd.new w #[.int .i64 1, .int .i64 1, .int .i64 1, .int .i64 2, .int .i64 2, .int .i64 1] 50)
  have HB := Lib.hid hal
  clear hal
  go_enter Try.func20, Try.ntmps20
  go_wp2_with fail
  generalize w.alloc (.cells #[.int .i64 1, .int .i64 1, .int .i64 1, .int .i64 2, .int .i64 2, .int .i64 1] 50) = w1 at HRD HB ⊢
  generalize w.heap.size = g at HRD ⊢
  refine (Best_any _ 3 3 l3 2 rfl (by omega) ok3 w1 HRD.out).mono ?_
  rintro e w2 ⟨x, y, rfl, hb, hb2⟩
  obtain ⟨rfl, rfl⟩ := best3 hb
  have HR2 := Lib.hid (HRD.out.below hb2); have HB2 := Lib.hid (then_ HB.out hb2)
  clear hb hb2 HRD HB
  have HC1 := Lib.hid (Can_any _ 3 3 l3 2 2 2 rfl (by omega) ok3 w2 HR2.out)
  rw [can3a] at HC1
  go_wp2_with fail
  refine HC1.out.mono ?_
  rintro e w3 ⟨rfl, hb3⟩
  have HR3 := Lib.hid (HR2.out.below hb3); have HB3 := Lib.hid (then_ HB2.out hb3)
  have HC2 := Lib.hid (Can_any _ 3 3 l3 1 2 1 rfl (by omega) ok3 w3 HR3.out)
  rw [can3b] at HC2
  clear hb3 HC1 HR2 HB2
  go_wp2_with fail
  refine HC2.out.mono ?_
  rintro e w4 ⟨rfl, hb4⟩
  have HR4 := Lib.hid (HR3.out.below hb4); have HB4 := Lib.hid (then_ HB3.out hb4)
  clear hb4 HC2 HR3 HB3
  go_wp2_with fail
  refine (pick_any _ 3 3 l3 2 rfl (by omega) (by omega) (by unfold maxLen; omega) ok3 w4 HR4.out).mono ?_
  rintro e w5 ⟨cs, v, hp, rfl, hown, hb5⟩
  obtain rfl := pick3 hp
  obtain ⟨A5, c5, rfl⟩ := own_form hown
  have HO5 := Lib.hid (Rd.of_own hown); have HB5 := Lib.hid (then_ HB4.out hb5)
  clear hown hb5 hp HB4 HR4
  have HS := Lib.hid (sameInts_any A5 2 c5 [1, 2] (some ⟨w5.heap.size, 0, none⟩) 2 2 [1, 2] (w5.alloc (.cells #[.int .i64 1, .int .i64 2] 3)) (HO5.out.alloc _) rfl (by omega) (Rd.new w5 #[.int .i64 1, .int .i64 2] 3) rfl (by omega))
  rw [decide_eq_true (rfl : ([1, 2] : List Int) = [1, 2])] at HS
  go_wp2_with fail
  refine HS.out.mono ?_
  rintro e w6 ⟨rfl, hb6⟩
  go_wp2_with fail
  go_ret
  exact ⟨rfl, then_ HB5.out (then_ ((Below.refl _ _).alloc (Nat.le_refl _) _) hb6)⟩
set_option maxRecDepth 100000 in
set_option maxHeartbeats 8000000 in
/-- numbers that rise are told so -/
theorem rise_any (A : Option Addr) (n c : Nat) (l : List Int) (hs : l.Pairwise (· < ·)) (w : World) (hr : Rd w A (ints l)) (hn : l.length = n) (hm : n ≤ 1000000) :
    Calls Try.prog 28 #[.slice A n c] w fun e w' => e = .returned (.bool true) ∧ Below w.heap.size w w' := by
  have HN := Lib.hid hn; have HR := Lib.hid hr; have HS := Lib.hid hs
  clear hn hr hs
  go_enter Try.func28, Try.ntmps28
  go_wp2
  go_loopw [3] (fun i wr => ∃ (j : Nat) (K : Int), Hid (K = (j : Int) + 1) ∧ j ≤ n ∧ i = .int .i64 K ∧ Hid (Below w.heap.size w wr)) (fun i _ => n + 2 - (intOf i).toNat)
  case atStart => exact ⟨0, 1, Lib.hid rfl, Nat.zero_le _, rfl, Lib.hid (Below.refl _ _)⟩
  case round =>
    obtain ⟨j, K, HK, hj, rfl, HB⟩ := hrel
    by_cases hlt : j + 1 < n
    · have hx : j < l.length := by have := HN.out; omega
      have hx1 : j + 1 < l.length := by have := HN.out; omega
      obtain ⟨b, off, rfl, hcell⟩ := (HR.out.below HB.out).at_ j (by simp [ints]; exact hx)
      have hcell1 : wr.cell? ⟨b, off + (j + 1), none⟩ = some ((ints l)[j + 1]'(by simp [ints]; exact hx1)) := by
        obtain ⟨b', off', e, h⟩ := (HR.out.below HB.out).at_ (j + 1) (by simp [ints]; exact hx1)
        injection e with e; injection e with e1 e2; subst e1 e2; exact h
      simp only [ints, List.getElem_map] at hcell hcell1
      have hlx : l[j] < l[j + 1] := List.pairwise_iff_getElem.1 HS.out j (j + 1) hx hx1 (Nat.lt_succ_self _)
      generalize l[j] = x at hcell hlx
      generalize l[j + 1] = y at hcell1 hlx
      have hK1 : K < (n : Int) := by have := HK.out; omega
      have hK0 : (0 : Int) ≤ K := by have := HK.out; omega
      have hKt : K.toNat = j + 1 := by have := HK.out; omega
      have hKw : IntKind.i64.wrap (K - 1) = (j : Int) := by have := HK.out; rw [IntWalk.i64_in _ (by omega)]; omega
      have hKw2 : IntKind.i64.wrap (K + 1) = K + 1 := by have := HK.out; rw [IntWalk.i64_in _ (by omega)]
      have hj0 : (0 : Int) ≤ (j : Int) := by omega
      have hjn : (j : Int) < (n : Int) := by omega
      clear hlt hx hx1
      go_wp2
      go_quiet (fail)
      go_wp2
      exact ⟨⟨j + 1, K + 1, Lib.hid (by have := HK.out; omega), by omega, rfl, Lib.hid (drewN_ HB.out _)⟩, by have := HK.out; simp [intOf]; omega⟩
    · have hK1 : (n : Int) ≤ K := by have := HK.out; omega
      go_wp2
      go_ret
      exact ⟨rfl, HB.out⟩
end Go.Proofs.Ytpiinfjcjpdofaa
