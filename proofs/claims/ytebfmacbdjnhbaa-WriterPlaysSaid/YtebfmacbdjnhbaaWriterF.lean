/- writer: what must come; the walk of WriterNobody. -/
import Derived.Test.YtebfmacbdjnhbaaWriterE
attribute [local go_sem ↓] Go.wp_at_zero Go.wp_at_succ
namespace Go.Proofs.Ytebfmacbdjnhbaa
open Go.RowKit Go.Mem
set_option linter.unusedVariables false
def chW : List Ch := [⟨⟨#[97]⟩, false⟩, ⟨⟨#[98]⟩, false⟩, ⟨⟨#[99]⟩, false⟩]
def prW : Pr := ⟨3, 0, 2, 0, 0, false, false, false⟩
def w3 : Wt := (((Wt.new prW chW).ans ⟨#[97]⟩ 1 false).ans ⟨#[97]⟩ 1 false)
def w4 : Wt := w3.ans ⟨#[99]⟩ 1 false
def v2 : Wt := ((Wt.new prW chW).ans ⟨#[97]⟩ 2 (decide ((10 : Int) = 10))).ans ⟨#[98]⟩ 2 (decide ((3 : Int) = 10))
theorem heap_alloc_old2 (w : World) (o : Obj) {i : Nat} (h : i < w.heap.size) : (w.alloc o).heap[i]? = w.heap[i]? := ((Below.refl w.heap.size w).alloc (Nat.le_refl _) o).block i h
theorem chW_ok (X : Wt) (h : X.l = chW) : X.l.length ≤ 1000 ∧ ∀ s ∈ nodes X.l, txOk s := by
  rw [h]
  exact ⟨by decide, by unfold txOk maxLen; decide⟩
theorem WrAt.two {w : World} {base T g M K : Nat} {X : Wt} (h : WrAt w base T g M K X) : base ≤ g ∧ base ≤ M := by
  obtain ⟨LA, ln, lc, n, c, _, _, _, _, _, _, r⟩ := h
  exact ⟨r.1, r.2.1⟩
set_option maxRecDepth 100000 in
set_option maxHeartbeats 4000000 in
theorem awake37_any (w : World) : Calls Try.prog 59 #[] w fun e w' => e = .returned (.bool true) ∧ Below w.heap.size w w' := by
  have e1 : w3.state = 0 := by decide +kernel
  have e2 : w4.state = 1 := by decide +kernel
  have e3 : w4.opn = true := by decide +kernel
  have e4 : w4.err = 0 := by decide +kernel
  have e5 : v2.state = 2 := by decide +kernel
  have e6 : v2.err = 10 := by decide +kernel
  have E1 := Lib.hid e1; have E2 := Lib.hid e2; have E3 := Lib.hid e3; have E4 := Lib.hid e4; have E5 := Lib.hid e5; have E6 := Lib.hid e6
  clear e1 e2 e3 e4 e5 e6
  have hl0 : (Wt.new prW chW).l = chW := (Wt.dec_l _).1
  have k0 := chW_ok _ hl0
  have hl1 : ((Wt.new prW chW).ans ⟨#[97]⟩ 1 false).l = chW := (Wt.ans_l _ _ _).1.trans hl0
  have k1 := chW_ok _ hl1
  have hl2 : w3.l = chW := (Wt.ans_l _ _ _).1.trans hl1
  have k2 := chW_ok _ hl2
  have hl3 : w4.l = chW := (Wt.ans_l _ _ _).1.trans hl2
  have k3 := chW_ok _ hl3
  have hl4 : ((Wt.new prW chW).ans ⟨#[97]⟩ 2 (decide ((10 : Int) = 10))).l = chW := (Wt.ans_l _ _ _).1.trans hl0
  have k4 := chW_ok _ hl4
  have K0 := Lib.hid k0; have K1 := Lib.hid k1; have K2 := Lib.hid k2; have K3 := Lib.hid k3; have K4 := Lib.hid k4
  clear hl0 hl1 hl2 hl3 hl4 k0 k1 k2 k3 k4
  have ta : txOk ⟨#[97]⟩ := by unfold txOk maxLen; decide
  have tb : txOk ⟨#[98]⟩ := by unfold txOk maxLen; decide
  have tc : txOk ⟨#[99]⟩ := by unfold txOk maxLen; decide
  go_enter Try.func59, Try.ntmps59
  go_wp2_with fail
  refine (new_any prW _ 3 3 chW _ (by exact Rd.new w #[.string ⟨#[97]⟩, .bool false, .string ⟨#[98]⟩, .bool false, .string ⟨#[99]⟩, .bool false] _) rfl (by decide) (by unfold txOk maxLen; decide)).mono ?_
  rintro e w1 ⟨g, M, T1, hT1, rfl, hw1, hb1⟩
  have hrl := Rd.new w #[.string ⟨#[97]⟩, .bool false, .string ⟨#[98]⟩, .bool false, .string ⟨#[99]⟩, .bool false] 71
  have hba : ∀ W, Below (w.alloc (.cells #[.string ⟨#[97]⟩, .bool false, .string ⟨#[98]⟩, .bool false, .string ⟨#[99]⟩, .bool false] 71)).heap.size (w.alloc (.cells #[.string ⟨#[97]⟩, .bool false, .string ⟨#[98]⟩, .bool false, .string ⟨#[99]⟩, .bool false] 71)) W → Below w.heap.size w W := fun W h => ba h
  have HRL := Lib.hid hrl; have HBA := Lib.hid hba; have HW1 := Lib.hid hw1
  clear hrl hba hw1
  generalize w.alloc (.cells #[.string ⟨#[97]⟩, .bool false, .string ⟨#[98]⟩, .bool false, .string ⟨#[99]⟩, .bool false] 71) = A0 at *
  obtain ⟨b1, b2⟩ := HW1.out.two
  go_wp2_with fail
  refine (done_any _ _ _ g M 0 _ ⟨#[97]⟩ HW1.out K0.out.1 K0.out.2 (by omega) ta).mono ?_
  rintro e w2 ⟨rfl, hw2, hk2⟩
  have hb2 := hb1.trans (hk2.below b1 b2 hb1.size)
  have HW2 := Lib.hid hw2; clear hw2 hk2 hb1 HW1
  go_wp2_with fail
  refine (done_any _ _ _ g M 1 _ ⟨#[97]⟩ HW2.out K1.out.1 K1.out.2 (by omega) ta).mono ?_
  rintro e w5 ⟨rfl, hw3, hk3⟩
  have hb3 := hb2.trans (hk3.below b1 b2 hb2.size)
  have HW3 : Hid (WrAt w5 A0.heap.size T1 g M 2 w3) := Lib.hid hw3
  clear hw3 hk3 hb2 HW2
  go_wp2_with fail
  refine (state_any _ _ _ g M 2 w3 HW3.out).mono ?_
  rintro e w2 ⟨rfl, rfl⟩
  rw [E1.out]
  go_wp2_with fail
  refine (done_any _ _ _ g M 2 w3 ⟨#[99]⟩ HW3.out K2.out.1 K2.out.2 (by omega) tc).mono ?_
  rintro e w6 ⟨rfl, hw4, hk4⟩
  have hb4 := hb3.trans (hk4.below b1 b2 hb3.size)
  have HW4 : Hid (WrAt w6 A0.heap.size T1 g M 3 w4) := Lib.hid hw4
  clear hw4 hk4 hb3 HW3
  go_wp2_with fail
  refine (new_any prW _ 3 3 chW _ (HRL.out.below hb4) rfl (by decide) (by unfold txOk maxLen; decide)).mono ?_
  rintro e w7 ⟨g', M', T7, hT7, rfl, hw7, hb7⟩
  obtain ⟨b3, b4⟩ := hw7.two
  have HW7 := Lib.hid hw7; clear hw7
  go_wp2_with fail
  refine (refused_any _ _ _ g' M' 0 _ ⟨#[97]⟩ 10 HW7.out K0.out.1 K0.out.2 (by omega) ta).mono ?_
  rintro e w8 ⟨rfl, hw8, hk8⟩
  have hb8 := hb7.trans (hk8.below b3 b4 hb7.size)
  have HW8 := Lib.hid hw8; clear hw8 hk8 hb7 HW7
  go_wp2_with fail
  refine (refused_any _ _ _ g' M' 1 _ ⟨#[98]⟩ 3 HW8.out K4.out.1 K4.out.2 (by omega) tb).mono ?_
  rintro e w9 ⟨rfl, hw9, hk9⟩
  have hb9 := hb8.trans (hk9.below b3 b4 hb8.size)
  have HV : Hid (WrAt w9 w6.heap.size T7 g' M' 2 v2) := Lib.hid hw9
  clear hw9 hk9 hb8 HW8
  have HW := Lib.hid (HW4.out.below hb9)
  have hbz := then_ hb4 hb9
  clear hb4 hb9 HW4
  go_wp2_with fail
  refine (state_any _ _ _ g M 3 w4 HW.out).mono ?_
  rintro e w2 ⟨rfl, rfl⟩
  rw [E2.out]
  go_wp2_with fail
  refine (opn_any _ _ _ g M 3 w4 HW.out K3.out.1 K3.out.2).mono ?_
  rintro e w10 ⟨rfl, hb10⟩
  rw [E3.out]
  have HW' := Lib.hid (HW.out.below hb10)
  have HV' := Lib.hid (HV.out.below hb10)
  have hby := then_ hbz hb10
  clear HW HV hbz hb10
  go_wp2_with fail
  refine (err_any _ _ _ g M 3 w4 HW'.out).mono ?_
  rintro e w2 ⟨rfl, rfl⟩
  rw [E4.out]
  go_wp2_with fail
  refine (state_any _ _ _ g' M' 2 v2 HV'.out).mono ?_
  rintro e w2 ⟨rfl, rfl⟩
  rw [E5.out]
  go_wp2_with fail
  refine (err_any _ _ _ g' M' 2 v2 HV'.out).mono ?_
  rintro e w2 ⟨rfl, rfl⟩
  rw [E6.out]
  go_wp2
  go_ret
  exact ⟨rfl, HBA.out _ hby⟩
set_option maxRecDepth 100000 in
set_option maxHeartbeats 2000000 in
theorem writerNobody_walk (a : Ac) (w : World) : Calls Try.prog 14 #[.agg a.arr] w fun e w' => e = .returned (.bool true) ∧ Below w.heap.size w w' := by
  obtain ⟨k, s, er⟩ := a
  unfold Ac.arr
  simp only
  go_enter Try.func14, Try.ntmps14
  go_wp2_with fail
  have hba : ∀ W, Below (((w.alloc (.cells #[.int .i64 k, .string s, .int .i64 er] 95)).alloc (.cells zeroCells 100)).alloc (.cells #[.pointer none, .pointer (some ⟨w.heap.size + 1, 0, none⟩)] 86)).heap.size (((w.alloc (.cells #[.int .i64 k, .string s, .int .i64 er] 95)).alloc (.cells zeroCells 100)).alloc (.cells #[.pointer none, .pointer (some ⟨w.heap.size + 1, 0, none⟩)] 86)) W →
      (Below w.heap.size w W ∧ (W.cell? ⟨w.heap.size, 0, none⟩ = some (.int .i64 k) ∧ W.cell? ⟨w.heap.size, 1, none⟩ = some (.string s) ∧ W.cell? ⟨w.heap.size, 2, none⟩ = some (.int .i64 er)) ∧ (W.heap[w.heap.size + 1]? = some (.cells zeroCells 100 (0, 0))) ∧ (W.cell? ⟨w.heap.size + 1 + 1, 0, none⟩ = some (.pointer none) ∧ W.cell? ⟨w.heap.size + 1 + 1, 1, none⟩ = some (.pointer (some ⟨w.heap.size + 1, 0, none⟩)))) := fun W hb => by
    have g1 := Rd.new w #[.int .i64 k, .string s, .int .i64 er] 95
    have g2 := heap_alloc_new (w.alloc (.cells #[.int .i64 k, .string s, .int .i64 er] 95)) (.cells zeroCells 100)
    have g3 := Rd.new ((w.alloc (.cells #[.int .i64 k, .string s, .int .i64 er] 95)).alloc (.cells zeroCells 100)) #[.pointer none, .pointer (some ⟨w.heap.size + 1, 0, none⟩)] 86
    have h3 := g3.below hb
    have h1 := (((g1.alloc _).alloc _).below hb)
    have hs1 : (w.alloc (.cells #[.int .i64 k, .string s, .int .i64 er] 95)).heap.size = w.heap.size + 1 := by simp
    have hs2 : ((w.alloc (.cells #[.int .i64 k, .string s, .int .i64 er] 95)).alloc (.cells zeroCells 100)).heap.size = w.heap.size + 1 + 1 := by simp
    rw [hs1] at g2
    rw [hs2] at h3
    have f : ∀ {G : Nat} {cs : List Value}, Rd W (some ⟨G, 0, none⟩) cs → ∀ j u, cs[j]? = some u → W.cell? ⟨G, j, none⟩ = some u := fun h j u hj => by
      have := h.cells rfl j u hj
      rwa [add_none, Nat.zero_add] at this
    refine ⟨ba (ba (ba hb)), ⟨f h1 0 _ rfl, f h1 1 _ rfl, f h1 2 _ rfl⟩, ?_, f h3 0 _ rfl, f h3 1 _ rfl⟩
    exact (hb.block _ (by simp)).trans ((heap_alloc_old2 _ _ (by omega)).trans g2)
  have HBA := Lib.hid hba
  have h00 : Below (((w.alloc (.cells #[.int .i64 k, .string s, .int .i64 er] 95)).alloc (.cells zeroCells 100)).alloc (.cells #[.pointer none, .pointer (some ⟨w.heap.size + 1, 0, none⟩)] 86)).heap.size (((w.alloc (.cells #[.int .i64 k, .string s, .int .i64 er] 95)).alloc (.cells zeroCells 100)).alloc (.cells #[.pointer none, .pointer (some ⟨w.heap.size + 1, 0, none⟩)] 86)) (((w.alloc (.cells #[.int .i64 k, .string s, .int .i64 er] 95)).alloc (.cells zeroCells 100)).alloc (.cells #[.pointer none, .pointer (some ⟨w.heap.size + 1, 0, none⟩)] 86)) := Below.refl _ _
  unfold zeroCells at HBA h00
  clear hba
  generalize ((w.alloc (.cells #[.int .i64 k, .string s, .int .i64 er] 95)).alloc _).alloc _ = A0 at *
  go_loopw [4] (fun i wr => ∃ j : Nat, j ≤ 2 ∧ i = .int .i64 j ∧ Below A0.heap.size A0 wr) (fun i _ => 2 - (intOf i).toNat)
  case atStart => exact ⟨0, by omega, rfl, h00⟩
  case round =>
    clear h00
    obtain ⟨j, hj, rfl, hbel⟩ := hrel
    obtain ⟨hbw, ⟨c0, c1, c2⟩, hz, c3, c4⟩ := HBA.out wr hbel
    by_cases hlt : j < 2
    · obtain ⟨v, hv, hnb⟩ : ∃ v, wr.cell? ⟨w.heap.size + 1 + 1, j, none⟩ = some v ∧ Nobody wr v := by
        rcases (by omega : j = 0 ∨ j = 1) with rfl | rfl
        · exact ⟨_, c3, .inl rfl⟩
        · exact ⟨_, c4, .inr ⟨_, rfl, hz⟩⟩
      have HNB := Lib.hid hnb
      have hi0 : (0 : Int) ≤ (j : Int) := by omega
      have hi1 : (j : Int) < 2 := by omega
      clear hz hnb c3 c4
      go_wp2
      go_still_tail 5, (by kernel_rfl)
      go_wp2_with fail
      refine (do_nobody _ v ⟨k, s, er⟩ (HNB.out.below (Below.refl _ _).drew)).mono ?_
      rintro e w1 ⟨rfl, hb1⟩
      have hbd : Below wr.heap.size wr w1 := ((Below.refl _ _).drew).trans hb1
      have hv1 := cell_below hbd hv
      have HN1 := Lib.hid (HNB.out.below hbd)
      have hb2 := then_ hbel hbd
      clear hbd hb1 hv hbel HNB c0 c1 c2
      go_wp2_with fail
      refine (state_nobody _ v HN1.out).mono ?_
      rintro e w2 ⟨rfl, rfl⟩
      go_wp2_with fail
      refine (err_nobody _ v HN1.out).mono ?_
      rintro e w2 ⟨rfl, rfl⟩
      go_wp2_with fail
      refine (opn_nobody _ v HN1.out).mono ?_
      rintro e w2 ⟨rfl, hb3⟩
      have hb4 := then_ hb2 hb3
      clear hb2 hb3 HN1
      go_wp2
      go_roundw
      case rel => exact ⟨j + 1, by omega, by go_num, hb4⟩
      case measure => simp [intOf]; omega
    · have hge : (2 : Int) ≤ (j : Int) := by omega
      clear c0 c1 c2 hz c3 c4
      go_wp2_with fail
      refine (awake37_any _).mono ?_
      rintro e w1 ⟨rfl, hb1⟩
      go_wp2
      go_ret
      exact ⟨rfl, then_ hbw hb1⟩
theorem cells_act : Try.prog.cellsOf 95 = 3 := by kernel_rfl
theorem cells_errno : Try.prog.cellsOf 46 = 1 := by kernel_rfl
theorem is_act {H : Type} {enc : TypeId × Value → H} {w : World} {cs : List Value} (h : Is enc Try.prog w 95 cs) : ∃ a : Ac, cs = a.arr.toList ∧ (txOk a.node ∧ (Lit.int .i64 a.kind).wf = true ∧ (Lit.int .i64 a.err).wf = true) := by
  obtain ⟨hl, hf⟩ := is_struct Try.underlying95 h
  rw [cells_act] at hl
  obtain ⟨c0, r0, rfl, hl0⟩ := cons_of hl
  obtain ⟨c1, r1, rfl, hl1⟩ := cons_of hl0
  obtain ⟨c2, r2, rfl, hl2⟩ := cons_of hl1
  obtain rfl := nil_of hl2
  obtain ⟨s0, h0, k0⟩ := is_int Try.underlying3 (hf 0 _ rfl)
  obtain ⟨s1, h1, k1⟩ := is_string Try.underlying9 (hf 1 _ rfl)
  obtain ⟨s2, h2, k2⟩ := is_int Try.underlying46 (hf 2 _ rfl)
  simp [cells_int, cells_string, cells_errno] at h0 h1 h2
  subst h0 h1 h2
  exact ⟨⟨s0, s1, s2⟩, rfl, k1, k0, k2⟩
end Go.Proofs.Ytebfmacbdjnhbaa
