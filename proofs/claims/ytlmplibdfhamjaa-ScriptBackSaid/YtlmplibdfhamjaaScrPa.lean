/- Sameness of a call and of the call that says nothing, by the document. -/
import Derived.Test.YtlmplibdfhamjaaScrI
import Derived.Test.YtlmplibdfhamjaaScrBk
attribute [local go_sem ↓] Go.wp_at_zero Go.wp_at_succ
namespace Go.Proofs.Ytlmplibdfhamjaa
open Go.RowKit Go.Mem Go.Num
set_option linter.unusedVariables false
set_option linter.unusedSimpArgs false

set_option maxRecDepth 100000 in
set_option maxHeartbeats 2000000 in
theorem ctxZ_any (x : Ctx) (w : World) (hok : x.ok w) : Calls Try.prog 136 #[x.v, .slice none 0 0] w (FewP (x.l = []) w) := by
  obtain ⟨A, n, c, l⟩ := x
  have hn := hok.len
  have hm := hok.le
  simp only at hn hm
  unfold maxLen at hm
  clear hok
  simp only [Ctx.v]
  by_cases h0 : n = 0
  · have HL : Hid (l = []) := Lib.hid (List.length_eq_zero_iff.1 (by omega))
    subst h0
    clear hn
    go_enter Try.func136, Try.ntmps136
    go_wp2
    go_loopw [5] (fun i wr => i = .int .i64 0 ∧ wr = w) (fun i _ => 0)
    case atStart => exact ⟨rfl, rfl⟩
    case round =>
      obtain ⟨rfl, rfl⟩ := hrel
      go_wp2
      go_ret
      exact ⟨true, fun _ => HL.out, rfl, Below.refl _ _⟩
  · have hne : ((n : Int) != 0) = true := by simp; omega
    clear hn
    go_enter Try.func136, Try.ntmps136
    go_wp2
    go_ret
    exact ⟨false, by simp, rfl, Below.refl _ _⟩
set_option maxRecDepth 100000 in
set_option maxHeartbeats 1000000 in
theorem objZ_any (x : Ctx) (w : World) (hok : x.ok w) : Calls Try.prog 107 #[.agg #[x.v, .slice none 0 0], .agg #[.slice none 0 0, .slice none 0 0]] w (FewP (x.l = []) w) := by
  have hb2 : Below w.heap.size w ((w.alloc (.cells #[x.v, .slice none 0 0] 144)).alloc (.cells #[.slice none 0 0, .slice none 0 0] 144)) := ((Below.refl _ _).alloc (Nat.le_refl _) _).alloc (by simp) _
  have HC := Lib.hid (ctxZ_any x _ (hok.below hb2))
  have q1 := SBox.new (w.alloc (.cells #[x.v, .slice none 0 0] 144)) 144 #[.slice none 0 0, .slice none 0 0]
  rw [show (w.alloc (.cells #[x.v, .slice none 0 0] 144)).heap.size = w.heap.size + 1 by simp] at q1
  have q0 := (SBox.new w 144 #[x.v, .slice none 0 0]).alloc' (.cells #[.slice none 0 0, .slice none 0 0] 144)
  have HB := Lib.hid hb2; have Q0 := Lib.hid q0; have Q1 := Lib.hid q1
  clear hb2 hok q0 q1
  generalize x.l = L at HC ⊢
  generalize x.v = xv at HC HB Q0 Q1 ⊢
  have a0 := Q0.out.cell 0 rfl; have b0 := Q1.out.cell 0 rfl
  go_enter Try.func107, Try.ntmps107
  go_wp2_with fail
  generalize (w.alloc (.cells #[xv, .slice none 0 0] 144)).alloc (.cells #[.slice none 0 0, .slice none 0 0] 144) = W0 at *
  refine HC.out.mono ?_
  clear a0 b0
  rintro e w1 ⟨b, hp, rfl, hb1⟩
  have HP := Lib.hid hp; clear hp
  have Q0 := Lib.hid (Q0.out.below hb1); have Q1 := Lib.hid (Q1.out.below hb1); have HB := Lib.hid (then_ HB.out hb1)
  clear hb1
  cases b
  · go_wp2
    go_ret
    exact ⟨false, by simp, rfl, HB.out⟩
  have a1 := Q0.out.cell 1 rfl; have b1 := Q1.out.cell 1 rfl
  go_wp2_with fail
  refine (sibs_none _).mono ?_
  rintro e w2 h2
  have h3 := h2.below
  obtain ⟨rfl, hb⟩ := h3
  clear h2
  go_wp2
  go_ret
  exact ⟨true, fun _ => HP.out trivial, rfl, then_ HB.out hb⟩
/-- says a call nothing? -/
def zeroC (c : Cal) : Prop := c.bare = zCal
set_option maxRecDepth 100000 in
set_option maxHeartbeats 8000000 in
theorem sameZ_any (g1 g2 : Nat) (c : Cal) (w : World) (h1 : w.heap[g1]? = some (.cells c.arr 85 (0, 0))) (h2 : w.heap[g2]? = some (.cells zCal.arr 85 (0, 0))) (hok : c.ok w) :
    Calls Try.prog 63 #[.slice (some ⟨g1, 0, none⟩) 1 1, .slice (some ⟨g2, 0, none⟩) 1 1] w (FewP (zeroC c) w) := by
  have HOBJ := Lib.hid (fun W (hW : Below w.heap.size w W) => objZ_any c.ctx W (Cal.ok.below hok hW).2.2.2.2.2.1)
  have HZC : Hid (c.kind = 0 → c.token = ⟨#[]⟩ → c.bucket = ⟨#[]⟩ → c.key = ⟨#[]⟩ → c.value = ⟨#[]⟩ → c.time = 0 → c.ctx.l = [] → zeroC c) := Lib.hid fun e0 e1 e2 e3 e4 e5 e6 => by
    unfold zeroC Cal.bare Ctx.bare; rw [e0, e1, e2, e3, e4, e5, e6]; rfl
  obtain ⟨z0, hz0⟩ : ∃ z : Int, z = 0 := ⟨_, rfl⟩
  obtain ⟨zs, hzs⟩ : ∃ z : ByteArray, z = ⟨#[]⟩ := ⟨_, rfl⟩
  have h2 : w.heap[g2]? = some (.cells #[.int .i64 z0, .string zs, .string zs, .string zs, .string zs, .slice none 0 0, .int .i64 z0] 85 (0, 0)) := by rw [hz0, hzs]; exact h2
  have HZ0 := Lib.hid hz0; have HZS := Lib.hid hzs
  clear hok hz0 hzs
  obtain ⟨kd, tk, bu, ke, va, ⟨cA, cn, cc, cl⟩, ti⟩ := c
  simp only [Cal.arr, Ctx.v] at h1 HOBJ HZC
  generalize zeroC ⟨kd, tk, bu, ke, va, ⟨cA, cn, cc, cl⟩, ti⟩ = P at HZC ⊢
  have c0 : w.cell? ⟨g1, 0, none⟩ = some (.int .i64 kd) := cell_of_row _ _ _ _ _ _ h1
  have HH1 := Lib.hid h1; have HH2 := Lib.hid h2
  clear h1 h2 c0
  go_enter Try.func63, Try.ntmps63
  go_wp2
  go_loopw [5] (fun i wr => ∃ k : Nat, k ≤ 1 ∧ i = .int .i64 k ∧ Below w.heap.size w wr ∧ Hid (k = 1 → P)) (fun i _ => 1 - (intOf i).toNat)
  case atStart => exact ⟨0, by omega, rfl, Below.refl _ _, Lib.hid (fun h => by cases h)⟩
  case round =>
    obtain ⟨k, hk, rfl, hbel, HP⟩ := hrel
    by_cases hlt : k < 1
    · obtain rfl : k = 0 := by omega
      have h1 := (hbel.block g1 (Array.getElem?_eq_some_iff.1 HH1.out).1).trans HH1.out
      have h2 := (hbel.block g2 (Array.getElem?_eq_some_iff.1 HH2.out).1).trans HH2.out
      have c0 : wr.cell? ⟨g1, 0, none⟩ = some (.int .i64 kd) := cell_of_row _ _ _ _ _ _ h1
      have c1 : wr.cell? ⟨g1, 1, none⟩ = some (.string tk) := cell_of_row _ _ _ _ _ _ h1
      have c2 : wr.cell? ⟨g1, 2, none⟩ = some (.string bu) := cell_of_row _ _ _ _ _ _ h1
      have c3 : wr.cell? ⟨g1, 3, none⟩ = some (.string ke) := cell_of_row _ _ _ _ _ _ h1
      have c4 : wr.cell? ⟨g1, 4, none⟩ = some (.string va) := cell_of_row _ _ _ _ _ _ h1
      have c5 : wr.cell? ⟨g1, 5, none⟩ = some (.slice cA cn cc) := cell_of_row _ _ _ _ _ _ h1
      have c6 : wr.cell? ⟨g1, 6, none⟩ = some (.int .i64 ti) := cell_of_row _ _ _ _ _ _ h1
      have d0 : wr.cell? ⟨g2, 0, none⟩ = some (.int .i64 z0) := cell_of_row _ _ _ _ _ _ h2
      have d1 : wr.cell? ⟨g2, 1, none⟩ = some (.string zs) := cell_of_row _ _ _ _ _ _ h2
      have d2 : wr.cell? ⟨g2, 2, none⟩ = some (.string zs) := cell_of_row _ _ _ _ _ _ h2
      have d3 : wr.cell? ⟨g2, 3, none⟩ = some (.string zs) := cell_of_row _ _ _ _ _ _ h2
      have d4 : wr.cell? ⟨g2, 4, none⟩ = some (.string zs) := cell_of_row _ _ _ _ _ _ h2
      have d5 : wr.cell? ⟨g2, 5, none⟩ = some (.slice none 0 0) := cell_of_row _ _ _ _ _ _ h2
      have d6 : wr.cell? ⟨g2, 6, none⟩ = some (.int .i64 z0) := cell_of_row _ _ _ _ _ _ h2
      clear h1 h2
      go_upto_region 6 with fail
      go_cut [6, 7] (fun p q wx => ∃ g g' : Nat, p = .pointer (some ⟨g, 0, none⟩) ∧ q = .pointer (some ⟨g', 0, none⟩) ∧ Hid (Below wr.heap.size wr wx ∧ wx.heap[g]? = some (.cells #[.int .i64 kd, .string tk, .string bu, .string ke, .string va, .slice cA cn cc, .int .i64 ti] 85 (0, 0)) ∧ wx.heap[g']? = some (.cells #[.int .i64 z0, .string zs, .string zs, .string zs, .string zs, .slice none 0 0, .int .i64 z0] 85 (0, 0))))
      case first =>
        go_region_held3 (fun W => (W.cell? ⟨g1, 0, none⟩ = some (.int .i64 kd) ∧ W.cell? ⟨g1, 1, none⟩ = some (.string tk) ∧ W.cell? ⟨g1, 2, none⟩ = some (.string bu) ∧ W.cell? ⟨g1, 3, none⟩ = some (.string ke) ∧ W.cell? ⟨g1, 4, none⟩ = some (.string va) ∧ W.cell? ⟨g1, 5, none⟩ = some (.slice cA cn cc) ∧ W.cell? ⟨g1, 6, none⟩ = some (.int .i64 ti)) ∧ (W.cell? ⟨g2, 0, none⟩ = some (.int .i64 z0) ∧ W.cell? ⟨g2, 1, none⟩ = some (.string zs) ∧ W.cell? ⟨g2, 2, none⟩ = some (.string zs) ∧ W.cell? ⟨g2, 3, none⟩ = some (.string zs) ∧ W.cell? ⟨g2, 4, none⟩ = some (.string zs) ∧ W.cell? ⟨g2, 5, none⟩ = some (.slice none 0 0) ∧ W.cell? ⟨g2, 6, none⟩ = some (.int .i64 z0)))
          (go_keep) (fail)
        all_goals
          focus (go_wp2_with fail)
          go_meet
          refine ⟨_, _, rfl, rfl, Lib.hid ⟨((((Below.refl _ _).alloc (Nat.le_refl _) _).alloc (by simp) _).drew), ?_, ?_⟩⟩
          all_goals first | exact heap_alloc2_new wr _ _ | exact heap_alloc2_old wr _ _
      case rest =>
        obtain ⟨g, g', rfl, rfl, HT⟩ := hcut
        have hb := HT.out.1; have h1 := HT.out.2.1; have h2 := HT.out.2.2
        clear c0 c1 c2 c3 c4 c5 c6 d0 d1 d2 d3 d4 d5 d6 HT
        have e0 : wc.cell? ⟨g, 0, none⟩ = some (.int .i64 kd) := cell_of_row _ _ _ _ _ _ h1
        have e1 : wc.cell? ⟨g, 1, none⟩ = some (.string tk) := cell_of_row _ _ _ _ _ _ h1
        have e2 : wc.cell? ⟨g, 2, none⟩ = some (.string bu) := cell_of_row _ _ _ _ _ _ h1
        have e3 : wc.cell? ⟨g, 3, none⟩ = some (.string ke) := cell_of_row _ _ _ _ _ _ h1
        have e4 : wc.cell? ⟨g, 4, none⟩ = some (.string va) := cell_of_row _ _ _ _ _ _ h1
        have e5 : wc.cell? ⟨g, 5, none⟩ = some (.slice cA cn cc) := cell_of_row _ _ _ _ _ _ h1
        have e6 : wc.cell? ⟨g, 6, none⟩ = some (.int .i64 ti) := cell_of_row _ _ _ _ _ _ h1
        have f0 : wc.cell? ⟨g', 0, none⟩ = some (.int .i64 z0) := cell_of_row _ _ _ _ _ _ h2
        have f1 : wc.cell? ⟨g', 1, none⟩ = some (.string zs) := cell_of_row _ _ _ _ _ _ h2
        have f2 : wc.cell? ⟨g', 2, none⟩ = some (.string zs) := cell_of_row _ _ _ _ _ _ h2
        have f3 : wc.cell? ⟨g', 3, none⟩ = some (.string zs) := cell_of_row _ _ _ _ _ _ h2
        have f4 : wc.cell? ⟨g', 4, none⟩ = some (.string zs) := cell_of_row _ _ _ _ _ _ h2
        have f5 : wc.cell? ⟨g', 5, none⟩ = some (.slice none 0 0) := cell_of_row _ _ _ _ _ _ h2
        have f6 : wc.cell? ⟨g', 6, none⟩ = some (.int .i64 z0) := cell_of_row _ _ _ _ _ _ h2
        clear h1 h2
        by_cases b0 : kd = z0
        rotate_left
        · have t0 : (kd != z0) = true := by simpa using b0
          clear b0
          go_wp2
          go_ret
          exact ⟨false, by simp, rfl, then_ hbel hb⟩
        have t0 : (kd != z0) = false := by simpa using b0
        have B0 := Lib.hid b0; clear b0
        by_cases b1 : tk.toList = zs.toList
        rotate_left
        · have t1 : (tk.toList == zs.toList) = false := by simpa using b1
          clear b1
          go_wp2
          go_ret
          exact ⟨false, by simp, rfl, then_ hbel hb⟩
        have t1 : (tk.toList == zs.toList) = true := by simpa using b1
        have B1 := Lib.hid b1; clear b1
        by_cases b2 : bu.toList = zs.toList
        rotate_left
        · have t2 : (bu.toList == zs.toList) = false := by simpa using b2
          clear b2
          go_wp2
          go_ret
          exact ⟨false, by simp, rfl, then_ hbel hb⟩
        have t2 : (bu.toList == zs.toList) = true := by simpa using b2
        have B2 := Lib.hid b2; clear b2
        by_cases b3 : ke.toList = zs.toList
        rotate_left
        · have t3 : (ke.toList == zs.toList) = false := by simpa using b3
          clear b3
          go_wp2
          go_ret
          exact ⟨false, by simp, rfl, then_ hbel hb⟩
        have t3 : (ke.toList == zs.toList) = true := by simpa using b3
        have B3 := Lib.hid b3; clear b3
        by_cases b4 : va.toList = zs.toList
        rotate_left
        · have t4 : (va.toList == zs.toList) = false := by simpa using b4
          clear b4
          go_wp2
          go_ret
          exact ⟨false, by simp, rfl, then_ hbel hb⟩
        have t4 : (va.toList == zs.toList) = true := by simpa using b4
        have B4 := Lib.hid b4; clear b4
        by_cases b5 : ti = z0
        rotate_left
        · have t5 : (ti != z0) = true := by simpa using b5
          clear b5
          go_wp2
          go_ret
          exact ⟨false, by simp, rfl, then_ hbel hb⟩
        have t5 : (ti != z0) = false := by simpa using b5
        have B5 := Lib.hid b5; clear b5
        go_wp2_with fail
        refine (HOBJ.out _ (then_ hbel hb)).mono ?_
        rintro e w1 ⟨b, hp, rfl, hb1⟩
        have HPP := Lib.hid hp; clear hp
        cases b
        · go_wp2
          go_ret
          exact ⟨false, by simp, rfl, then_ hbel (then_ hb hb1)⟩
        have HPF : Hid P := Lib.hid (HZC.out (B0.out.trans HZ0.out) ((toList_inj B1.out).trans HZS.out) ((toList_inj B2.out).trans HZS.out) ((toList_inj B3.out).trans HZS.out) ((toList_inj B4.out).trans HZS.out) (B5.out.trans HZ0.out) (HPP.out rfl))
        go_wp2
        go_roundw
        case rel => exact ⟨1, by omega, by go_num, then_ hbel (then_ hb hb1), Lib.hid fun _ => HPF.out⟩
        case measure => simp [intOf]
    · obtain rfl : k = 1 := by omega
      have HPF : Hid P := Lib.hid (HP.out rfl)
      go_wp2
      go_ret
      exact ⟨true, fun _ => HPF.out, rfl, hbel⟩
end Go.Proofs.Ytlmplibdfhamjaa
