/- An event written as bytes, by the code. -/
import Derived.Test.YtlmplibdfhamjaaScrW
attribute [local go_sem ↓] Go.wp_at_zero Go.wp_at_succ
namespace Go.Proofs.Ytlmplibdfhamjaa
open Go.RowKit Go.Mem Go.Num
set_option linter.unusedVariables false
set_option linter.unusedSimpArgs false

def calB (c : Cal) : List UInt8 := be 1 c.kind ++ (textB c.token ++ textB c.bucket ++ textB c.key ++ textB c.value) ++ ctxB c.ctx.l ++ be 8 c.time
def admB (x : Adm) : List UInt8 := be 1 x.kind ++ (textB x.tenant ++ textB x.bucket ++ textB x.field ++ textB x.text) ++ be 8 x.n ++ memB x.member
def restB (e : Ev) : List UInt8 := if e.kind = 1 then calB e.call else if e.kind = 14 then admB e.adm else []
def headB (e : Ev) : List UInt8 := be 1 e.kind ++ (textB e.node ++ textB e.to ++ textB e.lane) ++ be 8 e.n
def evB (e : Ev) : List UInt8 := headB e ++ restB e
theorem wTs3 (x y z : ByteArray) : wTs [x, y, z] = textB x ++ textB y ++ textB z := by simp [wTs]
theorem wTs4 (x y z u : ByteArray) : wTs [x, y, z, u] = textB x ++ textB y ++ textB z ++ textB u := by simp [wTs]

set_option maxRecDepth 100000 in
set_option maxHeartbeats 4000000 in
theorem wEv_turn (B b : Nat) (l : List UInt8) (e : Ev) (w : World) (h : Wr B b l w) (hr : ∀ W, Below B w W → e.call.ctx.ok W) (hlen : l.length + (evB e).length + 256 ≤ 140737488355328) (hBw : B ≤ w.heap.size) :
    Calls Try.prog 67 #[.agg #[.pointer (some ⟨b, 0, none⟩)], .agg e.arr] w fun r w' => r = .returned (.tuple #[]) ∧ Wr B b (l ++ evB e) w' ∧ Turn B b w w' := by
  obtain ⟨k, nd, to, ln, n, ⟨ck, ct, cb, cy, cv, cx, ctm⟩, ⟨ak, at_, ab, af, ax, an, ⟨mn, mr, mz, mu⟩⟩⟩ := e
  have HRC := Lib.hid hr
  simp only at HRC
  have HEV : Hid (evB ⟨k, nd, to, ln, n, ⟨ck, ct, cb, cy, cv, cx, ctm⟩, ⟨ak, at_, ab, af, ax, an, ⟨mn, mr, mz, mu⟩⟩⟩ = be 1 k ++ (textB nd ++ textB to ++ textB ln) ++ be 8 n ++ (if k = 1 then calB ⟨ck, ct, cb, cy, cv, cx, ctm⟩ else if k = 14 then admB ⟨ak, at_, ab, af, ax, an, ⟨mn, mr, mz, mu⟩⟩ else [])) := Lib.hid rfl
  simp only [Ev.arr]
  have hcv : ∃ A n k, cx.v = .slice A n k := ⟨_, _, _, rfl⟩
  have HCC := Lib.hid (fun (W : World) (l : List UInt8) => wCtx_any B b l cx W)
  have hl1 : l.length + 1 + (nd.size + to.size + ln.size + 12) + 8 + (if k = 1 then calB ⟨ck, ct, cb, cy, cv, cx, ctm⟩ else if k = 14 then admB ⟨ak, at_, ab, af, ax, an, ⟨mn, mr, mz, mu⟩⟩ else []).length + 256 ≤ 140737488355328 := by
    rw [HEV.out] at hlen
    simp only [List.length_append, textB_length, be_length] at hlen
    omega
  have HLEN := Lib.hid hl1
  clear hlen hl1 hr
  generalize cx.v = cxv at hcv HCC ⊢
  obtain ⟨cA, cn, cc, rfl⟩ := hcv
  have hbw := h.lt
  have hz1 : (w.alloc (.cells #[.pointer (some ⟨b, 0, none⟩)] 106)).heap.size = w.heap.size + 1 := by simp
  have hx := (SBox.new w 106 #[.pointer (some ⟨b, 0, none⟩)]).alloc' (.cells #[.int .i64 k, .string nd, .string to, .string ln, .int .i64 n, .int .i64 ck, .string ct, .string cb, .string cy, .string cv, .slice cA cn cc, .int .i64 ctm, .int .i64 ak, .string at_, .string ab, .string af, .string ax, .int .i64 an, .string mn, .string mr, .string mz, .bool mu] 89)
  have hy := SBox.new (w.alloc (.cells #[.pointer (some ⟨b, 0, none⟩)] 106)) 89 #[.int .i64 k, .string nd, .string to, .string ln, .int .i64 n, .int .i64 ck, .string ct, .string cb, .string cy, .string cv, .slice cA cn cc, .int .i64 ctm, .int .i64 ak, .string at_, .string ab, .string af, .string ax, .int .i64 an, .string mn, .string mr, .string mz, .bool mu]
  rw [hz1] at hy
  have ht := ((Turn.refl B b w).alloc hBw (.cells #[.pointer (some ⟨b, 0, none⟩)] 106)).alloc (by omega) (.cells #[.int .i64 k, .string nd, .string to, .string ln, .int .i64 n, .int .i64 ck, .string ct, .string cb, .string cy, .string cv, .slice cA cn cc, .int .i64 ctm, .int .i64 ak, .string at_, .string ab, .string af, .string ax, .int .i64 an, .string mn, .string mr, .string mz, .bool mu] 89)
  have hw := (h.alloc (.cells #[.pointer (some ⟨b, 0, none⟩)] 106)).alloc (.cells #[.int .i64 k, .string nd, .string to, .string ln, .int .i64 n, .int .i64 ck, .string ct, .string cb, .string cy, .string cv, .slice cA cn cc, .int .i64 ctm, .int .i64 ak, .string at_, .string ab, .string af, .string ax, .int .i64 an, .string mn, .string mr, .string mz, .bool mu] 89)
  have HX := Lib.hid hx; have HY := Lib.hid hy; have HW := Lib.hid hw; have HT := Lib.hid ht
  clear h hz1 hx hy ht hw
  have x0 := HX.out.cell 0 rfl; have y0 := HY.out.cell 0 rfl
  go_enter Try.func67, Try.ntmps67
  go_wp2_with fail
  refine (wByte_turn B b _ k _ HW.out (by have := HLEN.out; omega) (Nat.le_trans hBw HT.out.size)).mono ?_
  clear x0 y0
  rintro e w1 ⟨rfl, hw1, ht1⟩
  have HX := Lib.hid (HX.out.step (by omega) (by decide) ht1)
  have HY := Lib.hid (HY.out.step (by omega) (by decide) ht1)
  have HT := Lib.hid (HT.out.trans ht1)
  have HW := Lib.hid hw1
  clear hw1 ht1
  have x0 := HX.out.cell 0 rfl
  have hsz := HT.out.size
  have y1 := HY.out.cell 1 rfl; have y2 := HY.out.cell 2 rfl; have y3 := HY.out.cell 3 rfl
  go_wp2_with fail
  have hal := HT.out.alloc (Nat.le_trans hBw HT.out.size) (.cells #[.string nd, .string to, .string ln] 9)
  refine (wTexts_turn B b _ 3 3 _ [nd, to, ln] _ (HW.out.alloc _) (by exact SBox.new _ 9 #[.string nd, .string to, .string ln]) (by omega) rfl (by rw [wTs3]; have := HLEN.out; simp only [List.length_append, textB_length, be_length]; omega) (by decide) (Nat.le_trans hBw hal.size)).mono ?_
  clear x0 y1 y2 y3 hsz
  rintro e w1 ⟨rfl, hw1, ht1⟩
  rw [wTs3] at hw1
  have HX := Lib.hid (HX.out.alloc' (.cells #[.string nd, .string to, .string ln] 9))
  have HY := Lib.hid (HY.out.alloc' (.cells #[.string nd, .string to, .string ln] 9))
  have HT := Lib.hid hal
  clear hal
  have HX := Lib.hid (HX.out.step (by omega) (by decide) ht1)
  have HY := Lib.hid (HY.out.step (by omega) (by decide) ht1)
  have HT := Lib.hid (HT.out.trans ht1)
  have HW := Lib.hid hw1
  clear hw1 ht1
  have x0 := HX.out.cell 0 rfl
  have hsz := HT.out.size
  have y4 := HY.out.cell 4 rfl
  go_wp2_with fail
  refine (wInt_turn B b _ n _ HW.out (by have := HLEN.out; simp only [List.length_append, textB_length, be_length]; omega) (Nat.le_trans hBw HT.out.size)).mono ?_
  clear x0 y4
  rintro e w1 ⟨rfl, hw1, ht1⟩
  have HX := Lib.hid (HX.out.step (by omega) (by decide) ht1)
  have HY := Lib.hid (HY.out.step (by omega) (by decide) ht1)
  have HT := Lib.hid (HT.out.trans ht1)
  have HW := Lib.hid hw1
  clear hw1 ht1
  have x0 := HX.out.cell 0 rfl
  have hsz := HT.out.size
  have y0 := HY.out.cell 0 rfl
  by_cases hk1 : k = 1
  · rw [if_pos hk1] at HEV HLEN
    have hd1 : (k == 1) = true := by simp [hk1]
    clear hk1
    have HCL := Lib.hid (show (calB ⟨ck, ct, cb, cy, cv, cx, ctm⟩).length = 1 + (ct.size + cb.size + cy.size + cv.size + 16) + (ctxB cx.l).length + 8 by unfold calB; simp only [List.length_append, textB_length, be_length]; omega)
    clear hsz
    have hsz := HT.out.size
    have y5 := HY.out.cell 5 rfl
    go_wp2_with fail
    refine (wByte_turn B b _ ck _ HW.out (by have := HLEN.out; have := HCL.out; simp only [List.length_append, textB_length, be_length]; omega) (Nat.le_trans hBw HT.out.size)).mono ?_
    clear x0 y0 y5
    rintro e w1 ⟨rfl, hw1, ht1⟩
    have HX := Lib.hid (HX.out.step (by omega) (by decide) ht1)
    have HY := Lib.hid (HY.out.step (by omega) (by decide) ht1)
    have HT := Lib.hid (HT.out.trans ht1)
    have HW := Lib.hid hw1
    clear hw1 ht1
    have x0 := HX.out.cell 0 rfl
    have hsz := HT.out.size
    have y6 := HY.out.cell 6 rfl; have y7 := HY.out.cell 7 rfl; have y8 := HY.out.cell 8 rfl; have y9 := HY.out.cell 9 rfl
    go_wp2_with fail
    have hal := HT.out.alloc (Nat.le_trans hBw HT.out.size) (.cells #[.string ct, .string cb, .string cy, .string cv] 9)
    refine (wTexts_turn B b _ 4 4 _ [ct, cb, cy, cv] _ (HW.out.alloc _) (by exact SBox.new _ 9 #[.string ct, .string cb, .string cy, .string cv]) (by omega) rfl (by rw [wTs4]; have := HLEN.out; have := HCL.out; simp only [List.length_append, textB_length, be_length]; omega) (by decide) (Nat.le_trans hBw hal.size)).mono ?_
    clear x0 y6 y7 y8 y9 hsz
    rintro e w1 ⟨rfl, hw1, ht1⟩
    rw [wTs4] at hw1
    have HX := Lib.hid (HX.out.alloc' (.cells #[.string ct, .string cb, .string cy, .string cv] 9))
    have HY := Lib.hid (HY.out.alloc' (.cells #[.string ct, .string cb, .string cy, .string cv] 9))
    have HT := Lib.hid hal
    clear hal
    have HX := Lib.hid (HX.out.step (by omega) (by decide) ht1)
    have HY := Lib.hid (HY.out.step (by omega) (by decide) ht1)
    have HT := Lib.hid (HT.out.trans ht1)
    have HW := Lib.hid hw1
    clear hw1 ht1
    have x0 := HX.out.cell 0 rfl
    have hsz := HT.out.size
    have y10 := HY.out.cell 10 rfl
    go_wp2_with fail
    refine (HCC.out _ _ HW.out (fun W hW => HRC.out W (HT.out.bel.trans hW)) (by have := HLEN.out; have := HCL.out; simp only [List.length_append, textB_length, be_length]; omega) (Nat.le_trans hBw HT.out.size)).mono ?_
    clear x0 y10
    rintro e w1 ⟨rfl, hw1, ht1⟩
    have HX := Lib.hid (HX.out.step (by omega) (by decide) ht1)
    have HY := Lib.hid (HY.out.step (by omega) (by decide) ht1)
    have HT := Lib.hid (HT.out.trans ht1)
    have HW := Lib.hid hw1
    clear hw1 ht1
    have x0 := HX.out.cell 0 rfl
    have hsz := HT.out.size
    have y11 := HY.out.cell 11 rfl
    go_wp2_with fail
    refine (wInt_turn B b _ ctm _ HW.out (by have := HLEN.out; have := HCL.out; simp only [List.length_append, textB_length, be_length]; omega) (Nat.le_trans hBw HT.out.size)).mono ?_
    clear x0 y11
    rintro e w1 ⟨rfl, hw1, ht1⟩
    have HX := Lib.hid (HX.out.step (by omega) (by decide) ht1)
    have HY := Lib.hid (HY.out.step (by omega) (by decide) ht1)
    have HT := Lib.hid (HT.out.trans ht1)
    have HW := Lib.hid hw1
    clear hw1 ht1
    go_wp2
    go_end0
    exact ⟨rfl, by rw [HEV.out]; unfold calB; simpa [List.append_assoc] using HW.out, HT.out⟩
  rw [if_neg hk1] at HEV HLEN
  by_cases hk2 : k = 14
  · rw [if_pos hk2] at HEV HLEN
    have hd1 : (k == 1) = false := by simp [hk1]
    have hd2 : (k == 14) = true := by simp [hk2]
    clear hk2
    have HCL := Lib.hid (show (admB ⟨ak, at_, ab, af, ax, an, ⟨mn, mr, mz, mu⟩⟩).length = 1 + (at_.size + ab.size + af.size + ax.size + 16) + 8 + (mn.size + mr.size + mz.size + 13) by unfold admB; simp only [List.length_append, textB_length, be_length, memB_length]; omega)
    clear hsz hk1
    have hsz := HT.out.size
    have y12 := HY.out.cell 12 rfl
    go_wp2_with fail
    refine (wByte_turn B b _ ak _ HW.out (by have := HLEN.out; have := HCL.out; simp only [List.length_append, textB_length, be_length]; omega) (Nat.le_trans hBw HT.out.size)).mono ?_
    clear x0 y0 y12
    rintro e w1 ⟨rfl, hw1, ht1⟩
    have HX := Lib.hid (HX.out.step (by omega) (by decide) ht1)
    have HY := Lib.hid (HY.out.step (by omega) (by decide) ht1)
    have HT := Lib.hid (HT.out.trans ht1)
    have HW := Lib.hid hw1
    clear hw1 ht1
    have x0 := HX.out.cell 0 rfl
    have hsz := HT.out.size
    have y13 := HY.out.cell 13 rfl; have y14 := HY.out.cell 14 rfl; have y15 := HY.out.cell 15 rfl; have y16 := HY.out.cell 16 rfl
    go_wp2_with fail
    have hal := HT.out.alloc (Nat.le_trans hBw HT.out.size) (.cells #[.string at_, .string ab, .string af, .string ax] 9)
    refine (wTexts_turn B b _ 4 4 _ [at_, ab, af, ax] _ (HW.out.alloc _) (by exact SBox.new _ 9 #[.string at_, .string ab, .string af, .string ax]) (by omega) rfl (by rw [wTs4]; have := HLEN.out; have := HCL.out; simp only [List.length_append, textB_length, be_length]; omega) (by decide) (Nat.le_trans hBw hal.size)).mono ?_
    clear x0 y13 y14 y15 y16 hsz
    rintro e w1 ⟨rfl, hw1, ht1⟩
    rw [wTs4] at hw1
    have HX := Lib.hid (HX.out.alloc' (.cells #[.string at_, .string ab, .string af, .string ax] 9))
    have HY := Lib.hid (HY.out.alloc' (.cells #[.string at_, .string ab, .string af, .string ax] 9))
    have HT := Lib.hid hal
    clear hal
    have HX := Lib.hid (HX.out.step (by omega) (by decide) ht1)
    have HY := Lib.hid (HY.out.step (by omega) (by decide) ht1)
    have HT := Lib.hid (HT.out.trans ht1)
    have HW := Lib.hid hw1
    clear hw1 ht1
    have x0 := HX.out.cell 0 rfl
    have hsz := HT.out.size
    have y17 := HY.out.cell 17 rfl
    go_wp2_with fail
    refine (wInt_turn B b _ an _ HW.out (by have := HLEN.out; have := HCL.out; simp only [List.length_append, textB_length, be_length]; omega) (Nat.le_trans hBw HT.out.size)).mono ?_
    clear x0 y17
    rintro e w1 ⟨rfl, hw1, ht1⟩
    have HX := Lib.hid (HX.out.step (by omega) (by decide) ht1)
    have HY := Lib.hid (HY.out.step (by omega) (by decide) ht1)
    have HT := Lib.hid (HT.out.trans ht1)
    have HW := Lib.hid hw1
    clear hw1 ht1
    have x0 := HX.out.cell 0 rfl
    have hsz := HT.out.size
    have y18 := HY.out.cell 18 rfl; have y19 := HY.out.cell 19 rfl; have y20 := HY.out.cell 20 rfl; have y21 := HY.out.cell 21 rfl
    have HMM := Lib.hid (fun (W : World) (l : List UInt8) => wMem_turn B b l ⟨mn, mr, mz, mu⟩ W)
    simp only [Memb.arr] at HMM
    go_wp2_with fail
    refine (HMM.out _ _ HW.out (by rw [memB_length]; have := HLEN.out; have := HCL.out; simp only [List.length_append, textB_length, be_length]; omega) (Nat.le_trans hBw HT.out.size)).mono ?_
    clear x0 y18 y19 y20 y21
    rintro e w1 ⟨rfl, hw1, ht1⟩
    have HT := Lib.hid (HT.out.trans ht1)
    have HW := Lib.hid hw1
    clear hw1 ht1
    go_wp2
    go_end0
    exact ⟨rfl, by rw [HEV.out]; unfold admB; simpa [List.append_assoc] using HW.out, HT.out⟩
  rw [if_neg hk2] at HEV HLEN
  have hd1 : (k == 1) = false := by simp [hk1]
  have hd2 : (k == 14) = false := by simp [hk2]
  clear hsz
  go_wp2
  go_end0
  exact ⟨rfl, by rw [HEV.out]; simpa [List.append_assoc] using HW.out, HT.out⟩
end Go.Proofs.Ytlmplibdfhamjaa
