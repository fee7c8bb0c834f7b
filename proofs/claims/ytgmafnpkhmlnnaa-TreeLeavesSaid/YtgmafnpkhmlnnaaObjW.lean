/- An object written as bytes, and its digest: the code's. -/
import Derived.Test.YtgmafnpkhmlnnaaCtxW
import Derived.Test.YtgmafnpkhmlnnaaObjD
import Derived.Test.YtgmafnpkhmlnnaaShaE
attribute [local go_sem ↓] Go.wp_at_zero Go.wp_at_succ
namespace Go.Proofs.Ytgmafnpkhmlnnaa
open Go.RowKit Go.Mem Go.Num
set_option linter.unusedVariables false
set_option linter.unusedSimpArgs false

def goneN (b : Bool) : Int := if b then 1 else 0
def sibB (x : Sib) : List UInt8 := textB x.dot.node ++ be 8 x.dot.n ++ textB x.value ++ be 1 (goneN x.gone) ++ be 8 x.time
def sibsB (l : List Sib) : List UInt8 := be 4 l.length ++ l.flatMap sibB
def objB (o : Ob) : List UInt8 := ctxB o.ctx.l ++ sibsB o.sibs.l
theorem sibB_length (x : Sib) : (sibB x).length = x.dot.node.size + x.value.size + 25 := by
  unfold sibB; simp only [List.length_append, textB_length, be_length]; omega
theorem enter_wSib (args : Array Value) (W : World) : Sem.run Try.prog (callFunc 96 args) W = .ok (.enter 96 args) W := by kernel_rfl
theorem SBox.alloc {T : TypeId} {c : Array Value} {q : Nat} {W : World} (h : SBox T c q W) (o : Obj) : SBox T c q (W.alloc o) := (Below.heap_alloc W o q (Array.getElem?_eq_some_iff.1 h).1).trans h
set_option maxRecDepth 100000 in
set_option maxHeartbeats 2000000 in
theorem wSib_any (B b q : Nat) (l : List UInt8) (x : Sib) (w : World) (h : Wr B b l w) (hq : WBox b q w) (hlen : l.length + (sibB x).length + 64 ≤ 140737488355328) (hBw : B ≤ w.heap.size) :
    Calls Try.prog 96 #[.agg x.arr, .pointer (some ⟨q, 0, none⟩)] w fun e w' => e = .returned (.tuple #[]) ∧ Wr B b (l ++ sibB x) w' ∧ Turn B b w w' := by
  obtain ⟨⟨nd, dn⟩, vl, gn, tm⟩ := x
  have hqb := hq.ne h
  have hbw := h.lt
  rw [sibB_length] at hlen
  simp only at hlen
  simp only [Sib.arr]
  have HX := Lib.hid (show SBox 83 #[.string nd, .int .i64 dn, .string vl, .bool gn, .int .i64 tm] w.heap.size (w.alloc (.cells #[.string nd, .int .i64 dn, .string vl, .bool gn, .int .i64 tm] 83)) from heap_alloc_new w _)
  have HQ := Lib.hid (hq.alloc (.cells #[.string nd, .int .i64 dn, .string vl, .bool gn, .int .i64 tm] 83))
  have HW := Lib.hid (h.alloc (.cells #[.string nd, .int .i64 dn, .string vl, .bool gn, .int .i64 tm] 83))
  have HT := Lib.hid ((Turn.refl B b w).alloc hBw (.cells #[.string nd, .int .i64 dn, .string vl, .bool gn, .int .i64 tm] 83))
  have HLEN := Lib.hid hlen
  clear h hlen hq
  have q0 := HQ.out.cell
  have x0 := HX.out.cell 0 rfl; have x1 := HX.out.cell 1 rfl; have x2 := HX.out.cell 2 rfl; have x3 := HX.out.cell 3 rfl; have x4 := HX.out.cell 4 rfl
  go_enter Try.func96, Try.ntmps96
  go_wp2_with fail
  refine (wText_turn B b _ nd _ HW.out (by have := HLEN.out; omega) (Nat.le_trans hBw HT.out.size)).mono ?_
  clear q0 x0 x1 x2 x3 x4
  rintro e w1 ⟨rfl, hw1, ht1⟩
  have HX := Lib.hid (HX.out.step (by omega) (by decide) ht1)
  have HQ := Lib.hid (HQ.out.step hqb ht1)
  have HT := Lib.hid (HT.out.trans ht1)
  have HW := Lib.hid hw1
  have q0 := HQ.out.cell
  have x0 := HX.out.cell 0 rfl; have x1 := HX.out.cell 1 rfl; have x2 := HX.out.cell 2 rfl; have x3 := HX.out.cell 3 rfl; have x4 := HX.out.cell 4 rfl
  clear hw1 ht1
  go_wp2_with fail
  refine (wInt_turn B b _ dn _ HW.out (by have := HLEN.out; simp only [List.length_append, textB_length, be_length]; omega) (Nat.le_trans hBw HT.out.size)).mono ?_
  clear q0 x0 x1 x2 x3 x4
  rintro e w1 ⟨rfl, hw1, ht1⟩
  have HX := Lib.hid (HX.out.step (by omega) (by decide) ht1)
  have HQ := Lib.hid (HQ.out.step hqb ht1)
  have HT := Lib.hid (HT.out.trans ht1)
  have HW := Lib.hid hw1
  have q0 := HQ.out.cell
  have x0 := HX.out.cell 0 rfl; have x1 := HX.out.cell 1 rfl; have x2 := HX.out.cell 2 rfl; have x3 := HX.out.cell 3 rfl; have x4 := HX.out.cell 4 rfl
  clear hw1 ht1
  go_wp2_with fail
  refine (wText_turn B b _ vl _ HW.out (by have := HLEN.out; simp only [List.length_append, textB_length, be_length]; omega) (Nat.le_trans hBw HT.out.size)).mono ?_
  clear q0 x0 x1 x2 x3 x4
  rintro e w1 ⟨rfl, hw1, ht1⟩
  have HX := Lib.hid (HX.out.step (by omega) (by decide) ht1)
  have HQ := Lib.hid (HQ.out.step hqb ht1)
  have HT := Lib.hid (HT.out.trans ht1)
  have HW := Lib.hid hw1
  have q0 := HQ.out.cell
  have x0 := HX.out.cell 0 rfl; have x1 := HX.out.cell 1 rfl; have x2 := HX.out.cell 2 rfl; have x3 := HX.out.cell 3 rfl; have x4 := HX.out.cell 4 rfl
  clear hw1 ht1
  have HX9 := HX; have HQ9 := HQ; have HW9 := HW; have HT9 := HT
  cases gn
  · have HX := HX9; have HQ := HQ9; have HW := HW9; have HT := HT9
    go_wp2_with fail
    refine (wByte_turn B b _ 0 _ HW.out (by have := HLEN.out; simp only [List.length_append, textB_length, be_length]; omega) (Nat.le_trans hBw HT.out.size)).mono ?_
    clear q0 x0 x1 x2 x3 x4
    rintro e w1 ⟨rfl, hw1, ht1⟩
    have HX := Lib.hid (HX.out.step (by omega) (by decide) ht1)
    have HQ := Lib.hid (HQ.out.step hqb ht1)
    have HT := Lib.hid (HT.out.trans ht1)
    have HW := Lib.hid hw1
    have q0 := HQ.out.cell
    have x0 := HX.out.cell 0 rfl; have x1 := HX.out.cell 1 rfl; have x2 := HX.out.cell 2 rfl; have x3 := HX.out.cell 3 rfl; have x4 := HX.out.cell 4 rfl
    clear hw1 ht1
    go_wp2_with fail
    refine (wInt_turn B b _ tm _ HW.out (by have := HLEN.out; simp only [List.length_append, textB_length, be_length]; omega) (Nat.le_trans hBw HT.out.size)).mono ?_
    clear q0 x0 x1 x2 x3 x4
    rintro e w1 ⟨rfl, hw1, ht1⟩
    have HX := Lib.hid (HX.out.step (by omega) (by decide) ht1)
    have HQ := Lib.hid (HQ.out.step hqb ht1)
    have HT := Lib.hid (HT.out.trans ht1)
    have HW := Lib.hid hw1
    have q0 := HQ.out.cell
    have x0 := HX.out.cell 0 rfl; have x1 := HX.out.cell 1 rfl; have x2 := HX.out.cell 2 rfl; have x3 := HX.out.cell 3 rfl; have x4 := HX.out.cell 4 rfl
    clear hw1 ht1
    go_wp2
    go_end0
    exact ⟨rfl, by unfold sibB goneN; simpa [List.append_assoc] using HW.out, HT.out⟩
  · have HX := HX9; have HQ := HQ9; have HW := HW9; have HT := HT9
    go_wp2_with fail
    refine (wByte_turn B b _ 1 _ HW.out (by have := HLEN.out; simp only [List.length_append, textB_length, be_length]; omega) (Nat.le_trans hBw HT.out.size)).mono ?_
    clear q0 x0 x1 x2 x3 x4
    rintro e w1 ⟨rfl, hw1, ht1⟩
    have HX := Lib.hid (HX.out.step (by omega) (by decide) ht1)
    have HQ := Lib.hid (HQ.out.step hqb ht1)
    have HT := Lib.hid (HT.out.trans ht1)
    have HW := Lib.hid hw1
    have q0 := HQ.out.cell
    have x0 := HX.out.cell 0 rfl; have x1 := HX.out.cell 1 rfl; have x2 := HX.out.cell 2 rfl; have x3 := HX.out.cell 3 rfl; have x4 := HX.out.cell 4 rfl
    clear hw1 ht1
    go_wp2_with fail
    refine (wInt_turn B b _ tm _ HW.out (by have := HLEN.out; simp only [List.length_append, textB_length, be_length]; omega) (Nat.le_trans hBw HT.out.size)).mono ?_
    clear q0 x0 x1 x2 x3 x4
    rintro e w1 ⟨rfl, hw1, ht1⟩
    have HX := Lib.hid (HX.out.step (by omega) (by decide) ht1)
    have HQ := Lib.hid (HQ.out.step hqb ht1)
    have HT := Lib.hid (HT.out.trans ht1)
    have HW := Lib.hid hw1
    have q0 := HQ.out.cell
    have x0 := HX.out.cell 0 rfl; have x1 := HX.out.cell 1 rfl; have x2 := HX.out.cell 2 rfl; have x3 := HX.out.cell 3 rfl; have x4 := HX.out.cell 4 rfl
    clear hw1 ht1
    go_wp2
    go_end0
    exact ⟨rfl, by unfold sibB goneN; simpa [List.append_assoc] using HW.out, HT.out⟩
set_option maxRecDepth 100000 in
set_option maxHeartbeats 2000000 in
theorem eachB_any (B b q : Nat) (l : List UInt8) (c : Sibs) (w : World) (h : Wr B b l w) (hq : WBox b q w) (hr : ∀ W, Below B w W → c.ok W) (hlen : l.length + (sibsB c.l).length + 64 ≤ 140737488355328) (hBw : B ≤ w.heap.size) :
    Calls Try.prog 95 #[.pointer (some ⟨b, 0, none⟩), c.v, .func (.func 96) #[] #[.pointer (some ⟨q, 0, none⟩)]] w fun e w' => e = .returned (.tuple #[]) ∧ Wr B b (l ++ sibsB c.l) w' ∧ Turn B b w w' := by
  obtain ⟨A, n, cap, xs⟩ := c
  have hok := hr w (Below.refl B w)
  have hn := hok.len
  have hqb := hq.ne h
  simp only [Sibs.v] at hn hlen ⊢
  have hlen2 : l.length + 4 + (xs.flatMap sibB).length + 64 ≤ 140737488355328 := by
    unfold sibsB at hlen; rw [List.length_append, be_length] at hlen; omega
  have hnn : n ≤ 140737488355328 := by
    have : ∀ xs : List Sib, xs.length ≤ (xs.flatMap sibB).length := by
      intro xs
      induction xs with
      | nil => simp
      | cons x xs ih => rw [List.flatMap_cons, List.length_append, sibB_length, List.length_cons]; omega
    have := this xs; omega
  have HN := Lib.hid hn; have HLEN := Lib.hid hlen2
  have HRD := Lib.hid (fun (W : World) (hW : Below B w W) => (hr W hW).rd)
  clear hn hlen hlen2 hr hok
  simp only at HRD
  have hcf := enter_wSib
  go_enter Try.func95, Try.ntmps95
  go_wp2_with fail
  refine (wCount_turn B b l _ _ h (by have := HLEN.out; omega) hBw).mono ?_
  rintro e w1 ⟨rfl, hw, ht⟩
  have hq1 := hq.step hqb ht
  clear hq h
  go_wp2
  go_loopw [14] (fun i wr => ∃ k : Nat, k ≤ n ∧ i = .int .i64 k ∧ Wr B b (l ++ be 4 n ++ (xs.take k).flatMap sibB) wr ∧ WBox b q wr ∧ Turn B b w wr) (fun i _ => n - (intOf i).toNat)
  case atStart => exact ⟨0, Nat.zero_le _, rfl, by simpa using hw, hq1, ht⟩
  case round =>
    obtain ⟨k, hk, rfl, hw, hq, ht⟩ := hrel
    by_cases hlt : k < n
    · have hx : k < xs.length := by have := HN.out; omega
      obtain ⟨b', off, rfl, hrg⟩ := row_sib.at_ (HRD.out wr ht.bel) k hx
      have HNX := Lib.hid (flat_step sibB xs k hx)
      have HLE := Lib.hid (flat_take_le sibB xs k hx)
      generalize xs[k] = s at hrg HNX HLE
      have hsize := ht.size
      have HS := Lib.hid (fun (W : World) (l : List UInt8) => wSib_any B b q l s W)
      obtain ⟨⟨nd, dn⟩, vl, gn, tm⟩ := s
      have c0 : wr.cell? ⟨b', off + k * 5, none⟩ = some (.string nd) := rangeAt_cell hrg 0 rfl
      have c1 : wr.cell? ⟨b', off + k * 5 + 1, none⟩ = some (.int .i64 dn) := rangeAt_cell hrg 1 rfl
      have c2 : wr.cell? ⟨b', off + k * 5 + 2, none⟩ = some (.string vl) := rangeAt_cell hrg 2 rfl
      have c3 : wr.cell? ⟨b', off + k * 5 + 3, none⟩ = some (.bool gn) := rangeAt_cell hrg 3 rfl
      have c4 : wr.cell? ⟨b', off + k * 5 + 4, none⟩ = some (.int .i64 tm) := rangeAt_cell hrg 4 rfl
      clear hrg
      go_wp2_with fail
      refine (HS.out _ _ (hw.alloc _) (hq.alloc _) (by have := HLE.out; have := HLEN.out; simp only [List.length_append, be_length]; omega) (by simp; omega)).mono ?_
      rintro e w3 ⟨rfl, hw3, ht3⟩
      have hq3 := (hq.alloc _).step hqb ht3
      go_wp2
      go_roundw
      case rel => exact ⟨k + 1, by omega, by go_num, by rw [HNX.out, ← List.append_assoc]; exact hw3, hq3, (ht.alloc (by omega) _).trans ht3⟩
      case measure => simp [intOf]; omega
    · obtain rfl : k = n := by omega
      go_wp2
      go_end0
      rw [List.take_of_length_le (by have := HN.out; omega), List.append_assoc] at hw
      refine ⟨rfl, ?_, ht⟩
      unfold sibsB
      rw [HN.out]
      exact hw
set_option maxRecDepth 100000 in
set_option maxHeartbeats 2000000 in
theorem wObj_any (B b : Nat) (l : List UInt8) (o : Ob) (w : World) (h : Wr B b l w) (hr : ∀ W, Below B w W → o.ok W) (hlen : l.length + (objB o).length + 128 ≤ 140737488355328) (hBw : B ≤ w.heap.size) :
    Calls Try.prog 87 #[.pointer (some ⟨b, 0, none⟩), .agg o.arr] w fun e w' => e = .returned (.tuple #[]) ∧ Wr B b (l ++ objB o) w' ∧ Turn B b w w' := by
  have hbw := h.lt
  have hl : (ctxB o.ctx.l).length + (sibsB o.sibs.l).length = (objB o).length := by unfold objB; rw [List.length_append]
  obtain ⟨c, s⟩ := o
  have hq : WBox b w.heap.size (w.alloc (.cells #[.pointer (some ⟨b, 0, none⟩)] 88)) := heap_alloc_new w _
  have hz : (w.alloc (.cells #[.pointer (some ⟨b, 0, none⟩)] 88)).heap.size = w.heap.size + 1 := by simp
  have hb0 := (Turn.refl B b w).alloc hBw (.cells #[.pointer (some ⟨b, 0, none⟩)] 88)
  have hw1 := h.alloc (.cells #[.pointer (some ⟨b, 0, none⟩)] 88)
  have hx : SBox 63 #[c.v, s.v] (w.heap.size + 1) ((w.alloc (.cells #[.pointer (some ⟨b, 0, none⟩)] 88)).alloc (.cells #[c.v, s.v] 63)) := by rw [← hz]; exact heap_alloc_new _ _
  have hq := hq.alloc (.cells #[c.v, s.v] 63)
  have hb1 := hb0.alloc (by rw [hz]; omega) (.cells #[c.v, s.v] 63)
  have hw2 := hw1.alloc (.cells #[c.v, s.v] 63)
  have HC := Lib.hid (fun (W : World) (hW : Below B w W) => (hr W hW).1)
  have HS := Lib.hid (fun (W : World) (hW : Below B w W) => (hr W hW).2)
  simp only at HC HS hl hlen
  have HL := Lib.hid hl; have HLEN := Lib.hid hlen; have HX := Lib.hid hx; have HQ := Lib.hid hq; have HB := Lib.hid hb1; have HW := Lib.hid hw2
  clear h hr hl hlen hq hb0 hw1 hx hb1 hw2 hz
  simp only [Ob.arr]
  have q0 := HQ.out.cell
  have x0 := HX.out.cell 0 rfl; have x1 := HX.out.cell 1 rfl
  have hcv : ∃ A n k, c.v = .slice A n k := ⟨_, _, _, rfl⟩
  have hsv : ∃ A n k, s.v = .slice A n k := ⟨_, _, _, rfl⟩
  have HC1 := Lib.hid (fun (W : World) (l : List UInt8) => wCtx_any B b l c W)
  have HS1 := Lib.hid (fun (W : World) (l : List UInt8) => eachB_any B b w.heap.size l s W)
  generalize c.v = cv at hcv x0 HX HQ HB HW HC1 q0 x1 ⊢
  generalize s.v = sv at hsv x1 HX HQ HB HW HS1 x0 q0 ⊢
  obtain ⟨cA, cn, ck, rfl⟩ := hcv
  obtain ⟨sA, sn, sk, rfl⟩ := hsv
  go_enter Try.func87, Try.ntmps87
  go_wp2_with fail
  refine (HC1.out _ _ HW.out (fun W hW => HC.out W (HB.out.bel.trans hW)) (by have := HL.out; have := HLEN.out; omega) (Nat.le_trans hBw HB.out.size)).mono ?_
  clear q0 x0 x1
  rintro e w1 ⟨rfl, hw1, ht1⟩
  have HX := Lib.hid (HX.out.step (by omega) (by decide) ht1)
  have HQ := Lib.hid (HQ.out.step (by omega) ht1)
  have HB := Lib.hid (HB.out.trans ht1)
  have HW := Lib.hid hw1
  have q0 := HQ.out.cell
  have x0 := HX.out.cell 0 rfl; have x1 := HX.out.cell 1 rfl
  clear hw1 ht1
  go_wp2_with fail
  refine (HS1.out _ _ HW.out HQ.out (fun W hW => HS.out W (HB.out.bel.trans hW)) (by have := HL.out; have := HLEN.out; simp only [List.length_append]; omega) (Nat.le_trans hBw HB.out.size)).mono ?_
  rintro e w2 ⟨rfl, hw2, ht2⟩
  go_wp2
  go_end0
  exact ⟨rfl, by unfold objB; simpa [List.append_assoc] using hw2, HB.out.trans ht2⟩
set_option maxRecDepth 100000 in
set_option maxHeartbeats 2000000 in
theorem rawO_any (o : Ob) (w : World) (hr : o.ok w) (hlen : (objB o).length + 128 ≤ 140737488355328) :
    Calls Try.prog 73 #[.agg o.arr] w (SaysT (objB o) w) := by
  have hz : (w.alloc (.cells #[o.ctx.v, o.sibs.v] 63)).heap.size = w.heap.size + 1 := by simp
  have hb0 := (Below.refl w.heap.size w).alloc (Nat.le_refl _) (.cells #[o.ctx.v, o.sibs.v] 63)
  have hW := Lib.hid (wObj_any (w.heap.size + 1) (w.heap.size + 1) [] o ((w.alloc (.cells #[o.ctx.v, o.sibs.v] 63)).alloc (.cells #[.pointer none, .slice none 0 0] 93)) (by rw [← hz]; exact Wr.new _)
    (fun W hW' => hr.below ((hb0.alloc (by omega) _).trans (hW'.mono (by omega)))) (by simpa using hlen) (by simp))
  have HB := Lib.hid (hb0.alloc (by omega) (.cells #[.pointer none, .slice none 0 0] 93))
  have x0 : ((w.alloc (.cells #[o.ctx.v, o.sibs.v] 63)).alloc (.cells #[.pointer none, .slice none 0 0] 93)).rangeAt w.heap.size 0 #[o.ctx.v, o.sibs.v].toList := rangeAt_below (range_new w _ _) (Below.alloc (Below.refl _ _) (Nat.le_refl _) _)
  have c0 := rangeAt_cell x0 0 rfl; have c1 := rangeAt_cell x0 1 rfl
  have HZ := Lib.hid hz
  clear hr hlen x0 hb0 hz
  have hcv : ∃ A n k, o.ctx.v = .slice A n k := ⟨_, _, _, rfl⟩
  have hsv : ∃ A n k, o.sibs.v = .slice A n k := ⟨_, _, _, rfl⟩
  simp only [Ob.arr] at hW ⊢
  generalize o.ctx.v = cv at *
  generalize o.sibs.v = sv at *
  obtain ⟨cA, cn, ck, rfl⟩ := hcv
  obtain ⟨sA, sn, sk, rfl⟩ := hsv
  go_enter Try.func73, Try.ntmps73
  go_wp2_with fail
  refine hW.out.mono ?_
  rintro e w1 ⟨rfl, hw1, ht1⟩
  have hb1 := HB.out.trans (ht1.bel.mono (by omega))
  have hs1 := ht1.size
  go_wp2_with fail
  refine (wBytes_any (w.heap.size + 1) (w.heap.size + 1) _ _ hw1.holds (Nat.le_trans (by simp) ht1.size)).mono ?_
  rintro e w2 ⟨rfl, hb2, -, -⟩
  go_wp2
  go_ret
  exact ⟨rfl, hb1.trans (hb2.mono (by omega))⟩
theorem wbytes_sum : ∀ l : List UInt8, (bs l).data.toList = l := fun l => rfl
def digO (o : Ob) : ByteArray := bs (Sha.sum (objB o))
set_option maxRecDepth 100000 in
theorem digest_any (o : Ob) (w : World) (hr : o.ok w) (hlen : (objB o).length + 128 ≤ 1099511627776) :
    Calls Try.prog 62 #[.agg o.arr] w fun e w' => e = .returned (.string (digO o)) ∧ Below w.heap.size w w' := by
  have hb0 := (Below.refl w.heap.size w).alloc (Nat.le_refl _) (.cells #[o.ctx.v, o.sibs.v] 63)
  have HW := Lib.hid (rawO_any o _ (hr.below hb0) (by omega))
  have HB := Lib.hid hb0
  have x0 := range_new w #[o.ctx.v, o.sibs.v] 63
  have c0 := rangeAt_cell x0 0 rfl; have c1 := rangeAt_cell x0 1 rfl
  have HS := Lib.hid (fun W => shaSum_any (bs (objB o)) W (by rw [bs_size]; omega))
  clear hr hlen x0 hb0
  have hcv : ∃ A n k, o.ctx.v = .slice A n k := ⟨_, _, _, rfl⟩
  have hsv : ∃ A n k, o.sibs.v = .slice A n k := ⟨_, _, _, rfl⟩
  simp only [Ob.arr] at HW ⊢
  unfold digO
  rw [← wbytes_sum (objB o)]
  generalize o.ctx.v = cv at *
  generalize o.sibs.v = sv at *
  obtain ⟨cA, cn, ck, rfl⟩ := hcv
  obtain ⟨sA, sn, sk, rfl⟩ := hsv
  go_enter Try.func62, Try.ntmps62
  go_wp2_with fail
  refine HW.out.mono ?_
  rintro e w1 ⟨rfl, hb1⟩
  rw [wbytes_sum] at *
  have HB := Lib.hid (then_ HB.out hb1)
  clear hb1
  go_wp2_with fail
  refine (HS.out _).mono ?_
  rintro e w2 ⟨rfl, hb2⟩
  go_wp2
  go_ret
  exact ⟨rfl, then_ HB.out hb2⟩
end Go.Proofs.Ytgmafnpkhmlnnaa
