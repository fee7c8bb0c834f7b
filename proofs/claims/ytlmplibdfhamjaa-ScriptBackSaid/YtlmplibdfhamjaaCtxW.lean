/- A context written as bytes: the code's. -/
import Derived.Test.YtlmplibdfhamjaaSeen
import Derived.Test.YtlmplibdfhamjaaOctG
import Derived.Deep.DrawnRows
import Derived.Deep.Cut
import Derived.Says
import Derived.Laws.EntriesVeiled
import Derived.WalkLawsBesides
import Derived.WalkSpells
attribute [local go_sem ↓] Go.wp_at_zero Go.wp_at_succ
namespace Go.Proofs.Ytlmplibdfhamjaa
open Go.RowKit Go.Mem Go.Num
set_option linter.unusedVariables false
set_option linter.unusedSimpArgs false

/-- the bytes of numbers, of what is known of a node, of a context -/
def numsB (l : List Int) : List UInt8 := be 4 l.length ++ l.flatMap (be 8)
def seenB (x : Seen) : List UInt8 := textB x.node ++ be 8 x.base ++ numsB x.more.l
def ctxB (c : List Seen) : List UInt8 := be 4 c.length ++ c.flatMap seenB
theorem flat8_length (l : List Int) : (l.flatMap (be 8)).length = 8 * l.length := by
  induction l with
  | nil => rfl
  | cons x l ih => rw [List.flatMap_cons, List.length_append, ih, be_length, List.length_cons]; omega
theorem numsB_length (l : List Int) : (numsB l).length = 4 + 8 * l.length := by unfold numsB; rw [List.length_append, be_length, flat8_length]
theorem seenB_length (x : Seen) : (seenB x).length = x.node.size + 16 + 8 * x.more.l.length := by
  unfold seenB; simp only [List.length_append, textB_length, be_length, numsB_length]; omega
/-- what is written of a list so far, and with one more -/
theorem flat_step {T : Type} (f : T → List UInt8) (l : List T) (k : Nat) (h : k < l.length) : (l.take (k + 1)).flatMap f = (l.take k).flatMap f ++ f l[k] := by
  rw [List.take_succ_eq_append_getElem h, List.flatMap_append]; simp
theorem flat_take_le {T : Type} (f : T → List UInt8) (l : List T) (k : Nat) (h : k < l.length) : ((l.take k).flatMap f).length + (f l[k]).length ≤ (l.flatMap f).length := by
  have e : l.flatMap f = (l.take k).flatMap f ++ (f l[k] ++ (l.drop (k + 1)).flatMap f) := by
    rw [← List.append_assoc, ← flat_step f l k h, ← List.flatMap_append, List.take_append_drop]
  rw [e]; simp only [List.length_append]; omega
theorem enter_wInt (args : Array Value) (W : World) : Sem.run Try.prog (callFunc 110 args) W = .ok (.enter 110 args) W := by kernel_rfl
theorem enter_wSeen (args : Array Value) (W : World) : Sem.run Try.prog (callFunc 139 args) W = .ok (.enter 139 args) W := by kernel_rfl
set_option maxRecDepth 100000 in
set_option maxHeartbeats 2000000 in
theorem eachI_any (B b : Nat) (l : List UInt8) (A : Option Addr) (n c : Nat) (xs : List Int) (w : World) (h : Wr B b l w) (hr : ∀ W, Below B w W → Rd W A (xs.map (Value.int .i64))) (hn : xs.length = n)
    (hlen : l.length + (numsB xs).length + 64 ≤ 140737488355328) (hBw : B ≤ w.heap.size) :
    Calls Try.prog 140 #[.pointer (some ⟨b, 0, none⟩), .slice A n c, .func (.func 110) #[.pointer (some ⟨b, 0, none⟩)] #[]] w fun e w' => e = .returned (.tuple #[]) ∧ Wr B b (l ++ numsB xs) w' ∧ Turn B b w w' := by
  rw [numsB_length, hn] at hlen
  have hnn : n ≤ 140737488355328 := by omega
  have HN := Lib.hid hn; have HLEN := Lib.hid hlen; have HR := Lib.hid hr; clear hn hlen hr
  have hcf := enter_wInt
  go_enter Try.func140, Try.ntmps140
  go_wp2_with fail
  refine (wCount_turn B b l _ _ h (by have := HLEN.out; omega) hBw).mono ?_
  rintro e w1 ⟨rfl, hw, ht⟩
  go_wp2
  go_loopw [14] (fun i wr => ∃ k : Nat, k ≤ n ∧ i = .int .i64 k ∧ Wr B b (l ++ be 4 n ++ (xs.take k).flatMap (be 8)) wr ∧ Turn B b w wr) (fun i _ => n - (intOf i).toNat)
  case atStart => exact ⟨0, Nat.zero_le _, rfl, by simpa using hw, ht⟩
  case round =>
    obtain ⟨k, hk, rfl, hw, ht⟩ := hrel
    by_cases hlt : k < n
    · have hx : k < xs.length := by have := HN.out; omega
      obtain ⟨b', off, rfl, hcell⟩ := (HR.out wr ht.bel).at_ k (by simp; exact hx)
      simp only [List.getElem_map] at hcell
      have HNX := Lib.hid (flat_step (be 8) xs k hx)
      have hll : (l ++ be 4 n ++ (xs.take k).flatMap (be 8)).length = l.length + 4 + 8 * k := by
        rw [List.length_append, List.length_append, be_length, flat8_length, List.length_take]; omega
      have HLL := Lib.hid hll; clear hll
      generalize xs[k] = s at hcell HNX
      have hsize := ht.size
      go_wp2_with fail
      refine (wInt_turn B b _ s _ hw (by rw [HLL.out]; have := HLEN.out; omega) (by omega)).mono ?_
      rintro e w3 ⟨rfl, hw3, ht3⟩
      go_wp2
      go_roundw
      case rel => exact ⟨k + 1, by omega, by go_num, by rw [HNX.out, ← List.append_assoc]; exact hw3, ht.trans ht3⟩
      case measure => simp [intOf]; omega
    · obtain rfl : k = n := by omega
      go_wp2
      go_end0
      rw [List.take_of_length_le (by have := HN.out; omega), List.append_assoc] at hw
      refine ⟨rfl, ?_, ht⟩
      unfold numsB
      rw [HN.out]
      exact hw

/-- a box that holds a writer's pointer -/
def WBox (b q : Nat) (W : World) : Prop := W.heap[q]? = some (.cells #[.pointer (some ⟨b, 0, none⟩)] 59 (0, 0))
theorem WBox.cell {b q : Nat} {W : World} (h : WBox b q W) : W.cell? ⟨q, 0, none⟩ = some (.pointer (some ⟨b, 0, none⟩)) := cell_of_row _ _ _ _ _ _ h
theorem WBox.step {B b q : Nat} {W W' : World} (h : WBox b q W) (hq : q ≠ b) (ht : Turn B b W W') : WBox b q W' := ht.rest _ _ hq h (fun cs fr => by intro e; injection e with _ e _; cases e)
theorem WBox.lt {b q : Nat} {W : World} (h : WBox b q W) : q < W.heap.size := (Array.getElem?_eq_some_iff.1 h).1
theorem WBox.alloc {b q : Nat} {W : World} (h : WBox b q W) (o : Obj) : WBox b q (W.alloc o) := (Below.heap_alloc W o q h.lt).trans h
theorem WBox.ne {B b q : Nat} {W : World} {l : List UInt8} (h : WBox b q W) (hw : Wr B b l W) : q ≠ b := fun e => by
  obtain ⟨_, p, v, hb, _⟩ := hw.holds
  unfold WBox at h
  rw [e, hb] at h
  injection h with h; injection h with h _ _
  have := congrArg Array.size h; cases this
/-- a box of one's own, of a struct -/
def SBox (T : TypeId) (c : Array Value) (q : Nat) (W : World) : Prop := W.heap[q]? = some (.cells c T (0, 0))
theorem SBox.step {T : TypeId} {c : Array Value} {B b q : Nat} {W W' : World} (h : SBox T c q W) (hq : q ≠ b) (hT : T ≠ 5) (ht : Turn B b W W') : SBox T c q W' := ht.rest _ _ hq h (fun cs fr => by intro e; injection e with _ e _; exact hT e)
theorem SBox.cell {T : TypeId} {c : Array Value} {q : Nat} {W : World} (h : SBox T c q W) (j : Nat) {v : Value} (hv : c[j]? = some v) : W.cell? ⟨q, j, none⟩ = some v := by rw [cell_of_row _ _ _ _ _ _ h]; exact hv
set_option maxRecDepth 100000 in
set_option maxHeartbeats 2000000 in
theorem wSeen_any (B b q : Nat) (l : List UInt8) (x : Seen) (w : World) (h : Wr B b l w) (hq : WBox b q w) (hr : ∀ W, Below B w W → x.ok W) (hlen : l.length + (seenB x).length + 64 ≤ 140737488355328) (hBw : B ≤ w.heap.size) :
    Calls Try.prog 139 #[.agg x.arr, .pointer (some ⟨q, 0, none⟩)] w fun e w' => e = .returned (.tuple #[]) ∧ Wr B b (l ++ seenB x) w' ∧ Turn B b w w' := by
  obtain ⟨nd, bs_, ⟨A, n, c, xs⟩⟩ := x
  have hok := hr w (Below.refl B w)
  have hqb := hq.ne h
  have hbw := h.lt
  rw [seenB_length] at hlen
  have HRM := Lib.hid (fun (W : World) (hW : Below B w W) => (hr W hW).2.2.rd)
  have HRN := Lib.hid (hok.2.2.len)
  simp only at hlen HRM HRN
  simp only [Seen.arr, Nums.v]
  have HX := Lib.hid (show SBox 173 #[.string nd, .int .i64 bs_, .slice A n c] w.heap.size (w.alloc (.cells #[.string nd, .int .i64 bs_, .slice A n c] 173)) from heap_alloc_new w _)
  have HQ := Lib.hid (hq.alloc (.cells #[.string nd, .int .i64 bs_, .slice A n c] 173))
  have HW := Lib.hid (h.alloc (.cells #[.string nd, .int .i64 bs_, .slice A n c] 173))
  have HT := Lib.hid ((Turn.refl B b w).alloc hBw (.cells #[.string nd, .int .i64 bs_, .slice A n c] 173))
  have HLEN := Lib.hid hlen
  have hwi := fun (W : World) (l : List UInt8) => wInt_turn B b l bs_ W
  clear h hlen hr hok hq
  have q0 := HQ.out.cell
  have x0 := HX.out.cell 0 rfl; have x1 := HX.out.cell 1 rfl; have x2 := HX.out.cell 2 rfl
  go_enter Try.func139, Try.ntmps139
  go_wp2_with fail
  refine (wText_turn B b _ nd _ HW.out (by have := HLEN.out; omega) (Nat.le_trans hBw HT.out.size)).mono ?_
  clear q0 x0 x1 x2
  rintro e w1 ⟨rfl, hw1, ht1⟩
  have HX := Lib.hid (HX.out.step (by omega) (by decide) ht1)
  have HQ := Lib.hid (HQ.out.step hqb ht1)
  have HT := Lib.hid (HT.out.trans ht1)
  have HW := Lib.hid hw1
  have q0 := HQ.out.cell
  have x0 := HX.out.cell 0 rfl; have x1 := HX.out.cell 1 rfl; have x2 := HX.out.cell 2 rfl
  clear hw1 ht1
  go_wp2_with fail
  refine (wInt_turn B b _ bs_ _ HW.out (by have := HLEN.out; simp only [List.length_append, textB_length]; omega) (Nat.le_trans hBw HT.out.size)).mono ?_
  clear q0 x0 x1 x2
  rintro e w1 ⟨rfl, hw1, ht1⟩
  have HX := Lib.hid (HX.out.step (by omega) (by decide) ht1)
  have HQ := Lib.hid (HQ.out.step hqb ht1)
  have HT := Lib.hid (HT.out.trans ht1)
  have HW := Lib.hid hw1
  have q0 := HQ.out.cell
  have x0 := HX.out.cell 0 rfl; have x1 := HX.out.cell 1 rfl; have x2 := HX.out.cell 2 rfl
  clear hw1 ht1
  go_wp2_with fail
  refine (eachI_any B b _ A n c xs _ HW.out (fun W hW => HRM.out W (HT.out.bel.trans hW)) HRN.out (by have := HLEN.out; simp only [List.length_append, textB_length, be_length, numsB_length]; omega) (Nat.le_trans hBw HT.out.size)).mono ?_
  clear q0 x0 x1 x2
  rintro e w1 ⟨rfl, hw1, ht1⟩
  have HT := Lib.hid (HT.out.trans ht1)
  have HW := Lib.hid hw1
  clear hw1 ht1
  go_wp2
  go_end0
  exact ⟨rfl, by unfold seenB; simpa [List.append_assoc] using HW.out, HT.out⟩
set_option maxRecDepth 100000 in
set_option maxHeartbeats 2000000 in
theorem eachS_any (B b q : Nat) (l : List UInt8) (c : Ctx) (w : World) (h : Wr B b l w) (hq : WBox b q w) (hr : ∀ W, Below B w W → c.ok W) (hlen : l.length + (ctxB c.l).length + 64 ≤ 140737488355328) (hBw : B ≤ w.heap.size) :
    Calls Try.prog 138 #[.pointer (some ⟨b, 0, none⟩), c.v, .func (.func 139) #[] #[.pointer (some ⟨q, 0, none⟩)]] w fun e w' => e = .returned (.tuple #[]) ∧ Wr B b (l ++ ctxB c.l) w' ∧ Turn B b w w' := by
  obtain ⟨A, n, cap, xs⟩ := c
  have hok := hr w (Below.refl B w)
  have hn := hok.len
  have hqb := hq.ne h
  simp only [Ctx.v] at hn hlen ⊢
  have hlen2 : l.length + 4 + (xs.flatMap seenB).length + 64 ≤ 140737488355328 := by
    unfold ctxB at hlen; rw [List.length_append, be_length] at hlen; omega
  have hnn : n ≤ 140737488355328 := by
    have : ∀ xs : List Seen, xs.length ≤ (xs.flatMap seenB).length := by
      intro xs
      induction xs with
      | nil => simp
      | cons x xs ih => rw [List.flatMap_cons, List.length_append, seenB_length, List.length_cons]; omega
    have := this xs; omega
  have HN := Lib.hid hn; have HLEN := Lib.hid hlen2
  have HRD := Lib.hid (fun (W : World) (hW : Below B w W) => (hr W hW).rd)
  have HRA := Lib.hid (fun (W : World) (hW : Below B w W) => (hr W hW).all)
  clear hn hlen hlen2 hr hok
  simp only at HRD HRA
  have hcf := enter_wSeen
  go_enter Try.func138, Try.ntmps138
  go_wp2_with fail
  refine (wCount_turn B b l _ _ h (by have := HLEN.out; omega) hBw).mono ?_
  rintro e w1 ⟨rfl, hw, ht⟩
  have hq1 := hq.step hqb ht
  clear hq h
  go_wp2
  go_loopw [14] (fun i wr => ∃ k : Nat, k ≤ n ∧ i = .int .i64 k ∧ Wr B b (l ++ be 4 n ++ (xs.take k).flatMap seenB) wr ∧ WBox b q wr ∧ Turn B b w wr) (fun i _ => n - (intOf i).toNat)
  case atStart => exact ⟨0, Nat.zero_le _, rfl, by simpa using hw, hq1, ht⟩
  case round =>
    obtain ⟨k, hk, rfl, hw, hq, ht⟩ := hrel
    by_cases hlt : k < n
    · have hx : k < xs.length := by have := HN.out; omega
      obtain ⟨b', off, rfl, hrg⟩ := row_seen.at_ (HRD.out wr ht.bel) k hx
      have HNX := Lib.hid (flat_step seenB xs k hx)
      have HLE := Lib.hid (flat_take_le seenB xs k hx)
      have HOK := Lib.hid (fun (W : World) (hW : Below B w W) => HRA.out W hW xs[k] (List.getElem_mem hx))
      generalize xs[k] = s at hrg HNX HLE HOK
      have hsize := ht.size
      have hS := fun (W : World) (l : List UInt8) => wSeen_any B b q l s W
      obtain ⟨nd, bs_, ⟨A', n', c', ms⟩⟩ := s
      have c0 : wr.cell? ⟨b', off + k * 3, none⟩ = some (.string nd) := rangeAt_cell hrg 0 rfl
      have c1 : wr.cell? ⟨b', off + k * 3 + 1, none⟩ = some (.int .i64 bs_) := rangeAt_cell hrg 1 rfl
      have c2 : wr.cell? ⟨b', off + k * 3 + 2, none⟩ = some (.slice A' n' c') := rangeAt_cell hrg 2 rfl
      clear hrg
      have HS := Lib.hid hS; clear hS
      go_wp2_with fail
      refine (HS.out _ _ (hw.alloc _) (hq.alloc _) (fun W hW => HOK.out W ((ht.bel.alloc (by omega) _).trans hW)) (by have := HLE.out; have := HLEN.out; simp only [List.length_append, be_length]; omega) (by simp; omega)).mono ?_
      rintro e w3 ⟨rfl, hw3, ht3⟩
      have hq3 := (hq.alloc _).step hqb ht3
      go_wp2
      go_roundw
      case rel => exact ⟨k + 1, by omega, by go_num, by rw [HNX.out, ← List.append_assoc]; exact hw3, hq3, (ht.alloc (by omega) _).trans ht3⟩
      case measure => simp [intOf]; omega
    · obtain rfl : k = n := by omega
      go_wp2
      go_end0
      rw [List.take_of_length_le (by have := HN.out; omega), List.append_assoc] at hw
      refine ⟨rfl, ?_, ht⟩
      unfold ctxB
      rw [HN.out]
      exact hw
set_option maxRecDepth 100000 in
set_option maxHeartbeats 2000000 in
theorem wCtx_any (B b : Nat) (l : List UInt8) (c : Ctx) (w : World) (h : Wr B b l w) (hr : ∀ W, Below B w W → c.ok W) (hlen : l.length + (ctxB c.l).length + 64 ≤ 140737488355328) (hBw : B ≤ w.heap.size) :
    Calls Try.prog 111 #[.pointer (some ⟨b, 0, none⟩), c.v] w fun e w' => e = .returned (.tuple #[]) ∧ Wr B b (l ++ ctxB c.l) w' ∧ Turn B b w w' := by
  have hq : WBox b w.heap.size (w.alloc (.cells #[.pointer (some ⟨b, 0, none⟩)] 59)) := heap_alloc_new w _
  have hb0 := (Turn.refl B b w).alloc hBw (.cells #[.pointer (some ⟨b, 0, none⟩)] 59)
  have HC := Lib.hid (eachS_any B b w.heap.size l c _ (h.alloc _) hq (fun W hW => hr W (hb0.bel.trans hW)) hlen (by simp; omega))
  have q0 := hq.cell
  have HB := Lib.hid hb0
  obtain ⟨A, n, cap, xs⟩ := c
  simp only [Ctx.v] at HC ⊢
  clear h hr hlen hq hb0
  go_enter Try.func111, Try.ntmps111
  go_wp2_with fail
  refine HC.out.mono ?_
  rintro e w1 ⟨rfl, hw1, ht1⟩
  go_wp2
  go_end0
  exact ⟨rfl, hw1, HB.out.trans ht1⟩
end Go.Proofs.Ytlmplibdfhamjaa
