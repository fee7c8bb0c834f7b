/- Entries written as bytes: the code's and the document's. -/
import Derived.Test.YtlmplibdfhamjaaSet4
import Derived.Test.YtlmplibdfhamjaaOctG
import Derived.Test.YtlmplibdfhamjaaOctD
attribute [local go_sem ↓] Go.wp_at_zero Go.wp_at_succ
namespace Go.Proofs.Ytlmplibdfhamjaa
open Go.RowKit Go.Mem Go.Num
set_option linter.unusedVariables false
set_option linter.unusedSimpArgs false

/-- an entry's bytes, and those of entries -/
def eB (e : Ent) : List UInt8 := textB e.key ++ be 8 e.reg.n ++ textB e.reg.by_ ++ textB e.reg.value
def rawB (l : List Ent) : List UInt8 := be 4 l.length ++ l.flatMap eB
def eSize (e : Ent) : Nat := e.key.size + e.reg.by_.size + e.reg.value.size
theorem eB_length (e : Ent) : (eB e).length = eSize e + 20 := by
  unfold eB eSize
  simp only [List.length_append, textB_length, be_length]; omega
theorem flatE_length (l : List Ent) : (l.flatMap eB).length = (l.map eSize).sum + 20 * l.length := by
  induction l with
  | nil => rfl
  | cons e l ih => rw [List.flatMap_cons, List.length_append, ih, eB_length]; simp; omega
/-- the two boxes of a writer of entries -/
structure WB (b : Nat) (w W : World) (k : ByteArray) (n : Int) (c d : ByteArray) : Prop where
  p : W.heap[w.heap.size]? = some (.cells #[.pointer (some ⟨b, 0, none⟩)] 123 (0, 0))
  e : W.heap[w.heap.size + 1]? = some (.cells #[.string k, .int .i64 n, .string c, .string d] 47 (0, 0))
theorem WB.step {B b : Nat} {w W W' : World} {k : ByteArray} {n : Int} {c d : ByteArray} (h : WB b w W k n c d) (hb : b < w.heap.size) (ht : Turn B b W W') : WB b w W' k n c d :=
  ⟨ht.rest _ _ (by omega) h.p (fun cs fr => by intro e; injection e with _ e _; cases e), ht.rest _ _ (by omega) h.e (fun cs fr => by intro e; injection e with _ e _; cases e)⟩
theorem WB.cells {b : Nat} {w W : World} {k : ByteArray} {n : Int} {c d : ByteArray} (h : WB b w W k n c d) : W.cell? ⟨w.heap.size, 0, none⟩ = some (.pointer (some ⟨b, 0, none⟩)) ∧ W.cell? ⟨w.heap.size + 1, 0, none⟩ = some (.string k) ∧
    W.cell? ⟨w.heap.size + 1, 1, none⟩ = some (.int .i64 n) ∧ W.cell? ⟨w.heap.size + 1, 2, none⟩ = some (.string c) ∧ W.cell? ⟨w.heap.size + 1, 3, none⟩ = some (.string d) :=
  ⟨cell_of_row _ _ _ _ _ _ h.p, cell_of_row _ _ _ _ _ _ h.e, cell_of_row _ _ _ _ _ _ h.e, cell_of_row _ _ _ _ _ _ h.e, cell_of_row _ _ _ _ _ _ h.e⟩
set_option maxRecDepth 100000 in
set_option maxHeartbeats 2000000 in
theorem wEntry_any (B b : Nat) (l : List UInt8) (e : Ent) (w : World) (h : Wr B b l w) (hlen : l.length + eSize e + 64 ≤ 140737488355328) (hBw : B ≤ w.heap.size) :
    Calls Try.prog 81 #[.agg #[.pointer (some ⟨b, 0, none⟩)], .agg e.arr] w fun r w' => r = .returned (.tuple #[]) ∧ Wr B b (l ++ eB e) w' ∧ Turn B b w w' := by
  obtain ⟨k, ⟨n, c, d⟩⟩ := e
  simp only [Ent.arr]
  unfold eSize at hlen
  simp only at hlen
  have hbw := h.lt
  have hw0 : Wr B b l ((w.alloc (.cells #[.pointer (some ⟨b, 0, none⟩)] 123)).alloc (.cells #[.string k, .int .i64 n, .string c, .string d] 47)) := (h.alloc _).alloc _
  have ht0 : Turn B b w ((w.alloc (.cells #[.pointer (some ⟨b, 0, none⟩)] 123)).alloc (.cells #[.string k, .int .i64 n, .string c, .string d] 47)) := ((Turn.refl B b w).alloc hBw _).alloc (by simp; omega) _
  have hx0 : WB b w ((w.alloc (.cells #[.pointer (some ⟨b, 0, none⟩)] 123)).alloc (.cells #[.string k, .int .i64 n, .string c, .string d] 47)) k n c d := ⟨heap_alloc2_old w _ _, heap_alloc2_new w _ _⟩
  have HLEN := Lib.hid hlen; have HW := Lib.hid hw0; have HT := Lib.hid ht0; have HX := Lib.hid hx0
  clear h hlen hw0 ht0 hx0
  go_enter Try.func81, Try.ntmps81
  go_wp2_with fail
  refine (wText_turn B b _ k _ HW.out (by have := HLEN.out; omega) (Nat.le_trans hBw HT.out.size)).mono ?_
  rintro e w1 ⟨rfl, hw1, ht1⟩
  have hx := HX.out.step hbw ht1
  have HT := Lib.hid (HT.out.trans ht1)
  have HW := Lib.hid hw1
  obtain ⟨p0, e0, e1, e2, e3⟩ := hx.cells
  have HX := Lib.hid hx
  clear hx hw1 ht1
  go_wp2_with fail
  refine (wInt_turn B b _ n _ HW.out (by have := HLEN.out; simp only [List.length_append, textB_length]; omega) (Nat.le_trans hBw HT.out.size)).mono ?_
  clear p0 e0 e1 e2 e3
  rintro e w1 ⟨rfl, hw1, ht1⟩
  have hx := HX.out.step hbw ht1
  have HT := Lib.hid (HT.out.trans ht1)
  have HW := Lib.hid hw1
  obtain ⟨p0, e0, e1, e2, e3⟩ := hx.cells
  have HX := Lib.hid hx
  clear hx hw1 ht1
  go_wp2_with fail
  refine (wText_turn B b _ c _ HW.out (by have := HLEN.out; simp only [List.length_append, textB_length, be_length]; omega) (Nat.le_trans hBw HT.out.size)).mono ?_
  clear p0 e0 e1 e2 e3
  rintro e w1 ⟨rfl, hw1, ht1⟩
  have hx := HX.out.step hbw ht1
  have HT := Lib.hid (HT.out.trans ht1)
  have HW := Lib.hid hw1
  obtain ⟨p0, e0, e1, e2, e3⟩ := hx.cells
  have HX := Lib.hid hx
  clear hx hw1 ht1
  go_wp2_with fail
  refine (wText_turn B b _ d _ HW.out (by have := HLEN.out; simp only [List.length_append, textB_length, be_length]; omega) (Nat.le_trans hBw HT.out.size)).mono ?_
  clear p0 e0 e1 e2 e3
  rintro e w1 ⟨rfl, hw1, ht1⟩
  have hx := HX.out.step hbw ht1
  have HT := Lib.hid (HT.out.trans ht1)
  have HW := Lib.hid hw1
  obtain ⟨p0, e0, e1, e2, e3⟩ := hx.cells
  have HX := Lib.hid hx
  clear hx hw1 ht1
  go_wp2
  go_end0
  exact ⟨rfl, by unfold eB; simpa [List.append_assoc] using HW.out, HT.out⟩

theorem enter_wEntry (args : Array Value) (W : World) : Sem.run Try.prog (callFunc 81 args) W = .ok (.enter 81 args) W := by kernel_rfl
def eSum (l : List Ent) : Nat := (l.map eSize).sum
theorem eSum_take (l : List Ent) (k : Nat) (hk : k < l.length) : eSum (l.take k) + eSize l[k] ≤ eSum l := by
  have h : ∀ (l : List Ent) (k : Nat), eSum (l.take k) ≤ eSum l := by
    intro l
    induction l with
    | nil => intro k; simp
    | cons e l ih =>
      intro k
      cases k with
      | zero => simp [eSum]
      | succ k => have := ih k; simp only [List.take_succ_cons, eSum, List.map_cons, List.sum_cons] at *; omega
  have := h l (k + 1)
  rw [List.take_succ_eq_append_getElem hk] at this
  simp only [eSum, List.map_append, List.sum_append, List.map_cons, List.map_nil, List.sum_cons, List.sum_nil] at *
  omega
abbrev entc (l : List Ent) : List Value := l.flatMap fun m => m.arr.toList
theorem rd_under {w w' : World} {B : Nat} {A : Option Addr} {cs : List Value} (h : Rd w A cs) (hA : 0 < cs.length → ∀ ad, A = some ad → ad.block < B) (hb : Below B w w') : Rd w' A cs := fun j u hj => by
  obtain ⟨b', off, e, hc⟩ := h j u hj
  exact ⟨b', off, e, (hb.cell (p := ⟨b', off + j, none⟩) (hA (by have := (List.getElem?_eq_some_iff.1 hj).1; omega) ⟨b', off, none⟩ e)).trans hc⟩
theorem rd_blk {w : World} {A : Option Addr} {cs : List Value} (h : Rd w A cs) : 0 < cs.length → ∀ ad, A = some ad → ad.block < w.heap.size := fun h0 ad e => by
  obtain ⟨b, off, e', hc⟩ := h.at_ 0 h0
  rw [e] at e'; injection e' with e'; subst e'
  exact World.block_lt_of_cell? w _ hc
set_option maxRecDepth 100000 in
set_option maxHeartbeats 2000000 in
theorem wEntries_any (B b : Nat) (l : List UInt8) (A : Option Addr) (n c : Nat) (es : List Ent) (w : World) (h : Wr B b l w) (hr : Rd w A (entc es)) (hA : 0 < (entc es).length → ∀ ad, A = some ad → ad.block < B) (hn : es.length = n)
    (hlen : l.length + 20 * n + eSum es + 128 ≤ 140737488355328) (hBw : B ≤ w.heap.size) :
    Calls Try.prog 35 #[.pointer (some ⟨b, 0, none⟩), .slice A n c] w fun e w' => e = .returned (.tuple #[]) ∧ Wr B b (l ++ rawB es) w' ∧ Turn B b w w' := by
  have hnn : n ≤ 140737488355328 := by omega
  have HN := Lib.hid hn; have HLEN := Lib.hid hlen; clear hn hlen
  have HRD := Lib.hid (fun (W : World) (hW : Below B w W) => rd_under hr hA hW)
  have hcf := enter_wEntry
  clear hr hA
  go_enter Try.func35, Try.ntmps35
  go_wp2_with fail
  refine (wCount_turn B b l _ _ h (by have := HLEN.out; omega) hBw).mono ?_
  rintro e w1 ⟨rfl, hw, ht⟩
  go_wp2
  go_loopw [16] (fun i wr => ∃ k : Nat, k ≤ n ∧ i = .int .i64 k ∧ Wr B b (l ++ be 4 n ++ (es.take k).flatMap eB) wr ∧ Turn B b w wr) (fun i _ => n - (intOf i).toNat)
  case atStart => exact ⟨0, Nat.zero_le _, rfl, by simpa using hw, ht⟩
  case round =>
    obtain ⟨k, hk, rfl, hw, ht⟩ := hrel
    by_cases hlt : k < n
    · have hx : k < es.length := by have := HN.out; omega
      obtain ⟨b', off, rfl, hrg⟩ := row_ent.at_ (HRD.out wr ht.bel) k hx
      have hsz : l.length + 4 + (20 * k + eSum (es.take k)) + eSize es[k] + 64 ≤ 140737488355328 := by
        have := eSum_take es k hx
        have := HLEN.out
        omega
      have hll : (l ++ be 4 n ++ (es.take k).flatMap eB).length = l.length + 4 + (20 * k + eSum (es.take k)) := by
        rw [List.length_append, List.length_append, be_length, flatE_length, List.length_take]; unfold eSum; omega
      have hnx : l ++ be 4 n ++ (es.take (k + 1)).flatMap eB = l ++ be 4 n ++ (es.take k).flatMap eB ++ eB es[k] := by
        rw [List.take_succ_eq_append_getElem hx, List.flatMap_append, List.append_assoc, List.append_assoc, List.append_assoc]; simp
      have HLL := Lib.hid hll; have HNX := Lib.hid hnx; have HSZ := Lib.hid hsz; clear hll hnx hsz
      generalize es[k] = s at hrg HNX HSZ
      obtain ⟨sk, ⟨sn, sb, sv⟩⟩ := s
      have c0 : wr.cell? ⟨b', off + k * 4, none⟩ = some (.string sk) := rangeAt_cell hrg 0 rfl
      have c1 : wr.cell? ⟨b', off + k * 4 + 1, none⟩ = some (.int .i64 sn) := rangeAt_cell hrg 1 rfl
      have c2 : wr.cell? ⟨b', off + k * 4 + 2, none⟩ = some (.string sb) := rangeAt_cell hrg 2 rfl
      have c3 : wr.cell? ⟨b', off + k * 4 + 3, none⟩ = some (.string sv) := rangeAt_cell hrg 3 rfl
      clear hrg
      have hsize := ht.size
      go_wp2_with fail
      refine (wEntry_any B b _ ⟨sk, ⟨sn, sb, sv⟩⟩ _ (hw.alloc _) (by rw [HLL.out]; have := HSZ.out; omega) (by simp; omega)).mono ?_
      rintro e w3 ⟨rfl, hw3, ht3⟩
      go_wp2
      go_roundw
      case rel => exact ⟨k + 1, by omega, by go_num, by rw [HNX.out]; exact hw3, (ht.alloc (by omega) _).trans ht3⟩
      case measure => simp [intOf]; omega
    · obtain rfl : k = n := by omega
      go_wp2
      go_end0
      rw [List.take_of_length_le (by have := HN.out; omega), List.append_assoc] at hw
      refine ⟨rfl, ?_, ht⟩
      unfold rawB
      rw [HN.out]
      exact hw

/-- a text of so many bytes -/
def Says (l : List UInt8) (w : World) (e : Ending) (w' : World) : Prop := e = .returned (.string (bs l)) ∧ Below w.heap.size w w'
set_option maxRecDepth 100000 in
set_option maxHeartbeats 2000000 in
theorem raw_any (A : Option Addr) (n c : Nat) (es : List Ent) (w : World) (hr : Rd w A (entc es)) (hn : es.length = n) (hlen : 20 * n + eSum es + 128 ≤ 140737488355328) :
    Calls Try.prog 83 #[.slice A n c] w (Says (rawB es) w) := by
  have hW := Lib.hid (wEntries_any w.heap.size w.heap.size [] A n c es (w.alloc (.cells #[.pointer none, .slice none 0 0] 65)) (Wr.new w) (hr.alloc _) (rd_blk hr) hn (by simpa using hlen) (by simp))
  have HB := Lib.hid ((Below.refl w.heap.size w).alloc (Nat.le_refl _) (.cells #[.pointer none, .slice none 0 0] 65))
  clear hr hn hlen
  go_enter Try.func83, Try.ntmps83
  go_wp2_with fail
  refine hW.out.mono ?_
  rintro e w1 ⟨rfl, hw1, ht1⟩
  have hb1 := HB.out.trans ht1.bel
  go_wp2_with fail
  refine (wBytes_any w.heap.size w.heap.size _ _ hw1.holds hb1.size).mono ?_
  rintro e w2 ⟨rfl, hb2, -, -⟩
  go_wp2
  go_ret
  exact ⟨rfl, hb1.trans hb2⟩
end Go.Proofs.Ytlmplibdfhamjaa
