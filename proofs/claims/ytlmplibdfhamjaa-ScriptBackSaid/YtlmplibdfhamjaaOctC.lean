/- octet.Writer's methods. -/
import Derived.Test.YtlmplibdfhamjaaOctB
import Derived.Test.YtlmplibdfhamjaaNum
import Derived.StillTailTactics
import Derived.IntWalk
namespace Go.Proofs.Ytlmplibdfhamjaa
open Go.RowKit Go.Mem Go.Num
set_option linter.unusedVariables false

set_option maxRecDepth 100000 in
set_option maxHeartbeats 1000000 in
theorem low_any (B b : Nat) (l : List UInt8) (n : Int) (k : Nat) (w : World) (h : Wr B b l w) (hk : k ≤ 8) (hlen : l.length + 8 ≤ 140737488355328) (hBw : B ≤ w.heap.size) :
    Calls Try.prog 122 #[.pointer (some ⟨b, 0, none⟩), .int .i64 n, .int .i64 k] w fun e w' => e = .returned (.tuple #[]) ∧ Wr B b (l ++ be k n) w' ∧ Below B w w' := by
  have HLEN := Lib.hid hlen; clear hlen
  go_enter Try.func122, Try.ntmps122
  go_wp2
  go_loopw [6] (fun i wr => ∃ (j : Nat) (d : List UInt8), j ≤ k ∧ i = .int .i64 ((j : Int) - 1) ∧ d ++ be j n = be k n ∧ d.length ≤ 8 - j ∧ Wr B b (l ++ d) wr ∧ Below B w wr) (fun i _ => (intOf i + 1).toNat)
  case atStart => exact ⟨k, [], Nat.le_refl _, rfl, rfl, by simp, by simpa using h, Below.refl _ _⟩
  case round =>
    obtain ⟨j, d, hj, rfl, hd, hdl, hw, hbel⟩ := hrel
    have HD := Lib.hid hd; have HDL := Lib.hid hdl; clear hd hdl
    cases j with
    | succ m =>
      have e1 : ((m + 1 : Nat) : Int) - 1 = (m : Int) := by omega
      rw [e1]
      clear e1
      have hm0 : (0 : Int) ≤ 8 * (m : Int) := by omega
      have hm1 : 8 * (m : Int) ≤ 64 := by omega
      have hmw : IntKind.i64.wrap (8 * (m : Int)) = 8 * (m : Int) := IntWalk.i64_in _ (by omega)
      go_wp2
      go_still_tail 8, (by kernel_rfl)
      change wpList _ _ _ _ _ wr.drew
      rw [pow_byte, u8_lowB]
      clear hm0 hm1 hmw
      have hw2 : Wr B b (l ++ d) wr.drew := hw
      have hbel2 : Below B w wr.drew := hbel.drew
      generalize wr.drew = w2 at hw2 hbel2 ⊢
      clear hw hbel
      go_wp2_with fail
      refine (wbyte_any B b _ _ _ hw2 (by have := HDL.out; have := HLEN.out; rw [List.length_append]; omega) (Nat.le_trans hBw hbel2.size)).mono ?_
      rintro e w3 ⟨rfl, hw3, hb3⟩
      go_wp2
      go_roundw
      case rel => exact ⟨m, d ++ [lowB (n / 256 ^ m)], by omega, rfl, by rw [List.append_assoc]; exact HD.out, by have := HDL.out; rw [List.length_append]; simp; omega, by rw [← List.append_assoc]; exact hw3, hbel2.trans hb3⟩
      case measure => simp [intOf]
    | zero =>
      have hneg : decide ((0 : Int) ≤ ((0 : Nat) : Int) - 1) = false := by decide
      go_wp2
      go_end0
      refine ⟨rfl, ?_, hbel⟩
      have := HD.out
      simp only [be, List.append_nil] at this
      rw [← this]
      exact hw

/-- nobody's writer -/
theorem low_none (n : Int) (k : Int) (w : World) :
    Calls Try.prog 122 #[.pointer none, .int .i64 n, .int .i64 k] w fun e w' => e = .returned (.tuple #[]) ∧ w = w' := by
  go_enter Try.func122, Try.ntmps122
  go_wp2
  refine bodyPost_ret (results_none rfl _ _ _) rfl ?_
  exact ⟨rfl, rfl⟩

theorem wByte_any (B b : Nat) (l : List UInt8) (n : Int) (w : World) (h : Wr B b l w) (hlen : l.length + 8 ≤ 140737488355328) (hBw : B ≤ w.heap.size) :
    Calls Try.prog 109 #[.pointer (some ⟨b, 0, none⟩), .int .i64 n] w fun e w' => e = .returned (.tuple #[]) ∧ Wr B b (l ++ be 1 n) w' ∧ Below B w w' := by
  go_enter Try.func109, Try.ntmps109
  go_wp2_with fail
  refine (low_any B b l n 1 _ h (by omega) hlen hBw).mono ?_
  rintro e w1 ⟨rfl, hw, hb⟩
  go_wp2
  go_end0
  exact ⟨rfl, hw, hb⟩
theorem wByte_none (n : Int) (w : World) :
    Calls Try.prog 109 #[.pointer none, .int .i64 n] w fun e w' => e = .returned (.tuple #[]) ∧ w = w' := by
  go_enter Try.func109, Try.ntmps109
  go_wp2_with fail
  refine (low_none n 1 _).mono ?_
  rintro e w1 ⟨rfl, rfl⟩
  go_wp2
  go_end0
  exact ⟨rfl, rfl⟩

theorem wInt_any (B b : Nat) (l : List UInt8) (n : Int) (w : World) (h : Wr B b l w) (hlen : l.length + 8 ≤ 140737488355328) (hBw : B ≤ w.heap.size) :
    Calls Try.prog 110 #[.pointer (some ⟨b, 0, none⟩), .int .i64 n] w fun e w' => e = .returned (.tuple #[]) ∧ Wr B b (l ++ be 8 n) w' ∧ Below B w w' := by
  go_enter Try.func110, Try.ntmps110
  go_wp2_with fail
  refine (low_any B b l n 8 _ h (by omega) hlen hBw).mono ?_
  rintro e w1 ⟨rfl, hw, hb⟩
  go_wp2
  go_end0
  exact ⟨rfl, hw, hb⟩
theorem wInt_none (n : Int) (w : World) :
    Calls Try.prog 110 #[.pointer none, .int .i64 n] w fun e w' => e = .returned (.tuple #[]) ∧ w = w' := by
  go_enter Try.func110, Try.ntmps110
  go_wp2_with fail
  refine (low_none n 8 _).mono ?_
  rintro e w1 ⟨rfl, rfl⟩
  go_wp2
  go_end0
  exact ⟨rfl, rfl⟩

theorem wCount_any (B b : Nat) (l : List UInt8) (n : Int) (w : World) (h : Wr B b l w) (hlen : l.length + 8 ≤ 140737488355328) (hBw : B ≤ w.heap.size) :
    Calls Try.prog 80 #[.pointer (some ⟨b, 0, none⟩), .int .i64 n] w fun e w' => e = .returned (.tuple #[]) ∧ Wr B b (l ++ be 4 n) w' ∧ Below B w w' := by
  go_enter Try.func80, Try.ntmps80
  go_wp2_with fail
  refine (low_any B b l n 4 _ h (by omega) hlen hBw).mono ?_
  rintro e w1 ⟨rfl, hw, hb⟩
  go_wp2
  go_end0
  exact ⟨rfl, hw, hb⟩
theorem wCount_none (n : Int) (w : World) :
    Calls Try.prog 80 #[.pointer none, .int .i64 n] w fun e w' => e = .returned (.tuple #[]) ∧ w = w' := by
  go_enter Try.func80, Try.ntmps80
  go_wp2_with fail
  refine (low_none n 4 _).mono ?_
  rintro e w1 ⟨rfl, rfl⟩
  go_wp2
  go_end0
  exact ⟨rfl, rfl⟩

/-- the bytes of a text, of a list of texts -/
def textB (s : ByteArray) : List UInt8 := be 4 s.size ++ s.data.toList
def textsB (ss : List ByteArray) : List UInt8 := be 4 ss.length ++ ss.flatMap textB
theorem textB_length (s : ByteArray) : (textB s).length = 4 + s.size := by unfold textB; rw [List.length_append, be_length]; rfl
theorem wText_any (B b : Nat) (l : List UInt8) (s : ByteArray) (w : World) (h : Wr B b l w) (hlen : l.length + s.size + 8 ≤ 140737488355328) (hBw : B ≤ w.heap.size) :
    Calls Try.prog 123 #[.pointer (some ⟨b, 0, none⟩), .string s] w fun e w' => e = .returned (.tuple #[]) ∧ Wr B b (l ++ textB s) w' ∧ Below B w w' := by
  go_enter Try.func123, Try.ntmps123
  go_wp2_with fail
  refine (wCount_any B b l _ _ h (by omega) hBw).mono ?_
  rintro e w1 ⟨rfl, hw, hb⟩
  go_wp2_with fail
  refine (wstring_any B b _ s _ hw (by rw [List.length_append, be_length]; omega) (Nat.le_trans hBw hb.size)).mono ?_
  rintro e w2 ⟨rfl, hw2, hb2⟩
  go_wp2
  go_end0
  rw [List.append_assoc] at hw2
  exact ⟨rfl, hw2, hb.trans hb2⟩
theorem wText_none (s : ByteArray) (w : World) :
    Calls Try.prog 123 #[.pointer none, .string s] w fun e w' => e = .returned (.tuple #[]) ∧ w = w' := by
  go_enter Try.func123, Try.ntmps123
  go_wp2_with fail
  refine (wCount_none _ _).mono ?_
  rintro e w1 ⟨rfl, rfl⟩
  go_wp2
  go_end0
  exact ⟨rfl, rfl⟩
def sumSize (ss : List ByteArray) : Nat := (ss.map ByteArray.size).sum
theorem flat_text_length (ss : List ByteArray) : (ss.flatMap textB).length = 4 * ss.length + sumSize ss := by
  induction ss with
  | nil => rfl
  | cons s ss ih => rw [List.flatMap_cons, List.length_append, ih, textB_length]; simp [sumSize]; omega
theorem sumSize_take (ss : List ByteArray) (k : Nat) : sumSize (ss.take k) ≤ sumSize ss := by
  induction ss generalizing k with
  | nil => simp
  | cons s ss ih =>
    cases k with
    | zero => simp [sumSize]
    | succ k => have := ih k; simp only [List.take_succ_cons, sumSize, List.map_cons, List.sum_cons] at *; omega
theorem sumSize_at (ss : List ByteArray) (k : Nat) (hk : k < ss.length) : sumSize (ss.take k) + ss[k].size ≤ sumSize ss := by
  have := sumSize_take ss (k + 1)
  rw [List.take_succ_eq_append_getElem hk] at this
  simp only [sumSize, List.map_append, List.sum_append, List.map_cons, List.map_nil, List.sum_cons, List.sum_nil] at *
  omega

theorem wBytes_any (B b : Nat) (l : List UInt8) (w : World) (h : Holds B b l w) (hBw : B ≤ w.heap.size) :
    Calls Try.prog 38 #[.pointer (some ⟨b, 0, none⟩)] w fun e w' => e = .returned (.string ⟨l.toArray⟩) ∧ Below B w w' ∧ Holds B b l w' ∧ Others w w' := by
  go_enter Try.func38, Try.ntmps38
  go_wp2_with fail
  refine (bstring_any B b l _ h hBw).mono ?_
  rintro e w1 ⟨rfl, hb, hh, ho⟩
  go_wp2
  go_ret
  exact ⟨rfl, hb, hh, ho⟩
theorem wBytes_none (w : World) :
    Calls Try.prog 38 #[.pointer none] w fun e w' => e = .returned (.string ⟨#[]⟩) ∧ w = w' := by
  go_enter Try.func38, Try.ntmps38
  go_wp2
  go_ret
  exact ⟨rfl, rfl⟩
/-- a new writer -/
theorem Wr.new (w : World) : Wr w.heap.size w.heap.size [] (w.alloc (.cells #[.pointer none, .slice none 0 0] 65)) := Lib.fresh_isBuilder _ _ w
end Go.Proofs.Ytlmplibdfhamjaa
