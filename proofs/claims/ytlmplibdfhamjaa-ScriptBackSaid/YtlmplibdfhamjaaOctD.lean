/- The document's bytes (pantlerref01). -/
import Derived.Test.YtlmplibdfhamjaaOctC
namespace Go.Proofs.Ytlmplibdfhamjaa
open Go.RowKit Go.Mem Go.Num
set_option linter.unusedVariables false

set_option maxRecDepth 100000 in
theorem refByte_any (n : Int) (w : World) : Calls Try.prog 125 #[.int .i64 n] w fun e w' => e = .returned (.string (bs [lowB n])) ∧ Below w.heap.size w w' := by
  have hm := and255 n
  have hcv := run_text (P := Try.prog) w 61 9 5 [lowB n] 1 Try.underlying61 Try.underlying5 Try.underlying9 #[.int .u8 (n % 256)] (by simp [lowB_int]) 1 rfl
  go_enter Try.func125, Try.ntmps125
  go_wp2
  go_ret
  exact ⟨rfl, (Below.refl _ _).alloc (Nat.le_refl _) _⟩

set_option maxRecDepth 100000 in
set_option maxHeartbeats 1000000 in
theorem refInt_any (n : Int) (w : World) : Calls Try.prog 87 #[.int .i64 n] w fun e w' => e = .returned (.string (bs (be 8 n))) ∧ Below w.heap.size w w' := by
  go_enter Try.func87, Try.ntmps87
  go_wp2
  go_loopw [3, 4] (fun s i wr => ∃ (j : Nat) (d : List UInt8), j ≤ 8 ∧ i = .int .i64 (8 * (j : Int) - 8) ∧ s = .string (bs d) ∧ d ++ be j n = be 8 n ∧ d.length ≤ 8 - j ∧ Below w.heap.size w wr) (fun _ i _ => (intOf i + 8).toNat)
  case atStart => exact ⟨8, [], Nat.le_refl _, rfl, rfl, rfl, by simp, Below.refl _ _⟩
  case round =>
    obtain ⟨j, d, hj, rfl, rfl, hd, hdl, hbel⟩ := hrel
    have HD := Lib.hid hd; have HDL := Lib.hid hdl; clear hd hdl
    cases j with
    | succ m =>
      have e1 : 8 * ((m + 1 : Nat) : Int) - 8 = 8 * (m : Int) := by omega
      rw [e1]
      clear e1
      have hm0 : (0 : Int) ≤ 8 * (m : Int) := by omega
      have hm1 : 8 * (m : Int) ≤ 64 := by omega
      have HP : Hid ((2 : Int) ^ (8 * m) = 256 ^ m) := Lib.hid (by rw [Int.pow_mul]; rfl)
      have hand := and255 (n / 2 ^ (8 * m))
      have hsz : (bs d).size ≤ 8 := by rw [bs_size]; have := HDL.out; omega
      generalize hS : bs d = s at hsz
      have HS := Lib.hid hS; clear hS
      go_wp2_with fail
      refine (refByte_any _ _).mono ?_
      rintro e w3 ⟨rfl, hb3⟩
      rw [lowB_mod, HP.out]
      clear hand
      have ht1 : (bs [lowB (n / 256 ^ m)]).size ≤ 1 := by rw [bs_size]; simp
      generalize hT : bs [lowB (n / 256 ^ m)] = t at ht1
      have HT := Lib.hid hT; clear hT
      go_wp2
      go_roundw
      case rel => exact ⟨m, d ++ [lowB (n / 256 ^ m)], by omega, rfl, by rw [← HS.out, ← HT.out, bs_append], by rw [List.append_assoc]; exact HD.out, by have := HDL.out; rw [List.length_append]; simp; omega, then_ hbel hb3⟩
      case measure => simp [intOf]; omega
    | zero =>
      have hneg : decide ((0 : Int) ≤ 8 * ((0 : Nat) : Int) - 8) = false := by decide
      go_wp2
      go_ret
      have := HD.out
      rw [show be 0 n = [] from rfl, List.append_nil] at this
      exact ⟨ret_string (by rw [this]), hbel⟩

theorem be_drop4 (n : Int) : (be 8 n).drop 4 = be 4 n := rfl
theorem bs_extract (l : List UInt8) (a b : Nat) : (bs l).extract a b = bs ((l.take b).drop a) := by
  apply WideShapes.bytes_inj
  simp [bs, ByteArray.data_extract, List.extract_eq_take_drop]
  rw [List.drop_take]
set_option maxRecDepth 100000 in
theorem refCount_any (n : Int) (w : World) : Calls Try.prog 85 #[.int .i64 n] w fun e w' => e = .returned (.string (bs (be 4 n))) ∧ Below w.heap.size w w' := by
  go_enter Try.func85, Try.ntmps85
  go_wp2_with fail
  refine (refInt_any _ _).mono ?_
  rintro e w3 ⟨rfl, hb3⟩
  have hsz : (bs (be 8 n)).size = 8 := by rw [bs_size, be_length]
  have hx := bs_extract (be 8 n) 4 8
  generalize bs (be 8 n) = s at hsz hx
  have HX := Lib.hid hx; clear hx
  have hs1 : s.size ≤ 8 := by omega
  have hs2 : 8 ≤ s.size := by omega
  have HSZ := Lib.hid hsz; clear hsz
  go_wp2
  go_ret
  refine ⟨ret_string ?_, hb3⟩
  rw [HSZ.out, HX.out, List.take_of_length_le (by rw [be_length]; omega), be_drop4]

/-- the bytes of a text, as the document has them -/
theorem textB_bs (s : ByteArray) : bs (be 4 s.size) ++ s = bs (textB s) := by
  have := bs_append (be 4 s.size) s.data.toList
  rw [bs_of] at this
  exact this
set_option maxRecDepth 100000 in
theorem refText_any (s : ByteArray) (w : World) (hs : s.size ≤ 140737488355328) : Calls Try.prog 86 #[.string s] w fun e w' => e = .returned (.string (bs (textB s))) ∧ Below w.heap.size w w' := by
  go_enter Try.func86, Try.ntmps86
  go_wp2_with fail
  refine (refCount_any _ _).mono ?_
  rintro e w3 ⟨rfl, hb3⟩
  have hsz : (bs (be 4 (s.size : Int))).size ≤ 4 := by rw [bs_size, be_length]; omega
  have hx := textB_bs s
  generalize bs (be 4 (s.size : Int)) = t at hsz hx
  have HX := Lib.hid hx; clear hx
  go_wp2
  go_ret
  exact ⟨ret_string HX.out, hb3⟩

end Go.Proofs.Ytlmplibdfhamjaa
