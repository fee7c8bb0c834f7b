/- What crc.turn, crc.More, crc.Sum and their references return, for every argument. -/
import Derived.Test.YtendagkbaihgiaaChecked
import Derived.Test.YtendagkbaihgiaaCrcPlain
import Derived.Test.YtendagkbaihgiaaBits
import Derived.WalkKit
import Derived.ProofKit
import Derived.Laws.BitsAll
import Derived.Lib.Hide
import Derived.Lib.ConvBytes
import Derived.Handy
namespace Go.Proofs.Ytendagkbaihgiaa
open Go.RowKit

theorem ret_int {k : IntKind} {a b : Int} (h : a = b) : Ending.returned (.int k a) = .returned (.int k b) := by rw [h]

theorem step_bits (x : Nat) (h : x < 4294967296) :
    bits .xor .u32 ((x : Int) / 2) (bits .and .u32 3988292384 (-bits .and .u32 (x : Int) 1 % 4294967296)) = (Crc.step x : Nat) := by
  have e1 : bits .and .u32 (x : Int) 1 = ((x % 2 : Nat) : Int) := by
    rw [u32_and _ _ (by omega) (by omega) (by omega) (by omega)]
    simp [Nat.and_one_is_mod]
  have e0 : ((x : Int) / 2) = ((x / 2 : Nat) : Int) := by omega
  rw [e1, e0]
  unfold Crc.step
  rcases Nat.mod_two_eq_zero_or_one x with h2 | h2
  · rw [h2, if_neg (by omega)]
    rw [u32_and 3988292384 _ (by omega) (by omega) (by omega) (by omega)]
    rw [u32_xor _ _ (by omega) (by omega) (by simp) (by simp)]
    rw [Int.toNat_natCast]
    simp
  · rw [h2, if_pos rfl]
    have e2 : bits .and .u32 3988292384 (-((1 : Nat) : Int) % 4294967296) = ((Crc.P : Nat) : Int) := by decide
    rw [e2]
    rw [u32_xor _ _ (by omega) (by omega) (by omega) (by decide)]
    rw [Int.toNat_natCast, Int.toNat_natCast]

theorem turn_any (c : Nat) (h : c < 4294967296) (w : World) :
    Calls Try.prog 24 #[.int .u32 c] w fun e w' => e = .returned (.int .u32 (Crc.steps 8 c : Nat)) ∧ w = w' := by
  go_enter Try.func24, Try.ntmps24
  go_wp2
  go_loop [0, 3] (fun c' i => ∃ k : Nat, k ≤ 8 ∧ i = .int .i64 k ∧ c' = .int .u32 (Crc.steps k c : Nat)) (fun _ i => 8 - (intOf i).toNat)
  case atStart => exact ⟨0, by omega, rfl, rfl⟩
  case round =>
    obtain ⟨k, hk, rfl, rfl⟩ := hrel
    have hb := Crc.steps_lt k h
    by_cases hlt : k < 8
    · go_wp2
      go_round
      case rel => exact ⟨k + 1, by omega, by go_num, by rw [step_bits _ hb, Crc.steps_succ]⟩
      case measure => simp [intOf]; omega
    · obtain rfl : k = 8 := by omega
      go_wp2
      go_ret
      exact ⟨rfl, rfl⟩


theorem below_bytes (w : World) (e : TypeId) (s : ByteArray) : Below w.heap.size w (Lib.bytesWorld w e s) :=
  ⟨rfl, rfl, rfl, by rw [Lib.bytesWorld_size]; omega, fun k hk => Lib.bytesWorld_at_old w e s k hk⟩

theorem take_snoc (l : List UInt8) (k : Nat) (h : k < l.length) : l.take (k + 1) = l.take k ++ [l.getD k 0] := by
  rw [List.take_succ_eq_append_getElem h]; simp [List.getD, h]

theorem inv_bits (n : Nat) (h : n < 4294967296) : bits .xor .u32 IntKind.u32.max (n : Int) = (Crc.inv n : Nat) := by
  rw [show IntKind.u32.max = ((4294967295 : Nat) : Int) from rfl, u32_xor_nat _ _ (by omega) h, show (4294967295 : Nat) = 2 ^ 32 - 1 from rfl, Crc.xor_ones 32 n h]; unfold Crc.inv; omega
theorem byte_bits (n c : Nat) (h : n < 4294967296) (hc : c < 256) :
    bits .xor .u32 (bits .and .u32 (n : Int) 255) (c : Int) = ((n % 256 ^^^ c : Nat) : Int) := by
  rw [u32_and _ _ (by omega) (by omega) (by omega) (by omega)]
  rw [Int.toNat_natCast, show (255 : Int).toNat = 2 ^ 8 - 1 from rfl, Nat.and_two_pow_sub_one_eq_mod]
  rw [u32_xor_nat _ _ (by omega) (by omega)]

theorem more_bits (n c : Nat) (h : n < 4294967296) (hc : c < 256) : bits .xor .u32 ((n : Int) / 256) (Crc.steps 8 (n % 256 ^^^ c) : Nat) = (Crc.byte n c : Nat) := by
  have hb : Crc.steps 8 (n % 256 ^^^ c) < 4294967296 := Crc.steps_lt 8 (Nat.xor_lt_two_pow (n := 32) (by omega) (by omega))
  rw [show ((n : Int) / 256) = ((n / 256 : Nat) : Int) by omega, u32_xor_nat _ _ (by omega) hb, Crc.byte_eq]

set_option maxHeartbeats 400000 in
theorem more_any (sum : Int) (s : ByteArray) (hs : s.size ≤ maxLen) (w : World) :
    Calls Try.prog 11 #[.int .i64 sum, .string s] w fun e w' => e = .returned (.int .i64 (Crc.sum sum s.data.toList : Nat)) ∧ Below w.heap.size w w' := by
  unfold maxLen at hs
  have hconv := Lib.run_convert_string_bytes (P := Try.prog) w 9 29 5 s Try.underlying9 Try.underlying29 Try.underlying5
  have hcells := Lib.hid (Lib.bytesWorld_cell w 5 s)
  have hbel := below_bytes w 5 s
  have hl : s.data.toList.length = s.size := rfl
  have HL := Lib.hid hl; clear hl
  go_enter Try.func11, Try.ntmps11
  go_wp2
  clear hconv
  go_loop [5, 14] (fun n i => ∃ k : Nat, k ≤ s.size ∧ i = .int .i64 k ∧ n = .int .u32 (Crc.more (Crc.inv (sum % 4294967296).toNat) (s.data.toList.take k) : Nat)) (fun _ i => s.size - (intOf i).toNat)
  case atStart =>
    refine ⟨0, Nat.zero_le _, rfl, ?_⟩
    obtain ⟨m, hm⟩ : ∃ m : Nat, sum % 4294967296 = m := ⟨(sum % 4294967296).toNat, by omega⟩
    rw [hm, inv_bits m (by omega), Int.toNat_natCast]; rfl
  case round =>
    obtain ⟨k, hk, rfl, rfl⟩ := hrel
    generalize hy : Crc.more (Crc.inv (sum % 4294967296).toNat) (s.data.toList.take k) = y
    have hyl : y < 4294967296 := by rw [← hy]; exact Crc.more_lt _ (Crc.inv_lt _)
    have HY := Lib.hid hy; clear hy
    by_cases hlt : k < s.size
    · have hcell := hcells.out k hlt
      have hts := take_snoc s.data.toList k hlt
      have HT := Lib.hid hts; clear hts
      generalize s.data.toList.getD k 0 = c at hcell HT
      have hc : c.toNat < 256 := c.toNat_lt
      go_wp2_with fail
      rw [byte_bits y c.toNat hyl hc]
      refine (turn_any _ (Nat.xor_lt_two_pow (n := 32) (by omega) (by omega)) _).mono ?_
      rintro e w' ⟨rfl, rfl⟩
      go_wp2
      go_round
      case rel =>
        refine ⟨k + 1, by omega, by go_num, ?_⟩
        rw [HT.out, Crc.more_append, HY.out]
        rw [more_bits y c.toNat hyl hc]
        rfl
      case measure => simp [intOf]; omega
    · obtain rfl : k = s.size := by omega
      go_wp2
      go_ret
      refine ⟨ret_int ?_, hbel⟩
      have hs' := Crc.sum_lt sum s.data.toList
      have e : Crc.inv y = Crc.sum sum s.data.toList := by rw [← HY.out, ← HL.out, List.take_length]; rfl
      rw [inv_bits y hyl, e]
      exact IntWalk.wrap64_in _ (by omega)

theorem sum_any (s : ByteArray) (hs : s.size ≤ maxLen) (w : World) :
    Calls Try.prog 9 #[.string s] w fun e w' => e = .returned (.int .i64 (Crc.sum 0 s.data.toList : Nat)) ∧ Below w.heap.size w w' := by
  go_enter Try.func9, Try.ntmps9
  go_wp2_with fail
  refine (more_any _ _ hs _).mono ?_
  rintro e w' ⟨rfl, hb⟩
  go_wp2
  go_ret
  exact ⟨rfl, hb⟩

set_option maxHeartbeats 400000 in
theorem rstep_any (n : Nat) (h : n < 4294967296) (w : World) :
    Calls Try.prog 25 #[.int .i64 n] w fun e w' => e = .returned (.int .i64 (Crc.step n : Nat)) ∧ w = w' := by
  have e1 : bits .and .i64 (n : Int) 1 = ((n % 2 : Nat) : Int) := by
    rw [show (1 : Int) = ((1 : Nat) : Int) from rfl, i64_and_nat _ _ (by omega) (by omega), Nat.and_one_is_mod]
  have e2 : bits .xor .i64 ((n : Int) / 2) 3988292384 = ((n / 2 ^^^ Crc.P : Nat) : Int) := by
    rw [show ((n : Int) / 2) = ((n / 2 : Nat) : Int) by omega, show (3988292384 : Int) = ((Crc.P : Nat) : Int) from rfl]
    exact i64_xor_nat _ _ (by omega) (by decide)
  have E1 := Lib.hid e1; clear e1
  have E2 := Lib.hid e2; clear e2
  go_enter Try.func25, Try.ntmps25
  go_wp2
  · rename_i h1
    rw [E1.out] at h1
    go_ret
    refine ⟨ret_int ?_, rfl⟩
    have h2 : n % 2 = 1 := by simp at h1; omega
    rw [E2.out]; unfold Crc.step; rw [if_pos h2]
  · rename_i h1
    rw [E1.out] at h1
    go_ret
    refine ⟨ret_int ?_, rfl⟩
    have h2 : ¬ n % 2 = 1 := by simp at h1; omega
    unfold Crc.step; rw [if_neg h2]; omega

theorem rinv_bits (n : Nat) (h : n < 4294967296) : bits .xor .i64 (n : Int) 4294967295 = (Crc.inv n : Nat) := by
  rw [show (4294967295 : Int) = ((4294967295 : Nat) : Int) from rfl, i64_xor_nat _ _ (by omega) (by omega), Nat.xor_comm, show (4294967295 : Nat) = 2 ^ 32 - 1 from rfl, Crc.xor_ones 32 n h]; unfold Crc.inv; omega
theorem rinit_bits (sum : Int) : bits .xor .i64 (bits .and .i64 sum 4294967295) 4294967295 = (Crc.inv (sum % 4294967296).toNat : Nat) := by
  obtain ⟨m, hm⟩ : ∃ m : Nat, sum % 4294967296 = m := ⟨(sum % 4294967296).toNat, by omega⟩
  have h1 : bits .and .i64 sum 4294967295 = sum % 4294967296 := i64_mask 32 (by omega) sum
  rw [h1, hm, rinv_bits m (by omega), Int.toNat_natCast]

set_option maxHeartbeats 400000 in
theorem rmore_any (sum : Int) (s : ByteArray) (hs : s.size ≤ maxLen) (w : World) :
    Calls Try.prog 12 #[.int .i64 sum, .string s] w fun e w' => e = .returned (.int .i64 (Crc.sum sum s.data.toList : Nat)) ∧ w = w' := by
  unfold maxLen at hs
  have hl : s.data.toList.length = s.size := rfl
  have HL := Lib.hid hl; clear hl
  go_enter Try.func12, Try.ntmps12
  go_wp2
  go_loop [5, 6] (fun n i => ∃ k : Nat, k ≤ s.size ∧ i = .int .i64 k ∧ n = .int .i64 (Crc.more (Crc.inv (sum % 4294967296).toNat) (s.data.toList.take k) : Nat)) (fun _ i => s.size - (intOf i).toNat)
  case atStart =>
    refine ⟨0, Nat.zero_le _, rfl, ?_⟩
    rw [rinit_bits]; rfl
  case round =>
    obtain ⟨k, hk, rfl, rfl⟩ := hrel
    generalize hy : Crc.more (Crc.inv (sum % 4294967296).toNat) (s.data.toList.take k) = y
    have hyl : y < 4294967296 := by rw [← hy]; exact Crc.more_lt _ (Crc.inv_lt _)
    have HY := Lib.hid hy; clear hy
    by_cases hlt : k < s.size
    · have hts := take_snoc s.data.toList k hlt
      have hge : s.data.toList.getD k 0 = s[k] := by simp [List.getD, hlt]; rfl
      rw [hge] at hts; clear hge
      have HT := Lib.hid hts; clear hts
      have hc : s[k].toNat < 256 := s[k].toNat_lt
      have hxl : y ^^^ s[k].toNat < 4294967296 := Nat.xor_lt_two_pow (n := 32) (by omega) (by omega)
      go_wp2
      generalize hx : y ^^^ s[k].toNat = x at hxl
      have HX := Lib.hid hx; clear hx
      go_loop [5, 7] (fun n i => ∃ j : Nat, j ≤ 8 ∧ i = .int .i64 j ∧ n = .int .i64 (Crc.steps j x : Nat)) (fun _ i => 8 - (intOf i).toNat)
      case atStart =>
        refine ⟨0, by omega, rfl, ?_⟩
        rw [i64_xor_nat _ _ (by omega) (by omega), HX.out]; rfl
      case round =>
        obtain ⟨j, hj, rfl, rfl⟩ := hrel
        have hb := Crc.steps_lt j hxl
        by_cases hlt' : j < 8
        · go_wp2_with fail
          refine (rstep_any _ hb _).mono ?_
          rintro e w' ⟨rfl, rfl⟩
          go_wp2
          go_round
          case rel => exact ⟨j + 1, by omega, by go_num, by rw [Crc.steps_succ]⟩
          case measure => simp [intOf]; omega
        · obtain rfl : j = 8 := by omega
          go_wp2
          go_round
          case rel =>
            refine ⟨k + 1, by omega, by go_num, ?_⟩
            rw [HT.out, Crc.more_append, HY.out, ← HX.out]
            rfl
          case measure => simp [intOf]; omega
    · obtain rfl : k = s.size := by omega
      go_wp2
      go_ret
      refine ⟨ret_int ?_, rfl⟩
      have hs' := Crc.sum_lt sum s.data.toList
      have e : Crc.inv y = Crc.sum sum s.data.toList := by rw [← HY.out, ← HL.out, List.take_length]; rfl
      rw [rinv_bits y hyl, e]

theorem rsum_any (s : ByteArray) (hs : s.size ≤ maxLen) (w : World) :
    Calls Try.prog 10 #[.string s] w fun e w' => e = .returned (.int .i64 (Crc.sum 0 s.data.toList : Nat)) ∧ w = w' := by
  go_enter Try.func10, Try.ntmps10
  go_wp2_with fail
  refine (rmore_any _ _ hs _).mono ?_
  rintro e w' ⟨rfl, rfl⟩
  go_wp2
  go_ret
  exact ⟨rfl, rfl⟩

set_option maxHeartbeats 400000 in
theorem awake4_any (w : World) :
    Calls Try.prog 13 #[] w fun e w' => e = .returned (.bool true) ∧ Below w.heap.size w w' := by
  go_enter Try.func13, Try.ntmps13
  go_wp2_with fail
  refine (sum_any _ (by unfold maxLen; decide) _).mono ?_
  rintro e w1 ⟨rfl, hb1⟩
  rw [show Crc.sum 0 (ByteArray.mk #[49, 50, 51, 52, 53, 54, 55, 56, 57]).data.toList = 3421780262 by decide +kernel]
  go_wp2_with fail
  refine (sum_any _ (by unfold maxLen; decide) _).mono ?_
  rintro e w2 ⟨rfl, hb2⟩
  rw [show Crc.sum 0 (ByteArray.mk #[49, 50, 51, 52]).data.toList = 2615402659 by decide +kernel]
  go_wp2_with fail
  refine (more_any _ _ (by unfold maxLen; decide) _).mono ?_
  rintro e w3 ⟨rfl, hb3⟩
  rw [show Crc.sum (2615402659 : Int) (ByteArray.mk #[53, 54, 55, 56, 57]).data.toList = 3421780262 by decide +kernel]
  go_wp2
  go_ret
  exact ⟨rfl, hb1.trans ((hb2.mono hb1.size).trans (hb3.mono (Nat.le_trans hb1.size hb2.size)))⟩

set_option maxHeartbeats 400000 in
theorem crcIs_walk (sum : Int) (_ : (Lit.int .i64 sum).wf = true) (s : ByteArray) (hs : s.size ≤ maxLen) (w : World) :
    Calls Try.prog 3 #[.int .i64 sum, .string s] w fun e w' => e = .returned (.bool true) ∧ Below w.heap.size w w' := by
  by_cases hlen : 1024 < s.size
  · go_enter Try.func3, Try.ntmps3
    go_wp2_with fail
    refine (awake4_any _).mono ?_
    rintro e w1 ⟨rfl, hb1⟩
    go_wp2
    go_ret
    exact ⟨rfl, hb1⟩
  · go_enter Try.func3, Try.ntmps3
    go_wp2_with fail
    refine (sum_any _ hs _).mono ?_
    rintro e w1 ⟨rfl, hb1⟩
    go_wp2_with fail
    refine (rsum_any _ hs _).mono ?_
    rintro e w2 ⟨rfl, rfl⟩
    go_wp2_with fail
    refine (more_any _ _ hs _).mono ?_
    rintro e w3 ⟨rfl, hb3⟩
    go_wp2_with fail
    refine (rmore_any _ _ hs _).mono ?_
    rintro e w4 ⟨rfl, rfl⟩
    go_wp2_with fail
    refine (awake4_any _).mono ?_
    rintro e w5 ⟨rfl, hb5⟩
    go_wp2
    go_ret
    exact ⟨rfl, hb1.trans ((hb3.mono hb1.size).trans (hb5.mono (Nat.le_trans hb1.size hb3.size)))⟩
end Go.Proofs.Ytendagkbaihgiaa
