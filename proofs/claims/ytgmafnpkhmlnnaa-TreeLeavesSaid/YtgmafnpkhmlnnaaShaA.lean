/- sha: turning words. -/
import Derived.Test.YtgmafnpkhmlnnaaOctQ
import Derived.Test.YtgmafnpkhmlnnaaSha
import Derived.Laws.BitsAllLaws
import Derived.Laws.Shifts
namespace Go.Sha
theorem and31 (a : Nat) (ha : 1 ≤ a) (ha' : a ≤ 31) : bits .and .u64 (IntKind.u64.wrap (-(a : Int))) 31 = ((32 - a : Nat) : Int) := by
  have h1 : IntKind.u64.wrap (-(a : Int)) = ((18446744073709551616 - a : Nat) : Int) := by
    simp only [IntKind.wrap, IntKind.signed, IntKind.bits]
    simp
    omega
  rw [h1, show (31 : Int) = ((2 ^ 5 - 1 : Nat) : Int) from rfl, u64_and_nat _ _ (by omega) (by decide), Nat.and_two_pow_sub_one_eq_mod]
  congr 1
  omega
theorem lt_shr (x n : Nat) (hx : x < 4294967296) : x >>> n < 4294967296 := Nat.lt_of_le_of_lt (Nat.shiftRight_le x n) hx
theorem rotr_lt (x n : Nat) (hx : x < 4294967296) : rotr x n < 4294967296 := Nat.or_lt_two_pow (n := 32) (Nat.mod_lt _ (by decide)) (lt_shr x n hx)
theorem xor_lt {x y : Nat} (hx : x < 4294967296) (hy : y < 4294967296) : x ^^^ y < 4294967296 := Nat.xor_lt_two_pow (n := 32) hx hy
theorem and_lt {x y : Nat} (hy : y < 4294967296) : x &&& y < 4294967296 := Nat.and_lt_two_pow (n := 32) x hy
theorem or_lt {x y : Nat} (hx : x < 4294967296) (hy : y < 4294967296) : x ||| y < 4294967296 := Nat.or_lt_two_pow (n := 32) hx hy
theorem big_lt (x a b c : Nat) (hx : x < 4294967296) : big x a b c < 4294967296 := xor_lt (xor_lt (rotr_lt x a hx) (rotr_lt x b hx)) (rotr_lt x c hx)
theorem small_lt (x a b p : Nat) (hx : x < 4294967296) : small x a b p < 4294967296 := xor_lt (xor_lt (rotr_lt x a hx) (rotr_lt x b hx)) (lt_shr x p hx)
theorem shl_nat (x s : Nat) : IntKind.u32.wrap ((x : Int) * 2 ^ s) = (((x <<< s) % 4294967296 : Nat) : Int) := by
  rw [IntKind.wrap_u32, Nat.shiftLeft_eq, Int.natCast_emod, Int.natCast_mul, Int.natCast_pow]
  rfl
theorem shr_nat (x s : Nat) : (x : Int) / 2 ^ s = ((x >>> s : Nat) : Int) := by
  rw [Nat.shiftRight_eq_div_pow, Int.natCast_ediv, Int.natCast_pow]
  rfl
end Go.Sha
namespace Go.Proofs.Ytgmafnpkhmlnnaa
open Go.RowKit Go.Mem Go.Num
set_option linter.unusedVariables false

set_option maxRecDepth 100000 in
theorem rotate_any (x a : Nat) (w : World) (hx : x < 4294967296) (ha : 1 ≤ a) (ha' : a ≤ 31) :
    Calls Try.prog 92 #[.int .u32 x, .int .i64 (-(a : Int))] w fun e w' => e = .returned (.int .u32 (Sha.rotr x a : Nat)) ∧ w = w' := by
  have hs := Sha.and31 a ha ha'
  have hl := Sha.shl_nat x (32 - a)
  have hr := Sha.shr_nat x a
  have ho := u32_or_nat ((x <<< (32 - a)) % 4294967296) (x >>> a) (Nat.mod_lt _ (by decide)) (Sha.lt_shr x a hx)
  obtain ⟨s, hsa⟩ : ∃ s, 32 - a = s := ⟨_, rfl⟩
  have has : a = 32 - s := by omega
  rw [hsa] at hs hl ho
  have hs1 : 1 ≤ s := by omega
  have hs2 : s ≤ 31 := by omega
  have hres : Sha.rotr x a = ((x <<< s) % 4294967296) ||| (x >>> a) := by unfold Sha.rotr; rw [hsa]
  have HRES := Lib.hid hres; have HO := Lib.hid ho; have HL := Lib.hid hl; have HR := Lib.hid hr; have HAS := Lib.hid has; clear hres ho hl hr hsa has
  have hs3 : (0 : Int) ≤ (s : Int) := by omega
  have hs4 : (s : Int) ≤ 32 := by omega
  go_enter Try.func92, Try.ntmps92
  go_wp2
  go_ret
  refine ⟨ret_int ?_, rfl⟩
  have h1 := HL.out
  rw [IntKind.wrap_u32] at h1
  rw [HRES.out, ← HAS.out, h1, HR.out, HO.out]

set_option maxRecDepth 100000 in
theorem turns_any (x a b c : Nat) (w : World) (hx : x < 4294967296) (ha : 1 ≤ a) (ha' : a ≤ 31) (hb : 1 ≤ b) (hb' : b ≤ 31) (hc : 1 ≤ c) (hc' : c ≤ 31) :
    Calls Try.prog 80 #[.int .u32 x, .int .i64 a, .int .i64 b, .int .i64 c] w fun e w' => e = .returned (.int .u32 (Sha.big x a b c : Nat)) ∧ w = w' := by
  have h1 := u32_xor_nat (Sha.rotr x a) (Sha.rotr x b) (Sha.rotr_lt x a hx) (Sha.rotr_lt x b hx)
  have h2 := u32_xor_nat (Sha.rotr x a ^^^ Sha.rotr x b) (Sha.rotr x c) (Sha.xor_lt (Sha.rotr_lt x a hx) (Sha.rotr_lt x b hx)) (Sha.rotr_lt x c hx)
  go_enter Try.func80, Try.ntmps80
  have H1 := Lib.hid h1; have H2 := Lib.hid h2; clear h1 h2
  go_wp2_with fail
  refine (rotate_any x a _ hx ha ha').mono ?_
  rintro e w1 ⟨rfl, rfl⟩
  go_wp2_with fail
  refine (rotate_any x b _ hx hb hb').mono ?_
  rintro e w1 ⟨rfl, rfl⟩
  go_wp2_with fail
  refine (rotate_any x c _ hx hc hc').mono ?_
  rintro e w1 ⟨rfl, rfl⟩
  go_wp2
  go_ret
  exact ⟨ret_int (by rw [H1.out, H2.out]; rfl), rfl⟩

set_option maxRecDepth 100000 in
theorem small_any (x a b p : Nat) (w : World) (hx : x < 4294967296) (ha : 1 ≤ a) (ha' : a ≤ 31) (hb : 1 ≤ b) (hb' : b ≤ 31) (hp : p ≤ 31) :
    Calls Try.prog 91 #[.int .u32 x, .int .i64 a, .int .i64 b, .int .i64 p] w fun e w' => e = .returned (.int .u32 (Sha.small x a b p : Nat)) ∧ ∃ q, w' = w.drewN q := by
  have h1 := u32_xor_nat (Sha.rotr x a) (Sha.rotr x b) (Sha.rotr_lt x a hx) (Sha.rotr_lt x b hx)
  have h2 := u32_xor_nat (Sha.rotr x a ^^^ Sha.rotr x b) (x >>> p) (Sha.xor_lt (Sha.rotr_lt x a hx) (Sha.rotr_lt x b hx)) (Sha.lt_shr x p hx)
  have h3 := Sha.shr_nat x p
  have H1 := Lib.hid h1; have H2 := Lib.hid h2; have H3 := Lib.hid h3; clear h1 h2 h3
  have na : IntKind.i64.wrap (-(a : Int)) = -(a : Int) := IntWalk.i64_in _ (by omega)
  have nb : IntKind.i64.wrap (-(b : Int)) = -(b : Int) := IntWalk.i64_in _ (by omega)
  have hp0 : (0 : Int) ≤ (p : Int) := by omega
  have hp1 : (p : Int) ≤ 32 := by omega
  go_enter Try.func91, Try.ntmps91
  go_wp2
  go_quiet ((go_at_call 92; exact quiet_left (rotate_any x _ _ hx (by assumption) (by assumption))))
  go_wp2
  go_ret
  exact ⟨ret_int (by rw [H3.out, H1.out, H2.out]; rfl), _, rfl⟩
end Go.Proofs.Ytgmafnpkhmlnnaa
