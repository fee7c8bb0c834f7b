/- sha: the sum of texts; the document's small functions. -/
import Derived.Test.YtgmafnpkhmlnnaaShaE
import Derived.Test.YtgmafnpkhmlnnaaOctX
attribute [local go_sem ↓] Go.wp_at_zero Go.wp_at_succ
namespace Go.Sha
theorem rotr_or (x n : Nat) (hx : x < 4294967296) : (x >>> n ||| x <<< (32 - n)) % 4294967296 = rotr x n := by
  unfold rotr
  rw [show (4294967296 : Nat) = 2 ^ 32 from rfl, Nat.or_mod_two_pow, Nat.or_comm]
  congr 1
  exact Nat.mod_eq_of_lt (lt_shr x n hx)
theorem shl_lt (x s : Nat) (hx : x < 4294967296) (hs : s ≤ 30) : x <<< s < 4611686018427387904 := by
  rw [Nat.shiftLeft_eq]
  have h1 : 2 ^ s ≤ 2 ^ 30 := Nat.pow_le_pow_right (by omega) hs
  calc x * 2 ^ s ≤ x * 2 ^ 30 := Nat.mul_le_mul_left _ h1
    _ < 4294967296 * 2 ^ 30 := Nat.mul_lt_mul_of_pos_right hx (by decide)
    _ = 4611686018427387904 := by decide
theorem shl_i64 (x s : Nat) (hx : x < 4294967296) (hs : s ≤ 30) : IntKind.i64.wrap ((x : Int) * 2 ^ s) = ((x <<< s : Nat) : Int) := by
  have h1 : (x : Int) * 2 ^ s = ((x <<< s : Nat) : Int) := by
    rw [Nat.shiftLeft_eq, Int.natCast_mul, Int.natCast_pow]
    rfl
  rw [h1]
  have h2 := shl_lt x s hx hs
  generalize x <<< s = y at h2 ⊢
  exact IntWalk.i64_in _ (by omega)
end Go.Sha
namespace Go.Proofs.Ytgmafnpkhmlnnaa
open Go.RowKit Go.Mem Go.Num
set_option linter.unusedVariables false

set_option maxRecDepth 100000 in
theorem shaOf_any (A : Option Addr) (n c : Nat) (ss : List ByteArray) (w : World) (hr : Rd w A (ss.map Value.string)) (hn : ss.length = n) (hlen : 4 * ss.length + sumSize ss + 16 ≤ 1099511627776) :
    Calls Try.prog 54 #[.slice A n c] w fun e w' => e = .returned (.string (bs (Sha.sum (textsB ss)))) ∧ Below w.heap.size w w' := by
  have hW := Wr.new w
  have hb0 : Below w.heap.size w (w.alloc (.cells #[.pointer none, .slice none 0 0] 93)) := (Below.refl _ _).alloc (Nat.le_refl _) _
  have hrr := hr.below hb0
  have hA : 0 < ss.length → ∀ ad, A = some ad → ad.block < w.heap.size := rd_lt hr
  have HN := Lib.hid hn; have HLEN := Lib.hid hlen; clear hn hlen
  have HRR := Lib.hid hrr; have HA := Lib.hid hA; clear hrr hA
  go_enter Try.func54, Try.ntmps54
  go_wp2_with fail
  refine (wTexts_any w.heap.size w.heap.size [] A n c ss _ hW HRR.out HA.out HN.out (by have := HLEN.out; simp; omega) hb0.size).mono ?_
  rintro e w1 ⟨rfl, hW1, hb1⟩
  have hb1 := hb0.trans hb1
  rw [List.nil_append] at hW1
  go_wp2_with fail
  refine (wBytes_any w.heap.size w.heap.size _ _ hW1.holds hb1.size).mono ?_
  rintro e w2 ⟨rfl, hb2, _, _⟩
  have hb2 := hb1.trans hb2
  have hsz : (⟨(textsB ss).toArray⟩ : ByteArray).size ≤ 1099511627776 := by
    have := HLEN.out
    have h1 : (⟨(textsB ss).toArray⟩ : ByteArray).size = (textsB ss).length := bs_size _
    rw [h1]
    unfold textsB
    rw [List.length_append, be_length, flat_text_length]
    omega
  have hd : (⟨(textsB ss).toArray⟩ : ByteArray).data.toList = textsB ss := bs_toList _
  generalize (⟨(textsB ss).toArray⟩ : ByteArray) = t at *
  have HD := Lib.hid hd; clear hd
  go_wp2_with fail
  refine (shaSum_any t _ hsz).mono ?_
  rintro e w3 ⟨rfl, hb3⟩
  go_wp2
  go_ret
  exact ⟨by rw [HD.out]; rfl, then_ hb2 hb3⟩

set_option maxRecDepth 100000 in
theorem refLow_any (n : Int) (w : World) : Calls Try.prog 84 #[.int .i64 n] w fun e w' => e = .returned (.int .i64 (n % 4294967296)) ∧ w = w' := by
  have h := i64_mask 32 (by omega) n
  simp only [Nat.reducePow, Nat.add_one_sub_one] at h
  have h2 : bits .and .i64 n 4294967295 = n % 4294967296 := h
  clear h
  go_enter Try.func84, Try.ntmps84
  go_wp2
  go_ret
  exact ⟨rfl, rfl⟩

set_option maxRecDepth 100000 in
theorem refTurn_any (x a : Nat) (w : World) (hx : x < 4294967296) (ha : 2 ≤ a) (ha' : a ≤ 31) :
    Calls Try.prog 83 #[.int .i64 x, .int .i64 a] w fun e w' => e = .returned (.int .i64 (Sha.rotr x a : Nat)) ∧ ∃ q, w' = w.drewN q := by
  have hl := Sha.shl_i64 x (32 - a) hx (by omega)
  have hr := Sha.shr_nat x a
  have ho := i64_or_nat (x >>> a) (x <<< (32 - a)) (by have := Sha.lt_shr x a hx; omega) (by have := Sha.shl_lt x (32 - a) hx (by omega); omega)
  have hres := Sha.rotr_or x a hx
  have HRES := Lib.hid hres; clear hres
  obtain ⟨s, hsa⟩ : ∃ s, 32 - a = s := ⟨_, rfl⟩
  have has : a = 32 - s := by omega
  have hs1 : 1 ≤ s := by omega
  have hs2 : s ≤ 30 := by omega
  have e1 : IntKind.i64.wrap (32 - (a : Int)) = (s : Int) := by rw [IntWalk.i64_in _ (by omega)]; omega
  rw [hsa] at hl ho HRES
  have HO := Lib.hid ho; clear ho
  have i1 : (0 : Int) ≤ (a : Int) := by omega
  have i2 : (a : Int) ≤ 32 := by omega
  have i3 : (0 : Int) ≤ (s : Int) := by omega
  have i4 : (s : Int) ≤ 32 := by omega
  clear hsa has
  go_enter Try.func83, Try.ntmps83
  go_wp2
  go_quiet ((go_at_call 84; exact quiet_left (refLow_any _ _)))
  go_wp2
  go_ret
  refine ⟨ret_int ?_, _, rfl⟩
  rw [show (x : Int) >>> a = ((x >>> a : Nat) : Int) from rfl, show (x : Int) <<< s = ((x <<< s : Nat) : Int) from rfl, HO.out]
  rw [← HRES.out]
  omega

set_option maxRecDepth 100000 in
set_option maxHeartbeats 1000000 in
theorem refPad_any (s : ByteArray) (w : World) (hs : s.size ≤ 1099511627776) : Calls Try.prog 69 #[.string s] w fun e w' => e = .returned (.string (bs (Sha.pad s.data.toList))) ∧ Below w.heap.size w w' := by
  have hsl : s.data.toList.length = s.size := by simp
  obtain ⟨Z, hZ⟩ : ∃ Z, Sha.zeros s.size = Z := ⟨_, rfl⟩
  have hZl : Z < 64 := by rw [← hZ]; exact Sha.zeros_lt _
  have h0 : s ++ ⟨#[128]⟩ = bs (s.data.toList ++ [0x80] ++ List.replicate 0 0) := by
    have := bs_append s.data.toList [0x80]
    rw [bs_of] at this
    rw [List.replicate_zero, List.append_nil]
    exact this
  have HZ := Lib.hid hZ; have HSL := Lib.hid hsl; have H0 := Lib.hid h0; clear hZ hsl h0
  go_enter Try.func69, Try.ntmps69
  go_wp2
  go_loop [0] (fun v => ∃ (n k : Nat) (t : ByteArray), Hid (n = s.size + 1 + k) ∧ k ≤ Z ∧ v = .string t ∧ t.size = n ∧ Hid (t = bs (s.data.toList ++ [0x80] ++ List.replicate k 0))) (fun v => match v with | .string t => s.size + 70 - t.size | _ => 0)
  case atStart => exact ⟨s.size + 1, 0, _, Lib.hid rfl, Nat.zero_le _, rfl, by simp; rfl, H0⟩
  case round =>
    obtain ⟨n, k, t, HN, hk, rfl, htn, HT⟩ := hrel
    have hn1 : n ≤ 1099511627776 + 70 := by have := HN.out; omega
    have ht1 : t.size ≤ 1099511627776 + 70 := by omega
    by_cases hkz : k < Z
    · have e1 : ((t.size : Int) % 64 != 56) = true := by
        have := Sha.zeros_not s.size k (by rw [HZ.out]; exact hkz)
        rw [bne_iff_ne]
        have := HN.out
        omega
      have HTN := Lib.hid htn; clear htn
      go_wp2
      go_round
      case rel =>
        refine ⟨n + 1, k + 1, _, Lib.hid (by have := HN.out; omega), by omega, rfl, by rw [ByteArray.size_append, HTN.out]; rfl, Lib.hid ?_⟩
        rw [HT.out, show (⟨#[0]⟩ : ByteArray) = bs [0] from rfl, bs_append]
        rw [List.append_assoc _ _ [0], ← List.replicate_succ']
      case measure =>
        show s.size + 70 - (t ++ ⟨#[0]⟩).size < s.size + 70 - t.size
        have := HTN.out; have := HN.out
        rw [ByteArray.size_append, show (⟨#[0]⟩ : ByteArray).size = 1 from rfl]; omega
    · obtain rfl : k = Z := by omega
      have e1 : ((t.size : Int) % 64 != 56) = false := by
        have := Sha.zeros_mod s.size
        rw [HZ.out] at this
        rw [bne_eq_false_iff_eq]
        have := HN.out
        omega
      have hs8 : IntKind.i64.wrap (8 * (s.size : Int)) = 8 * (s.size : Int) := IntWalk.i64_in _ (by omega)
      have HTN := Lib.hid htn; clear htn
      go_wp2_with fail
      refine (refInt_any _ _).mono ?_
      rintro e w1 ⟨rfl, hb1⟩
      have hz : (bs (be 8 (8 * (s.size : Int)))).size = 8 := (bs_size _).trans (be_length _ _)
      have hj : t ++ bs (be 8 (8 * (s.size : Int))) = bs (Sha.pad s.data.toList) := by
        rw [HT.out, bs_append]
        unfold Sha.pad
        rw [HSL.out, HZ.out]
      have HJ := Lib.hid hj; clear hj
      generalize bs (be 8 (8 * (s.size : Int))) = u at *
      have hu : u.size ≤ 8 := by omega
      clear hz e1 hs8
      go_wp2
      go_ret
      exact ⟨ret_string HJ.out, hb1⟩
end Go.Proofs.Ytgmafnpkhmlnnaa
