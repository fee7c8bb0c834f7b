/- sha: the digits. -/
import Derived.Test.YtgmafnpkhmlnnaaShaF
attribute [local go_sem ↓] Go.wp_at_zero Go.wp_at_succ
namespace Go.Proofs.Ytgmafnpkhmlnnaa
open Go.RowKit Go.Mem Go.Num
set_option linter.unusedVariables false

theorem take_snocB (s : ByteArray) (k : Nat) (h : k < s.size) : s.data.toList.take (k + 1) = s.data.toList.take k ++ [s[k]] := by
  rw [List.take_succ_eq_append_getElem (by simpa using h)]; rfl
def hexS : ByteArray := ⟨#[48, 49, 50, 51, 52, 53, 54, 55, 56, 57, 97, 98, 99, 100, 101, 102]⟩
theorem hex_digit (a : Nat) (h : a < 16) : hexS.extract a (a + 1) = bs [Sha.digit a] := by
  have h1 : ∀ a : Fin 16, hexS.extract a.1 (a.1 + 1) = bs [Sha.digit a.1] := by decide +kernel
  exact h1 ⟨a, h⟩
theorem digits_snoc (l : List UInt8) (c : UInt8) : Sha.digits (l ++ [c]) = Sha.digits l ++ [Sha.digit (c.toNat / 16), Sha.digit (c.toNat % 16)] := by
  unfold Sha.digits
  rw [List.flatMap_append]
  simp
theorem hexAt (a : Nat) (h : a < 16) : ∃ x : ByteArray, hexS.extract a (a + 1) = x ∧ x.size = 1 := by
  refine ⟨_, rfl, ?_⟩
  rw [ByteArray.size_extract]
  have : hexS.size = 16 := rfl
  omega
theorem elByte : Elem Try.prog 87 5 1 1 := Elem.of Try.underlying87 (by kernel_rfl : (Try.prog.info? 5).map (fun i => (i.zero, i.size, i.bytes)) = some (some (.int .u8 0), 1, 1)) rfl (by omega)
theorem hex_idx (a : Nat) (h : a < 16) : (⟨#[48, 49, 50, 51, 52, 53, 54, 55, 56, 57, 97, 98, 99, 100, 101, 102]⟩ : ByteArray)[a]'(show a < 16 from h) = Sha.digit a := by
  have h1 : ∀ a : Fin 16, (⟨#[48, 49, 50, 51, 52, 53, 54, 55, 56, 57, 97, 98, 99, 100, 101, 102]⟩ : ByteArray)[a.1]'(show a.1 < 16 from a.2) = Sha.digit a.1 := by decide +kernel
  exact h1 ⟨a, h⟩
end Go.Proofs.Ytgmafnpkhmlnnaa
