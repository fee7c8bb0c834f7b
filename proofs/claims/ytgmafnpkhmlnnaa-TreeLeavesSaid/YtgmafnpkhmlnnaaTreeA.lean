/- The segment of a place: the code's and the document's. -/
import Derived.Test.YtgmafnpkhmlnnaaLeaf
import Derived.Test.YtgmafnpkhmlnnaaShaJ
attribute [local go_sem ↓] Go.wp_at_zero Go.wp_at_succ
namespace Go.Proofs.Ytgmafnpkhmlnnaa
open Go.RowKit Go.Mem Go.Num
set_option linter.unusedVariables false
set_option linter.unusedSimpArgs false

/-- the first byte of a text's sum -/
def top (s : ByteArray) : Nat := ((Sha.sum s.data.toList).headD 0).toNat
theorem top_lt (s : ByteArray) : top s < 256 := (((Sha.sum s.data.toList).headD 0)).toNat_lt
theorem sum_cons (s : ByteArray) : ∃ b l, Sha.sum s.data.toList = b :: l := by
  have : (Sha.sum s.data.toList).length = 32 := by unfold Sha.sum Sha.out; rw [flat4_length]; rfl
  cases h : Sha.sum s.data.toList with
  | nil => rw [h] at this; cases this
  | cons b l => exact ⟨b, l, rfl⟩
theorem wrap_byte (b : UInt8) : wrap64 (b.toNat : Int) = b.toNat := by
  have := b.toNat_lt
  unfold wrap64
  omega
def segOf (s : ByteArray) : Nat := top s / 16
theorem segOf_lt (s : ByteArray) : segOf s < 16 := by have := top_lt s; unfold segOf; omega
set_option maxRecDepth 100000 in
theorem segment_any (s : ByteArray) (w : World) (hs : s.size ≤ 1099511627776) : Calls Try.prog 13 #[.string s] w fun e w' => e = .returned (.int .i64 (segOf s : Nat)) ∧ Below w.heap.size w w' := by
  have HS := Lib.hid (fun W => shaSum_any s W hs)
  obtain ⟨b, l, hbl⟩ := sum_cons s
  have HB : Hid (segOf s = b.toNat / 16) := Lib.hid (by unfold segOf top; rw [hbl]; rfl)
  rw [hbl] at HS
  clear hbl
  have h0 : 0 < (bs (b :: l)).size := by rw [bs_size]; simp
  have HX : Hid (wrap64 ((bs (b :: l))[0]'h0).toNat / 16 = ((b.toNat / 16 : Nat) : Int)) := Lib.hid (by
    have : ((bs (b :: l))[0]'h0) = b := rfl
    rw [this]
    have hw : wrap64 (b.toNat : Int) = b.toNat := wrap_byte b
    rw [hw]; rfl)
  go_enter Try.func13, Try.ntmps13
  go_wp2_with fail
  refine (HS.out _).mono ?_
  rintro e w1 ⟨rfl, hb1⟩
  go_wp2
  go_ret
  exact ⟨by rw [HB.out]; exact congrArg (fun x => Ending.returned (.int .i64 x)) HX.out, hb1⟩
set_option maxRecDepth 100000 in
theorem rsegment_any (s : ByteArray) (w : World) (hs : s.size ≤ 1099511627776) : Calls Try.prog 14 #[.string s] w fun e w' => e = .returned (.int .i64 (segOf s : Nat)) ∧ Below w.heap.size w w' := by
  have HS := Lib.hid (fun W => refSum_any s W hs)
  obtain ⟨b, l, hbl⟩ := sum_cons s
  have HB : Hid (segOf s = b.toNat / 16) := Lib.hid (by unfold segOf top; rw [hbl]; rfl)
  rw [hbl] at HS
  clear hbl
  have h0 : 0 < (bs (b :: l)).size := by rw [bs_size]; simp
  have HX : Hid (wrap64 ((bs (b :: l))[0]'h0).toNat / 16 = ((b.toNat / 16 : Nat) : Int)) := Lib.hid (by
    have : ((bs (b :: l))[0]'h0) = b := rfl
    rw [this]
    have hw : wrap64 (b.toNat : Int) = b.toNat := wrap_byte b
    rw [hw]; rfl)
  go_enter Try.func14, Try.ntmps14
  go_wp2_with fail
  refine (HS.out _).mono ?_
  rintro e w1 ⟨rfl, hb1⟩
  go_wp2
  go_ret
  exact ⟨by rw [HB.out]; exact congrArg (fun x => Ending.returned (.int .i64 x)) HX.out, hb1⟩
end Go.Proofs.Ytgmafnpkhmlnnaa
