/- The bucket of a place: the code's and the document's. -/
import Derived.Test.YtgmafnpkhmlnnaaTreeA
attribute [local go_sem ↓] Go.wp_at_zero Go.wp_at_succ
namespace Go.Proofs.Ytgmafnpkhmlnnaa
open Go.RowKit Go.Mem Go.Num
set_option linter.unusedVariables false
set_option linter.unusedSimpArgs false

def bktOf (s : ByteArray) : Nat := top s / 4
theorem bktOf_lt (s : ByteArray) : bktOf s < 64 := by have := top_lt s; unfold bktOf; omega
set_option maxRecDepth 100000 in
theorem bucket_any (s : ByteArray) (w : World) (hs : s.size ≤ 1099511627776) : Calls Try.prog 34 #[.string s] w fun e w' => e = .returned (.int .i64 (bktOf s : Nat)) ∧ Below w.heap.size w w' := by
  have HS := Lib.hid (fun W => shaSum_any s W hs)
  obtain ⟨b, l, hbl⟩ := sum_cons s
  have HB : Hid (bktOf s = b.toNat / 4) := Lib.hid (by unfold bktOf top; rw [hbl]; rfl)
  rw [hbl] at HS
  clear hbl
  have h0 : 0 < (bs (b :: l)).size := by rw [bs_size]; simp
  have HX : Hid (wrap64 ((bs (b :: l))[0]'h0).toNat / 4 = ((b.toNat / 4 : Nat) : Int)) := Lib.hid (by
    have : ((bs (b :: l))[0]'h0) = b := rfl
    rw [this]
    have hw : wrap64 (b.toNat : Int) = b.toNat := wrap_byte b
    rw [hw]; rfl)
  go_enter Try.func34, Try.ntmps34
  go_wp2_with fail
  refine (HS.out _).mono ?_
  rintro e w1 ⟨rfl, hb1⟩
  go_wp2
  go_ret
  exact ⟨by rw [HB.out]; exact congrArg (fun x => Ending.returned (.int .i64 x)) HX.out, hb1⟩
set_option maxRecDepth 100000 in
theorem rbucket_any (s : ByteArray) (w : World) (hs : s.size ≤ 1099511627776) : Calls Try.prog 35 #[.string s] w fun e w' => e = .returned (.int .i64 (bktOf s : Nat)) ∧ Below w.heap.size w w' := by
  have HS := Lib.hid (fun W => refSum_any s W hs)
  obtain ⟨b, l, hbl⟩ := sum_cons s
  have HB : Hid (bktOf s = b.toNat / 4) := Lib.hid (by unfold bktOf top; rw [hbl]; rfl)
  rw [hbl] at HS
  clear hbl
  have h0 : 0 < (bs (b :: l)).size := by rw [bs_size]; simp
  have HX : Hid (wrap64 ((bs (b :: l))[0]'h0).toNat / 4 = ((b.toNat / 4 : Nat) : Int)) := Lib.hid (by
    have : ((bs (b :: l))[0]'h0) = b := rfl
    rw [this]
    have hw : wrap64 (b.toNat : Int) = b.toNat := wrap_byte b
    rw [hw]; rfl)
  go_enter Try.func35, Try.ntmps35
  go_wp2_with fail
  refine (HS.out _).mono ?_
  rintro e w1 ⟨rfl, hb1⟩
  go_wp2
  go_ret
  exact ⟨by rw [HB.out]; exact congrArg (fun x => Ending.returned (.int .i64 x)) HX.out, hb1⟩
end Go.Proofs.Ytgmafnpkhmlnnaa
