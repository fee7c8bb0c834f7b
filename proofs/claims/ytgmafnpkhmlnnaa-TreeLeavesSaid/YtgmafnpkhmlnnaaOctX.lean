/- The walks of OctetWrites and OctetNobody. -/
import Derived.Test.YtgmafnpkhmlnnaaOctW
namespace Go.Proofs.Ytgmafnpkhmlnnaa
open Go.RowKit Go.Mem Go.Num
set_option linter.unusedVariables false

theorem sumSize_le (ss : List ByteArray) (k : Nat) (h : ∀ s ∈ ss, s.size ≤ k) : sumSize ss ≤ ss.length * k := by
  induction ss with
  | nil => simp [sumSize]
  | cons s ss ih =>
    have h1 := h s (by simp)
    have h2 := ih (fun x hx => h x (by simp [hx]))
    simp only [sumSize, List.map_cons, List.sum_cons, List.length_cons] at *
    rw [Nat.add_mul]
    omega
theorem rd_lt {w : World} {A : Option Addr} {ss : List ByteArray} (hr : Rd w A (ss.map Value.string)) (hne : 0 < ss.length) : ∀ ad, A = some ad → ad.block < w.heap.size := by
  intro ad hA
  obtain ⟨b, off, e, hc⟩ := hr.at_ 0 (by simpa using hne)
  rw [e] at hA
  injection hA with hA
  subst hA
  exact World.block_lt_of_cell? w _ hc

end Go.Proofs.Ytgmafnpkhmlnnaa
