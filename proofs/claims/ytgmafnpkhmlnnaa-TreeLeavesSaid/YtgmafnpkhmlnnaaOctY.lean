/- The walks of OctetNobody and OctetReads. -/
import Derived.Test.YtgmafnpkhmlnnaaOctX
namespace Go.Proofs.Ytgmafnpkhmlnnaa
open Go.RowKit Go.Mem Go.Num
set_option linter.unusedVariables false

theorem nb1 (k : Nat) (h : 0 < k) : tk k (([], false) : St) = ([], ([], false)) := by simp [tk]
theorem nbNum (k : Nat) (h : 0 < k) : rdNum k (([], false) : St) = (0, ([], false)) := by unfold rdNum; rw [nb1 k h]; rfl
theorem nbCount (m : Int) : rdCount m (([], false) : St) = (0, ([], false)) := by
  unfold rdCount
  rw [nbNum 4 (by omega)]
  split <;> rfl
theorem nbText : rdText (([], false) : St) = ([], ([], false)) := by unfold rdText; rw [nbCount]; simp [tk]
theorem nbTexts : rdTexts (([], false) : St) = ([], ([], false)) := by unfold rdTexts; rw [nbCount]; rfl

end Go.Proofs.Ytgmafnpkhmlnnaa
