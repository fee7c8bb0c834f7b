/- The walk of OctetReads. -/
import Derived.Test.YtgmafnpkhmlnnaaOctY
namespace Go.Mem
theorem own_max {w : World} {base : Nat} {e : TypeId} {sz n : Nat} {v : Value} {cs : List Value} (h : w.ownsRow base e sz v n cs) : n ≤ maxLen := by
  rcases h.2 with ⟨_, h0⟩ | ⟨g, cap, cur, hv, hb, hh, hc, hm, _⟩
  · omega
  · omega
theorem quiet_left {P : Program} {f : FuncId} {args : Array Value} {w : World} {n : Nat} {v : Value} (h : Calls P f args (w.drewN n) fun e w' => e = .returned v ∧ w.drewN n = w') : Calls P f args (w.drewN n) fun e w'' => e = .returned v ∧ ∃ m, w'' = w.drewN m :=
  h.mono fun _ _ ⟨he, hm⟩ => ⟨he, n, hm.symm⟩
end Go.Mem
namespace Go.Proofs.Ytgmafnpkhmlnnaa
open Go.RowKit Go.Mem Go.Num
set_option linter.unusedVariables false
theorem sev_len (n : Nat) (st : St) : (sev n st).2.1.length ≤ st.1.length := by
  induction n generalizing st with
  | zero => exact Nat.le_refl _
  | succ n ih =>
    unfold sev
    split
    · exact Nat.le_trans (ih _) (rdText_len st).1
    · exact Nat.le_refl _
theorem rdTexts_len (st : St) : (rdTexts st).2.1.length ≤ st.1.length := Nat.le_trans (sev_len _ _) (rdCount_len _ _)
theorem txs_map (ts : List (List UInt8)) : txs ts = (ts.map bs).map Value.string := by simp [txs]

end Go.Proofs.Ytgmafnpkhmlnnaa
