/- octet.Reader's lists of texts; the document's reader. -/
import Derived.Test.YtlmplibdfhamjaaOctS
namespace Go.Mem
theorem own_only {w w' : World} {base b : Nat} {e : TypeId} {sz n : Nat} {v : Value} {cs : List Value} (h : w.ownsRow base e sz v n cs) (hb : b < base) (hg : w.grownBy w' (some b)) : w'.ownsRow base e sz v n cs := by
  obtain ⟨h1, h2⟩ := h
  refine ⟨h1, ?_⟩
  rcases h2 with h2 | ⟨g, cap, cur, hv, hg0, hh, r⟩
  · exact .inl h2
  · have hlt : g < w.heap.size := (Array.getElem?_eq_some_iff.1 hh).1
    exact .inr ⟨g, cap, cur, hv, hg0, (hg.block g hlt (fun e => by injection e; omega)).trans hh, r⟩
end Go.Mem
namespace Go.Proofs.Ytlmplibdfhamjaa
open Go.RowKit Go.Mem Go.Num
set_option linter.unusedVariables false
theorem elStr : Elem Try.prog 148 9 1 16 := Elem.of Try.underlying148 (by kernel_rfl : (Try.prog.info? 9).map (fun i => (i.zero, i.size, i.bytes)) = some (some (.string ⟨#[]⟩), 1, 16)) rfl (by omega)
theorem enter_rText (args : Array Value) (W : World) : Sem.run Try.prog (callFunc 95 args) W = .ok (.enter 95 args) W := by kernel_rfl
/-- a slice of texts of its own -/
def txs (l : List (List UInt8)) : List Value := l.map fun t => Value.string (bs t)
theorem one_txs (t : List UInt8) : ∀ u ∈ [Value.string (bs t)], u.oneCell' = true := by intro u hu; simp at hu; subst hu; rfl
theorem sev_step (n : Nat) (st : St) (h : st.2 = true) : sev (n + 1) st = ((rdText st).1 :: (sev n (rdText st).2).1, (sev n (rdText st).2).2) := by simp [sev, h]
theorem sev_bad (n : Nat) (st : St) (h : st.2 = false) : sev n st = ([], st) := by cases n <;> simp [sev, h]
/-- a call that hands back texts of its own, and turns a reader's block alone -/
def GivesR (b : Nat) (R : Nat → St → World → Prop) (ts : List (List UInt8)) (st : St) (w : World) (e : Ending) (w' : World) : Prop := ∃ v, e = .returned v ∧ w'.ownsRow w.heap.size 9 1 v ts.length (txs ts) ∧ R b st w' ∧ Only b w w'

end Go.Proofs.Ytlmplibdfhamjaa
