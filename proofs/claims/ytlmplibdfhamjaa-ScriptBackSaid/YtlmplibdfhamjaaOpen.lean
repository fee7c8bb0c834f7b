/- Words of my own for arguments: structs and arrays by value. No program in sight. -/
import Derived.OpenShut
import Derived.Test.YtlmplibdfhamjaaMem
namespace Go.Mem
set_option linter.unusedVariables false
open Go.RowKit Go.ChangeShapes Go.WideShapes
section
variable {H : Type} {enc : TypeId × Value → H} {P : Program} {w : World}
theorem is_array {t e : TypeId} {n : Nat} {cs : List Value} (ht : P.underlying t = some (.array n e)) (h : Is enc P w t cs) :
    cs.length = P.cellsOf t ∧ ∀ i, i < n → Is enc P w e ((cs.drop (i * P.cellsOf e)).take (P.cellsOf e)) := by
  obtain ⟨fu, x, hf⟩ := h
  obtain ⟨xs, m, _, _, hl, hx, hat⟩ := DataW.trod_array ht hf
  refine ⟨hl, fun i hi => ?_⟩
  have := hat i hi
  have hi' : i < xs.length := by omega
  rw [List.getElem?_eq_getElem hi'] at this
  exact ⟨m, _, this⟩
theorem open_struct {T : Type} {f : T → Array Value} {ok : T → Prop} {t : TypeId} {fs : Array Field} {v : Value} {d : DataW H} {p : List MemPlace} {r : Reach} {b0 : Nat} (ht : P.underlying t = some (.struct fs))
    (hel : ∀ cs, Is enc P w t cs → ∃ m, cs = (f m).toList ∧ ok m) (hv : Value.okWide P w r b0 t v) (h : DataW.Trod enc P w 0 (fun _ => true) true t v d p) : ∃ m, v = .agg (f m) ∧ ok m := by
  obtain ⟨cs, rfl, _⟩ := okWide_struct ht hv
  obtain ⟨m, h1, h2⟩ := hel _ (is_of h)
  refine ⟨m, ?_, h2⟩
  rw [show (Value.agg cs).cells = cs from rfl] at h1
  rw [Array.toList_inj.1 h1]
theorem open_array {T : Type} {f : T → Array Value} {ok : T → Prop} {t e : TypeId} {n : Nat} {v : Value} {d : DataW H} {p : List MemPlace} {r : Reach} {b0 : Nat} (ht : P.underlying t = some (.array n e))
    (hel : ∀ cs, Is enc P w t cs → ∃ m, cs = (f m).toList ∧ ok m) (hv : Value.okWide P w r b0 t v) (h : DataW.Trod enc P w 0 (fun _ => true) true t v d p) : ∃ m, v = .agg (f m) ∧ ok m := by
  obtain ⟨cs, rfl, _⟩ : ∃ cs, v = .agg cs ∧ cs.size = P.cellsOf t := by
    simp only [Value.okWide, ht] at hv
    obtain ⟨cs, h1, h2, _⟩ := hv
    exact ⟨cs, h1, h2⟩
  obtain ⟨m, h1, h2⟩ := hel _ (is_of h)
  refine ⟨m, ?_, h2⟩
  rw [show (Value.agg cs).cells = cs from rfl] at h1
  rw [Array.toList_inj.1 h1]
/-- a []string among cells -/
theorem is_strs {t e : TypeId} {cs : List Value} (ht : P.underlying t = some (.slice e)) (he : P.underlying e = some .string) (h : Is enc P w t cs) :
    ∃ A n c, ∃ ss : List ByteArray, cs = [.slice A n c] ∧ ss.length = n ∧ Rd w A (ss.map Value.string) ∧ (∀ s ∈ ss, s.size ≤ maxLen) ∧ n ≤ c ∧ c ≤ maxLen := by
  obtain ⟨A, n, c, rows, h1, h2, h3, h4, h5, h6⟩ := is_slice ht h
  obtain ⟨ms, rfl, hms⟩ := rows_typed (f := fun s : ByteArray => [Value.string s]) (ok := fun s => s.size ≤ maxLen) rows (fun r hr => is_string he (h4 r hr).2)
  refine ⟨A, n, c, ms, h1, by simpa using h2, ?_, hms, h5, h6⟩
  rw [← List.flatMap_def, flatMap_one] at h3
  exact h3
theorem list1 {α : Type} {l : List α} (h : l.length = 1) : ∃ a, l = [a] := by
  match l, h with
  | [a], _ => exact ⟨a, rfl⟩
theorem cons_of {α : Type} {l : List α} {n : Nat} (h : l.length = n + 1) : ∃ a r, l = a :: r ∧ r.length = n := by
  match l, h with
  | a :: r, h => exact ⟨a, r, rfl, by simpa using h⟩
theorem nil_of {α : Type} {l : List α} (h : l.length = 0) : l = [] := List.eq_nil_of_length_eq_zero h
end
end Go.Mem
