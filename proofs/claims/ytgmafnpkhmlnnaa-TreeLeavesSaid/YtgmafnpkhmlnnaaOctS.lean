/- octet.Reader's methods. -/
import Derived.Test.YtgmafnpkhmlnnaaOctR
import Derived.Lib.ConvBytes
namespace Go.Mem
open Go.RowKit
/-- '[]byte(s)' -/
theorem run_bytes {P : Program} (w : World) (src dst e : TypeId) (s : ByteArray) (hs : P.underlying src = some .string) (hd : P.underlying dst = some (.slice e)) (he : P.underlying e = some (.int .u8)) :
    ∃ cap w2, (convert src dst (.string s)).run P w = .ok (.slice (some ⟨w.heap.size, 0, none⟩) s.size cap) w2 ∧ Rd w2 (some ⟨w.heap.size, 0, none⟩) (s.data.toList.map fun b => Value.int .u8 b.toNat) ∧ Below w.heap.size w w2 := by
  refine ⟨_, _, Lib.run_convert_string_bytes w src dst e s hs hd he, ?_, ?_⟩
  · intro j u hj
    refine ⟨_, _, rfl, ?_⟩
    have hlt : j < s.size := by
      have := (List.getElem?_eq_some_iff.1 hj).1
      simpa using this
    rw [Nat.zero_add, Lib.bytesWorld_cell w e s j hlt]
    rw [List.getElem?_map, List.getElem?_eq_getElem (by simpa using hlt)] at hj
    simp at hj
    rw [← hj]
    congr 2
    have hlt' : j < s.data.toList.length := by simpa using hlt
    simp [List.getD, hlt]
  · refine ⟨?_, ?_, ?_, ?_, fun i hi => Lib.bytesWorld_at_old w e s i hi⟩
    · simp [Lib.bytesWorld, World.freeze]; rfl
    · simp [Lib.bytesWorld, World.freeze]
    · simp [Lib.bytesWorld, World.freeze]; rfl
    · rw [Lib.bytesWorld_size]; omega
end Go.Mem
namespace Go.Proofs.Ytgmafnpkhmlnnaa
open Go.RowKit Go.Mem Go.Num
set_option linter.unusedVariables false

theorem wrap64_eq (n : Int) : wrap64 n = IntKind.i64.wrap n := by rw [IntKind.wrap_i64, wrap64]
theorem rdNum_len (k : Nat) (st : St) : (rdNum k st).2.1.length ≤ st.1.length := (tk_len k st).1
theorem rdCount_len (most : Int) (st : St) : (rdCount most st).2.1.length ≤ st.1.length := by
  unfold rdCount
  split
  · exact rdNum_len 4 st
  · exact rdNum_len 4 st
theorem rdText_len (st : St) : (rdText st).2.1.length ≤ st.1.length ∧ (rdText st).1.length ≤ st.1.length := by
  have h1 := rdCount_len 1048576 st
  have h2 := tk_len (rdCount 1048576 st).1.toNat (rdCount 1048576 st).2
  exact ⟨Nat.le_trans h2.1 h1, Nat.le_trans h2.2 h1⟩
def rdDone (st : St) : Bool := st.2 && st.1.isEmpty
theorem bs_nil_beq (s : List UInt8) : ((bs s).toList == (⟨#[]⟩ : ByteArray).toList) = s.isEmpty := by
  rw [str_beq, Bool.eq_iff_iff, decide_eq_true_eq, List.isEmpty_iff]
  constructor
  · intro h
    exact bs_inj (h.trans rfl)
  · rintro rfl; rfl
end Go.Proofs.Ytgmafnpkhmlnnaa
