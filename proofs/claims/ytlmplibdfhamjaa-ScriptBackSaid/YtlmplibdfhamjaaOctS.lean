/- octet.Reader's methods. -/
import Derived.Test.YtlmplibdfhamjaaOctR
import Derived.Lib.ConvBytes
namespace Go.Mem
open Go.RowKit
/-- '[]byte(s)' -/
theorem run_bytes {P : Program} (w : World) (src dst e : TypeId) (s : ByteArray) (hs : P.underlying src = some .string) (hd : P.underlying dst = some (.slice e)) (he : P.underlying e = some (.int .u8)) :
    ∃ cap w2, (convert src dst (.string s)).run P w = .ok (.slice (some ⟨w.heap.size, 0, none⟩) s.size cap) w2 ∧ Rd w2 (some ⟨w.heap.size, 0, none⟩) (s.data.toList.map fun b => Value.int .u8 b.toNat) ∧ Below w.heap.size w w2 := by
  refine ⟨_, _, Lib.run_convert_string_bytes w src dst e s hs hd he, ?_, ?_⟩
  · intro j u hj
    refine ⟨_, _, rfl, ?_⟩
    have hlt : j < s.size := by
      have := (List.getElem?_eq_some_iff.1 hj).1
      simpa using this
    rw [Nat.zero_add, Lib.bytesWorld_cell w e s j hlt]
    rw [List.getElem?_map, List.getElem?_eq_getElem (by simpa using hlt)] at hj
    simp at hj
    rw [← hj]
    congr 2
    have hlt' : j < s.data.toList.length := by simpa using hlt
    simp [List.getD, hlt]
  · refine ⟨?_, ?_, ?_, ?_, fun i hi => Lib.bytesWorld_at_old w e s i hi⟩
    · simp [Lib.bytesWorld, World.freeze]; rfl
    · simp [Lib.bytesWorld, World.freeze]
    · simp [Lib.bytesWorld, World.freeze]; rfl
    · rw [Lib.bytesWorld_size]; omega
end Go.Mem
namespace Go.Proofs.Ytlmplibdfhamjaa
open Go.RowKit Go.Mem Go.Num
set_option linter.unusedVariables false

theorem wrap64_eq (n : Int) : wrap64 n = IntKind.i64.wrap n := by rw [IntKind.wrap_i64, wrap64]
set_option maxRecDepth 100000 in
set_option maxHeartbeats 1000000 in
theorem number_any (b k : Nat) (st : St) (w : World) (h : RdO b st w) (hk : k ≤ 8) (hs : st.1.length ≤ 140737488355328) :
    Calls Try.prog 127 #[.pointer (some ⟨b, 0, none⟩), .int .i64 k] w fun e w' => e = .returned (.int .i64 (rdNum k st).1) ∧ RdO b (rdNum k st).2 w' ∧ Only b w w' := by
  have hl8 := tk_fst_len k st
  have hta := take_any b k st w h (by omega) hs
  unfold rdNum
  generalize tk k st = r at hl8 hta ⊢
  obtain ⟨l, st'⟩ := r
  simp only at hl8 hta ⊢
  have hts := bs_size l
  have htl := bs_toList l
  generalize bs l = t at hts htl hta
  have HTA := Lib.hid hta; clear hta
  have htl8 : t.size ≤ 8 := by omega
  generalize hm : t.size = m at hts htl8
  have HM := Lib.hid hm; have HTS := Lib.hid hts.symm; have HTL := Lib.hid htl; clear hts htl hm
  go_enter Try.func127, Try.ntmps127
  go_wp2_with fail
  refine HTA.out.mono ?_
  rintro e w1 ⟨rfl, h1, ho1⟩
  obtain ⟨cap, w2, hcv, hrd, hb2⟩ := run_bytes (P := Try.prog) w1 9 61 5 t Try.underlying9 Try.underlying61 Try.underlying5
  rw [HTL.out] at hrd
  rw [HM.out] at hcv
  go_wp2
  clear hcv
  have h2 := h1.below hb2
  have ho2 := ho1.below hb2
  clear h1 ho1 h
  go_loop [5, 13] (fun a i => ∃ j : Nat, j ≤ m ∧ i = .int .i64 j ∧ a = .int .i64 (num (l.take j))) (fun _ i => m - (intOf i).toNat)
  case atStart => exact ⟨0, Nat.zero_le _, rfl, rfl⟩
  case round =>
    obtain ⟨j, hj, rfl, rfl⟩ := hrel
    by_cases hlt : j < m
    · have hx : j < l.length := by have := HTS.out; omega
      obtain ⟨b', off, e, hcell⟩ := hrd.at_ j (by simp; exact hx)
      injection e with e
      injection e with e1 e2
      subst e1 e2
      simp only [List.getElem_map, Nat.zero_add] at hcell
      have hsn := num_snoc (l.take j) l[j]
      rw [← List.take_succ_eq_append_getElem hx] at hsn
      have hor := or_byte (num (l.take j)) l[j]
      generalize l[j] = c at hcell hsn hor
      generalize num (l.take j) = a at hsn hor
      have hc256 : (c.toNat : Int) < 256 := by have := UInt8.toNat_lt c; omega
      have HSN := Lib.hid hsn; have HOR := Lib.hid hor; clear hsn hor
      go_wp2
      go_round
      case rel => exact ⟨j + 1, by omega, by go_num, by rw [HSN.out, wrap64_eq]; exact congrArg (Value.int .i64) HOR.out⟩
      case measure => simp [intOf]; omega
    · obtain rfl : j = m := by omega
      rw [List.take_of_length_le (by have := HTS.out; omega)]
      go_wp2
      go_ret
      exact ⟨rfl, h2, ho2⟩

theorem rdNum_len (k : Nat) (st : St) : (rdNum k st).2.1.length ≤ st.1.length := (tk_len k st).1
theorem rByte_any (b : Nat) (st : St) (w : World) (h : RdO b st w) (hs : st.1.length ≤ 140737488355328) :
    Calls Try.prog 96 #[.pointer (some ⟨b, 0, none⟩)] w fun e w' => e = .returned (.int .i64 (rdNum 1 st).1) ∧ RdO b (rdNum 1 st).2 w' ∧ Only b w w' := by
  go_enter Try.func96, Try.ntmps96
  go_wp2_with fail
  refine (number_any b 1 st _ h (by omega) hs).mono ?_
  rintro e w1 ⟨rfl, h1, ho1⟩
  go_wp2
  go_ret
  exact ⟨rfl, h1, ho1⟩
theorem rInt_any (b : Nat) (st : St) (w : World) (h : RdO b st w) (hs : st.1.length ≤ 140737488355328) :
    Calls Try.prog 97 #[.pointer (some ⟨b, 0, none⟩)] w fun e w' => e = .returned (.int .i64 (rdNum 8 st).1) ∧ RdO b (rdNum 8 st).2 w' ∧ Only b w w' := by
  go_enter Try.func97, Try.ntmps97
  go_wp2_with fail
  refine (number_any b 8 st _ h (by omega) hs).mono ?_
  rintro e w1 ⟨rfl, h1, ho1⟩
  go_wp2
  go_ret
  exact ⟨rfl, h1, ho1⟩
set_option maxRecDepth 100000 in
theorem rCount_any (b : Nat) (most : Int) (st : St) (w : World) (h : RdO b st w) (hs : st.1.length ≤ 140737488355328) :
    Calls Try.prog 90 #[.pointer (some ⟨b, 0, none⟩), .int .i64 most] w fun e w' => e = .returned (.int .i64 (rdCount most st).1) ∧ RdO b (rdCount most st).2 w' ∧ Only b w w' := by
  have hta := number_any b 4 st w h (by omega) hs
  unfold rdCount
  generalize rdNum 4 st = r at hta ⊢
  obtain ⟨n, st'⟩ := r
  have HTA := Lib.hid hta; clear hta
  simp only
  by_cases hm : most < n
  · rw [if_pos hm]
    go_enter Try.func90, Try.ntmps90
    go_wp2_with fail
    refine HTA.out.mono ?_
    rintro e w1 ⟨rfl, h1, ho1⟩
    go_wp2_with fail
    refine (spoil_any b _ _ _ h1 ⟨_, rfl⟩).mono ?_
    rintro e w2 ⟨rfl, rfl⟩
    go_wp2
    go_ret
    exact ⟨rfl, h1.set1 _, ho1.set _ _⟩
  · rw [if_neg hm]
    go_enter Try.func90, Try.ntmps90
    go_wp2_with fail
    refine HTA.out.mono ?_
    rintro e w1 ⟨rfl, h1, ho1⟩
    go_wp2
    go_ret
    exact ⟨rfl, h1, ho1⟩
theorem rdCount_len (most : Int) (st : St) : (rdCount most st).2.1.length ≤ st.1.length := by
  unfold rdCount
  split
  · exact rdNum_len 4 st
  · exact rdNum_len 4 st
theorem rdText_len (st : St) : (rdText st).2.1.length ≤ st.1.length ∧ (rdText st).1.length ≤ st.1.length := by
  have h1 := rdCount_len 1048576 st
  have h2 := tk_len (rdCount 1048576 st).1.toNat (rdCount 1048576 st).2
  exact ⟨Nat.le_trans h2.1 h1, Nat.le_trans h2.2 h1⟩
set_option maxRecDepth 100000 in
theorem rText_any (b : Nat) (st : St) (w : World) (h : RdO b st w) (hs : st.1.length ≤ 140737488355328) :
    Calls Try.prog 95 #[.pointer (some ⟨b, 0, none⟩)] w fun e w' => e = .returned (.string (bs (rdText st).1)) ∧ RdO b (rdText st).2 w' ∧ Only b w w' := by
  have hta := rCount_any b 1048576 st w h hs
  have hlen := rdCount_len 1048576 st
  have hra := rdCount_range 1048576 st
  unfold rdText
  generalize rdCount 1048576 st = r at hta hlen hra ⊢
  obtain ⟨n, st'⟩ := r
  simp only at hlen hra hta ⊢
  obtain ⟨n, rfl⟩ := Int.eq_ofNat_of_zero_le hra.1
  rw [Int.toNat_natCast]
  have hn := hra.2.2 (by omega)
  clear hra
  have HTA := Lib.hid hta; clear hta
  go_enter Try.func95, Try.ntmps95
  go_wp2_with fail
  refine HTA.out.mono ?_
  rintro e w1 ⟨rfl, h1, ho1⟩
  go_wp2_with fail
  refine (take_any b n st' _ h1 (by omega) (by omega)).mono ?_
  rintro e w2 ⟨rfl, h2, ho2⟩
  go_wp2
  go_ret
  exact ⟨rfl, h2, ho1.then_ ho2⟩
theorem rBad_any (b : Nat) (st : St) (w : World) (h : RdO b st w) :
    Calls Try.prog 48 #[.pointer (some ⟨b, 0, none⟩)] w fun e w' => e = .returned (.bool (!st.2)) ∧ w = w' := by
  have c1 := Two.c1 h
  generalize st.2 = g at c1 ⊢
  go_enter Try.func48, Try.ntmps48
  go_wp2
  go_ret
  exact ⟨rfl, rfl⟩
def rdDone (st : St) : Bool := st.2 && st.1.isEmpty
theorem bs_nil_beq (s : List UInt8) : ((bs s).toList == (⟨#[]⟩ : ByteArray).toList) = s.isEmpty := by
  rw [str_beq, Bool.eq_iff_iff, decide_eq_true_eq, List.isEmpty_iff]
  constructor
  · intro h
    exact bs_inj (h.trans rfl)
  · rintro rfl; rfl
set_option maxRecDepth 100000 in
theorem rDone_any (b : Nat) (st : St) (w : World) (h : RdO b st w) :
    Calls Try.prog 49 #[.pointer (some ⟨b, 0, none⟩)] w fun e w' => e = .returned (.bool (rdDone st)) ∧ w = w' := by
  have c0 := Two.c0 h
  have hta := rBad_any b st w h
  obtain ⟨s, g⟩ := st
  unfold rdDone
  simp only at c0 hta ⊢
  have hnb := bs_nil_beq s
  generalize bs s = t at c0 hnb
  have HTA := Lib.hid hta; clear hta
  go_enter Try.func49, Try.ntmps49
  go_wp2_with fail
  refine HTA.out.mono ?_
  rintro e w1 ⟨rfl, rfl⟩
  cases g
  · have HNB := Lib.hid hnb; clear hnb
    go_wp2
    go_ret
    exact ⟨rfl, rfl⟩
  · go_wp2
    go_ret
    exact ⟨ret_bool (by simpa using hnb), rfl⟩
end Go.Proofs.Ytlmplibdfhamjaa
