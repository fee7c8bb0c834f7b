/- Names and paths: what name.Is and the document's Is return, for every text; a path of four texts. -/
import Derived.Test.YtlmplibdfhamjaaEnt
import Derived.Test.YtlmplibdfhamjaaJoin
import Derived.Laws.RangeAny
namespace Go.Proofs.Ytlmplibdfhamjaa
open Go.RowKit Go.Mem
set_option linter.unusedVariables false

/-- may a name have a letter? -/
def letB (c : UInt8) : Bool := (decide (97 ≤ c.toNat) && decide (c.toNat ≤ 122)) || (decide (48 ≤ c.toNat) && decide (c.toNat ≤ 57)) || decide (c.toNat = 45)
def letR (r : Int) : Bool := (decide (97 ≤ r) && decide (r ≤ 122)) || (decide (48 ≤ r) && decide (r ≤ 57)) || decide (r = 45)
theorem letR_byte (c : UInt8) : letR (c.toNat : Int) = letB c := by
  unfold letR letB
  rw [Bool.eq_iff_iff]; simp; omega
theorem letR_high (r : Int) (h : 128 ≤ r) : letR r = false := by
  unfold letR; rw [← Bool.not_eq_true]; simp; omega
theorem letB_high (c : UInt8) (h : 128 ≤ c.toNat) : letB c = false := by
  unfold letB; rw [← Bool.not_eq_true]; simp; omega
/-- is a text a name? -/
def nameB (s : ByteArray) : Bool := decide (1 ≤ s.size) && decide (s.size ≤ 16) && s.data.toList.all letB
theorem nameB_size {s : ByteArray} (h : nameB s = true) : 1 ≤ s.size ∧ s.size ≤ 16 := by
  unfold nameB at h; simp at h; omega
theorem nameB_long {s : ByteArray} (h : 16 < s.size) : nameB s = false := by
  rw [← Bool.not_eq_true]; intro hn; have := nameB_size hn; omega
theorem nameB_none {s : ByteArray} (h : s.size = 0) : nameB s = false := by
  rw [← Bool.not_eq_true]; intro hn; have := nameB_size hn; omega
theorem nameB_at {s : ByteArray} {k : Nat} (hk : k < s.size) (h : letB s[k] = false) : nameB s = false := by
  rw [← Bool.not_eq_true]; intro hn
  unfold nameB at hn
  rw [Bool.and_eq_true, List.all_eq_true] at hn
  have := hn.2 s[k] (by rw [show s[k] = s.data.toList[k]'(by simpa using hk) from rfl]; exact List.getElem_mem _)
  rw [h] at this; cases this
theorem nameB_all {s : ByteArray} (h1 : 1 ≤ s.size) (h2 : s.size ≤ 16) (h : ∀ c ∈ s.data.toList.take s.size, letB c = true) : nameB s = true := by
  unfold nameB
  have : s.data.toList.take s.size = s.data.toList := List.take_of_length_le (by simp)
  rw [this] at h
  rw [List.all_eq_true.2 h]
  simp [h1, h2]
theorem take_mem_byte {s : ByteArray} {k : Nat} (hk : k < s.size) (c : UInt8) : c ∈ s.data.toList.take (k + 1) ↔ c ∈ s.data.toList.take k ∨ c = s[k] := by
  rw [List.take_succ_eq_append_getElem (by simpa using hk), List.mem_append, List.mem_singleton]
  rfl

set_option maxRecDepth 100000 in
set_option maxHeartbeats 1000000 in
theorem isLetter_any (r : Int) (w : World) : Calls Try.prog 115 #[.int .i32 r] w fun e w' => e = .returned (.bool (letR r)) ∧ w = w' := by
  go_enter Try.func115, Try.ntmps115
  go_wp2
  all_goals
    go_ret
    refine ⟨ret_bool ?_, rfl⟩
    unfold letR
    rw [Bool.eq_iff_iff]; simp; omega

theorem empty_toList {s : ByteArray} : (s.toList.isEmpty = true) ↔ s.size = 0 := by
  rw [ByteArray.toList_eq, List.isEmpty_iff]
  constructor
  · intro h; have := congrArg List.length h; simpa using this
  · intro h; exact List.eq_nil_of_length_eq_zero (by simpa using h)

set_option maxRecDepth 100000 in
set_option maxHeartbeats 1000000 in
theorem isName_any (s : ByteArray) (w : World) (hs : s.size ≤ maxLen) : Calls Try.prog 72 #[.string s] w fun e w' => e = .returned (.bool (nameB s)) ∧ Below w.heap.size w w' := by
  unfold maxLen at hs
  by_cases h0 : s.size = 0
  · have he : s.toList.isEmpty = true := empty_toList.2 h0
    have HN := Lib.hid (nameB_none h0)
    clear h0
    go_enter Try.func72, Try.ntmps72
    go_wp2
    go_ret
    exact ⟨ret_bool HN.out.symm, Below.refl _ _⟩
  have he : s.toList.isEmpty = false := by rw [← Bool.not_eq_true]; exact fun h => h0 (empty_toList.1 h)
  by_cases h16 : 16 < s.size
  · have HN := Lib.hid (nameB_long h16)
    clear h0
    go_enter Try.func72, Try.ntmps72
    go_wp2
    go_ret
    exact ⟨ret_bool HN.out.symm, Below.refl _ _⟩
  go_enter Try.func72, Try.ntmps72
  go_wp2
  go_loopw [4] (fun c w' => ∃ pos : Nat, pos ≤ s.size ∧ w' = w.iter s pos ∧ Hid (∀ c ∈ s.data.toList.take pos, letB c = true)) (fun _ w' => s.size - w'.iterPos w.heap.size)
  case atStart => exact ⟨0, Nat.zero_le _, rfl, Lib.hid (by simp)⟩
  case round =>
    obtain ⟨pos, hp, rfl, HA⟩ := hrel
    by_cases hlt : pos < s.size
    · by_cases ha : (s[pos]'hlt).toNat < 128
      · have hnx : ∀ ty, (Instr.next (.pointer (some ⟨w.heap.size, 0, none⟩)) true ty).run Try.prog (w.iter s pos) = _ := fun ty => run_next_ascii w s pos ty hlt ha
        have HT := Lib.hid (take_mem_byte hlt)
        have HF := Lib.hid (fun h => nameB_at hlt h)
        generalize (s[pos]'hlt) = c at *
        go_wp2_with fail
        refine (isLetter_any _ _).mono ?_
        rintro e w1 ⟨rfl, rfl⟩
        rw [letR_byte]
        generalize hc : letB c = lc
        have HC := Lib.hid hc; clear hc hnx
        cases lc
        · go_wp2
          go_ret
          exact ⟨ret_bool (HF.out HC.out).symm, (Below.refl _ _).alloc (Nat.le_refl _) _⟩
        · go_wp2
          go_roundw
          case rel => exact ⟨pos + 1, by omega, rfl, Lib.hid fun x hx => by
            rcases (HT.out x).1 hx with h | rfl
            · exact HA.out x h
            · exact HC.out⟩
          case measure => simp; omega
      · have hnx : ∀ ty, (Instr.next (.pointer (some ⟨w.heap.size, 0, none⟩)) true ty).run Try.prog (w.iter s pos) = _ := fun ty => run_next_any w s pos ty hlt
        have HF := Lib.hid (nameB_at hlt (letB_high _ (by omega)))
        have hh := (decode_high s pos hlt (by omega)).1
        generalize (Utf8.decode s pos).1 = r at *
        generalize (Utf8.decode s pos).2 = q at *
        go_wp2_with fail
        refine (isLetter_any _ _).mono ?_
        rintro e w1 ⟨rfl, rfl⟩
        rw [letR_high _ (by omega)]
        go_wp2
        go_ret
        exact ⟨ret_bool HF.out.symm, (Below.refl _ _).alloc (Nat.le_refl _) _⟩
    · obtain rfl : pos = s.size := by omega
      have hnx : ∀ ty, (Instr.next (.pointer (some ⟨w.heap.size, 0, none⟩)) true ty).run Try.prog (w.iter s s.size) = _ := fun ty => run_next_end w s s.size ty hlt
      go_wp2
      go_ret
      exact ⟨ret_bool (nameB_all (by omega) (by omega) HA.out).symm, (Below.refl _ _).alloc (Nat.le_refl _) _⟩

set_option maxRecDepth 100000 in
set_option maxHeartbeats 1000000 in
theorem refIs_any (s : ByteArray) (w : World) (hs : s.size ≤ maxLen) : Calls Try.prog 74 #[.string s] w fun e w' => e = .returned (.bool (nameB s)) ∧ w = w' := by
  unfold maxLen at hs
  go_enter Try.func74, Try.ntmps74
  go_wp2
  go_loop [3] (fun i => ∃ k : Nat, k ≤ s.size ∧ i = .int .i64 k ∧ Hid (∀ c ∈ s.data.toList.take k, letB c = true)) (fun i => s.size - (intOf i).toNat)
  case atStart => exact ⟨0, Nat.zero_le _, rfl, Lib.hid (by simp)⟩
  case round =>
    obtain ⟨k, hk, rfl, HA⟩ := hrel
    by_cases hlt : k < s.size
    · have HT := Lib.hid (take_mem_byte hlt)
      have HF := Lib.hid (fun h => nameB_at hlt h)
      go_wp2
      all_goals first
        | (go_ret
           exact ⟨ret_bool (HF.out (by unfold letB; rw [← Bool.not_eq_true]; simp_all; omega)).symm, rfl⟩)
        | (go_round
           case rel => exact ⟨k + 1, by omega, by go_num, Lib.hid fun x hx => by
             rcases (HT.out x).1 hx with h | rfl
             · exact HA.out x h
             · unfold letB; simp_all; omega⟩
           case measure => simp [intOf]; omega)
    · obtain rfl : k = s.size := by omega
      by_cases h1 : 1 ≤ s.size
      · by_cases h16 : s.size ≤ 16
        · have HN := Lib.hid (nameB_all h1 h16 HA.out)
          have hd : decide ((s.size : Int) ≤ 16) = true := by simp; omega
          go_wp2
          go_ret
          exact ⟨ret_bool HN.out.symm, rfl⟩
        · have HN := Lib.hid (nameB_long (by omega : 16 < s.size))
          have hd : decide ((s.size : Int) ≤ 16) = false := by simp; omega
          go_wp2
          go_ret
          exact ⟨ret_bool HN.out.symm, rfl⟩
      · have HN := Lib.hid (nameB_none (by omega : s.size = 0))
        go_wp2
        go_ret
        exact ⟨ret_bool HN.out.symm, rfl⟩
end Go.Proofs.Ytlmplibdfhamjaa
