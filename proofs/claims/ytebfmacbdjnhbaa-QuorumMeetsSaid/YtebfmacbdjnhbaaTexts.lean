/- Small functions on lists of texts, of the references: what each returns, for every argument. -/
import Derived.Test.YtebfmacbdjnhbaaSlices
import Derived.RegionTactic
import Derived.BigRegion
import Derived.BigQuiet
import Derived.Deep.QuietTactic
import Derived.StillTailTactics
namespace Go.Proofs.Ytebfmacbdjnhbaa
open Go.RowKit Go.Mem
set_option linter.unusedVariables false

/-- two lists are the same from their heads on, so far -/
theorem take_eq_succ {T : Type} (a b : List T) (k : Nat) (h1 : k < a.length) (h2 : k < b.length) (h : a.take k = b.take k) (he : a[k] = b[k]) : a.take (k + 1) = b.take (k + 1) := by
  rw [List.take_succ_eq_append_getElem h1, List.take_succ_eq_append_getElem h2, h, he]
theorem ne_of_at {T : Type} (a b : List T) (k : Nat) (h1 : k < a.length) (h2 : k < b.length) (he : a[k] ≠ b[k]) : a ≠ b := by
  rintro rfl; exact he rfl

/-- are there few texts, of few bytes? -/
def fewT (ss : List ByteArray) (q : Nat) : Bool := (ss.take q).all (fun s => decide (s.size ≤ 100)) && decide (ss.length ≤ q)
theorem fewT_false {ss : List ByteArray} {q : Nat} : fewT ss q = false ↔ (∃ s ∈ ss.take q, 100 < s.size) ∨ q < ss.length := by
  unfold fewT
  rw [Bool.and_eq_false_iff, List.all_eq_false, decide_eq_false_iff_not, Nat.not_le]
  simp only [decide_eq_true_eq, Nat.not_le]
theorem fewT_true {ss : List ByteArray} {q : Nat} (h : fewT ss q = true) : ss.length ≤ q ∧ ∀ s ∈ ss, s.size ≤ 100 := by
  unfold fewT at h
  rw [Bool.and_eq_true, decide_eq_true_eq] at h
  refine ⟨h.2, fun s hs => ?_⟩
  rw [List.take_of_length_le h.2, List.all_eq_true] at h
  exact of_decide_eq_true (h.1 s hs)

set_option maxRecDepth 100000 in
set_option maxHeartbeats 400000 in
theorem sameTexts_any (A : Option Addr) (n c : Nat) (ss : List ByteArray) (B : Option Addr) (m d : Nat) (ts : List ByteArray) (w : World) (hr : Rd w A (ss.map Value.string)) (hn : ss.length = n) (hm : n ≤ 1000000)
    (hr' : Rd w B (ts.map Value.string)) (hn' : ts.length = m) (hm' : m ≤ 1000000) :
    Calls Try.prog 33 #[.slice A n c, .slice B m d] w fun e w' => e = .returned (.bool (decide (ss = ts))) ∧ Below w.heap.size w w' := by
  have HN := Lib.hid hn; have HN' := Lib.hid hn'; clear hn hn'
  by_cases hnm : n = m
  · subst hnm
    go_enter Try.func33, Try.ntmps33
    go_wp2
    go_loopw [5] (fun i wr => ∃ k : Nat, k ≤ n ∧ i = .int .i64 k ∧ ss.take k = ts.take k ∧ Below w.heap.size w wr) (fun i _ => n - (intOf i).toNat)
    case atStart => exact ⟨0, Nat.zero_le _, rfl, rfl, Below.refl _ _⟩
    case round =>
      obtain ⟨k, hk, rfl, heq, hbel⟩ := hrel
      have HE := Lib.hid heq; clear heq
      by_cases hlt : k < n
      · have hx : k < ss.length := by have := HN.out; omega
        have hx' : k < ts.length := by have := HN'.out; omega
        obtain ⟨b, off, rfl, hcell⟩ := (hr.below hbel).at_ k (by simp; exact hx)
        obtain ⟨b', off', rfl, hcell'⟩ := (hr'.below hbel).at_ k (by simp; exact hx')
        simp only [List.getElem_map] at hcell hcell'
        have hd : decide ((k : Int) < (n : Int)) = true := by simp; omega
        have hi0 : (0 : Int) ≤ (k : Int) := by omega
        generalize hs : ss[k] = s at hcell
        generalize ht : ts[k] = t at hcell'
        have HS := Lib.hid hs; have HT := Lib.hid ht; clear hs ht
        by_cases hst : s = t
        · have hne : (s.toList == t.toList) = true := by rw [str_beq]; simpa using hst
          have HST := Lib.hid hst; clear hst
          go_wp2
          go_quiet (fail)
          go_wp2
          go_roundw
          case rel => exact ⟨k + 1, by omega, by go_num, take_eq_succ _ _ k hx hx' HE.out (by rw [HS.out, HT.out, HST.out]), drewN_ hbel _⟩
          case measure => simp [intOf]; omega
        · have hne : (s.toList == t.toList) = false := by rw [str_beq]; simpa using hst
          go_wp2
          go_quiet (fail)
          go_wp2
          go_ret
          exact ⟨ret_bool (decide_eq_false (ne_of_at _ _ k hx hx' (by rw [HS.out, HT.out]; exact hst))).symm, drewN_ hbel _⟩
      · obtain rfl : k = n := by omega
        have hd : decide ((k : Int) < (k : Int)) = false := by simp
        go_wp2
        go_ret
        have he := HE.out
        rw [List.take_of_length_le (by rw [HN.out]; omega), List.take_of_length_le (by rw [HN'.out]; omega)] at he
        exact ⟨ret_bool (decide_eq_true he).symm, hbel⟩
  · have hd : ((n : Int) != (m : Int)) = true := by simp; omega
    go_enter Try.func33, Try.ntmps33
    go_wp2
    go_ret
    exact ⟨ret_bool (decide_eq_false (fun h => hnm (by rw [← HN.out, ← HN'.out, h]))).symm, Below.refl _ _⟩

set_option maxRecDepth 100000 in
set_option maxHeartbeats 400000 in
theorem in20_any (A : Option Addr) (n c : Nat) (ss : List ByteArray) (s : ByteArray) (w : World) (hr : Rd w A (ss.map Value.string)) (hn : ss.length = n) (hm : n ≤ maxLen) :
    Calls Try.prog 79 #[.slice A n c, .string s] w fun e w' => e = .returned (.bool (mem s ss)) ∧ w = w' := by
  unfold maxLen at hm
  have HL := Lib.hid hn; clear hn
  go_enter Try.func79, Try.ntmps79
  go_wp2
  go_loop [5] (fun i => ∃ k : Nat, k ≤ n ∧ i = .int .i64 k ∧ s ∉ ss.take k) (fun i => n - (intOf i).toNat)
  case atStart => exact ⟨0, Nat.zero_le _, rfl, by simp⟩
  case round =>
    obtain ⟨k, hk, rfl, hnot⟩ := hrel
    have HN := Lib.hid hnot; clear hnot
    by_cases hlt : k < n
    · have hx : k < ss.length := by have := HL.out; omega
      obtain ⟨b, off, rfl, hcell⟩ := hr.at_ k (by simp; exact hx)
      simp only [List.getElem_map] at hcell
      generalize hs : ss[k] = t at hcell
      have HS := Lib.hid hs; clear hs
      by_cases hst : t = s
      · have hne : (t.toList == s.toList) = true := by rw [str_beq]; simpa using hst
        have HST := Lib.hid hst; clear hst
        go_wp2
        go_ret
        exact ⟨ret_bool (by symm; rw [mem_iff, ← HST.out, ← HS.out]; exact List.getElem_mem hx), rfl⟩
      · have hne : (t.toList == s.toList) = false := by rw [str_beq]; simpa using hst
        go_wp2
        go_round
        case rel => exact ⟨k + 1, by omega, by go_num, by rw [take_succ_mem _ _ hx, HS.out]; intro h; rcases h with h | h; exact HN.out h; exact hst h.symm⟩
        case measure => simp [intOf]; omega
    · obtain rfl : k = n := by omega
      go_wp2
      go_ret
      exact ⟨ret_bool (by symm; rw [mem_false]; have := HN.out; rwa [← HL.out, List.take_length] at this), rfl⟩


set_option maxRecDepth 100000 in
set_option maxHeartbeats 400000 in
theorem in34_any (A : Option Addr) (n c : Nat) (ss : List ByteArray) (s : ByteArray) (w : World) (hr : Rd w A (ss.map Value.string)) (hn : ss.length = n) (hm : n ≤ maxLen) :
    Calls Try.prog 83 #[.slice A n c, .string s] w fun e w' => e = .returned (.bool (mem s ss)) ∧ w = w' := by
  unfold maxLen at hm
  have HL := Lib.hid hn; clear hn
  go_enter Try.func83, Try.ntmps83
  go_wp2
  go_loop [5] (fun i => ∃ k : Nat, k ≤ n ∧ i = .int .i64 k ∧ s ∉ ss.take k) (fun i => n - (intOf i).toNat)
  case atStart => exact ⟨0, Nat.zero_le _, rfl, by simp⟩
  case round =>
    obtain ⟨k, hk, rfl, hnot⟩ := hrel
    have HN := Lib.hid hnot; clear hnot
    by_cases hlt : k < n
    · have hx : k < ss.length := by have := HL.out; omega
      obtain ⟨b, off, rfl, hcell⟩ := hr.at_ k (by simp; exact hx)
      simp only [List.getElem_map] at hcell
      generalize hs : ss[k] = t at hcell
      have HS := Lib.hid hs; clear hs
      by_cases hst : t = s
      · have hne : (t.toList == s.toList) = true := by rw [str_beq]; simpa using hst
        have HST := Lib.hid hst; clear hst
        go_wp2
        go_ret
        exact ⟨ret_bool (by symm; rw [mem_iff, ← HST.out, ← HS.out]; exact List.getElem_mem hx), rfl⟩
      · have hne : (t.toList == s.toList) = false := by rw [str_beq]; simpa using hst
        go_wp2
        go_round
        case rel => exact ⟨k + 1, by omega, by go_num, by rw [take_succ_mem _ _ hx, HS.out]; intro h; rcases h with h | h; exact HN.out h; exact hst h.symm⟩
        case measure => simp [intOf]; omega
    · obtain rfl : k = n := by omega
      go_wp2
      go_ret
      exact ⟨ret_bool (by symm; rw [mem_false]; have := HN.out; rwa [← HL.out, List.take_length] at this), rfl⟩


set_option maxRecDepth 100000 in
set_option maxHeartbeats 400000 in
theorem in37_any (A : Option Addr) (n c : Nat) (ss : List ByteArray) (s : ByteArray) (w : World) (hr : Rd w A (ss.map Value.string)) (hn : ss.length = n) (hm : n ≤ maxLen) :
    Calls Try.prog 115 #[.slice A n c, .string s] w fun e w' => e = .returned (.bool (mem s ss)) ∧ w = w' := by
  unfold maxLen at hm
  have HL := Lib.hid hn; clear hn
  go_enter Try.func115, Try.ntmps115
  go_wp2
  go_loop [5] (fun i => ∃ k : Nat, k ≤ n ∧ i = .int .i64 k ∧ s ∉ ss.take k) (fun i => n - (intOf i).toNat)
  case atStart => exact ⟨0, Nat.zero_le _, rfl, by simp⟩
  case round =>
    obtain ⟨k, hk, rfl, hnot⟩ := hrel
    have HN := Lib.hid hnot; clear hnot
    by_cases hlt : k < n
    · have hx : k < ss.length := by have := HL.out; omega
      obtain ⟨b, off, rfl, hcell⟩ := hr.at_ k (by simp; exact hx)
      simp only [List.getElem_map] at hcell
      generalize hs : ss[k] = t at hcell
      have HS := Lib.hid hs; clear hs
      by_cases hst : t = s
      · have hne : (t.toList == s.toList) = true := by rw [str_beq]; simpa using hst
        have HST := Lib.hid hst; clear hst
        go_wp2
        go_ret
        exact ⟨ret_bool (by symm; rw [mem_iff, ← HST.out, ← HS.out]; exact List.getElem_mem hx), rfl⟩
      · have hne : (t.toList == s.toList) = false := by rw [str_beq]; simpa using hst
        go_wp2
        go_round
        case rel => exact ⟨k + 1, by omega, by go_num, by rw [take_succ_mem _ _ hx, HS.out]; intro h; rcases h with h | h; exact HN.out h; exact hst h.symm⟩
        case measure => simp [intOf]; omega
    · obtain rfl : k = n := by omega
      go_wp2
      go_ret
      exact ⟨ret_bool (by symm; rw [mem_false]; have := HN.out; rwa [← HL.out, List.take_length] at this), rfl⟩


set_option maxRecDepth 100000 in
set_option maxHeartbeats 400000 in
theorem in50_any (A : Option Addr) (n c : Nat) (ss : List ByteArray) (s : ByteArray) (w : World) (hr : Rd w A (ss.map Value.string)) (hn : ss.length = n) (hm : n ≤ maxLen) :
    Calls Try.prog 57 #[.slice A n c, .string s] w fun e w' => e = .returned (.bool (mem s ss)) ∧ w = w' := by
  unfold maxLen at hm
  have HL := Lib.hid hn; clear hn
  go_enter Try.func57, Try.ntmps57
  go_wp2
  go_loop [5] (fun i => ∃ k : Nat, k ≤ n ∧ i = .int .i64 k ∧ s ∉ ss.take k) (fun i => n - (intOf i).toNat)
  case atStart => exact ⟨0, Nat.zero_le _, rfl, by simp⟩
  case round =>
    obtain ⟨k, hk, rfl, hnot⟩ := hrel
    have HN := Lib.hid hnot; clear hnot
    by_cases hlt : k < n
    · have hx : k < ss.length := by have := HL.out; omega
      obtain ⟨b, off, rfl, hcell⟩ := hr.at_ k (by simp; exact hx)
      simp only [List.getElem_map] at hcell
      generalize hs : ss[k] = t at hcell
      have HS := Lib.hid hs; clear hs
      by_cases hst : t = s
      · have hne : (t.toList == s.toList) = true := by rw [str_beq]; simpa using hst
        have HST := Lib.hid hst; clear hst
        go_wp2
        go_ret
        exact ⟨ret_bool (by symm; rw [mem_iff, ← HST.out, ← HS.out]; exact List.getElem_mem hx), rfl⟩
      · have hne : (t.toList == s.toList) = false := by rw [str_beq]; simpa using hst
        go_wp2
        go_round
        case rel => exact ⟨k + 1, by omega, by go_num, by rw [take_succ_mem _ _ hx, HS.out]; intro h; rcases h with h | h; exact HN.out h; exact hst h.symm⟩
        case measure => simp [intOf]; omega
    · obtain rfl : k = n := by omega
      go_wp2
      go_ret
      exact ⟨ret_bool (by symm; rw [mem_false]; have := HN.out; rwa [← HL.out, List.take_length] at this), rfl⟩


set_option maxRecDepth 100000 in
set_option maxHeartbeats 400000 in
theorem few19_any (A : Option Addr) (n c : Nat) (ss : List ByteArray) (q : Nat) (w : World) (hr : Rd w A (ss.map Value.string)) (hn : ss.length = n) (hm : n ≤ maxLen) (hq : q ≤ 1000) :
    Calls Try.prog 25 #[.slice A n c, .int .i64 (q : Int)] w fun e w' => e = .returned (.bool (fewT ss q)) ∧ w = w' := by
  unfold maxLen at hm
  have HL := Lib.hid hn; clear hn
  go_enter Try.func25, Try.ntmps25
  go_wp2
  go_loop [5] (fun i => ∃ k : Nat, k ≤ min n q ∧ i = .int .i64 k ∧ (∀ s ∈ ss.take k, s.size ≤ 100)) (fun i => n - (intOf i).toNat)
  case atStart => exact ⟨0, Nat.zero_le _, rfl, by simp⟩
  case round =>
    obtain ⟨k, hk, rfl, hall⟩ := hrel
    have HA := Lib.hid hall; clear hall
    by_cases hlt : k < min n q
    · have hx : k < ss.length := by have := HL.out; omega
      have hk1 : k < n := by omega
      have hk2 : k < q := by omega
      obtain ⟨b, off, rfl, hcell⟩ := hr.at_ k (by simp; exact hx)
      simp only [List.getElem_map] at hcell
      generalize hs : ss[k] = t at hcell
      have HS := Lib.hid hs; clear hs
      by_cases hst : 100 < t.size
      · go_wp2
        go_ret
        refine ⟨ret_bool ?_, rfl⟩
        symm
        rw [fewT_false]
        exact .inl ⟨t, by rw [List.mem_take_iff_getElem]; exact ⟨k, by omega, HS.out⟩, hst⟩
      · go_wp2
        go_round
        case rel => exact ⟨k + 1, by omega, by go_num, fun s hs => by
          rw [take_succ_mem _ _ hx, HS.out] at hs
          rcases hs with h | rfl
          · exact HA.out s h
          · omega⟩
        case measure => simp [intOf]; omega
    · have hk' : ¬ (k < n ∧ k < q) := by omega
      by_cases hk1 : k < n
      all_goals
        go_wp2
        go_ret
        refine ⟨ret_bool ?_, rfl⟩
        unfold fewT
        have hl := HL.out
        have hall : (ss.take q).all (fun s => decide (s.size ≤ 100)) = true := by
          rw [List.all_eq_true]
          intro s hs
          rw [decide_eq_true_eq]
          refine HA.out s ?_
          rw [List.mem_take_iff_getElem] at hs ⊢
          obtain ⟨i, hi, he⟩ := hs
          exact ⟨i, by omega, he⟩
        rw [hall, hl, Bool.true_and, decide_eq_decide]


set_option maxRecDepth 100000 in
set_option maxHeartbeats 400000 in
theorem few50_any (A : Option Addr) (n c : Nat) (ss : List ByteArray) (q : Nat) (w : World) (hr : Rd w A (ss.map Value.string)) (hn : ss.length = n) (hm : n ≤ maxLen) (hq : q ≤ 1000) :
    Calls Try.prog 49 #[.slice A n c, .int .i64 (q : Int)] w fun e w' => e = .returned (.bool (fewT ss q)) ∧ w = w' := by
  unfold maxLen at hm
  have HL := Lib.hid hn; clear hn
  go_enter Try.func49, Try.ntmps49
  go_wp2
  go_loop [5] (fun i => ∃ k : Nat, k ≤ min n q ∧ i = .int .i64 k ∧ (∀ s ∈ ss.take k, s.size ≤ 100)) (fun i => n - (intOf i).toNat)
  case atStart => exact ⟨0, Nat.zero_le _, rfl, by simp⟩
  case round =>
    obtain ⟨k, hk, rfl, hall⟩ := hrel
    have HA := Lib.hid hall; clear hall
    by_cases hlt : k < min n q
    · have hx : k < ss.length := by have := HL.out; omega
      have hk1 : k < n := by omega
      have hk2 : k < q := by omega
      obtain ⟨b, off, rfl, hcell⟩ := hr.at_ k (by simp; exact hx)
      simp only [List.getElem_map] at hcell
      generalize hs : ss[k] = t at hcell
      have HS := Lib.hid hs; clear hs
      by_cases hst : 100 < t.size
      · go_wp2
        go_ret
        refine ⟨ret_bool ?_, rfl⟩
        symm
        rw [fewT_false]
        exact .inl ⟨t, by rw [List.mem_take_iff_getElem]; exact ⟨k, by omega, HS.out⟩, hst⟩
      · go_wp2
        go_round
        case rel => exact ⟨k + 1, by omega, by go_num, fun s hs => by
          rw [take_succ_mem _ _ hx, HS.out] at hs
          rcases hs with h | rfl
          · exact HA.out s h
          · omega⟩
        case measure => simp [intOf]; omega
    · have hk' : ¬ (k < n ∧ k < q) := by omega
      by_cases hk1 : k < n
      all_goals
        go_wp2
        go_ret
        refine ⟨ret_bool ?_, rfl⟩
        unfold fewT
        have hl := HL.out
        have hall : (ss.take q).all (fun s => decide (s.size ≤ 100)) = true := by
          rw [List.all_eq_true]
          intro s hs
          rw [decide_eq_true_eq]
          refine HA.out s ?_
          rw [List.mem_take_iff_getElem] at hs ⊢
          obtain ⟨i, hi, he⟩ := hs
          exact ⟨i, by omega, he⟩
        rw [hall, hl, Bool.true_and, decide_eq_decide]

end Go.Proofs.Ytebfmacbdjnhbaa
