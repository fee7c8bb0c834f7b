/- walk: small functions on texts, members and numbers: what each returns, for every argument. -/
import Derived.Test.YtpiinfjcjpdofaaChecked
import Derived.Test.YtpiinfjcjpdofaaDict
import Derived.Test.YtpiinfjcjpdofaaWalkP
import Derived.Test.YtpiinfjcjpdofaaInts
import Derived.WalkLawsBesides
import Derived.WalkSpells
import Derived.RegionTactic
import Derived.BigRegion
import Derived.BigQuiet
import Derived.Deep.QuietTactic
import Derived.StillTailTactics
import Derived.Laws.MakeOwn
import Derived.Laws.OwnMore
import Derived.OneCell
namespace Go.Proofs.Ytpiinfjcjpdofaa
open Go.RowKit Go.Mem
set_option linter.unusedVariables false
theorem take_succ_mem {T : Type} (l : List T) (k : Nat) (h : k < l.length) (x : T) : x ∈ l.take (k + 1) ↔ x ∈ l.take k ∨ x = l[k] := by
  rw [List.take_succ_eq_append_getElem h, List.mem_append, List.mem_singleton]
/-- a slice of its own is handed back -/
def Makes (e : TypeId) (size n : Nat) (cs : List Value) (w : World) (r : Ending) (w' : World) : Prop := ∃ v, r = .returned v ∧ w'.ownsRow w.heap.size e size v n cs ∧ Below w.heap.size w w'
theorem ba {w w1 : World} {o : Obj} (h : Below (w.alloc o).heap.size (w.alloc o) w1) : Below w.heap.size w w1 := ((Below.refl _ _).alloc (Nat.le_refl _) o).trans (h.mono (by simp))
/-- a bool that tells something, if it is true -/
def Few_ (P : Prop) (w : World) (e : Ending) (w' : World) : Prop := ∃ b : Bool, (b = true → P) ∧ e = .returned (.bool b) ∧ w = w'
/-- a member -/
structure Mb where
  name : ByteArray
  rack : ByteArray
  zone : ByteArray
  up : Bool
deriving DecidableEq
def Mb.cells (x : Mb) : List Value := [.string x.name, .string x.rack, .string x.zone, .bool x.up]
def names (l : List Mb) : List ByteArray := l.map Mb.name
theorem mb_row {w : World} {B : Option Addr} {ms : List Mb} (h : Rd w B (ms.flatMap Mb.cells)) (k : Nat) (hk : k < ms.length) :
    ∃ b off, B = some ⟨b, off, none⟩ ∧ w.cell? ⟨b, off + k * 4, none⟩ = some (.string ms[k].name) ∧ w.cell? ⟨b, off + k * 4 + 1, none⟩ = some (.string ms[k].rack) ∧ w.cell? ⟨b, off + k * 4 + 2, none⟩ = some (.string ms[k].zone) ∧ w.cell? ⟨b, off + k * 4 + 3, none⟩ = some (.bool ms[k].up) := by
  rw [List.flatMap_def] at h
  have hs : ∀ r ∈ ms.map Mb.cells, r.length = 4 := by intro r hr; obtain ⟨m, _, rfl⟩ := List.mem_map.1 hr; rfl
  have hi : (ms.map Mb.cells)[k]? = some ms[k].cells := by simp [hk]
  obtain ⟨b, off, rfl, h0⟩ := h.row hs k _ hi 0 _ rfl
  obtain ⟨b1, off1, e1, h1⟩ := h.row hs k _ hi 1 _ rfl
  obtain ⟨b2, off2, e2, h2⟩ := h.row hs k _ hi 2 _ rfl
  obtain ⟨b3, off3, e3, h3⟩ := h.row hs k _ hi 3 _ rfl
  injection e1 with e1; injection e1 with e1 e1'; subst e1 e1'
  injection e2 with e2; injection e2 with e2 e2'; subst e2 e2'
  injection e3 with e3; injection e3 with e3 e3'; subst e3 e3'
  exact ⟨b, off, rfl, h0, by rw [Nat.add_assoc]; exact h1, by rw [Nat.add_assoc]; exact h2, by rw [Nat.add_assoc]; exact h3⟩

set_option maxRecDepth 100000 in
set_option maxHeartbeats 400000 in
theorem few15_any (A : Option Addr) (n c : Nat) (ss : List ByteArray) (w : World) (hr : Rd w A (ss.map Value.string)) (hn : ss.length = n) (hm : n ≤ maxLen) :
    Calls Try.prog 11 #[.slice A n c] w (Few_ (n ≤ 40 ∧ ∀ s ∈ ss, s.size ≤ 100) w) := by
  unfold maxLen at hm
  have HL := Lib.hid hn; clear hn
  go_enter Try.func11, Try.ntmps11
  go_wp2
  go_loop [3] (fun i => ∃ k : Nat, k ≤ min n 40 ∧ i = .int .i64 k ∧ Hid (∀ s ∈ ss.take k, s.size ≤ 100)) (fun i => n - (intOf i).toNat)
  case atStart => exact ⟨0, Nat.zero_le _, rfl, Lib.hid (by simp)⟩
  case round =>
    obtain ⟨k, hk, rfl, HA⟩ := hrel
    by_cases hlt : k < min n 40
    · have hx : k < ss.length := by have := HL.out; omega
      have hk1 : k < n := by omega
      have hk2 : k < 40 := by omega
      obtain ⟨b, off, rfl, hcell⟩ := hr.at_ k (by simp; exact hx)
      simp only [List.getElem_map] at hcell
      generalize hs : ss[k] = t at hcell
      have HS := Lib.hid hs; clear hs
      by_cases hst : 100 < t.size
      · go_wp2
        go_ret
        exact ⟨false, by simp, rfl, rfl⟩
      · go_wp2
        go_round
        case rel => exact ⟨k + 1, by omega, by go_num, Lib.hid (fun s hs => by
          rw [take_succ_mem _ _ hx, HS.out] at hs
          rcases hs with h | rfl
          · exact HA.out s h
          · omega)⟩
        case measure => simp [intOf]; omega
    · have hk' : ¬ (k < n ∧ k < 40) := by omega
      have key : n ≤ 40 → n ≤ 40 ∧ ∀ s ∈ ss, s.size ≤ 100 := fun h => ⟨h, fun s hs => HA.out s (by rw [List.take_of_length_le (by rw [HL.out]; omega)]; exact hs)⟩
      have KEY := Lib.hid key; clear key
      by_cases hk1 : k < n
      all_goals
        go_wp2
        go_ret
        exact ⟨_, fun h => KEY.out (by have := of_decide_eq_true h; omega), rfl, rfl⟩

set_option maxRecDepth 100000 in
set_option maxHeartbeats 1000000 in
theorem few13_any (A : Option Addr) (n c : Nat) (ms : List Mb) (q : Nat) (w : World) (hr : Rd w A (ms.flatMap Mb.cells)) (hn : ms.length = n) (hm : n ≤ maxLen) (hq : q ≤ 1000) :
    Calls Try.prog 12 #[.slice A n c, .int .i64 (q : Int)] w (Few_ (n ≤ q ∧ ∀ m ∈ ms, m.name.size ≤ 100 ∧ m.rack.size ≤ 100 ∧ m.zone.size ≤ 100) w) := by
  unfold maxLen at hm
  have HL := Lib.hid hn; clear hn
  go_enter Try.func12, Try.ntmps12
  go_wp2
  go_loop [5] (fun i => ∃ k : Nat, k ≤ min n q ∧ i = .int .i64 k ∧ Hid (∀ m ∈ ms.take k, m.name.size ≤ 100 ∧ m.rack.size ≤ 100 ∧ m.zone.size ≤ 100)) (fun i => n - (intOf i).toNat)
  case atStart => exact ⟨0, Nat.zero_le _, rfl, Lib.hid (by simp)⟩
  case round =>
    obtain ⟨k, hk, rfl, HA⟩ := hrel
    by_cases hlt : k < min n q
    · have hx : k < ms.length := by have := HL.out; omega
      have hk1 : k < n := by omega
      have hk2 : k < q := by omega
      obtain ⟨b, off, rfl, hc0, hc1, hc2, _⟩ := mb_row hr k hx
      generalize hs : ms[k] = t at hc0 hc1 hc2
      have HS := Lib.hid hs; clear hs
      obtain ⟨tn, tr, tz, tu⟩ := t
      simp only at hc0 hc1 hc2
      by_cases h0 : 100 < tn.size
      · go_wp2
        go_ret
        exact ⟨false, by simp, rfl, rfl⟩
      by_cases h1 : 100 < tr.size
      · go_wp2
        go_ret
        exact ⟨false, by simp, rfl, rfl⟩
      by_cases h2 : 100 < tz.size
      · go_wp2
        go_ret
        exact ⟨false, by simp, rfl, rfl⟩
      go_wp2
      go_round
      case rel => exact ⟨k + 1, by omega, by go_num, Lib.hid (fun s hs => by
        rw [take_succ_mem _ _ hx, HS.out] at hs
        rcases hs with h | rfl
        · exact HA.out s h
        · exact ⟨by simp; omega, by simp; omega, by simp; omega⟩)⟩
      case measure => simp [intOf]; omega
    · have hk' : ¬ (k < n ∧ k < q) := by omega
      have key : n ≤ q → n ≤ q ∧ ∀ m ∈ ms, m.name.size ≤ 100 ∧ m.rack.size ≤ 100 ∧ m.zone.size ≤ 100 := fun h => ⟨h, fun s hs => HA.out s (by rw [List.take_of_length_le (by rw [HL.out]; omega)]; exact hs)⟩
      have KEY := Lib.hid key; clear key
      by_cases hk1 : k < n
      all_goals
        go_wp2
        go_ret
        exact ⟨_, fun h => KEY.out (by have := of_decide_eq_true h; omega), rfl, rfl⟩

theorem from_eq (part : Int) (m : Nat) (h : 0 < m) : part % (m : Int) = (part.tmod (m : Int) + (m : Int)) % (m : Int) := by
  rw [Int.add_emod_right, Int.tmod_eq_emod]
  split
  · simp
  · rw [Int.sub_emod]
    simp
set_option maxRecDepth 100000 in
theorem from_any (part : Int) (m : Nat) (w : World) (hp : (Lit.int .i64 part).wf = true) (hm : m ≤ 1000000) :
    Calls Try.prog 17 #[.int .i64 part, .int .i64 (m : Int)] w fun e w' => e = .returned (.int .i64 (WalkL.fromN part m : Nat)) ∧ w = w' := by
  have ha : -9223372036854775808 ≤ part ∧ part ≤ 9223372036854775807 := by simpa [Lit.wf, IntKind.min, IntKind.max, IntKind.signed, IntKind.bits] using hp
  clear hp
  by_cases h1 : m < 1
  · obtain rfl : m = 0 := by omega
    clear h1
    go_enter Try.func17, Try.ntmps17
    go_wp2
    go_ret
    exact ⟨ret_int (by unfold WalkL.fromN; simp), rfl⟩
  · have h2 : ¬ (m : Int) < 1 := by omega
    have h3 : ((m : Int) == 0) = false := by simp; omega
    have hm0 := Int.emod_nonneg part (b := (m : Int)) (by omega)
    have hm1 := Int.emod_lt_of_pos part (b := (m : Int)) (by omega)
    have hb1 : part.tmod (m : Int) < (m : Int) := Int.tmod_lt_of_pos part (by omega)
    have hb0 : -(m : Int) < part.tmod (m : Int) := by
      have := Int.tmod_lt_of_pos (-part) (b := (m : Int)) (by omega)
      rw [Int.neg_tmod] at this; omega
    go_enter Try.func17, Try.ntmps17
    go_wp2
    go_ret
    refine ⟨ret_int ?_, rfl⟩
    unfold WalkL.fromN
    rw [if_neg (by omega), Int.toNat_of_nonneg hm0]
    have hfe := from_eq part m (by omega)
    rw [Int.add_emod_right] at hfe
    exact hfe.symm
set_option maxRecDepth 100000 in
theorem rfrom_any (part : Int) (m : Nat) (w : World) (hp : (Lit.int .i64 part).wf = true) (hm : m ≤ 1000000) :
    Calls Try.prog 18 #[.int .i64 part, .int .i64 (m : Int)] w fun e w' => e = .returned (.int .i64 (WalkL.fromN part m : Nat)) ∧ w = w' := by
  have ha : -9223372036854775808 ≤ part ∧ part ≤ 9223372036854775807 := by simpa [Lit.wf, IntKind.min, IntKind.max, IntKind.signed, IntKind.bits] using hp
  clear hp
  by_cases h1 : m < 1
  · obtain rfl : m = 0 := by omega
    clear h1
    go_enter Try.func18, Try.ntmps18
    go_wp2
    go_ret
    exact ⟨ret_int (by unfold WalkL.fromN; simp), rfl⟩
  · have h2 : ¬ (m : Int) < 1 := by omega
    have h3 : ((m : Int) == 0) = false := by simp; omega
    have hm0 := Int.emod_nonneg part (b := (m : Int)) (by omega)
    have hm1 := Int.emod_lt_of_pos part (b := (m : Int)) (by omega)
    have hb1 : part.tmod (m : Int) < (m : Int) := Int.tmod_lt_of_pos part (by omega)
    have hb0 : -(m : Int) < part.tmod (m : Int) := by
      have := Int.tmod_lt_of_pos (-part) (b := (m : Int)) (by omega)
      rw [Int.neg_tmod] at this; omega
    have hfe := from_eq part m (by omega)
    have HFE := Lib.hid hfe; clear hfe
    go_enter Try.func18, Try.ntmps18
    by_cases hneg : part.tmod (m : Int) < 0
    all_goals
      go_wp2
      go_ret
      refine ⟨ret_int ?_, rfl⟩
      unfold WalkL.fromN
      rw [if_neg (by omega), Int.toNat_of_nonneg hm0, HFE.out]
      first
        | rw [Int.emod_eq_of_lt (by omega) (by omega)]
        | (rw [Int.add_emod_right, Int.emod_eq_of_lt (by omega) (by omega)])

def whereI (ns : List ByteArray) (s : ByteArray) : Int := match WalkL.where_ ns s with | some i => (i : Int) | none => -1
theorem whereI_some {ns : List ByteArray} {s : ByteArray} {i : Nat} (h : WalkL.where_ ns s = some i) : whereI ns s = i := by unfold whereI; rw [h]
theorem whereI_none {ns : List ByteArray} {s : ByteArray} (h : WalkL.where_ ns s = none) : whereI ns s = -1 := by unfold whereI; rw [h]
set_option maxRecDepth 100000 in
set_option maxHeartbeats 400000 in
theorem rfind_any (A : Option Addr) (n c : Nat) (ms : List Mb) (s : ByteArray) (w : World) (hr : Rd w A (ms.flatMap Mb.cells)) (hn : ms.length = n) (hm : n ≤ 1000000) :
    Calls Try.prog 48 #[.slice A n c, .string s] w fun e w' => e = .returned (.int .i64 (whereI (names ms) s)) ∧ w = w' := by
  have HL := Lib.hid hn; clear hn
  go_enter Try.func48, Try.ntmps48
  go_wp2
  go_loop [5] (fun i => ∃ k : Nat, k ≤ n ∧ i = .int .i64 k ∧ Hid (∀ m ∈ ms.take k, m.name ≠ s)) (fun i => n - (intOf i).toNat)
  case atStart => exact ⟨0, Nat.zero_le _, rfl, Lib.hid (by simp)⟩
  case round =>
    obtain ⟨k, hk, rfl, HA⟩ := hrel
    by_cases hlt : k < n
    · have hx : k < ms.length := by have := HL.out; omega
      obtain ⟨b, off, rfl, hc0, _, _, _⟩ := mb_row hr k hx
      have hi0 : (0 : Int) ≤ (k : Int) := by omega
      have hi1 : (k : Int) < (n : Int) := by omega
      generalize hs : ms[k] = t at hc0
      have HS := Lib.hid hs; clear hs
      obtain ⟨tn, tr, tz, tu⟩ := t
      simp only at hc0
      by_cases hst : tn = s
      · have hne : (tn.toList == s.toList) = true := by rw [str_beq]; simpa using hst
        have HST := Lib.hid hst; clear hst
        go_wp2
        go_ret
        refine ⟨ret_int ?_, rfl⟩
        have : WalkL.where_ (names ms) s = some k := by
          unfold WalkL.where_
          rw [List.findIdx?_eq_some_iff_getElem]
          refine ⟨by simp [names]; exact hx, by simp [names, HS.out, HST.out], fun j hj => ?_⟩
          have hjl : j < ms.length := by omega
          simp only [names, List.getElem_map, decide_eq_true_eq]
          exact HA.out ms[j] (by rw [List.mem_take_iff_getElem]; exact ⟨j, by omega, rfl⟩)
        exact (whereI_some this).symm
      · have hne : (tn.toList == s.toList) = false := by rw [str_beq]; simpa using hst
        go_wp2
        go_round
        case rel => exact ⟨k + 1, by omega, by go_num, Lib.hid (fun m hm => by
          rw [take_succ_mem _ _ hx, HS.out] at hm
          rcases hm with h | rfl
          · exact HA.out m h
          · exact hst)⟩
        case measure => simp [intOf]; omega
    · have HK : Hid (k = n) := Lib.hid (by omega)
      have hge : (n : Int) ≤ (k : Int) := by omega
      go_wp2
      go_ret
      refine ⟨ret_int ?_, rfl⟩
      have : WalkL.where_ (names ms) s = none := WalkL.where_none.2 (by
        intro h
        unfold names at h
        rw [List.mem_map] at h
        obtain ⟨m, hm, he⟩ := h
        exact HA.out m (by rw [List.take_of_length_le (by rw [HL.out, HK.out]; exact Nat.le_refl _)]; exact hm) he)
      exact (whereI_none this).symm

def nats (l : List Nat) : List Value := l.map fun (i : Nat) => Value.int .i64 (i : Int)
theorem nats_length (l : List Nat) : (nats l).length = l.length := by simp [nats]
set_option maxRecDepth 100000 in
set_option maxHeartbeats 400000 in
theorem rIn_any (A : Option Addr) (n c : Nat) (ks : List Nat) (i : Nat) (w : World) (hr : Rd w A (nats ks)) (hn : ks.length = n) (hm : n ≤ 1000000) (hi : i ≤ 1000000) :
    Calls Try.prog 19 #[.slice A n c, .int .i64 (i : Int)] w fun e w' => e = .returned (.bool (decide (i ∈ ks))) ∧ w = w' := by
  have HL := Lib.hid hn; clear hn
  go_enter Try.func19, Try.ntmps19
  go_wp2
  go_loop [5] (fun v => ∃ k : Nat, k ≤ n ∧ v = .int .i64 k ∧ Hid (i ∉ ks.take k)) (fun v => n - (intOf v).toNat)
  case atStart => exact ⟨0, Nat.zero_le _, rfl, Lib.hid (by simp)⟩
  case round =>
    obtain ⟨k, hk, rfl, HA⟩ := hrel
    by_cases hlt : k < n
    · have hx : k < ks.length := by have := HL.out; omega
      obtain ⟨b, off, rfl, hcell⟩ := hr.at_ k (by rw [nats_length]; exact hx)
      simp only [nats, List.getElem_map] at hcell
      generalize hs : ks[k] = t at hcell
      have HS := Lib.hid hs; clear hs
      by_cases hst : t = i
      · have hne : ((t : Int) == (i : Int)) = true := by simp; omega
        have HST := Lib.hid hst; clear hst
        go_wp2
        go_ret
        exact ⟨ret_bool (by symm; rw [decide_eq_true_eq, ← HST.out, ← HS.out]; exact List.getElem_mem hx), rfl⟩
      · have hne : ((t : Int) == (i : Int)) = false := by simp; omega
        have HST := Lib.hid hst; clear hst
        go_wp2
        go_round
        case rel => exact ⟨k + 1, by omega, by go_num, Lib.hid (by
          rw [take_succ_mem _ _ hx, HS.out]; intro h; rcases h with h | h
          · exact HA.out h
          · exact HST.out h.symm)⟩
        case measure => simp [intOf]; omega
    · have HK : Hid (k = n) := Lib.hid (by omega)
      have hge : (n : Int) ≤ (k : Int) := by omega
      go_wp2
      go_ret
      exact ⟨ret_bool (by symm; rw [decide_eq_false_iff_not]; have := HA.out; rwa [List.take_of_length_le (by rw [HL.out, HK.out]; exact Nat.le_refl _)] at this), rfl⟩
end Go.Proofs.Ytpiinfjcjpdofaa
