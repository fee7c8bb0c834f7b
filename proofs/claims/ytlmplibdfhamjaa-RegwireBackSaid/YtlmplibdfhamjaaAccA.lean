/- Rights and their letters; the key of the register of what a user may do: the code's and the document's. -/
import Derived.Test.YtlmplibdfhamjaaName
import Derived.Laws.Shifts
namespace Go.Proofs.Ytlmplibdfhamjaa
open Go.RowKit Go.Mem
set_option linter.unusedVariables false

/-- the letters of rights -/
def txt (n : Int) : ByteArray := if n = 1 then ⟨#[114]⟩ else if n = 2 then ⟨#[119]⟩ else if n = 3 then ⟨#[114, 119]⟩ else if n = 4 then ⟨#[108]⟩ else if n = 5 then ⟨#[114, 108]⟩ else if n = 6 then ⟨#[119, 108]⟩ else if n = 7 then ⟨#[114, 119, 108]⟩ else ⟨#[]⟩
theorem txt_out {n : Int} (h : n < 0 ∨ 7 < n) : txt n = ⟨#[]⟩ := by
  unfold txt
  rw [if_neg (by omega), if_neg (by omega), if_neg (by omega), if_neg (by omega), if_neg (by omega), if_neg (by omega), if_neg (by omega)]
theorem eight (n : Int) (h : ¬ (n < 0 ∨ 7 < n)) : n = 0 ∨ n = 1 ∨ n = 2 ∨ n = 3 ∨ n = 4 ∨ n = 5 ∨ n = 6 ∨ n = 7 := by omega
/-- the first k letters of rights -/
def bitB (n k : Nat) : Bool := n / 2 ^ k % 2 == 1

set_option maxRecDepth 100000 in
set_option maxHeartbeats 1000000 in
theorem letters_any (w : World) : Calls Try.prog 76 #[] w fun e w' => e = .returned (.agg #[.string ⟨#[114]⟩, .string ⟨#[119]⟩, .string ⟨#[108]⟩]) ∧ Below w.heap.size w w' := by
  go_enter Try.func76, Try.ntmps76
  go_wp2
  exact bodyPost_ret (v := .agg #[.string ⟨#[114]⟩, .string ⟨#[119]⟩, .string ⟨#[108]⟩]) (by simp [results, Try.results76, go_sem]) rfl ⟨rfl, (Below.refl _ _).alloc (Nat.le_refl _) _⟩

theorem letter_at (w : World) : (Instr.index 38 (.agg #[.string ⟨#[114]⟩, .string ⟨#[119]⟩, .string ⟨#[108]⟩]) (.int .i64 0)).run Try.prog w = .ok (.string ⟨#[114]⟩) w ∧ (Instr.index 38 (.agg #[.string ⟨#[114]⟩, .string ⟨#[119]⟩, .string ⟨#[108]⟩]) (.int .i64 1)).run Try.prog w = .ok (.string ⟨#[119]⟩) w ∧ (Instr.index 38 (.agg #[.string ⟨#[114]⟩, .string ⟨#[119]⟩, .string ⟨#[108]⟩]) (.int .i64 2)).run Try.prog w = .ok (.string ⟨#[108]⟩) w := ⟨by kernel_rfl, by kernel_rfl, by kernel_rfl⟩
set_option maxRecDepth 100000 in
set_option maxHeartbeats 2000000 in
theorem text_any (n : Int) (w : World) : Calls Try.prog 30 #[.int .i64 n] w fun e w' => e = .returned (.string (txt n)) ∧ Below w.heap.size w w' := by
  by_cases h : n < 0 ∨ 7 < n
  · have HT := Lib.hid (txt_out h)
    have hc : n < 0 ∨ ¬ n < 0 := by omega
    rcases hc with hc | hc
    all_goals
      focus
      go_enter Try.func30, Try.ntmps30
      go_wp2
      go_ret
      exact ⟨ret_string HT.out.symm, Below.refl _ _⟩
  · have hk := eight n h
    clear h
    rcases hk with rfl | rfl | rfl | rfl | rfl | rfl | rfl | rfl
    all_goals
      focus
      go_enter Try.func30, Try.ntmps30
      go_wp2_with fail
      refine (letters_any _).mono ?_
      rintro e w1 ⟨rfl, hb1⟩
      have i0 := fun W => (letter_at W).1; have i1 := fun W => (letter_at W).2.1; have i2 := fun W => (letter_at W).2.2
      go_wp2
      refine wp_loop_rounds 4 ?_
      rw [rounds_succ]
      go_wp2
      rw [rounds_succ]
      go_wp2
      rw [rounds_succ]
      go_wp2
      rw [rounds_succ]
      go_wp2
      go_ret
      exact ⟨ret_string (by decide), hb1⟩

set_option maxRecDepth 100000 in
set_option maxHeartbeats 2000000 in
theorem rtext_any (n : Int) (w : World) : Calls Try.prog 31 #[.int .i64 n] w fun e w' => e = .returned (.string (txt n)) ∧ w = w' := by
  by_cases h : n < 0 ∨ 7 < n
  · have HT := Lib.hid (txt_out h)
    have hc : n < 0 ∨ ¬ n < 0 := by omega
    rcases hc with hc | hc
    all_goals
      focus
      go_enter Try.func31, Try.ntmps31
      go_wp2
      go_ret
      exact ⟨ret_string HT.out.symm, rfl⟩
  · have hk := eight n h
    clear h
    rcases hk with rfl | rfl | rfl | rfl | rfl | rfl | rfl | rfl
    all_goals
      focus
      go_enter Try.func31, Try.ntmps31
      go_wp2
      go_ret
      exact ⟨ret_string (by decide), rfl⟩

/-- the rights of letters -/
def rtsI (s : ByteArray) : Int := if (txt 0).toList == s.toList then 0 else if (txt 1).toList == s.toList then 1 else if (txt 2).toList == s.toList then 2 else if (txt 3).toList == s.toList then 3 else if (txt 4).toList == s.toList then 4 else if (txt 5).toList == s.toList then 5 else if (txt 6).toList == s.toList then 6 else if (txt 7).toList == s.toList then 7 else 0
def rtsB (s : ByteArray) : Bool := (txt 0).toList == s.toList || (txt 1).toList == s.toList || (txt 2).toList == s.toList || (txt 3).toList == s.toList || (txt 4).toList == s.toList || (txt 5).toList == s.toList || (txt 6).toList == s.toList || (txt 7).toList == s.toList
def ahead (k : Nat) (s : ByteArray) : Prop := ∀ j : Nat, j < k → ((txt j).toList == s.toList) = false
theorem rts_at {k : Nat} {s : ByteArray} (hk : k < 8) (h : ahead k s) (he : ((txt k).toList == s.toList) = true) : rtsI s = k ∧ rtsB s = true := by
  have h0 := h 0; have h1 := h 1; have h2 := h 2; have h3 := h 3; have h4 := h 4; have h5 := h 5; have h6 := h 6
  rcases (by omega : k = 0 ∨ k = 1 ∨ k = 2 ∨ k = 3 ∨ k = 4 ∨ k = 5 ∨ k = 6 ∨ k = 7) with rfl | rfl | rfl | rfl | rfl | rfl | rfl | rfl <;> simp_all [rtsI, rtsB]
theorem rts_no {s : ByteArray} (h : ahead 8 s) : rtsI s = 0 ∧ rtsB s = false := by
  have h0 := h 0 (by omega); have h1 := h 1 (by omega); have h2 := h 2 (by omega); have h3 := h 3 (by omega); have h4 := h 4 (by omega); have h5 := h 5 (by omega); have h6 := h 6 (by omega); have h7 := h 7 (by omega)
  simp_all [rtsI, rtsB]
theorem ahead_succ {k : Nat} {s : ByteArray} (h : ahead k s) (he : ((txt k).toList == s.toList) = false) : ahead (k + 1) s := fun j hj => by
  by_cases e : j = k
  · subst e; exact he
  · exact h j (by omega)
theorem rtsI_range (s : ByteArray) : 0 ≤ rtsI s ∧ rtsI s ≤ 7 := by
  unfold rtsI; repeat' split
  all_goals omega
def Rts (s : ByteArray) (w : World) (e : Ending) (w' : World) : Prop := e = .returned (.tuple #[.int .i64 (rtsI s), .bool (rtsB s)]) ∧ Below w.heap.size w w'

set_option maxRecDepth 100000 in
set_option maxHeartbeats 2000000 in
theorem rights_any (s : ByteArray) (w : World) : Calls Try.prog 28 #[.string s] w (Rts s w) := by
  go_enter Try.func28, Try.ntmps28
  go_wp2
  go_loopw [5] (fun i wr => ∃ k : Nat, k ≤ 8 ∧ i = .int .i64 k ∧ Below w.heap.size w wr ∧ Hid (ahead k s)) (fun i _ => 8 - (intOf i).toNat)
  case atStart => exact ⟨0, Nat.zero_le _, rfl, Below.refl _ _, Lib.hid (fun j hj => by omega)⟩
  case round =>
    obtain ⟨k, hk, rfl, hbel, HA⟩ := hrel
    by_cases hlt : k < 8
    · go_wp2_with fail
      refine (text_any _ _).mono ?_
      rintro e w1 ⟨rfl, hb1⟩
      have HF := Lib.hid (rts_at hlt HA.out); have HS := Lib.hid (ahead_succ HA.out)
      generalize txt (k : Int) = t at HF HS ⊢
      generalize hp : (t.toList == s.toList) = p at HF HS
      cases p
      · have HS2 := Lib.hid (HS.out rfl)
        clear HF HS
        go_wp2
        go_roundw
        case rel => exact ⟨k + 1, by omega, by go_num, then_ hbel hb1, HS2⟩
        case measure => simp [intOf]; omega
      · have HF2 := Lib.hid (HF.out rfl)
        clear HF HS
        go_wp2
        go_ret2
        exact ⟨by rw [HF2.out.1, HF2.out.2]; rfl, then_ hbel hb1⟩
    · obtain rfl : k = 8 := by omega
      go_wp2
      go_ret2
      exact ⟨by rw [(rts_no HA.out).1, (rts_no HA.out).2]; rfl, hbel⟩
set_option maxRecDepth 100000 in
set_option maxHeartbeats 2000000 in
theorem rrights_any (s : ByteArray) (w : World) : Calls Try.prog 29 #[.string s] w (Rts s w) := by
  go_enter Try.func29, Try.ntmps29
  go_wp2
  go_loopw [4] (fun i wr => ∃ k : Nat, k ≤ 8 ∧ i = .int .i64 k ∧ Below w.heap.size w wr ∧ Hid (ahead k s)) (fun i _ => 8 - (intOf i).toNat)
  case atStart => exact ⟨0, Nat.zero_le _, rfl, Below.refl _ _, Lib.hid (fun j hj => by omega)⟩
  case round =>
    obtain ⟨k, hk, rfl, hbel, HA⟩ := hrel
    by_cases hlt : k < 8
    · go_wp2_with fail
      refine (rtext_any _ _).mono ?_
      rintro e w1 ⟨rfl, rfl⟩
      have HF := Lib.hid (rts_at hlt HA.out); have HS := Lib.hid (ahead_succ HA.out)
      generalize txt (k : Int) = t at HF HS ⊢
      generalize hp : (t.toList == s.toList) = p at HF HS
      cases p
      · have HS2 := Lib.hid (HS.out rfl)
        clear HF HS
        go_wp2
        go_roundw
        case rel => exact ⟨k + 1, by omega, by go_num, hbel, HS2⟩
        case measure => simp [intOf]; omega
      · have HF2 := Lib.hid (HF.out rfl)
        clear HF HS
        go_wp2
        go_ret2
        exact ⟨by rw [HF2.out.1, HF2.out.2]; rfl, hbel⟩
    · obtain rfl : k = 8 := by omega
      go_wp2
      go_ret2
      exact ⟨by rw [(rts_no HA.out).1, (rts_no HA.out).2]; rfl, hbel⟩

/-- the key of the register of what a user may do -/
def keyA (t b u : ByteArray) : ByteArray := ⟨#[97, 99, 108, 47]⟩ ++ t ++ ⟨#[47]⟩ ++ b ++ ⟨#[47]⟩ ++ u
set_option maxRecDepth 100000 in
set_option maxHeartbeats 1000000 in
theorem rkey_any (t b u : ByteArray) (w : World) (ht : t.size ≤ 1000) (hb : b.size ≤ 1000) (hu : u.size ≤ 1000) : Calls Try.prog 25 #[.string t, .string b, .string u] w fun e w' => e = .returned (.string (keyA t b u)) ∧ w = w' := by
  go_enter Try.func25, Try.ntmps25
  go_wp2
  go_ret
  exact ⟨rfl, rfl⟩
end Go.Proofs.Ytlmplibdfhamjaa
