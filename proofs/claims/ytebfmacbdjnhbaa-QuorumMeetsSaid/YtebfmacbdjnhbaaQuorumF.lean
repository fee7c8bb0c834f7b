/- pantlerref34.Few. -/
import Derived.Test.YtebfmacbdjnhbaaQuorumE
namespace Go.Proofs.Ytebfmacbdjnhbaa
open Go.RowKit Go.Mem
set_option linter.unusedVariables false

/-- a slice of texts of any length -/
structure Sl.wide (w : World) (s : Sl) : Prop where
  rd : Rd w s.A (s.ss.map Value.string)
  len : s.ss.length = s.n
  le : s.n ≤ maxLen
def SaysFew34 (n : Nat) (ls : List Sl) (w : World) (e : Ending) (w' : World) : Prop := ∃ b : Bool, (b = true → n ≤ 20 ∧ ∀ s ∈ ls, s.n ≤ 20) ∧ e = .returned (.bool b) ∧ w = w'

set_option maxRecDepth 100000 in
set_option maxHeartbeats 1000000 in
theorem few34_any (A : Option Addr) (n c : Nat) (l : List Ch) (B : Option Addr) (m d : Nat) (ls : List Sl) (w : World) (hr : Rd w A (l.flatMap Ch.cells)) (hn : l.length = n) (hm : n ≤ maxLen) (hr' : Rd w B (ls.map Sl.v)) (hn' : ls.length = m) (hm' : m ≤ 4) (hok : ∀ s ∈ ls, s.wide w) :
    Calls Try.prog 39 #[.slice A n c, .slice B m d] w (SaysFew34 n ls w) := by
  unfold maxLen at hm
  have HN := Lib.hid hn; have HN' := Lib.hid hn'; clear hn hn'
  go_enter Try.func39, Try.ntmps39
  go_wp2
  go_loop [5] (fun i => ∃ k : Nat, k ≤ min n 20 ∧ i = .int .i64 k) (fun i => n - (intOf i).toNat)
  case atStart => exact ⟨0, Nat.zero_le _, rfl⟩
  case round =>
    obtain ⟨k, hk, rfl⟩ := hrel
    by_cases hlt : k < min n 20
    · have hx : k < l.length := by have := HN.out; omega
      have hk1 : k < n := by omega
      have hk2 : k < 20 := by omega
      obtain ⟨b, off, rfl, hc0, hc1⟩ := ch_row hr k hx
      generalize l[k] = x at hc0 hc1
      obtain ⟨node, prim⟩ := x
      simp only at hc0 hc1
      by_cases hst : 100 < node.size
      · go_wp2
        go_ret
        exact ⟨false, fun h => by simp at h, rfl, rfl⟩
      · go_wp2
        go_round
        case rel => exact ⟨k + 1, by omega, by go_num⟩
        case measure => simp [intOf]; omega
    · have hk' : ¬ (k < n ∧ k < 20) := by omega
      have hk2' : k = n ∨ (k < n ∧ k = 20) := by omega
      rcases hk2' with hk1 | ⟨hk1, hk2⟩
      all_goals
        go_wp2
        clear hlt hk'
        go_loop [6] (fun i => ∃ q : Nat, q ≤ m ∧ i = .int .i64 q ∧ ∀ s ∈ ls.take q, s.n ≤ 20) (fun i => m - (intOf i).toNat)
        case atStart => exact ⟨0, Nat.zero_le _, rfl, by simp⟩
        case round =>
          obtain ⟨q, hq, rfl, hall⟩ := hrel
          have HA := Lib.hid hall; clear hall
          by_cases hlt : q < m
          · have hx : q < ls.length := by have := HN'.out; omega
            have hq4 : q < 4 := by omega
            obtain ⟨b, off, rfl, hcell⟩ := hr'.at_ q (by simp; exact hx)
            simp only [List.getElem_map] at hcell
            have hwide := hok ls[q] (List.getElem_mem hx)
            generalize hs : ls[q] = t at hcell hwide
            have HS := Lib.hid hs; clear hs
            obtain ⟨T, tn, tc, ts⟩ := t
            unfold Sl.v at hcell
            simp only at hcell
            by_cases hst : 20 < tn
            · go_wp2
              go_ret
              exact ⟨false, fun h => by simp at h, rfl, rfl⟩
            · go_wp2
              go_loop [7] (fun i => ∃ k : Nat, k ≤ tn ∧ i = .int .i64 k) (fun i => tn - (intOf i).toNat)
              case atStart => exact ⟨0, Nat.zero_le _, rfl⟩
              case round =>
                obtain ⟨j, hj, rfl⟩ := hrel
                by_cases hjl : j < tn
                · have hjx : j < ts.length := by have h5 : ts.length = tn := hwide.len; omega
                  obtain ⟨b2, off2, hT, hcell2⟩ := hwide.rd.at_ j (by simp; exact hjx)
                  simp only at hT
                  subst hT
                  simp only [List.getElem_map] at hcell2
                  generalize ts[j] = u at hcell2
                  by_cases hu : 100 < u.size
                  · go_wp2
                    go_ret
                    exact ⟨false, fun h => by simp at h, rfl, rfl⟩
                  · go_wp2
                    go_round
                    case rel => exact ⟨j + 1, by omega, by go_num⟩
                    case measure => simp [intOf]; omega
                · go_wp2
                  go_round
                  case rel => exact ⟨q + 1, by omega, by go_num, fun s hs => by
                    rw [take_succ_mem _ _ hx, HS.out] at hs
                    rcases hs with h | rfl
                    · exact HA.out s h
                    · simp only; omega⟩
                  case measure => simp [intOf]; omega
          · go_wp2
            go_ret
            refine ⟨_, fun h => ⟨?_, fun s hs => HA.out s (by rw [List.take_of_length_le (by rw [HN'.out]; omega)]; exact hs)⟩, rfl, rfl⟩
            first | (simp at h; omega) | (simp at h; done)
end Go.Proofs.Ytebfmacbdjnhbaa
