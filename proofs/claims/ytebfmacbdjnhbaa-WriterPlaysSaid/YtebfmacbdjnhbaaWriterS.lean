/- writer: the document's writer: who is free; an answer; whether somebody is open. -/
import Derived.Test.YtebfmacbdjnhbaaWriterR
attribute [local go_sem ↓] Go.wp_at_zero Go.wp_at_succ
namespace Go.Proofs.Ytebfmacbdjnhbaa
open Go.RowKit Go.Mem
set_option linter.unusedVariables false
theorem cnt_one (l : List Ch) (s : ByteArray) : decide (0 < ((cnt (fun t => mem t [s]) l : Nat) : Int)) = mem s (nodes l) := by
  have h : (0 < cnt (fun t => mem t [s]) l) ↔ s ∈ nodes l := by
    unfold cnt nodes
    rw [List.length_pos_iff_exists_mem, List.mem_map]
    constructor
    · rintro ⟨x, hx⟩
      rw [List.mem_filter, mem_iff, List.mem_singleton] at hx
      exact ⟨x, hx.1, hx.2⟩
    · rintro ⟨x, hx, e⟩
      exact ⟨x, by rw [List.mem_filter, mem_iff, List.mem_singleton]; exact ⟨hx, e⟩⟩
  rw [Bool.eq_iff_iff, decide_eq_true_eq, mem_iff, ← h]
  omega
set_option maxRecDepth 100000 in
set_option maxHeartbeats 1000000 in
theorem free_any (w : World) (rb r K : Nat) (A : Option Addr) (n c : Nat) (R : Rw) (s : ByteArray) (h : RwAt w rb r K (.slice A n c) R) (hr : Rd w A (R.l.flatMap Ch.cells)) (hn : R.l.length = n) (hm : n ≤ 1000) (hK : K ≤ 1000) :
    Calls Try.prog 96 #[.pointer (some ⟨r, 0, none⟩), .string s] w fun e w' => e = .returned (.bool (R.free s)) ∧ Below w.heap.size w w' := by
  obtain ⟨YA, yc, NA, nc, hg, hy, hno, hd, hrb, hrs, hk1, hk2⟩ := h
  have c8 : w.cell? ⟨r, 8, none⟩ = some (.slice A n c) := (cell_of_block hg 8).trans rfl
  have c9 : w.cell? ⟨r, 9, none⟩ = some (.slice YA R.yes.length yc) := (cell_of_block hg 9).trans rfl
  have c10 : w.cell? ⟨r, 10, none⟩ = some (.slice NA R.no.length nc) := (cell_of_block hg 10).trans rfl
  have ry := Rd.of_own hy
  have rn := Rd.of_own hno
  have HN := Lib.hid hn
  have hone := cnt_one R.l s
  have hfree : R.free s = (mem s (nodes R.l) && !mem s R.yes && !mem s R.no) := rfl
  have HFR := Lib.hid hfree
  obtain ⟨b0, hb0⟩ : ∃ b, mem s (nodes R.l) = b := ⟨_, rfl⟩
  obtain ⟨b1, hb1⟩ : ∃ b, mem s R.yes = b := ⟨_, rfl⟩
  obtain ⟨b2, hb2⟩ : ∃ b, mem s R.no = b := ⟨_, rfl⟩
  rw [hb0] at hone
  rw [hb0, hb1, hb2] at HFR
  have H1 := Lib.hid hb1; have H2 := Lib.hid hb2
  obtain ⟨cn, hcn⟩ : ∃ x, cnt (fun t => mem t [s]) R.l = x := ⟨_, rfl⟩
  rw [hcn] at hone
  have HCN := Lib.hid hcn
  clear hg hy hno hd hn hfree hb0 hb1 hb2 hcn
  go_enter Try.func96, Try.ntmps96
  go_wp2_with fail
  refine (rcount_any A n c R.l ⟨some ⟨w.heap.size, 0, none⟩, 1, 1, [s]⟩ _ (hr.alloc _) HN.out (by omega) ⟨by exact rd_new w #[.string s] _ _ rfl rfl, rfl, by show (1 : Nat) ≤ 1000000; omega⟩).mono ?_
  rintro e w1 ⟨rfl, rfl⟩
  simp only
  rw [HCN.out]
  have hbA : Below w.heap.size w (w.alloc (.cells #[.string s] 9)) := (Below.refl _ _).alloc (Nat.le_refl _) _
  have d9 := cell_below hbA c9
  have d10 := cell_below hbA c10
  have ry' := ry.below hbA
  have rn' := rn.below hbA
  clear c8 c9 c10 ry rn
  cases b0
  · obtain rfl : cn = 0 := by have := of_decide_eq_false hone; omega
    clear hone
    go_wp2
    go_ret
    exact ⟨ret_bool (by rw [HFR.out]; rfl), hbA⟩
  · have hcp : (0 : Int) < (cn : Int) := of_decide_eq_true hone
    clear hone
    go_wp2_with fail
    refine (in37_any YA _ yc R.yes s _ ry' rfl (by unfold maxLen; omega)).mono ?_
    rintro e w1 ⟨rfl, rfl⟩
    rw [H1.out]
    cases b1
    · go_wp2_with fail
      refine (in37_any NA _ nc R.no s _ rn' rfl (by unfold maxLen; omega)).mono ?_
      rintro e w1 ⟨rfl, rfl⟩
      rw [H2.out]
      cases b2
      all_goals
        go_wp2
        go_ret
        exact ⟨ret_bool (by rw [HFR.out]; rfl), hbA⟩
    · go_wp2
      go_ret
      exact ⟨ret_bool (by rw [HFR.out]; cases b2 <;> rfl), hbA⟩
set_option maxRecDepth 100000 in
set_option maxHeartbeats 1000000 in
theorem ropn_any (w : World) (rb r K : Nat) (A : Option Addr) (n c : Nat) (R : Rw) (h : RwAt w rb r K (.slice A n c) R) (hr : Rd w A (R.l.flatMap Ch.cells)) (hn : R.l.length = n) (hm : n ≤ 1000) (hK : K ≤ 1000) :
    Calls Try.prog 67 #[.pointer (some ⟨r, 0, none⟩)] w fun e w' => e = .returned (.bool R.opn) ∧ Below w.heap.size w w' := by
  have HW := Lib.hid h
  have hc8 : w.cell? ⟨r, 8, none⟩ = some (.slice A n c) := by
    obtain ⟨YA, yc, NA, nc, hg, _⟩ := h
    exact (cell_of_block hg 8).trans rfl
  have HN := Lib.hid hn; clear hn h
  go_enter Try.func67, Try.ntmps67
  go_wp2
  go_loopw [3] (fun i wr => ∃ k : Nat, k ≤ n ∧ i = .int .i64 k ∧ Hid (∀ s ∈ (nodes R.l).take k, R.free s = false) ∧ Below w.heap.size w wr) (fun i _ => n - (intOf i).toNat)
  case atStart => exact ⟨0, Nat.zero_le _, rfl, Lib.hid (by simp), Below.refl _ _⟩
  case round =>
    obtain ⟨k, hk, rfl, HA, hbel⟩ := hrel
    have c8 := cell_below hbel hc8
    have hnl : (nodes R.l).length = n := by unfold nodes; rw [List.length_map]; exact HN.out
    have HNL := Lib.hid hnl; clear hnl
    by_cases hlt : k < n
    · have hx : k < R.l.length := by have := HN.out; omega
      have hxn : k < (nodes R.l).length := by rw [HNL.out]; exact hlt
      obtain ⟨b, off, rfl, hcell, _⟩ := ch_row (hr.below hbel) k hx
      have hnk : (nodes R.l)[k] = R.l[k].node := by simp [nodes]
      generalize R.l[k].node = s at hcell hnk
      have HS := Lib.hid hnk; clear hnk
      have hi0 : (0 : Int) ≤ (k : Int) := by omega
      have hi1 : (k : Int) < (n : Int) := by omega
      go_wp2_with fail
      refine (free_any _ rb r K _ n c R s (HW.out.below hbel) (hr.below hbel) HN.out hm hK).mono ?_
      rintro e w1 ⟨rfl, hb1⟩
      generalize hf : R.free s = f
      have HF := Lib.hid hf; clear hf
      have hb2 := then_ hbel hb1
      clear hb1 hbel c8 hcell
      cases f
      · go_wp2
        go_roundw
        case rel => exact ⟨k + 1, by omega, by go_num, Lib.hid (fun t ht => by
          rw [take_succ_mem _ _ hxn] at ht
          rcases ht with ht | ht
          · exact HA.out t ht
          · rw [ht, HS.out]; exact HF.out), hb2⟩
        case measure => simp [intOf]; omega
      · go_wp2
        go_ret
        exact ⟨ret_bool (by symm; unfold Rw.opn; rw [List.any_eq_true]; exact ⟨_, List.getElem_mem hxn, by rw [HS.out]; exact HF.out⟩), hb2⟩
    · have HK : Hid (k = n) := Lib.hid (by omega)
      have hge : (n : Int) ≤ (k : Int) := by omega
      go_wp2
      go_ret
      exact ⟨ret_bool (by symm; unfold Rw.opn; rw [List.any_eq_false]; intro t ht; simp [HA.out t (by rw [List.take_of_length_le (by rw [HNL.out, HK.out]; exact Nat.le_refl _)]; exact ht)]), hbel⟩
end Go.Proofs.Ytebfmacbdjnhbaa
