/- Sameness of calls and events by the document: what is the same is told to be. -/
import Derived.Test.YtebfmacbdjnhbaaEraseD
import Derived.Deep.RegionHeld3
import Derived.Deep.DrawnRows
import Derived.Deep.DeepCutAuto
attribute [local go_sem ↓] Go.wp_at_zero Go.wp_at_succ
namespace Go.Proofs.Ytebfmacbdjnhbaa
open Go.RowKit Go.Mem
set_option linter.unusedVariables false

set_option maxRecDepth 100000 in
set_option maxHeartbeats 4000000 in
theorem sameCalls_any (A : Option Addr) (n c : Nat) (B : Option Addr) (d : Nat) (l : List Cal) (w : World) (hr : Rd w A (cals l)) (hr' : Rd w B (cals l)) (hn : l.length = n) (hm : n ≤ 100000) (hok : ∀ m ∈ l, m.ok w) :
    Calls Try.prog 22 #[.slice A n c, .slice B n d] w (YesB w) := by
  have HN := Lib.hid hn; have HOK := Lib.hid hok; clear hn hok
  go_enter Try.func22, Try.ntmps22
  go_wp2
  go_loopw [5] (fun i wr => ∃ k : Nat, k ≤ n ∧ i = .int .i64 k ∧ Below w.heap.size w wr) (fun i _ => n - (intOf i).toNat)
  case atStart => exact ⟨0, Nat.zero_le _, rfl, Below.refl _ _⟩
  case round =>
    obtain ⟨k, hk, rfl, hbel⟩ := hrel
    by_cases hlt : k < n
    · have hx : k < l.length := by have := HN.out; omega
      obtain ⟨b, off, rfl, hrg⟩ := row_cal.at_ (hr.below hbel) k hx
      obtain ⟨b', off', rfl, hrg'⟩ := row_cal.at_ (hr'.below hbel) k hx
      have hs := (HOK.out l[k] (List.getElem_mem hx)).below hbel
      have hd : decide ((k : Int) < (n : Int)) = true := by simp; omega
      have hi0 : (0 : Int) ≤ (k : Int) := by omega
      generalize l[k] = s at hrg hrg' hs
      have hobj := fun W hW => obj_same s.ctx W (Cal.ok.below hs hW).2.2.2.2.2.1
      have HOBJ := Lib.hid hobj
      clear hobj hs
      obtain ⟨kd, tk, bu, ke, va, ⟨cA, cn, cc, cl⟩, ti⟩ := s
      simp only [Ctx.v] at HOBJ
      have c0 : wr.cell? ⟨b, off + k * 7, none⟩ = some (.int .i64 kd) := rangeAt_cell hrg 0 rfl
      have c1 : wr.cell? ⟨b, off + k * 7 + 1, none⟩ = some (.string tk) := rangeAt_cell hrg 1 rfl
      have c2 : wr.cell? ⟨b, off + k * 7 + 2, none⟩ = some (.string bu) := rangeAt_cell hrg 2 rfl
      have c3 : wr.cell? ⟨b, off + k * 7 + 3, none⟩ = some (.string ke) := rangeAt_cell hrg 3 rfl
      have c4 : wr.cell? ⟨b, off + k * 7 + 4, none⟩ = some (.string va) := rangeAt_cell hrg 4 rfl
      have c5 : wr.cell? ⟨b, off + k * 7 + 5, none⟩ = some (.slice cA cn cc) := rangeAt_cell hrg 5 rfl
      have c6 : wr.cell? ⟨b, off + k * 7 + 6, none⟩ = some (.int .i64 ti) := rangeAt_cell hrg 6 rfl
      have d0 : wr.cell? ⟨b', off' + k * 7, none⟩ = some (.int .i64 kd) := rangeAt_cell hrg' 0 rfl
      have d1 : wr.cell? ⟨b', off' + k * 7 + 1, none⟩ = some (.string tk) := rangeAt_cell hrg' 1 rfl
      have d2 : wr.cell? ⟨b', off' + k * 7 + 2, none⟩ = some (.string bu) := rangeAt_cell hrg' 2 rfl
      have d3 : wr.cell? ⟨b', off' + k * 7 + 3, none⟩ = some (.string ke) := rangeAt_cell hrg' 3 rfl
      have d4 : wr.cell? ⟨b', off' + k * 7 + 4, none⟩ = some (.string va) := rangeAt_cell hrg' 4 rfl
      have d5 : wr.cell? ⟨b', off' + k * 7 + 5, none⟩ = some (.slice cA cn cc) := rangeAt_cell hrg' 5 rfl
      have d6 : wr.cell? ⟨b', off' + k * 7 + 6, none⟩ = some (.int .i64 ti) := rangeAt_cell hrg' 6 rfl
      clear hrg hrg'
      have t1 : (tk.toList == tk.toList) = true := by rw [beq_iff_eq]
      have t2 : (bu.toList == bu.toList) = true := by rw [beq_iff_eq]
      have t3 : (ke.toList == ke.toList) = true := by rw [beq_iff_eq]
      have t4 : (va.toList == va.toList) = true := by rw [beq_iff_eq]
      have t0 : (kd != kd) = false := by rw [bne_eq_false_iff_eq]
      have t6 : (ti != ti) = false := by rw [bne_eq_false_iff_eq]
      go_upto_region 6 with fail
      go_cut [6, 7] (fun p q wx => ∃ g g' : Nat, p = .pointer (some ⟨g, 0, none⟩) ∧ q = .pointer (some ⟨g', 0, none⟩) ∧ Hid (Below wr.heap.size wr wx ∧ wx.heap[g]? = some (.cells #[.int .i64 kd, .string tk, .string bu, .string ke, .string va, .slice cA cn cc, .int .i64 ti] 28 (0, 0)) ∧ wx.heap[g']? = some (.cells #[.int .i64 kd, .string tk, .string bu, .string ke, .string va, .slice cA cn cc, .int .i64 ti] 28 (0, 0))))
      case first =>
        go_region_held3 (fun W => (W.cell? ⟨b, off + k * 7, none⟩ = some (.int .i64 kd) ∧ W.cell? ⟨b, off + k * 7 + 1, none⟩ = some (.string tk) ∧ W.cell? ⟨b, off + k * 7 + 2, none⟩ = some (.string bu) ∧ W.cell? ⟨b, off + k * 7 + 3, none⟩ = some (.string ke) ∧ W.cell? ⟨b, off + k * 7 + 4, none⟩ = some (.string va) ∧ W.cell? ⟨b, off + k * 7 + 5, none⟩ = some (.slice cA cn cc) ∧ W.cell? ⟨b, off + k * 7 + 6, none⟩ = some (.int .i64 ti)) ∧ (W.cell? ⟨b', off' + k * 7, none⟩ = some (.int .i64 kd) ∧ W.cell? ⟨b', off' + k * 7 + 1, none⟩ = some (.string tk) ∧ W.cell? ⟨b', off' + k * 7 + 2, none⟩ = some (.string bu) ∧ W.cell? ⟨b', off' + k * 7 + 3, none⟩ = some (.string ke) ∧ W.cell? ⟨b', off' + k * 7 + 4, none⟩ = some (.string va) ∧ W.cell? ⟨b', off' + k * 7 + 5, none⟩ = some (.slice cA cn cc) ∧ W.cell? ⟨b', off' + k * 7 + 6, none⟩ = some (.int .i64 ti)))
          (go_keep) (fail)
        all_goals
          focus (go_wp2_with fail)
          go_meet
          refine ⟨_, _, rfl, rfl, Lib.hid ⟨((((Below.refl _ _).alloc (Nat.le_refl _) _).alloc (by simp) _).drew), ?_, ?_⟩⟩
          all_goals first | exact heap_alloc2_new wr _ _ | exact heap_alloc2_old wr _ _
      case rest =>
        obtain ⟨g, g', rfl, rfl, HT⟩ := hcut
        have hb := HT.out.1; have h1 := HT.out.2.1; have h2 := HT.out.2.2
        clear c0 c1 c2 c3 c4 c5 c6 d0 d1 d2 d3 d4 d5 d6 HT
        have e0 : wc.cell? ⟨g, 0, none⟩ = some (.int .i64 kd) := cell_of_row _ _ _ _ _ _ h1
        have e1 : wc.cell? ⟨g, 1, none⟩ = some (.string tk) := cell_of_row _ _ _ _ _ _ h1
        have e2 : wc.cell? ⟨g, 2, none⟩ = some (.string bu) := cell_of_row _ _ _ _ _ _ h1
        have e3 : wc.cell? ⟨g, 3, none⟩ = some (.string ke) := cell_of_row _ _ _ _ _ _ h1
        have e4 : wc.cell? ⟨g, 4, none⟩ = some (.string va) := cell_of_row _ _ _ _ _ _ h1
        have e5 : wc.cell? ⟨g, 5, none⟩ = some (.slice cA cn cc) := cell_of_row _ _ _ _ _ _ h1
        have e6 : wc.cell? ⟨g, 6, none⟩ = some (.int .i64 ti) := cell_of_row _ _ _ _ _ _ h1
        have f0 : wc.cell? ⟨g', 0, none⟩ = some (.int .i64 kd) := cell_of_row _ _ _ _ _ _ h2
        have f1 : wc.cell? ⟨g', 1, none⟩ = some (.string tk) := cell_of_row _ _ _ _ _ _ h2
        have f2 : wc.cell? ⟨g', 2, none⟩ = some (.string bu) := cell_of_row _ _ _ _ _ _ h2
        have f3 : wc.cell? ⟨g', 3, none⟩ = some (.string ke) := cell_of_row _ _ _ _ _ _ h2
        have f4 : wc.cell? ⟨g', 4, none⟩ = some (.string va) := cell_of_row _ _ _ _ _ _ h2
        have f5 : wc.cell? ⟨g', 5, none⟩ = some (.slice cA cn cc) := cell_of_row _ _ _ _ _ _ h2
        have f6 : wc.cell? ⟨g', 6, none⟩ = some (.int .i64 ti) := cell_of_row _ _ _ _ _ _ h2
        clear h1 h2
        go_wp2_with fail
        refine (HOBJ.out _ hb).mono ?_
        rintro e w1 ⟨rfl, hb1⟩
        go_wp2
        go_roundw
        case rel => exact ⟨k + 1, by omega, by go_num, then_ hbel (then_ hb hb1)⟩
        case measure => simp [intOf]; omega
    · obtain rfl : k = n := by omega
      have hd : decide ((k : Int) < (k : Int)) = false := by simp
      go_wp2
      go_ret
      exact ⟨rfl, hbel⟩
end Go.Proofs.Ytebfmacbdjnhbaa
