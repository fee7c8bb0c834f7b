/- writer: the document's writer takes an answer. -/
import Derived.Test.YtebfmacbdjnhbaaWriterS
attribute [local go_sem ↓] Go.wp_at_zero Go.wp_at_succ
namespace Go.Proofs.Ytebfmacbdjnhbaa
open Go.RowKit Go.Mem
set_option linter.unusedVariables false
theorem heap_old {w w2 : World} {o : Obj} {row : Option Nat} (hg : (w.alloc o).grownBy w2 row) {i : Nat} (hi : i < w.heap.size) (hr : row ≠ some i) : w2.heap[i]? = w.heap[i]? :=
  (hg.block i (by simp; omega) (fun e => hr e.symm)).trans (heap_alloc_old2 w o hi)
/-- one name more among those that have written -/
theorem rw_pushY {w w2 : World} {rb r K : Nat} {lv : Value} {R : Rw} {YA NA YA' : Option Addr} {yc nc yc' : Nat} {o : Obj} {s : ByteArray}
    (h1 : w.heap[r]? = some (.cells (R.cells lv (.slice YA R.yes.length yc) (.slice NA R.no.length nc)) 90 (0, 0))) (h2 : w.ownsRow rb 9 1 (.slice YA R.yes.length yc) R.yes.length (R.yes.map Value.string)) (h3 : w.ownsRow rb 9 1 (.slice NA R.no.length nc) R.no.length (R.no.map Value.string))
    (h4 : ∀ i, (Value.slice YA R.yes.length yc).ownBlock = some i → (Value.slice NA R.no.length nc).ownBlock ≠ some i) (h5 : r < rb) (h6 : rb ≤ w.heap.size) (h7 : R.yes.length ≤ K) (h8 : R.no.length ≤ K)
    (hown : w2.ownsRow rb 9 1 (.slice YA' (R.yes.length + 1) yc') (R.yes.length + 1) (R.yes.map Value.string ++ [.string s])) (hg : (w.alloc o).grownBy w2 (Value.slice YA R.yes.length yc).ownBlock)
    (hat : (Value.slice YA' (R.yes.length + 1) yc').ownBlock = (Value.slice YA R.yes.length yc).ownBlock ∨ (Value.slice YA' (R.yes.length + 1) yc').ownBlock = some (w.alloc o).heap.size) :
    RwAt (w2.setCell ⟨r, 9, none⟩ (.slice YA' (R.yes.length + 1) yc')) rb r (K + 1) lv { R with yes := R.yes ++ [s] } := by
  have hyr : (Value.slice YA R.yes.length yc).ownBlock ≠ some r := fun e => by have := (h2.lt r e).1; omega
  have hnr : (Value.slice NA R.no.length nc).ownBlock ≠ some r := fun e => by have := (h3.lt r e).1; omega
  have hr2 : w2.heap[r]? = some (.cells (R.cells lv (.slice YA R.yes.length yc) (.slice NA R.no.length nc)) 90 (0, 0)) := (heap_old hg (by omega) hyr).trans h1
  have hn2 : w2.ownsRow rb 9 1 (.slice NA R.no.length nc) R.no.length (R.no.map Value.string) := own_block h3 (fun i hi => heap_old hg (h3.lt i hi).2 (fun e => h4 i e hi))
  have hl : (R.yes ++ [s]).length = R.yes.length + 1 := by simp
  refine ⟨YA', yc', NA, nc, ?_, ?_, ownsRow_setCell_other hn2 hnr _, ?_, h5, ?_, by simp only [hl]; omega, by simp only; omega⟩
  · rw [block_setCell hr2]; simp only [hl]; rfl
  · simp only [hl, List.map_append]
    exact ownsRow_setCell_other hown (fun e => by have := (hown.lt r e).1; omega) _
  · intro i hi
    simp only [hl] at hi
    rcases hat with e | e
    · exact h4 i (e ▸ hi)
    · intro hc
      rw [e] at hi
      injection hi with hi
      have := (h3.lt i hc).2
      simp at hi; omega
  · have := hg.size; simp at this ⊢; omega
theorem rw_pushN {w w2 : World} {rb r K : Nat} {lv : Value} {R : Rw} {YA NA NA' : Option Addr} {yc nc nc' : Nat} {o : Obj} {s : ByteArray}
    (h1 : w.heap[r]? = some (.cells (R.cells lv (.slice YA R.yes.length yc) (.slice NA R.no.length nc)) 90 (0, 0))) (h2 : w.ownsRow rb 9 1 (.slice YA R.yes.length yc) R.yes.length (R.yes.map Value.string)) (h3 : w.ownsRow rb 9 1 (.slice NA R.no.length nc) R.no.length (R.no.map Value.string))
    (h4 : ∀ i, (Value.slice YA R.yes.length yc).ownBlock = some i → (Value.slice NA R.no.length nc).ownBlock ≠ some i) (h5 : r < rb) (h6 : rb ≤ w.heap.size) (h7 : R.yes.length ≤ K) (h8 : R.no.length ≤ K)
    (hown : w2.ownsRow rb 9 1 (.slice NA' (R.no.length + 1) nc') (R.no.length + 1) (R.no.map Value.string ++ [.string s])) (hg : (w.alloc o).grownBy w2 (Value.slice NA R.no.length nc).ownBlock)
    (hat : (Value.slice NA' (R.no.length + 1) nc').ownBlock = (Value.slice NA R.no.length nc).ownBlock ∨ (Value.slice NA' (R.no.length + 1) nc').ownBlock = some (w.alloc o).heap.size) :
    RwAt (w2.setCell ⟨r, 10, none⟩ (.slice NA' (R.no.length + 1) nc')) rb r (K + 1) lv { R with no := R.no ++ [s] } := by
  have hyr : (Value.slice YA R.yes.length yc).ownBlock ≠ some r := fun e => by have := (h2.lt r e).1; omega
  have hnr : (Value.slice NA R.no.length nc).ownBlock ≠ some r := fun e => by have := (h3.lt r e).1; omega
  have hr2 : w2.heap[r]? = some (.cells (R.cells lv (.slice YA R.yes.length yc) (.slice NA R.no.length nc)) 90 (0, 0)) := (heap_old hg (by omega) hnr).trans h1
  have hy2 : w2.ownsRow rb 9 1 (.slice YA R.yes.length yc) R.yes.length (R.yes.map Value.string) := own_block h2 (fun i hi => heap_old hg (h2.lt i hi).2 (fun e => h4 i hi e))
  have hl : (R.no ++ [s]).length = R.no.length + 1 := by simp
  refine ⟨YA, yc, NA', nc', ?_, ownsRow_setCell_other hy2 hyr _, ?_, ?_, h5, ?_, by simp only; omega, by simp only [hl]; omega⟩
  · rw [block_setCell hr2]; simp only [hl]; rfl
  · simp only [hl, List.map_append]
    exact ownsRow_setCell_other hown (fun e => by have := (hown.lt r e).1; omega) _
  · intro i hi hc
    simp only [hl] at hc
    rcases hat with e | e
    · exact h4 i hi (e ▸ hc)
    · rw [e] at hc
      injection hc with hc
      have := (h2.lt i hi).2
      simp at hc; omega
  · have := hg.size; simp at this ⊢; omega
set_option maxRecDepth 100000 in
set_option maxHeartbeats 2000000 in
theorem ranswer_any (w : World) (rb r K : Nat) (A : Option Addr) (n c : Nat) (R : Rw) (kind : Int) (s : ByteArray) (er : Int) (h : RwAt w rb r K (.slice A n c) R) (hr : ∀ W, KeepsR r rb w W → Rd W A (R.l.flatMap Ch.cells)) (hn : R.l.length = n) (hm : n ≤ 1000) (hK : K ≤ 900) :
    Calls Try.prog 65 #[.pointer (some ⟨r, 0, none⟩), .int .i64 kind, .string s, .int .i64 er] w (LeavesR rb r (K + 1) (.slice A n c) (R.ans kind s er) w) := by
  have HW := Lib.hid h; have HN := Lib.hid hn; have HR := Lib.hid hr; clear h hn hr
  go_enter Try.func65, Try.ntmps65
  go_wp2_with fail
  refine (free_any _ rb r K A n c R s HW.out (HR.out _ (KeepsR.refl _ _ _)) HN.out hm (by omega)).mono ?_
  rintro e w1 ⟨rfl, hb1⟩
  have hW1 := HW.out.below hb1
  generalize hf : R.free s = f
  have HF := Lib.hid hf; clear hf
  cases f
  · have HE : Hid (R.ans kind s er = R) := Lib.hid (by unfold Rw.ans; rw [HF.out]; simp)
    go_wp2
    first | go_end0 | refine bodyPost_ret (results_none rfl _ _ _) rfl ?_
    obtain ⟨YA, yc, NA, nc, q1, q2, q3, q4, q5, q6, q7, q8⟩ := hW1
    exact ⟨rfl, by rw [HE.out]; exact ⟨YA, yc, NA, nc, q1, q2, q3, q4, q5, q6, by omega, by omega⟩, KeepsR.of_below hb1⟩
  · obtain ⟨YA, yc, NA, nc, hg, hy, hno, hd, hrb, hrs, hk1, hk2⟩ := hW1
    have hlt : r < w1.heap.size := by omega
    have c9 : w1.cell? ⟨r, 9, none⟩ = some (.slice YA R.yes.length yc) := (cell_of_block hg 9).trans rfl
    have c10 : w1.cell? ⟨r, 10, none⟩ = some (.slice NA R.no.length nc) := (cell_of_block hg 10).trans rfl
    have HG := Lib.hid hg; have HY := Lib.hid hy; have HNO := Lib.hid hno; have HD := Lib.hid hd
    clear hg hy hno hd HW
    by_cases hk : kind = 1
    · have hd1 : (kind == 1) = true := by rw [beq_iff_eq]; exact hk
      have HE : Hid (R.ans kind s er = ({ R with yes := R.yes ++ [s] } : Rw).dec) := Lib.hid (by unfold Rw.ans; rw [HF.out, if_pos rfl, if_pos hk])
      clear hk
      go_wp2_with (at_builtin; refine wpList_app el_string rfl (.tmp 18) (.tmp 20) rfl rb _ _ _ rfl (HY.out.alloc _) (some ⟨_, 0, none⟩) 1 1 [.string s] rfl rfl (by exact rd_new _ #[.string s] _ _ rfl rfl) (by intro u hu; simp at hu; subst hu; rfl) (by unfold maxLen; omega) (by omega) (by simp; omega) ?_; intro v4 w4 hown4 hbel4 hgr4 hat4; obtain ⟨v4A, v4c, rfl⟩ := own_form hown4; have hb9 := (heap_old hgr4 hlt (fun e => by have := (HY.out.lt r e).1; omega)).trans HG.out; have k9 : w4.cell? ⟨r, 9, none⟩ = some (.slice YA R.yes.length yc) := (cell_of_block hb9 9).trans rfl; have f9 : w4.frozen? ⟨r, 9, none⟩ = false := free_of_block hb9 9; have HR4 := Lib.hid (rw_pushY HG.out HY.out HNO.out HD.out hrb hrs hk1 hk2 hown4 hgr4 hat4); have hk4 : KeepsR r rb w (w4.setCell ⟨r, 9, none⟩ (.slice v4A (R.yes.length + 1) v4c)) := (((KeepsR.of_below hb1).then_ (KeepsR.of_below ((Below.refl _ _).alloc (Nat.le_refl _) _))).then_ (KeepsR.grown hgr4 (fun i hi => (HY.out.lt i hi).1))).then_ (KeepsR.setCell r rb 9 _ _); have HK4 := Lib.hid hk4; clear hown4 hbel4 hgr4 hat4 hb9 hk4)
      refine (rdecide_any _ rb r (K + 1) A n c { R with yes := R.yes ++ [s] } HR4.out (HR.out _ HK4.out) HN.out hm (by omega)).mono ?_
      rintro e w5 ⟨rfl, hw5, hk5⟩
      have HW5 := Lib.hid hw5; have HK5 := Lib.hid (HK4.out.then_ hk5); clear hw5 hk5
      go_wp2
      go_end0
      rw [HE.out]
      exact ⟨rfl, HW5.out, HK5.out⟩
    · have hd1 : (kind == 1) = false := by rw [beq_eq_false_iff_ne]; exact hk
      have HE : Hid (R.ans kind s er = ({ R with no := R.no ++ [s], full := R.full || decide (er = 10) } : Rw).dec) := Lib.hid (by unfold Rw.ans; rw [HF.out, if_pos rfl, if_neg hk])
      have heq : (er == 10) = decide (er = 10) := rfl
      clear hk
      obtain ⟨fu, hfu⟩ : ∃ b, R.full = b := ⟨_, rfl⟩
      have HFU := Lib.hid hfu; clear hfu
      cases fu
      · go_wp2_with (at_builtin; refine wpList_app el_string rfl (.tmp 28) (.tmp 30) rfl rb _ _ _ rfl (HNO.out.alloc _) (some ⟨_, 0, none⟩) 1 1 [.string s] rfl rfl (by exact rd_new _ #[.string s] _ _ rfl rfl) (by intro u hu; simp at hu; subst hu; rfl) (by unfold maxLen; omega) (by omega) (by simp; omega) ?_; intro v4 w4 hown4 hbel4 hgr4 hat4; obtain ⟨v4A, v4c, rfl⟩ := own_form hown4; have hb9 := (heap_old hgr4 hlt (fun e => by have := (HNO.out.lt r e).1; omega)).trans HG.out; have k10 : w4.cell? ⟨r, 10, none⟩ = some (.slice NA R.no.length nc) := (cell_of_block hb9 10).trans rfl; have k11 : w4.cell? ⟨r, 11, none⟩ = some (.bool R.full) := (cell_of_block hb9 11).trans rfl; rw [HFU.out] at k11; have f10 : w4.frozen? ⟨r, 10, none⟩ = false := free_of_block hb9 10; have f11 : w4.frozen? ⟨r, 11, none⟩ = false := free_of_block hb9 11; have HR4 := Lib.hid ((rw_pushN HG.out HY.out HNO.out HD.out hrb hrs hk1 hk2 hown4 hgr4 hat4).set (Y := { R with no := R.no ++ [s], full := R.full || decide (er = 10) }) 11 (.bool (decide (er = 10))) (fun _ _ => by simp [Rw.cells, HFU.out]) rfl rfl); have hk4 : KeepsR r rb w ((w4.setCell ⟨r, 10, none⟩ (.slice v4A (R.no.length + 1) v4c)).setCell ⟨r, 11, none⟩ (.bool (decide (er = 10)))) := ((((KeepsR.of_below hb1).then_ (KeepsR.of_below ((Below.refl _ _).alloc (Nat.le_refl _) _))).then_ (KeepsR.grown hgr4 (fun i hi => (HNO.out.lt i hi).1))).then_ (KeepsR.setCell r rb 10 _ _)).then_ (KeepsR.setCell r rb 11 _ _); have HK4 := Lib.hid hk4; clear hown4 hbel4 hgr4 hat4 hb9 hk4)
        refine (rdecide_any _ rb r (K + 1) A n c { R with no := R.no ++ [s], full := R.full || decide (er = 10) } HR4.out (HR.out _ HK4.out) HN.out hm (by omega)).mono ?_
        rintro e w5 ⟨rfl, hw5, hk5⟩
        have HW5 := Lib.hid hw5; have HK5 := Lib.hid (HK4.out.then_ hk5); clear hw5 hk5
        go_wp2
        go_end0
        rw [HE.out]
        exact ⟨rfl, HW5.out, HK5.out⟩
      · go_wp2_with (at_builtin; refine wpList_app el_string rfl (.tmp 28) (.tmp 30) rfl rb _ _ _ rfl (HNO.out.alloc _) (some ⟨_, 0, none⟩) 1 1 [.string s] rfl rfl (by exact rd_new _ #[.string s] _ _ rfl rfl) (by intro u hu; simp at hu; subst hu; rfl) (by unfold maxLen; omega) (by omega) (by simp; omega) ?_; intro v4 w4 hown4 hbel4 hgr4 hat4; obtain ⟨v4A, v4c, rfl⟩ := own_form hown4; have hb9 := (heap_old hgr4 hlt (fun e => by have := (HNO.out.lt r e).1; omega)).trans HG.out; have k10 : w4.cell? ⟨r, 10, none⟩ = some (.slice NA R.no.length nc) := (cell_of_block hb9 10).trans rfl; have k11 : w4.cell? ⟨r, 11, none⟩ = some (.bool R.full) := (cell_of_block hb9 11).trans rfl; rw [HFU.out] at k11; have f10 : w4.frozen? ⟨r, 10, none⟩ = false := free_of_block hb9 10; have f11 : w4.frozen? ⟨r, 11, none⟩ = false := free_of_block hb9 11; have HR4 := Lib.hid ((rw_pushN HG.out HY.out HNO.out HD.out hrb hrs hk1 hk2 hown4 hgr4 hat4).set (Y := { R with no := R.no ++ [s], full := R.full || decide (er = 10) }) 11 (.bool true) (fun _ _ => by simp [Rw.cells, HFU.out]) rfl rfl); have hk4 : KeepsR r rb w ((w4.setCell ⟨r, 10, none⟩ (.slice v4A (R.no.length + 1) v4c)).setCell ⟨r, 11, none⟩ (.bool true)) := ((((KeepsR.of_below hb1).then_ (KeepsR.of_below ((Below.refl _ _).alloc (Nat.le_refl _) _))).then_ (KeepsR.grown hgr4 (fun i hi => (HNO.out.lt i hi).1))).then_ (KeepsR.setCell r rb 10 _ _)).then_ (KeepsR.setCell r rb 11 _ _); have HK4 := Lib.hid hk4; clear hown4 hbel4 hgr4 hat4 hb9 hk4)
        refine (rdecide_any _ rb r (K + 1) A n c { R with no := R.no ++ [s], full := R.full || decide (er = 10) } HR4.out (HR.out _ HK4.out) HN.out hm (by omega)).mono ?_
        rintro e w5 ⟨rfl, hw5, hk5⟩
        have HW5 := Lib.hid hw5; have HK5 := Lib.hid (HK4.out.then_ hk5); clear hw5 hk5
        go_wp2
        go_end0
        rw [HE.out]
        exact ⟨rfl, HW5.out, HK5.out⟩
end Go.Proofs.Ytebfmacbdjnhbaa
