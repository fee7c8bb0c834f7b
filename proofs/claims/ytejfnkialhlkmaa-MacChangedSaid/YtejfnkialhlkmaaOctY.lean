/- The walks of OctetNobody and OctetReads. -/
import Derived.Test.YtejfnkialhlkmaaOctX
namespace Go.Proofs.Ytejfnkialhlkmaa
open Go.RowKit Go.Mem Go.Num
set_option linter.unusedVariables false

theorem nb1 (k : Nat) (h : 0 < k) : tk k (([], false) : St) = ([], ([], false)) := by simp [tk]
theorem nbNum (k : Nat) (h : 0 < k) : rdNum k (([], false) : St) = (0, ([], false)) := by unfold rdNum; rw [nb1 k h]; rfl
theorem nbCount (m : Int) : rdCount m (([], false) : St) = (0, ([], false)) := by
  unfold rdCount
  rw [nbNum 4 (by omega)]
  split <;> rfl
theorem nbText : rdText (([], false) : St) = ([], ([], false)) := by unfold rdText; rw [nbCount]; simp [tk]
theorem nbTexts : rdTexts (([], false) : St) = ([], ([], false)) := by unfold rdTexts; rw [nbCount]; rfl

/-- two pointers in a block: nil, and block b's -/
def Ptrs (b q : Nat) (w : World) : Prop := w.heap[q]? = some (.cells #[.pointer none, .pointer (some ⟨b, 0, none⟩)] 40 (0, 0))
theorem Ptrs.c0 {b q : Nat} {w : World} (h : Ptrs b q w) : w.cell? ⟨q, 0, none⟩ = some (.pointer none) := by rw [Lib.cell_of_heap h]; rfl
theorem Ptrs.c1 {b q : Nat} {w : World} (h : Ptrs b q w) : w.cell? ⟨q, 1, none⟩ = some (.pointer (some ⟨b, 0, none⟩)) := by rw [Lib.cell_of_heap h]; rfl
theorem Ptrs.lt {b q : Nat} {w : World} (h : Ptrs b q w) : q < w.heap.size := (Array.getElem?_eq_some_iff.1 h).1
theorem Ptrs.below {b q : Nat} {w w' : World} (h : Ptrs b q w) (hb : Below w.heap.size w w') : Ptrs b q w' := (hb.block q h.lt).trans h
theorem Ptrs.only {b q : Nat} {w w' : World} (h : Ptrs b q w) (hb : Only b w w') (hne : q ≠ b) : Ptrs b q w' := (hb.block q h.lt (fun e => hne (by injection e))).trans h

set_option maxRecDepth 100000 in
set_option maxHeartbeats 4000000 in
theorem octetNobody_walk (most : Int) (w : World) :
    Calls Try.prog 5 #[.int .i64 most] w fun e w' => e = .returned (.bool true) ∧ Below w.heap.size w w' := by
  have hR : RdO w.heap.size ([], false) (w.alloc (.cells #[.string ⟨#[]⟩, .bool false] 51)) := Two.new w _ _ _
  have hP : Ptrs w.heap.size (w.heap.size + 1) ((w.alloc (.cells #[.string ⟨#[]⟩, .bool false] 51)).alloc (.cells #[.pointer none, .pointer (some ⟨w.heap.size, 0, none⟩)] 40)) := by
    have := heap_alloc_new (w.alloc (.cells #[.string ⟨#[]⟩, .bool false] 51)) (.cells #[.pointer none, .pointer (some ⟨w.heap.size, 0, none⟩)] 40)
    simpa [Ptrs] using this
  have hR := Two.alloc hR (.cells #[.pointer none, .pointer (some ⟨w.heap.size, 0, none⟩)] 40)
  have hB : Below w.heap.size w ((w.alloc (.cells #[.string ⟨#[]⟩, .bool false] 51)).alloc (.cells #[.pointer none, .pointer (some ⟨w.heap.size, 0, none⟩)] 40)) := ((Below.refl _ _).alloc (Nat.le_refl _) _).alloc (by simp) _
  generalize hw0 : (w.alloc (.cells #[.string ⟨#[]⟩, .bool false] 51)).alloc (.cells #[.pointer none, .pointer (some ⟨w.heap.size, 0, none⟩)] 40) = w0 at hR hP hB
  have HW0 := Lib.hid hw0; clear hw0
  have hlt0 := hP.lt
  go_enter Try.func5, Try.ntmps5
  go_wp2
  rw [HW0.out]
  go_loopw [4] (fun i wr => ∃ k : Nat, k ≤ 2 ∧ i = .int .i64 k ∧ RdO w.heap.size ([], false) wr ∧ Ptrs w.heap.size (w.heap.size + 1) wr ∧ Below w.heap.size w wr) (fun i _ => 2 - (intOf i).toNat)
  case atStart => exact ⟨0, by omega, rfl, hR, hP, hB⟩
  case round =>
    obtain ⟨k, hk, rfl, hR, hP, hB⟩ := hrel
    clear hlt0
    have hk3 : k = 0 ∨ k = 1 ∨ k = 2 := by omega
    rcases hk3 with rfl | rfl | rfl
    · have c0 := hP.c0
      go_wp2_with fail
      refine (rByte_none _).mono ?_
      rintro e x0 ⟨rfl, hx0⟩
      have hR := Two.below hR hx0
      have hP := hP.below hx0
      have hB := then_ hB hx0
      clear c0
      have c0 := hP.c0
      go_wp2_with fail
      refine (rInt_none _).mono ?_
      rintro e x1 ⟨rfl, hx1⟩
      have hR := Two.below hR hx1
      have hP := hP.below hx1
      have hB := then_ hB hx1
      clear c0
      have c0 := hP.c0
      go_wp2_with fail
      refine (rCount_none most _).mono ?_
      rintro e x2 ⟨rfl, hx2⟩
      have hR := Two.below hR hx2
      have hP := hP.below hx2
      have hB := then_ hB hx2
      clear c0
      have c0 := hP.c0
      go_wp2_with fail
      refine (rText_none _).mono ?_
      rintro e x3 ⟨rfl, hx3⟩
      have hR := Two.below hR hx3
      have hP := hP.below hx3
      have hB := then_ hB hx3
      clear c0
      have c0 := hP.c0
      go_wp2_with fail
      refine (rTexts_none _).mono ?_
      rintro e x4 ⟨rfl, hx4⟩
      have hR := Two.below hR hx4
      have hP := hP.below hx4
      have hB := then_ hB hx4
      clear c0
      have c0 := hP.c0
      go_wp2_with fail
      refine (rBad_none _).mono ?_
      rintro e x5 ⟨rfl, rfl⟩
      go_wp2_with fail
      refine (rDone_none _).mono ?_
      rintro e x6 ⟨rfl, rfl⟩
      go_wp2
      go_roundw
      case rel => exact ⟨1, by omega, rfl, hR, hP, hB⟩
      case measure => simp [intOf]
    · have c1 := hP.c1
      have hne : w.heap.size + 1 ≠ w.heap.size := by omega
      go_wp2_with fail
      refine (rByte_any _ _ _ hR (by simp)).mono ?_
      rw [nbNum 1 (by omega)]
      rintro e x0 ⟨rfl, hr0, ho0⟩
      simp only
      have hB := hB.trans (ho0.belowS (Nat.le_refl _) (Two.lt hR))
      clear hR
      have hR := hr0
      have hP := hP.only ho0 hne
      clear c1
      have c1 := hP.c1
      go_wp2_with fail
      refine (rInt_any _ _ _ hR (by simp)).mono ?_
      rw [nbNum 8 (by omega)]
      rintro e x1 ⟨rfl, hr1, ho1⟩
      simp only
      have hB := hB.trans (ho1.belowS (Nat.le_refl _) (Two.lt hR))
      clear hR
      have hR := hr1
      have hP := hP.only ho1 hne
      clear c1
      have c1 := hP.c1
      go_wp2_with fail
      refine (rCount_any _ most _ _ hR (by simp)).mono ?_
      rw [nbCount]
      rintro e x2 ⟨rfl, hr2, ho2⟩
      simp only
      have hB := hB.trans (ho2.belowS (Nat.le_refl _) (Two.lt hR))
      clear hR
      have hR := hr2
      have hP := hP.only ho2 hne
      clear c1
      have c1 := hP.c1
      go_wp2_with fail
      refine (rText_any _ _ _ hR (by simp)).mono ?_
      rw [nbText]
      rintro e x3 ⟨rfl, hr3, ho3⟩
      simp only
      rw [show bs [] = ⟨#[]⟩ from rfl]
      have hB := hB.trans (ho3.belowS (Nat.le_refl _) (Two.lt hR))
      clear hR
      have hR := hr3
      have hP := hP.only ho3 hne
      clear c1
      have c1 := hP.c1
      go_wp2_with fail
      refine (rTexts_any _ _ _ hR (by simp)).mono ?_
      rw [nbTexts]
      rintro e x4 ⟨v, rfl, hv, hr4, ho4⟩
      obtain ⟨vA, vc, rfl⟩ := own_form hv
      simp only [List.length_nil]
      have hB := hB.trans (ho4.belowS (Nat.le_refl _) (Two.lt hR))
      clear hR
      have hR := hr4
      have hP := hP.only ho4 hne
      clear c1
      have c1 := hP.c1
      go_wp2_with fail
      refine (rBad_any _ _ _ hR).mono ?_
      rintro e x5 ⟨rfl, rfl⟩
      simp only [Bool.not_false]
      go_wp2_with fail
      refine (rDone_any _ _ _ hR).mono ?_
      rintro e x6 ⟨rfl, rfl⟩
      rw [show rdDone (([], false) : St) = false from rfl]
      go_wp2
      go_roundw
      case rel => exact ⟨2, by omega, rfl, hR, hP, hB⟩
      case measure => simp [intOf]
    · go_wp2_with fail
      refine (awake01_any _).mono ?_
      rintro e x ⟨rfl, hx⟩
      go_wp2
      go_ret
      exact ⟨rfl, then_ hB hx⟩
end Go.Proofs.Ytejfnkialhlkmaa
