/- The entry that gives a key another value: the code's and the document's. -/
import Derived.Test.YtlmplibdfhamjaaRegC
namespace Go.Proofs.Ytlmplibdfhamjaa
open Go.RowKit Go.Mem
set_option linter.unusedVariables false
set_option linter.unusedSimpArgs false

def setErr (l : List Ent) (by_ key val : ByteArray) : Int := if (!mayL l || decide (key.size < 1) || decide (128 < key.size)) = true then 1 else nextErr (getR l key) by_ val
def setEnt (l : List Ent) (by_ key val : ByteArray) : Ent := if setErr l by_ key val = 0 then ⟨key, nextRg (getR l key) by_ val⟩ else zE
theorem getR_ok {w : World} {l : List Ent} (h : ∀ m ∈ l, m.ok w) (key : ByteArray) : (getR l key).by_.size ≤ maxLen ∧ (getR l key).value.size ≤ maxLen := by
  unfold getR
  cases hf : l.find? (atKey key) with
  | none => exact ⟨by decide, by decide⟩
  | some e => have := h e (List.mem_of_find?_eq_some hf); exact ⟨this.2.2.1, this.2.2.2⟩
structure EX (w W : World) : Prop where
  bel : Below w.heap.size w W
  r : W.heap[w.heap.size]? = some (.cells #[.string ⟨#[]⟩, .int .i64 0, .string ⟨#[]⟩, .string ⟨#[]⟩] 47 (0, 0))
theorem EX.start (w : World) : EX w (w.alloc (.cells #[.string ⟨#[]⟩, .int .i64 0, .string ⟨#[]⟩, .string ⟨#[]⟩] 47)) := ⟨(Below.refl _ _).alloc (Nat.le_refl _) _, heap_alloc_new w _⟩
theorem EX.step {w W W' : World} (h : EX w W) (hb : Below W.heap.size W W') : EX w W' := ⟨then_ h.bel hb, (hb.block _ (Array.getElem?_eq_some_iff.1 h.r).1).trans h.r⟩
theorem EX.cells {w W : World} (h : EX w W) : W.cell? ⟨w.heap.size, 0, none⟩ = some (.string ⟨#[]⟩) ∧ W.cell? ⟨w.heap.size, 1, none⟩ = some (.int .i64 0) ∧ W.cell? ⟨w.heap.size, 2, none⟩ = some (.string ⟨#[]⟩) ∧ W.cell? ⟨w.heap.size, 3, none⟩ = some (.string ⟨#[]⟩) ∧
    W.frozen? ⟨w.heap.size, 0, none⟩ = false ∧ W.frozen? ⟨w.heap.size, 1, none⟩ = false ∧ W.frozen? ⟨w.heap.size, 2, none⟩ = false ∧ W.frozen? ⟨w.heap.size, 3, none⟩ = false :=
  ⟨cell_of_row _ _ _ _ _ _ h.r, cell_of_row _ _ _ _ _ _ h.r, cell_of_row _ _ _ _ _ _ h.r, cell_of_row _ _ _ _ _ _ h.r, frozen_of_row _ _ _ _ _ h.r, frozen_of_row _ _ _ _ _ h.r, frozen_of_row _ _ _ _ _ h.r, frozen_of_row _ _ _ _ _ h.r⟩
theorem set4 {w : World} {g : Nat} {t : TypeId} {a b c d : Value} (h : w.heap[g]? = some (.cells #[a, b, c, d] t (0, 0))) (x y z u : Value) :
    ((((w.setCell ⟨g, 0, none⟩ x).setCell ⟨g, 1, none⟩ y).setCell ⟨g, 2, none⟩ z).setCell ⟨g, 3, none⟩ u).heap[g]? = some (.cells #[x, y, z, u] t (0, 0)) :=
  heap_setCell_same _ g 3 _ t u (heap_setCell_same _ g 2 _ t z (heap_setCell_same _ g 1 _ t y (heap_setCell_same w g 0 _ t x h)))
def SetR (l : List Ent) (by_ key val : ByteArray) (w : World) (e : Ending) (w' : World) : Prop := e = .returned (.tuple #[.agg (setEnt l by_ key val).arr, .int .i64 (setErr l by_ key val)]) ∧ Below w.heap.size w w'

set_option maxRecDepth 100000 in
set_option maxHeartbeats 8000000 in
theorem set10_any (A : Option Addr) (n c : Nat) (l : List Ent) (by_ key val : ByteArray) (w : World) (hr : Rd w A (l.flatMap fun m => m.arr.toList)) (hn : l.length = n) (hm : n ≤ maxLen) (hok : ∀ m ∈ l, m.ok w) (hb : by_.size ≤ maxLen) (hk : key.size ≤ maxLen) (hl : val.size ≤ maxLen) : Calls Try.prog 73 #[.slice A n c, .string by_, .string key, .string val] w (SetR l by_ key val w) := by
  have hck := fun W (hW : Below w.heap.size w W) => check10_any A n c l W (hr.below hW) hn hm (fun m hm => (hok m hm).below hW)
  have HG := Lib.hid (fun W (hW : Below w.heap.size w W) => get_any A n c l key W (hr.below hW) hn hm)
  have HNX := Lib.hid (fun W => next09_any (getR l key) by_ val W (getR_ok hok key).1 (getR_ok hok key).2 hb hl)
  have HX := Lib.hid (EX.start w)
  clear hr hn hm hok hb hl
  unfold maxLen at hk
  unfold errL at hck
  generalize hmy : mayL l = p at hck
  cases p
  · have HE : Hid (setErr l by_ key val = 1) := Lib.hid (by unfold setErr; rw [hmy]; rfl)
    have HT : Hid ((setEnt l by_ key val).arr = #[.string ⟨#[]⟩, .int .i64 0, .string ⟨#[]⟩, .string ⟨#[]⟩]) := Lib.hid (by unfold setEnt; rw [HE.out]; rfl)
    clear hmy
    have HCK := Lib.hid hck; clear hck
    go_enter Try.func73, Try.ntmps73
    go_wp2_with fail
    refine (HCK.out _ HX.out.bel).mono ?_
    rintro e w1 ⟨rfl, hb1⟩
    have hx := HX.out.step hb1
    obtain ⟨r0, r1, r2, r3, z0, z1, z2, z3⟩ := hx.cells
    have HX := Lib.hid hx; clear hx hb1
    go_wp2
    refine bodyPost_ret (results_cell_row2 rfl _ _ w.heap.size _ #[.string ⟨#[]⟩, .int .i64 0, .string ⟨#[]⟩, .string ⟨#[]⟩] (0, 0) _ rfl (set4 HX.out.r _ _ _ _) Try.underlying47 rfl row_ent.hi) rfl ⟨?_, ?_⟩
    · rw [HE.out, HT.out]; rfl
    · exact (((HX.out.bel.setCell (by simp) _).setCell (by simp) _).setCell (by simp) _).setCell (by simp) _
  · by_cases hk0 : key.size < 1
    · have hke : key.toList.isEmpty = true := empty_toList.2 (by omega)
      have hd0 : decide (key.size < 1) = true := decide_eq_true hk0
      have HE : Hid (setErr l by_ key val = 1) := Lib.hid (by unfold setErr; rw [hmy, hd0]; rfl)
      have HT : Hid ((setEnt l by_ key val).arr = #[.string ⟨#[]⟩, .int .i64 0, .string ⟨#[]⟩, .string ⟨#[]⟩]) := Lib.hid (by unfold setEnt; rw [HE.out]; rfl)
      clear hmy  hd0
      have HCK := Lib.hid hck; clear hck
      go_enter Try.func73, Try.ntmps73
      go_wp2_with fail
      refine (HCK.out _ HX.out.bel).mono ?_
      rintro e w1 ⟨rfl, hb1⟩
      have hx := HX.out.step hb1
      obtain ⟨r0, r1, r2, r3, z0, z1, z2, z3⟩ := hx.cells
      have HX := Lib.hid hx; clear hx hb1
      go_wp2
      refine bodyPost_ret (results_cell_row2 rfl _ _ w.heap.size _ #[.string ⟨#[]⟩, .int .i64 0, .string ⟨#[]⟩, .string ⟨#[]⟩] (0, 0) _ rfl (set4 HX.out.r _ _ _ _) Try.underlying47 rfl row_ent.hi) rfl ⟨?_, ?_⟩
      · rw [HE.out, HT.out]; rfl
      · exact (((HX.out.bel.setCell (by simp) _).setCell (by simp) _).setCell (by simp) _).setCell (by simp) _
    · have hke : key.toList.isEmpty = false := by rw [← Bool.not_eq_true]; exact fun h => hk0 (by have := empty_toList.1 h; omega)
      by_cases hk1 : 128 < key.size
      · have hd1 : decide (128 < key.size) = true := by simpa using hk1
        have hd0 : decide (key.size < 1) = false := decide_eq_false hk0
        have HE : Hid (setErr l by_ key val = 1) := Lib.hid (by unfold setErr; rw [hmy, hd0, hd1]; rfl)
        have HT : Hid ((setEnt l by_ key val).arr = #[.string ⟨#[]⟩, .int .i64 0, .string ⟨#[]⟩, .string ⟨#[]⟩]) := Lib.hid (by unfold setEnt; rw [HE.out]; rfl)
        clear hmy  hd0  hd1
        have HCK := Lib.hid hck; clear hck
        go_enter Try.func73, Try.ntmps73
        go_wp2_with fail
        refine (HCK.out _ HX.out.bel).mono ?_
        rintro e w1 ⟨rfl, hb1⟩
        have hx := HX.out.step hb1
        obtain ⟨r0, r1, r2, r3, z0, z1, z2, z3⟩ := hx.cells
        have HX := Lib.hid hx; clear hx hb1
        go_wp2
        refine bodyPost_ret (results_cell_row2 rfl _ _ w.heap.size _ #[.string ⟨#[]⟩, .int .i64 0, .string ⟨#[]⟩, .string ⟨#[]⟩] (0, 0) _ rfl (set4 HX.out.r _ _ _ _) Try.underlying47 rfl row_ent.hi) rfl ⟨?_, ?_⟩
        · rw [HE.out, HT.out]; rfl
        · exact (((HX.out.bel.setCell (by simp) _).setCell (by simp) _).setCell (by simp) _).setCell (by simp) _
      · have hd0 : decide (key.size < 1) = false := decide_eq_false hk0
        have hd1 : decide (128 < key.size) = false := by simpa using hk1
        have HS : Hid (setErr l by_ key val = nextErr (getR l key) by_ val) := Lib.hid (by unfold setErr; rw [hmy, hd0, hd1]; rfl)
        have HT0 : Hid (setEnt l by_ key val = if setErr l by_ key val = 0 then ⟨key, nextRg (getR l key) by_ val⟩ else zE) := Lib.hid rfl
        unfold NextR at HNX
        generalize getR l key = r at HG HNX HS HT0
        obtain ⟨rn, rb, rv⟩ := r
        generalize hE : nextErr ⟨rn, rb, rv⟩ by_ val = E at HNX HS
        generalize hR : nextRg ⟨rn, rb, rv⟩ by_ val = R at HNX HT0
        obtain ⟨nn, nb, nv⟩ := R
        simp only [Rg.arr] at HG HNX
        clear hmy hd0 hd1 hE hR
        by_cases hE : E = 0
        · subst hE
          have HE : Hid (setErr l by_ key val = 0) := Lib.hid HS.out
          have HT : Hid ((setEnt l by_ key val).arr = #[.string key, .int .i64 nn, .string nb, .string nv]) := Lib.hid (by rw [HT0.out, HE.out]; rfl)
          have HCK := Lib.hid hck; clear hck
          go_enter Try.func73, Try.ntmps73
          go_wp2_with fail
          refine (HCK.out _ HX.out.bel).mono ?_
          rintro e w1 ⟨rfl, hb1⟩
          have hx := HX.out.step hb1
          obtain ⟨r0, r1, r2, r3, z0, z1, z2, z3⟩ := hx.cells
          have HX := Lib.hid hx; clear hx hb1
          go_wp2_with fail
          refine (HG.out _ HX.out.bel).mono ?_
          rintro e w2 ⟨rfl, hb2⟩
          have hx := HX.out.step hb2
          have HX := Lib.hid hx; clear hx hb2
          go_wp2_with fail
          refine (HNX.out _).mono ?_
          rintro e w3 ⟨rfl, hb3⟩
          have hx := HX.out.step hb3
          obtain ⟨r0, r1, r2, r3, z0, z1, z2, z3⟩ := hx.cells
          have hx2 := hx.step ((Below.refl w3.heap.size w3).alloc (Nat.le_refl _) (.cells #[.int .i64 nn, .string nb, .string nv] 45))
          obtain ⟨y0, y1, y2, y3, x0, x1, x2, x3⟩ := hx2.cells
          have HX := Lib.hid hx2; clear hx hb3 hx2
          go_wp2
          refine bodyPost_ret (results_cell_row2 rfl _ _ w.heap.size _ #[.string key, .int .i64 nn, .string nb, .string nv] (0, 0) _ rfl (set4 HX.out.r _ _ _ _) Try.underlying47 rfl row_ent.hi) rfl ⟨?_, ?_⟩
          · rw [HE.out, HT.out]; rfl
          · exact (((HX.out.bel.setCell (by simp) _).setCell (by simp) _).setCell (by simp) _).setCell (by simp) _
        · have hne : (E != 0) = true := by simpa using hE
          have HE : Hid (setErr l by_ key val = E) := Lib.hid HS.out
          have HT : Hid ((setEnt l by_ key val).arr = #[.string ⟨#[]⟩, .int .i64 0, .string ⟨#[]⟩, .string ⟨#[]⟩]) := Lib.hid (by rw [HT0.out, HE.out, if_neg hE]; rfl)
          clear hE
          have HCK := Lib.hid hck; clear hck
          go_enter Try.func73, Try.ntmps73
          go_wp2_with fail
          refine (HCK.out _ HX.out.bel).mono ?_
          rintro e w1 ⟨rfl, hb1⟩
          have hx := HX.out.step hb1
          obtain ⟨r0, r1, r2, r3, z0, z1, z2, z3⟩ := hx.cells
          have HX := Lib.hid hx; clear hx hb1
          go_wp2_with fail
          refine (HG.out _ HX.out.bel).mono ?_
          rintro e w2 ⟨rfl, hb2⟩
          have hx := HX.out.step hb2
          have HX := Lib.hid hx; clear hx hb2
          go_wp2_with fail
          refine (HNX.out _).mono ?_
          rintro e w3 ⟨rfl, hb3⟩
          have hx := HX.out.step hb3
          obtain ⟨r0, r1, r2, r3, z0, z1, z2, z3⟩ := hx.cells
          have hx2 := hx.step ((Below.refl w3.heap.size w3).alloc (Nat.le_refl _) (.cells #[.int .i64 nn, .string nb, .string nv] 45))
          obtain ⟨y0, y1, y2, y3, x0, x1, x2, x3⟩ := hx2.cells
          have HX := Lib.hid hx2; clear hx hb3 hx2
          go_wp2
          refine bodyPost_ret (results_cell_row2 rfl _ _ w.heap.size _ #[.string ⟨#[]⟩, .int .i64 0, .string ⟨#[]⟩, .string ⟨#[]⟩] (0, 0) _ rfl (set4 HX.out.r _ _ _ _) Try.underlying47 rfl row_ent.hi) rfl ⟨?_, ?_⟩
          · rw [HE.out, HT.out]; rfl
          · exact (((HX.out.bel.setCell (by simp) _).setCell (by simp) _).setCell (by simp) _).setCell (by simp) _
set_option maxRecDepth 100000 in
set_option maxHeartbeats 8000000 in
theorem rset10_any (A : Option Addr) (n c : Nat) (l : List Ent) (by_ key val : ByteArray) (w : World) (hr : Rd w A (l.flatMap fun m => m.arr.toList)) (hn : l.length = n) (hm : n ≤ maxLen) (hok : ∀ m ∈ l, m.ok w) (hb : by_.size ≤ maxLen) (hk : key.size ≤ maxLen) (hl : val.size ≤ maxLen) : Calls Try.prog 75 #[.slice A n c, .string by_, .string key, .string val] w (SetR l by_ key val w) := by
  have hck := fun W (hW : Below w.heap.size w W) => may10_any A n c l W (hr.below hW) hn hm (fun m hm => (hok m hm).below hW)
  have HG := Lib.hid (fun W (hW : Below w.heap.size w W) => rget_any A n c l key W (hr.below hW) hn hm)
  have HNX := Lib.hid (fun W => rnext09_any (getR l key) by_ val W (getR_ok hok key).1 (getR_ok hok key).2 hb hl)
  have HX := Lib.hid (EX.start w)
  clear hr hn hm hok hb hl
  unfold maxLen at hk
  generalize hmy : mayL l = p at hck
  cases p
  · have HE : Hid (setErr l by_ key val = 1) := Lib.hid (by unfold setErr; rw [hmy]; rfl)
    have HT : Hid ((setEnt l by_ key val).arr = #[.string ⟨#[]⟩, .int .i64 0, .string ⟨#[]⟩, .string ⟨#[]⟩]) := Lib.hid (by unfold setEnt; rw [HE.out]; rfl)
    clear hmy
    have HCK := Lib.hid hck; clear hck
    go_enter Try.func75, Try.ntmps75
    go_wp2_with fail
    refine (HCK.out _ HX.out.bel).mono ?_
    rintro e w1 ⟨rfl, hb1⟩
    have hx := HX.out.step hb1
    obtain ⟨r0, r1, r2, r3, z0, z1, z2, z3⟩ := hx.cells
    have HX := Lib.hid hx; clear hx hb1
    go_wp2
    refine bodyPost_ret (results_cell_row2 rfl _ _ w.heap.size _ #[.string ⟨#[]⟩, .int .i64 0, .string ⟨#[]⟩, .string ⟨#[]⟩] (0, 0) _ rfl (set4 HX.out.r _ _ _ _) Try.underlying47 rfl row_ent.hi) rfl ⟨?_, ?_⟩
    · rw [HE.out, HT.out]; rfl
    · exact (((HX.out.bel.setCell (by simp) _).setCell (by simp) _).setCell (by simp) _).setCell (by simp) _
  · by_cases hk0 : key.size < 1
    · have hke : key.toList.isEmpty = true := empty_toList.2 (by omega)
      have hd0 : decide (key.size < 1) = true := decide_eq_true hk0
      have HE : Hid (setErr l by_ key val = 1) := Lib.hid (by unfold setErr; rw [hmy, hd0]; rfl)
      have HT : Hid ((setEnt l by_ key val).arr = #[.string ⟨#[]⟩, .int .i64 0, .string ⟨#[]⟩, .string ⟨#[]⟩]) := Lib.hid (by unfold setEnt; rw [HE.out]; rfl)
      clear hmy  hd0
      have HCK := Lib.hid hck; clear hck
      go_enter Try.func75, Try.ntmps75
      go_wp2_with fail
      refine (HCK.out _ HX.out.bel).mono ?_
      rintro e w1 ⟨rfl, hb1⟩
      have hx := HX.out.step hb1
      obtain ⟨r0, r1, r2, r3, z0, z1, z2, z3⟩ := hx.cells
      have HX := Lib.hid hx; clear hx hb1
      go_wp2
      refine bodyPost_ret (results_cell_row2 rfl _ _ w.heap.size _ #[.string ⟨#[]⟩, .int .i64 0, .string ⟨#[]⟩, .string ⟨#[]⟩] (0, 0) _ rfl (set4 HX.out.r _ _ _ _) Try.underlying47 rfl row_ent.hi) rfl ⟨?_, ?_⟩
      · rw [HE.out, HT.out]; rfl
      · exact (((HX.out.bel.setCell (by simp) _).setCell (by simp) _).setCell (by simp) _).setCell (by simp) _
    · have hke : key.toList.isEmpty = false := by rw [← Bool.not_eq_true]; exact fun h => hk0 (by have := empty_toList.1 h; omega)
      by_cases hk1 : 128 < key.size
      · have hd1 : decide (128 < key.size) = true := by simpa using hk1
        have hd0 : decide (key.size < 1) = false := decide_eq_false hk0
        have HE : Hid (setErr l by_ key val = 1) := Lib.hid (by unfold setErr; rw [hmy, hd0, hd1]; rfl)
        have HT : Hid ((setEnt l by_ key val).arr = #[.string ⟨#[]⟩, .int .i64 0, .string ⟨#[]⟩, .string ⟨#[]⟩]) := Lib.hid (by unfold setEnt; rw [HE.out]; rfl)
        clear hmy  hd0  hd1
        have HCK := Lib.hid hck; clear hck
        go_enter Try.func75, Try.ntmps75
        go_wp2_with fail
        refine (HCK.out _ HX.out.bel).mono ?_
        rintro e w1 ⟨rfl, hb1⟩
        have hx := HX.out.step hb1
        obtain ⟨r0, r1, r2, r3, z0, z1, z2, z3⟩ := hx.cells
        have HX := Lib.hid hx; clear hx hb1
        go_wp2
        refine bodyPost_ret (results_cell_row2 rfl _ _ w.heap.size _ #[.string ⟨#[]⟩, .int .i64 0, .string ⟨#[]⟩, .string ⟨#[]⟩] (0, 0) _ rfl (set4 HX.out.r _ _ _ _) Try.underlying47 rfl row_ent.hi) rfl ⟨?_, ?_⟩
        · rw [HE.out, HT.out]; rfl
        · exact (((HX.out.bel.setCell (by simp) _).setCell (by simp) _).setCell (by simp) _).setCell (by simp) _
      · have hd0 : decide (key.size < 1) = false := decide_eq_false hk0
        have hd1 : decide (128 < key.size) = false := by simpa using hk1
        have HS : Hid (setErr l by_ key val = nextErr (getR l key) by_ val) := Lib.hid (by unfold setErr; rw [hmy, hd0, hd1]; rfl)
        have HT0 : Hid (setEnt l by_ key val = if setErr l by_ key val = 0 then ⟨key, nextRg (getR l key) by_ val⟩ else zE) := Lib.hid rfl
        unfold NextR at HNX
        generalize getR l key = r at HG HNX HS HT0
        obtain ⟨rn, rb, rv⟩ := r
        generalize hE : nextErr ⟨rn, rb, rv⟩ by_ val = E at HNX HS
        generalize hR : nextRg ⟨rn, rb, rv⟩ by_ val = R at HNX HT0
        obtain ⟨nn, nb, nv⟩ := R
        simp only [Rg.arr] at HG HNX
        clear hmy hd0 hd1 hE hR
        by_cases hE : E = 0
        · subst hE
          have HE : Hid (setErr l by_ key val = 0) := Lib.hid HS.out
          have HT : Hid ((setEnt l by_ key val).arr = #[.string key, .int .i64 nn, .string nb, .string nv]) := Lib.hid (by rw [HT0.out, HE.out]; rfl)
          have HCK := Lib.hid hck; clear hck
          go_enter Try.func75, Try.ntmps75
          go_wp2_with fail
          refine (HCK.out _ HX.out.bel).mono ?_
          rintro e w1 ⟨rfl, hb1⟩
          have hx := HX.out.step hb1
          obtain ⟨r0, r1, r2, r3, z0, z1, z2, z3⟩ := hx.cells
          have HX := Lib.hid hx; clear hx hb1
          go_wp2_with fail
          refine (HG.out _ HX.out.bel).mono ?_
          rintro e w2 ⟨rfl, hb2⟩
          have hx := HX.out.step hb2
          have HX := Lib.hid hx; clear hx hb2
          go_wp2_with fail
          refine (HNX.out _).mono ?_
          rintro e w3 ⟨rfl, hb3⟩
          have hx := HX.out.step hb3
          obtain ⟨r0, r1, r2, r3, z0, z1, z2, z3⟩ := hx.cells
          have hx2 := hx.step ((Below.refl w3.heap.size w3).alloc (Nat.le_refl _) (.cells #[.int .i64 nn, .string nb, .string nv] 45))
          obtain ⟨y0, y1, y2, y3, x0, x1, x2, x3⟩ := hx2.cells
          have HX := Lib.hid hx2; clear hx hb3 hx2
          go_wp2
          refine bodyPost_ret (results_cell_row2 rfl _ _ w.heap.size _ #[.string key, .int .i64 nn, .string nb, .string nv] (0, 0) _ rfl (set4 HX.out.r _ _ _ _) Try.underlying47 rfl row_ent.hi) rfl ⟨?_, ?_⟩
          · rw [HE.out, HT.out]; rfl
          · exact (((HX.out.bel.setCell (by simp) _).setCell (by simp) _).setCell (by simp) _).setCell (by simp) _
        · have hne : (E != 0) = true := by simpa using hE
          have HE : Hid (setErr l by_ key val = E) := Lib.hid HS.out
          have HT : Hid ((setEnt l by_ key val).arr = #[.string ⟨#[]⟩, .int .i64 0, .string ⟨#[]⟩, .string ⟨#[]⟩]) := Lib.hid (by rw [HT0.out, HE.out, if_neg hE]; rfl)
          clear hE
          have HCK := Lib.hid hck; clear hck
          go_enter Try.func75, Try.ntmps75
          go_wp2_with fail
          refine (HCK.out _ HX.out.bel).mono ?_
          rintro e w1 ⟨rfl, hb1⟩
          have hx := HX.out.step hb1
          obtain ⟨r0, r1, r2, r3, z0, z1, z2, z3⟩ := hx.cells
          have HX := Lib.hid hx; clear hx hb1
          go_wp2_with fail
          refine (HG.out _ HX.out.bel).mono ?_
          rintro e w2 ⟨rfl, hb2⟩
          have hx := HX.out.step hb2
          have HX := Lib.hid hx; clear hx hb2
          go_wp2_with fail
          refine (HNX.out _).mono ?_
          rintro e w3 ⟨rfl, hb3⟩
          have hx := HX.out.step hb3
          obtain ⟨r0, r1, r2, r3, z0, z1, z2, z3⟩ := hx.cells
          have hx2 := hx.step ((Below.refl w3.heap.size w3).alloc (Nat.le_refl _) (.cells #[.int .i64 nn, .string nb, .string nv] 45))
          obtain ⟨y0, y1, y2, y3, x0, x1, x2, x3⟩ := hx2.cells
          have HX := Lib.hid hx2; clear hx hb3 hx2
          go_wp2
          refine bodyPost_ret (results_cell_row2 rfl _ _ w.heap.size _ #[.string ⟨#[]⟩, .int .i64 0, .string ⟨#[]⟩, .string ⟨#[]⟩] (0, 0) _ rfl (set4 HX.out.r _ _ _ _) Try.underlying47 rfl row_ent.hi) rfl ⟨?_, ?_⟩
          · rw [HE.out, HT.out]; rfl
          · exact (((HX.out.bel.setCell (by simp) _).setCell (by simp) _).setCell (by simp) _).setCell (by simp) _
end Go.Proofs.Ytlmplibdfhamjaa
