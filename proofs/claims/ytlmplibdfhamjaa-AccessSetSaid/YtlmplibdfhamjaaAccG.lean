/- The walk of AccessSet: what it asks of access is so, for every argument. -/
import Derived.Test.YtlmplibdfhamjaaAccF
attribute [local go_sem ↓] Go.wp_at_zero Go.wp_at_succ
namespace Go.Proofs.Ytlmplibdfhamjaa
open Go.RowKit Go.Mem
set_option linter.unusedVariables false
set_option linter.unusedSimpArgs false

set_option maxRecDepth 100000 in
set_option maxHeartbeats 8000000 in
theorem accessSet_walk (A : Option Addr) (n c : Nat) (l : List Ent) (x : T4) (rights : Int) (w : World) (hr : Rd w A (l.flatMap fun m => m.arr.toList)) (hn : l.length = n) (hm : n ≤ maxLen) (hok : ∀ m ∈ l, m.ok w) (hx : x.ok) (hri : (Lit.int .i64 rights).wf = true) :
    Calls Try.prog 6 #[.slice A n c, .agg x.arr, .int .i64 rights] w (TrueB w) := by
  obtain ⟨y, t, b, u⟩ := x
  simp only [T4.arr]
  obtain ⟨hy, ht, hb0, hu⟩ := hx
  simp only at hy ht hb0 hu
  have hbx := (Below.refl w.heap.size w).alloc (Nat.le_refl _) (.cells #[.string y, .string t, .string b, .string u] 43)
  have hxx := heap_alloc_new w (.cells #[.string y, .string t, .string b, .string u] 43)
  have HF := Lib.hid (few10_any A n c l 30 (w.alloc (.cells #[.string y, .string t, .string b, .string u] 43)) (hr.below hbx) hn hm (fun m hm => (hok m hm).below hbx))
  have HS := Lib.hid (fun W (hW : Below w.heap.size w W) (h1 : t.size ≤ 100) (h2 : b.size ≤ 100) (h3 : u.size ≤ 100) => accSet_any A n c l y t b u rights W (hr.below hW) hn hm (fun m hm => (hok m hm).below hW) hy (by omega) (by omega) (by omega))
  have HRS := Lib.hid (fun W (hW : Below w.heap.size w W) (h1 : t.size ≤ 100) (h2 : b.size ≤ 100) (h3 : u.size ≤ 100) => raccSet_any A n c l y t b u rights W (hr.below hW) hn hm (fun m hm => (hok m hm).below hW) hy (by omega) (by omega) (by omega))
  have HBX := Lib.hid hbx; have HXX := Lib.hid hxx
  clear hr hn hok hbx hxx hri
  unfold maxLen at hm hy ht hb0 hu
  unfold AccR at HS HRS
  generalize accErr l y t b u rights = E at HS HRS
  generalize accEnt l y t b u rights = G at HS HRS
  obtain ⟨gk, ⟨gn, gb, gv⟩⟩ := G
  simp only [Ent.arr] at HS HRS
  go_enter Try.func6, Try.ntmps6
  go_wp2_with fail
  refine HF.out.mono ?_
  rintro e w1 ⟨b1, -, rfl, hb1⟩
  have hbel := then_ HBX.out hb1
  have hX := (hb1.block _ (Array.getElem?_eq_some_iff.1 HXX.out).1).trans HXX.out
  have HX := Lib.hid hX
  clear HF hb1 HBX HXX
  have x0 : w1.cell? ⟨w.heap.size, 0, none⟩ = some (.string y) := cell_of_row _ _ _ _ _ _ hX
  have x1 : w1.cell? ⟨w.heap.size, 1, none⟩ = some (.string t) := cell_of_row _ _ _ _ _ _ hX
  have x2 : w1.cell? ⟨w.heap.size, 2, none⟩ = some (.string b) := cell_of_row _ _ _ _ _ _ hX
  have x3 : w1.cell? ⟨w.heap.size, 3, none⟩ = some (.string u) := cell_of_row _ _ _ _ _ _ hX
  clear hX
  cases b1
  · go_wp2_with fail
    refine (fin22 w _ hbel).mono ?_
    rintro e w2 ⟨rfl, hb2⟩
    go_wp2
    go_ret
    exact ⟨rfl, hb2⟩
  go_wp2
  refine wp_loop_rounds 5 ?_
  rw [rounds_succ]
  by_cases f0 : 100 < y.size
  · go_wp2_with fail
    refine (fin22 w _ hbel).mono ?_
    rintro e w2 ⟨rfl, hb2⟩
    go_wp2
    go_ret
    exact ⟨rfl, hb2⟩
  go_wp2
  rw [rounds_succ]
  by_cases f1 : 100 < t.size
  · go_wp2_with fail
    refine (fin22 w _ hbel).mono ?_
    rintro e w2 ⟨rfl, hb2⟩
    go_wp2
    go_ret
    exact ⟨rfl, hb2⟩
  go_wp2
  rw [rounds_succ]
  by_cases f2 : 100 < b.size
  · go_wp2_with fail
    refine (fin22 w _ hbel).mono ?_
    rintro e w2 ⟨rfl, hb2⟩
    go_wp2
    go_ret
    exact ⟨rfl, hb2⟩
  go_wp2
  rw [rounds_succ]
  by_cases f3 : 100 < u.size
  · go_wp2_with fail
    refine (fin22 w _ hbel).mono ?_
    rintro e w2 ⟨rfl, hb2⟩
    go_wp2
    go_ret
    exact ⟨rfl, hb2⟩
  go_wp2
  rw [rounds_succ]
  go_wp2_with fail
  refine (HS.out _ hbel (by omega) (by omega) (by omega)).mono ?_
  rintro e w2 ⟨rfl, hb2⟩
  have hbel2 := then_ hbel hb2
  have hX := (hb2.block _ (Array.getElem?_eq_some_iff.1 HX.out).1).trans HX.out
  clear x0 x1 x2 x3 hb2 hbel HX
  have hbz := (Below.refl w2.heap.size w2).alloc (Nat.le_refl _) (.cells #[.string gk, .int .i64 gn, .string gb, .string gv] 47)
  have hX2 := (hbz.block _ (Array.getElem?_eq_some_iff.1 hX).1).trans hX
  have x0 := cell_of_row (w2.alloc (.cells #[.string gk, .int .i64 gn, .string gb, .string gv] 47)) w.heap.size 0 _ _ _ hX2
  have x1 := cell_of_row (w2.alloc (.cells #[.string gk, .int .i64 gn, .string gb, .string gv] 47)) w.heap.size 1 _ _ _ hX2
  have x2 := cell_of_row (w2.alloc (.cells #[.string gk, .int .i64 gn, .string gb, .string gv] 47)) w.heap.size 2 _ _ _ hX2
  have x3 := cell_of_row (w2.alloc (.cells #[.string gk, .int .i64 gn, .string gb, .string gv] 47)) w.heap.size 3 _ _ _ hX2
  simp only [List.getElem?_toArray, List.getElem?_cons_zero, List.getElem?_cons_succ] at x0 x1 x2 x3
  have HBZ := Lib.hid (then_ hbel2 hbz)
  clear hX hX2 hbz hbel2
  go_wp2_with fail
  refine (HRS.out _ HBZ.out (by omega) (by omega) (by omega)).mono ?_
  rintro e w3 ⟨rfl, hb3⟩
  have hG := (hb3.block w2.heap.size (by simp)).trans (heap_alloc_new w2 (.cells #[.string gk, .int .i64 gn, .string gb, .string gv] 47))
  have hbel3 := then_ HBZ.out hb3
  clear x0 x1 x2 x3 hb3 HBZ
  generalize w2.heap.size = g2 at hG ⊢
  have y0 := cell_of_row w3 g2 0 _ _ _ hG; have y1 := cell_of_row w3 g2 1 _ _ _ hG; have y2 := cell_of_row w3 g2 2 _ _ _ hG; have y3 := cell_of_row w3 g2 3 _ _ _ hG
  simp only [List.getElem?_toArray, List.getElem?_cons_zero, List.getElem?_cons_succ] at y0 y1 y2 y3
  have HG := Lib.hid (cell_below ((Below.refl w3.heap.size w3).alloc (Nat.le_refl _) (.cells #[.string gk, .int .i64 gn, .string gb, .string gv] 47)) y0)
  have z0 := cell_below ((Below.refl w3.heap.size w3).alloc (Nat.le_refl _) (.cells #[.string gk, .int .i64 gn, .string gb, .string gv] 47)) y0
  have z1 := cell_below ((Below.refl w3.heap.size w3).alloc (Nat.le_refl _) (.cells #[.string gk, .int .i64 gn, .string gb, .string gv] 47)) y1
  have z2 := cell_below ((Below.refl w3.heap.size w3).alloc (Nat.le_refl _) (.cells #[.string gk, .int .i64 gn, .string gb, .string gv] 47)) y2
  have z3 := cell_below ((Below.refl w3.heap.size w3).alloc (Nat.le_refl _) (.cells #[.string gk, .int .i64 gn, .string gb, .string gv] 47)) y3
  have hEE : (E == E) = true := by simp
  go_wp2_with fail
  refine (fin22 w _ (hbel3.alloc hbel3.size _)).mono ?_
  rintro e w4 ⟨rfl, hb4⟩
  go_wp2
  go_ret
  exact ⟨rfl, hb4⟩
end Go.Proofs.Ytlmplibdfhamjaa
