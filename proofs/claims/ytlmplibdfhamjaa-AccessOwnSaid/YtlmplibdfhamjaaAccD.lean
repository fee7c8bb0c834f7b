/- The entry by which a user may do something else: the code's and the document's. -/
import Derived.Test.YtlmplibdfhamjaaRegD
import Derived.Test.YtlmplibdfhamjaaAccC
namespace Go.Proofs.Ytlmplibdfhamjaa
open Go.RowKit Go.Mem
set_option linter.unusedVariables false
set_option linter.unusedSimpArgs false

def accX (a b c d e : Bool) : Bool := !a || !b || !c || d || e
def accErr (l : List Ent) (by_ t b u : ByteArray) (n : Int) : Int := if accX (nameB t) (nameB b) (nameB u) (decide (n < 0)) (decide (7 < n)) = true then 1 else setErr l by_ (keyA t b u) (txt n)
def accEnt (l : List Ent) (by_ t b u : ByteArray) (n : Int) : Ent := if accX (nameB t) (nameB b) (nameB u) (decide (n < 0)) (decide (7 < n)) = true then zE else setEnt l by_ (keyA t b u) (txt n)
theorem keyA_size (t b u : ByteArray) : (keyA t b u).size = t.size + b.size + u.size + 6 := by
  unfold keyA
  simp only [ByteArray.size_append]
  rw [show (⟨#[97, 99, 108, 47]⟩ : ByteArray).size = 4 from rfl, show (⟨#[47]⟩ : ByteArray).size = 1 from rfl]; omega
theorem txt_size (n : Int) : (txt n).size ≤ 3 := by unfold txt; repeat' split
                                                    all_goals decide
def AccR (l : List Ent) (by_ t b u : ByteArray) (n : Int) (w : World) (e : Ending) (w' : World) : Prop := e = .returned (.tuple #[.agg (accEnt l by_ t b u n).arr, .int .i64 (accErr l by_ t b u n)]) ∧ Below w.heap.size w w'

set_option maxRecDepth 100000 in
set_option maxHeartbeats 8000000 in
theorem accSet_any (A : Option Addr) (n c : Nat) (l : List Ent) (by_ t b u : ByteArray) (rights : Int) (w : World) (hr : Rd w A (l.flatMap fun m => m.arr.toList)) (hn : l.length = n) (hm : n ≤ maxLen) (hok : ∀ m ∈ l, m.ok w) (hb : by_.size ≤ maxLen) (h1 : t.size ≤ 1000) (h2 : b.size ≤ 1000) (h3 : u.size ≤ 1000) : Calls Try.prog 26 #[.slice A n c, .string by_, .string t, .string b, .string u, .int .i64 rights] w (AccR l by_ t b u rights w) := by
  have hnm : ∀ (s : ByteArray) W, s.size ≤ 1000 → Calls Try.prog 72 #[.string s] W fun e w' => e = .returned (.bool (nameB s)) ∧ Below W.heap.size W w' := fun s W hs => isName_any s W (Nat.le_trans hs (by decide))
  have n1 := fun W => hnm t W h1; have n2 := fun W => hnm b W h2; have n3 := fun W => hnm u W h3
  have HK := Lib.hid (fun W => key_any t b u W h1 h2 h3)
  have HT := Lib.hid (fun W => text_any rights W)
  have HS := Lib.hid (fun W (hW : Below w.heap.size w W) => set10_any A n c l by_ (keyA t b u) (txt rights) W (hr.below hW) hn hm (fun m hm => (hok m hm).below hW) hb (by rw [keyA_size]; unfold maxLen; omega) (Nat.le_trans (txt_size _) (by decide)))
  have HX := Lib.hid (EX.start w)
  clear hr hn hm hok hb h1 h2 h3 hnm
  generalize p1 : nameB t = q1 at n1
  cases q1
  · have HX1 : Hid (accX (nameB t) (nameB b) (nameB u) (decide (rights < 0)) (decide (7 < rights)) = true) := Lib.hid (by rw [p1]; rfl)
    have N1 := Lib.hid n1; have N2 := Lib.hid n2; have N3 := Lib.hid n3
    clear n1 n2 n3 p1
    go_enter Try.func26, Try.ntmps26
    go_wp2_with fail
    refine (N1.out _).mono ?_
    rintro e w1 ⟨rfl, hb1⟩
    have hx := HX.out.step hb1
    obtain ⟨r0, r1, r2, r3, z0, z1, z2, z3⟩ := hx.cells
    have HX := Lib.hid hx; clear hx hb1
    go_wp2
    refine bodyPost_ret (results_cell_row2 rfl _ _ w.heap.size _ #[.string ⟨#[]⟩, .int .i64 0, .string ⟨#[]⟩, .string ⟨#[]⟩] (0, 0) _ rfl (set4 HX.out.r _ _ _ _) Try.underlying47 rfl row_ent.hi) rfl ⟨?_, ?_⟩
    · unfold accErr accEnt; rw [HX1.out]; rfl
    · exact (((HX.out.bel.setCell (by simp) _).setCell (by simp) _).setCell (by simp) _).setCell (by simp) _
  · generalize p2 : nameB b = q2 at n2
    cases q2
    · have HX1 : Hid (accX (nameB t) (nameB b) (nameB u) (decide (rights < 0)) (decide (7 < rights)) = true) := Lib.hid (by rw [p1, p2]; rfl)
      have N1 := Lib.hid n1; have N2 := Lib.hid n2; have N3 := Lib.hid n3
      clear n1 n2 n3 p1 p2
      go_enter Try.func26, Try.ntmps26
      go_wp2_with fail
      refine (N1.out _).mono ?_
      rintro e w1 ⟨rfl, hb1⟩
      have hx := HX.out.step hb1
      obtain ⟨r0, r1, r2, r3, z0, z1, z2, z3⟩ := hx.cells
      have HX := Lib.hid hx; clear hx hb1
      go_wp2_with fail
      refine (N2.out _).mono ?_
      rintro e w1 ⟨rfl, hb1⟩
      have hx := HX.out.step hb1
      obtain ⟨r0, r1, r2, r3, z0, z1, z2, z3⟩ := hx.cells
      have HX := Lib.hid hx; clear hx hb1
      go_wp2
      refine bodyPost_ret (results_cell_row2 rfl _ _ w.heap.size _ #[.string ⟨#[]⟩, .int .i64 0, .string ⟨#[]⟩, .string ⟨#[]⟩] (0, 0) _ rfl (set4 HX.out.r _ _ _ _) Try.underlying47 rfl row_ent.hi) rfl ⟨?_, ?_⟩
      · unfold accErr accEnt; rw [HX1.out]; rfl
      · exact (((HX.out.bel.setCell (by simp) _).setCell (by simp) _).setCell (by simp) _).setCell (by simp) _
    · generalize p3 : nameB u = q3 at n3
      cases q3
      · have HX1 : Hid (accX (nameB t) (nameB b) (nameB u) (decide (rights < 0)) (decide (7 < rights)) = true) := Lib.hid (by rw [p1, p2, p3]; rfl)
        have N1 := Lib.hid n1; have N2 := Lib.hid n2; have N3 := Lib.hid n3
        clear n1 n2 n3 p1 p2 p3
        go_enter Try.func26, Try.ntmps26
        go_wp2_with fail
        refine (N1.out _).mono ?_
        rintro e w1 ⟨rfl, hb1⟩
        have hx := HX.out.step hb1
        obtain ⟨r0, r1, r2, r3, z0, z1, z2, z3⟩ := hx.cells
        have HX := Lib.hid hx; clear hx hb1
        go_wp2_with fail
        refine (N2.out _).mono ?_
        rintro e w1 ⟨rfl, hb1⟩
        have hx := HX.out.step hb1
        obtain ⟨r0, r1, r2, r3, z0, z1, z2, z3⟩ := hx.cells
        have HX := Lib.hid hx; clear hx hb1
        go_wp2_with fail
        refine (N3.out _).mono ?_
        rintro e w1 ⟨rfl, hb1⟩
        have hx := HX.out.step hb1
        obtain ⟨r0, r1, r2, r3, z0, z1, z2, z3⟩ := hx.cells
        have HX := Lib.hid hx; clear hx hb1
        go_wp2
        refine bodyPost_ret (results_cell_row2 rfl _ _ w.heap.size _ #[.string ⟨#[]⟩, .int .i64 0, .string ⟨#[]⟩, .string ⟨#[]⟩] (0, 0) _ rfl (set4 HX.out.r _ _ _ _) Try.underlying47 rfl row_ent.hi) rfl ⟨?_, ?_⟩
        · unfold accErr accEnt; rw [HX1.out]; rfl
        · exact (((HX.out.bel.setCell (by simp) _).setCell (by simp) _).setCell (by simp) _).setCell (by simp) _
      · by_cases hlo : rights < 0
        · have p4 : decide (rights < 0) = true := decide_eq_true hlo
          have HX1 : Hid (accX (nameB t) (nameB b) (nameB u) (decide (rights < 0)) (decide (7 < rights)) = true) := Lib.hid (by rw [p1, p2, p3, p4]; rfl)
          have N1 := Lib.hid n1; have N2 := Lib.hid n2; have N3 := Lib.hid n3
          clear n1 n2 n3 p1 p2 p3 p4
          go_enter Try.func26, Try.ntmps26
          go_wp2_with fail
          refine (N1.out _).mono ?_
          rintro e w1 ⟨rfl, hb1⟩
          have hx := HX.out.step hb1
          obtain ⟨r0, r1, r2, r3, z0, z1, z2, z3⟩ := hx.cells
          have HX := Lib.hid hx; clear hx hb1
          go_wp2_with fail
          refine (N2.out _).mono ?_
          rintro e w1 ⟨rfl, hb1⟩
          have hx := HX.out.step hb1
          obtain ⟨r0, r1, r2, r3, z0, z1, z2, z3⟩ := hx.cells
          have HX := Lib.hid hx; clear hx hb1
          go_wp2_with fail
          refine (N3.out _).mono ?_
          rintro e w1 ⟨rfl, hb1⟩
          have hx := HX.out.step hb1
          obtain ⟨r0, r1, r2, r3, z0, z1, z2, z3⟩ := hx.cells
          have HX := Lib.hid hx; clear hx hb1
          go_wp2
          refine bodyPost_ret (results_cell_row2 rfl _ _ w.heap.size _ #[.string ⟨#[]⟩, .int .i64 0, .string ⟨#[]⟩, .string ⟨#[]⟩] (0, 0) _ rfl (set4 HX.out.r _ _ _ _) Try.underlying47 rfl row_ent.hi) rfl ⟨?_, ?_⟩
          · unfold accErr accEnt; rw [HX1.out]; rfl
          · exact (((HX.out.bel.setCell (by simp) _).setCell (by simp) _).setCell (by simp) _).setCell (by simp) _
        · have p4 : decide (rights < 0) = false := decide_eq_false hlo
          by_cases hhi : 7 < rights
          · have p5 : decide (7 < rights) = true := decide_eq_true hhi
            have HX1 : Hid (accX (nameB t) (nameB b) (nameB u) (decide (rights < 0)) (decide (7 < rights)) = true) := Lib.hid (by rw [p1, p2, p3, p4, p5]; rfl)
            have N1 := Lib.hid n1; have N2 := Lib.hid n2; have N3 := Lib.hid n3
            clear n1 n2 n3 p1 p2 p3 p4 p5
            go_enter Try.func26, Try.ntmps26
            go_wp2_with fail
            refine (N1.out _).mono ?_
            rintro e w1 ⟨rfl, hb1⟩
            have hx := HX.out.step hb1
            obtain ⟨r0, r1, r2, r3, z0, z1, z2, z3⟩ := hx.cells
            have HX := Lib.hid hx; clear hx hb1
            go_wp2_with fail
            refine (N2.out _).mono ?_
            rintro e w1 ⟨rfl, hb1⟩
            have hx := HX.out.step hb1
            obtain ⟨r0, r1, r2, r3, z0, z1, z2, z3⟩ := hx.cells
            have HX := Lib.hid hx; clear hx hb1
            go_wp2_with fail
            refine (N3.out _).mono ?_
            rintro e w1 ⟨rfl, hb1⟩
            have hx := HX.out.step hb1
            obtain ⟨r0, r1, r2, r3, z0, z1, z2, z3⟩ := hx.cells
            have HX := Lib.hid hx; clear hx hb1
            go_wp2
            refine bodyPost_ret (results_cell_row2 rfl _ _ w.heap.size _ #[.string ⟨#[]⟩, .int .i64 0, .string ⟨#[]⟩, .string ⟨#[]⟩] (0, 0) _ rfl (set4 HX.out.r _ _ _ _) Try.underlying47 rfl row_ent.hi) rfl ⟨?_, ?_⟩
            · unfold accErr accEnt; rw [HX1.out]; rfl
            · exact (((HX.out.bel.setCell (by simp) _).setCell (by simp) _).setCell (by simp) _).setCell (by simp) _
          · have p5 : decide (7 < rights) = false := decide_eq_false hhi
            have HX1 : Hid (accX (nameB t) (nameB b) (nameB u) (decide (rights < 0)) (decide (7 < rights)) = false) := Lib.hid (by rw [p1, p2, p3, p4, p5]; rfl)
            have N1 := Lib.hid n1; have N2 := Lib.hid n2; have N3 := Lib.hid n3
            clear n1 n2 n3 p1 p2 p3 p4 p5
            have HE : Hid (accErr l by_ t b u rights = setErr l by_ (keyA t b u) (txt rights)) := Lib.hid (by unfold accErr; rw [HX1.out]; rfl)
            have HG : Hid (accEnt l by_ t b u rights = setEnt l by_ (keyA t b u) (txt rights)) := Lib.hid (by unfold accEnt; rw [HX1.out]; rfl)
            unfold SetR at HS
            generalize setErr l by_ (keyA t b u) (txt rights) = E at HS HE
            generalize setEnt l by_ (keyA t b u) (txt rights) = G at HS HG
            obtain ⟨gk, ⟨gn, gb, gv⟩⟩ := G
            simp only [Ent.arr] at HS
            go_enter Try.func26, Try.ntmps26
            go_wp2_with fail
            refine (N1.out _).mono ?_
            rintro e w1 ⟨rfl, hb1⟩
            have hx := HX.out.step hb1
            obtain ⟨r0, r1, r2, r3, z0, z1, z2, z3⟩ := hx.cells
            have HX := Lib.hid hx; clear hx hb1
            go_wp2_with fail
            refine (N2.out _).mono ?_
            rintro e w1 ⟨rfl, hb1⟩
            have hx := HX.out.step hb1
            obtain ⟨r0, r1, r2, r3, z0, z1, z2, z3⟩ := hx.cells
            have HX := Lib.hid hx; clear hx hb1
            go_wp2_with fail
            refine (N3.out _).mono ?_
            rintro e w1 ⟨rfl, hb1⟩
            have hx := HX.out.step hb1
            obtain ⟨r0, r1, r2, r3, z0, z1, z2, z3⟩ := hx.cells
            have HX := Lib.hid hx; clear hx hb1
            go_wp2_with fail
            refine (HK.out _).mono ?_
            rintro e w1 ⟨rfl, hb1⟩
            have hx := HX.out.step hb1
            obtain ⟨r0, r1, r2, r3, z0, z1, z2, z3⟩ := hx.cells
            have HX := Lib.hid hx; clear hx hb1
            go_wp2_with fail
            refine (HT.out _).mono ?_
            rintro e w1 ⟨rfl, hb1⟩
            have hx := HX.out.step hb1
            obtain ⟨r0, r1, r2, r3, z0, z1, z2, z3⟩ := hx.cells
            have HX := Lib.hid hx; clear hx hb1
            go_wp2_with fail
            refine (HS.out _ HX.out.bel).mono ?_
            rintro e w1 ⟨rfl, hb1⟩
            have hx := HX.out.step hb1
            obtain ⟨r0, r1, r2, r3, z0, z1, z2, z3⟩ := hx.cells
            have HX := Lib.hid hx; clear hx hb1
            go_wp2
            refine bodyPost_ret (results_cell_row2 rfl _ _ w.heap.size _ #[.string gk, .int .i64 gn, .string gb, .string gv] (0, 0) _ rfl (set4 HX.out.r _ _ _ _) Try.underlying47 rfl row_ent.hi) rfl ⟨?_, ?_⟩
            · rw [HE.out, HG.out]; rfl
            · exact (((HX.out.bel.setCell (by simp) _).setCell (by simp) _).setCell (by simp) _).setCell (by simp) _
set_option maxRecDepth 100000 in
set_option maxHeartbeats 8000000 in
theorem raccSet_any (A : Option Addr) (n c : Nat) (l : List Ent) (by_ t b u : ByteArray) (rights : Int) (w : World) (hr : Rd w A (l.flatMap fun m => m.arr.toList)) (hn : l.length = n) (hm : n ≤ maxLen) (hok : ∀ m ∈ l, m.ok w) (hb : by_.size ≤ maxLen) (h1 : t.size ≤ 1000) (h2 : b.size ≤ 1000) (h3 : u.size ≤ 1000) : Calls Try.prog 27 #[.slice A n c, .string by_, .string t, .string b, .string u, .int .i64 rights] w (AccR l by_ t b u rights w) := by
  have hnm : ∀ (s : ByteArray) W, s.size ≤ 1000 → Calls Try.prog 74 #[.string s] W fun e w' => e = .returned (.bool (nameB s)) ∧ Below W.heap.size W w' := fun s W hs => (refIs_any s W (Nat.le_trans hs (by decide))).mono fun _ _ ⟨h1, h2⟩ => ⟨h1, h2 ▸ Below.refl _ _⟩
  have n1 := fun W => hnm t W h1; have n2 := fun W => hnm b W h2; have n3 := fun W => hnm u W h3
  have HK := Lib.hid (fun W => ((rkey_any t b u W h1 h2 h3).mono (R' := fun e w' => e = .returned (.string (keyA t b u)) ∧ Below W.heap.size W w') fun _ _ ⟨h1, h2⟩ => ⟨h1, h2 ▸ Below.refl _ _⟩))
  have HT := Lib.hid (fun W => ((rtext_any rights W).mono (R' := fun e w' => e = .returned (.string (txt rights)) ∧ Below W.heap.size W w') fun _ _ ⟨h1, h2⟩ => ⟨h1, h2 ▸ Below.refl _ _⟩))
  have HS := Lib.hid (fun W (hW : Below w.heap.size w W) => rset10_any A n c l by_ (keyA t b u) (txt rights) W (hr.below hW) hn hm (fun m hm => (hok m hm).below hW) hb (by rw [keyA_size]; unfold maxLen; omega) (Nat.le_trans (txt_size _) (by decide)))
  have HX := Lib.hid (EX.start w)
  clear hr hn hm hok hb h1 h2 h3 hnm
  generalize p1 : nameB t = q1 at n1
  cases q1
  · have HX1 : Hid (accX (nameB t) (nameB b) (nameB u) (decide (rights < 0)) (decide (7 < rights)) = true) := Lib.hid (by rw [p1]; rfl)
    have N1 := Lib.hid n1; have N2 := Lib.hid n2; have N3 := Lib.hid n3
    clear n1 n2 n3 p1
    go_enter Try.func27, Try.ntmps27
    go_wp2_with fail
    refine (N1.out _).mono ?_
    rintro e w1 ⟨rfl, hb1⟩
    have hx := HX.out.step hb1
    obtain ⟨r0, r1, r2, r3, z0, z1, z2, z3⟩ := hx.cells
    have HX := Lib.hid hx; clear hx hb1
    go_wp2
    refine bodyPost_ret (results_cell_row2 rfl _ _ w.heap.size _ #[.string ⟨#[]⟩, .int .i64 0, .string ⟨#[]⟩, .string ⟨#[]⟩] (0, 0) _ rfl (set4 HX.out.r _ _ _ _) Try.underlying47 rfl row_ent.hi) rfl ⟨?_, ?_⟩
    · unfold accErr accEnt; rw [HX1.out]; rfl
    · exact (((HX.out.bel.setCell (by simp) _).setCell (by simp) _).setCell (by simp) _).setCell (by simp) _
  · generalize p2 : nameB b = q2 at n2
    cases q2
    · have HX1 : Hid (accX (nameB t) (nameB b) (nameB u) (decide (rights < 0)) (decide (7 < rights)) = true) := Lib.hid (by rw [p1, p2]; rfl)
      have N1 := Lib.hid n1; have N2 := Lib.hid n2; have N3 := Lib.hid n3
      clear n1 n2 n3 p1 p2
      go_enter Try.func27, Try.ntmps27
      go_wp2_with fail
      refine (N1.out _).mono ?_
      rintro e w1 ⟨rfl, hb1⟩
      have hx := HX.out.step hb1
      obtain ⟨r0, r1, r2, r3, z0, z1, z2, z3⟩ := hx.cells
      have HX := Lib.hid hx; clear hx hb1
      go_wp2_with fail
      refine (N2.out _).mono ?_
      rintro e w1 ⟨rfl, hb1⟩
      have hx := HX.out.step hb1
      obtain ⟨r0, r1, r2, r3, z0, z1, z2, z3⟩ := hx.cells
      have HX := Lib.hid hx; clear hx hb1
      go_wp2
      refine bodyPost_ret (results_cell_row2 rfl _ _ w.heap.size _ #[.string ⟨#[]⟩, .int .i64 0, .string ⟨#[]⟩, .string ⟨#[]⟩] (0, 0) _ rfl (set4 HX.out.r _ _ _ _) Try.underlying47 rfl row_ent.hi) rfl ⟨?_, ?_⟩
      · unfold accErr accEnt; rw [HX1.out]; rfl
      · exact (((HX.out.bel.setCell (by simp) _).setCell (by simp) _).setCell (by simp) _).setCell (by simp) _
    · generalize p3 : nameB u = q3 at n3
      cases q3
      · have HX1 : Hid (accX (nameB t) (nameB b) (nameB u) (decide (rights < 0)) (decide (7 < rights)) = true) := Lib.hid (by rw [p1, p2, p3]; rfl)
        have N1 := Lib.hid n1; have N2 := Lib.hid n2; have N3 := Lib.hid n3
        clear n1 n2 n3 p1 p2 p3
        go_enter Try.func27, Try.ntmps27
        go_wp2_with fail
        refine (N1.out _).mono ?_
        rintro e w1 ⟨rfl, hb1⟩
        have hx := HX.out.step hb1
        obtain ⟨r0, r1, r2, r3, z0, z1, z2, z3⟩ := hx.cells
        have HX := Lib.hid hx; clear hx hb1
        go_wp2_with fail
        refine (N2.out _).mono ?_
        rintro e w1 ⟨rfl, hb1⟩
        have hx := HX.out.step hb1
        obtain ⟨r0, r1, r2, r3, z0, z1, z2, z3⟩ := hx.cells
        have HX := Lib.hid hx; clear hx hb1
        go_wp2_with fail
        refine (N3.out _).mono ?_
        rintro e w1 ⟨rfl, hb1⟩
        have hx := HX.out.step hb1
        obtain ⟨r0, r1, r2, r3, z0, z1, z2, z3⟩ := hx.cells
        have HX := Lib.hid hx; clear hx hb1
        go_wp2
        refine bodyPost_ret (results_cell_row2 rfl _ _ w.heap.size _ #[.string ⟨#[]⟩, .int .i64 0, .string ⟨#[]⟩, .string ⟨#[]⟩] (0, 0) _ rfl (set4 HX.out.r _ _ _ _) Try.underlying47 rfl row_ent.hi) rfl ⟨?_, ?_⟩
        · unfold accErr accEnt; rw [HX1.out]; rfl
        · exact (((HX.out.bel.setCell (by simp) _).setCell (by simp) _).setCell (by simp) _).setCell (by simp) _
      · by_cases hlo : rights < 0
        · have p4 : decide (rights < 0) = true := decide_eq_true hlo
          have HX1 : Hid (accX (nameB t) (nameB b) (nameB u) (decide (rights < 0)) (decide (7 < rights)) = true) := Lib.hid (by rw [p1, p2, p3, p4]; rfl)
          have N1 := Lib.hid n1; have N2 := Lib.hid n2; have N3 := Lib.hid n3
          clear n1 n2 n3 p1 p2 p3 p4
          go_enter Try.func27, Try.ntmps27
          go_wp2_with fail
          refine (N1.out _).mono ?_
          rintro e w1 ⟨rfl, hb1⟩
          have hx := HX.out.step hb1
          obtain ⟨r0, r1, r2, r3, z0, z1, z2, z3⟩ := hx.cells
          have HX := Lib.hid hx; clear hx hb1
          go_wp2_with fail
          refine (N2.out _).mono ?_
          rintro e w1 ⟨rfl, hb1⟩
          have hx := HX.out.step hb1
          obtain ⟨r0, r1, r2, r3, z0, z1, z2, z3⟩ := hx.cells
          have HX := Lib.hid hx; clear hx hb1
          go_wp2_with fail
          refine (N3.out _).mono ?_
          rintro e w1 ⟨rfl, hb1⟩
          have hx := HX.out.step hb1
          obtain ⟨r0, r1, r2, r3, z0, z1, z2, z3⟩ := hx.cells
          have HX := Lib.hid hx; clear hx hb1
          go_wp2
          refine bodyPost_ret (results_cell_row2 rfl _ _ w.heap.size _ #[.string ⟨#[]⟩, .int .i64 0, .string ⟨#[]⟩, .string ⟨#[]⟩] (0, 0) _ rfl (set4 HX.out.r _ _ _ _) Try.underlying47 rfl row_ent.hi) rfl ⟨?_, ?_⟩
          · unfold accErr accEnt; rw [HX1.out]; rfl
          · exact (((HX.out.bel.setCell (by simp) _).setCell (by simp) _).setCell (by simp) _).setCell (by simp) _
        · have p4 : decide (rights < 0) = false := decide_eq_false hlo
          by_cases hhi : 7 < rights
          · have p5 : decide (7 < rights) = true := decide_eq_true hhi
            have HX1 : Hid (accX (nameB t) (nameB b) (nameB u) (decide (rights < 0)) (decide (7 < rights)) = true) := Lib.hid (by rw [p1, p2, p3, p4, p5]; rfl)
            have N1 := Lib.hid n1; have N2 := Lib.hid n2; have N3 := Lib.hid n3
            clear n1 n2 n3 p1 p2 p3 p4 p5
            go_enter Try.func27, Try.ntmps27
            go_wp2_with fail
            refine (N1.out _).mono ?_
            rintro e w1 ⟨rfl, hb1⟩
            have hx := HX.out.step hb1
            obtain ⟨r0, r1, r2, r3, z0, z1, z2, z3⟩ := hx.cells
            have HX := Lib.hid hx; clear hx hb1
            go_wp2_with fail
            refine (N2.out _).mono ?_
            rintro e w1 ⟨rfl, hb1⟩
            have hx := HX.out.step hb1
            obtain ⟨r0, r1, r2, r3, z0, z1, z2, z3⟩ := hx.cells
            have HX := Lib.hid hx; clear hx hb1
            go_wp2_with fail
            refine (N3.out _).mono ?_
            rintro e w1 ⟨rfl, hb1⟩
            have hx := HX.out.step hb1
            obtain ⟨r0, r1, r2, r3, z0, z1, z2, z3⟩ := hx.cells
            have HX := Lib.hid hx; clear hx hb1
            go_wp2
            refine bodyPost_ret (results_cell_row2 rfl _ _ w.heap.size _ #[.string ⟨#[]⟩, .int .i64 0, .string ⟨#[]⟩, .string ⟨#[]⟩] (0, 0) _ rfl (set4 HX.out.r _ _ _ _) Try.underlying47 rfl row_ent.hi) rfl ⟨?_, ?_⟩
            · unfold accErr accEnt; rw [HX1.out]; rfl
            · exact (((HX.out.bel.setCell (by simp) _).setCell (by simp) _).setCell (by simp) _).setCell (by simp) _
          · have p5 : decide (7 < rights) = false := decide_eq_false hhi
            have HX1 : Hid (accX (nameB t) (nameB b) (nameB u) (decide (rights < 0)) (decide (7 < rights)) = false) := Lib.hid (by rw [p1, p2, p3, p4, p5]; rfl)
            have N1 := Lib.hid n1; have N2 := Lib.hid n2; have N3 := Lib.hid n3
            clear n1 n2 n3 p1 p2 p3 p4 p5
            have HE : Hid (accErr l by_ t b u rights = setErr l by_ (keyA t b u) (txt rights)) := Lib.hid (by unfold accErr; rw [HX1.out]; rfl)
            have HG : Hid (accEnt l by_ t b u rights = setEnt l by_ (keyA t b u) (txt rights)) := Lib.hid (by unfold accEnt; rw [HX1.out]; rfl)
            unfold SetR at HS
            generalize setErr l by_ (keyA t b u) (txt rights) = E at HS HE
            generalize setEnt l by_ (keyA t b u) (txt rights) = G at HS HG
            obtain ⟨gk, ⟨gn, gb, gv⟩⟩ := G
            simp only [Ent.arr] at HS
            go_enter Try.func27, Try.ntmps27
            go_wp2_with fail
            refine (N1.out _).mono ?_
            rintro e w1 ⟨rfl, hb1⟩
            have hx := HX.out.step hb1
            obtain ⟨r0, r1, r2, r3, z0, z1, z2, z3⟩ := hx.cells
            have HX := Lib.hid hx; clear hx hb1
            go_wp2_with fail
            refine (N2.out _).mono ?_
            rintro e w1 ⟨rfl, hb1⟩
            have hx := HX.out.step hb1
            obtain ⟨r0, r1, r2, r3, z0, z1, z2, z3⟩ := hx.cells
            have HX := Lib.hid hx; clear hx hb1
            go_wp2_with fail
            refine (N3.out _).mono ?_
            rintro e w1 ⟨rfl, hb1⟩
            have hx := HX.out.step hb1
            obtain ⟨r0, r1, r2, r3, z0, z1, z2, z3⟩ := hx.cells
            have HX := Lib.hid hx; clear hx hb1
            go_wp2_with fail
            refine (HK.out _).mono ?_
            rintro e w1 ⟨rfl, hb1⟩
            have hx := HX.out.step hb1
            obtain ⟨r0, r1, r2, r3, z0, z1, z2, z3⟩ := hx.cells
            have HX := Lib.hid hx; clear hx hb1
            go_wp2_with fail
            refine (HT.out _).mono ?_
            rintro e w1 ⟨rfl, hb1⟩
            have hx := HX.out.step hb1
            obtain ⟨r0, r1, r2, r3, z0, z1, z2, z3⟩ := hx.cells
            have HX := Lib.hid hx; clear hx hb1
            go_wp2_with fail
            refine (HS.out _ HX.out.bel).mono ?_
            rintro e w1 ⟨rfl, hb1⟩
            have hx := HX.out.step hb1
            obtain ⟨r0, r1, r2, r3, z0, z1, z2, z3⟩ := hx.cells
            have HX := Lib.hid hx; clear hx hb1
            go_wp2
            refine bodyPost_ret (results_cell_row2 rfl _ _ w.heap.size _ #[.string gk, .int .i64 gn, .string gb, .string gv] (0, 0) _ rfl (set4 HX.out.r _ _ _ _) Try.underlying47 rfl row_ent.hi) rfl ⟨?_, ?_⟩
            · rw [HE.out, HG.out]; rfl
            · exact (((HX.out.bel.setCell (by simp) _).setCell (by simp) _).setCell (by simp) _).setCell (by simp) _
end Go.Proofs.Ytlmplibdfhamjaa
