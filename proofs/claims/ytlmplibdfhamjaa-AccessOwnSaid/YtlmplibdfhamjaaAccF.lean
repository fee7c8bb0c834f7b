/- The walks of AccessOf and AccessLetters: what they ask of access is so, for every argument. -/
import Derived.Test.YtlmplibdfhamjaaAccE
attribute [local go_sem ↓] Go.wp_at_zero Go.wp_at_succ
namespace Go.Proofs.Ytlmplibdfhamjaa
open Go.RowKit Go.Mem
set_option linter.unusedVariables false
set_option linter.unusedSimpArgs false

structure T3 where
  a : ByteArray
  b : ByteArray
  c : ByteArray
def T3.arr (x : T3) : Array Value := #[.string x.a, .string x.b, .string x.c]
def T3.ok (x : T3) : Prop := x.a.size ≤ maxLen ∧ x.b.size ≤ maxLen ∧ x.c.size ≤ maxLen
theorem cells_string : Try.prog.cellsOf 9 = 1 := by kernel_rfl
theorem cells_arr3s : Try.prog.cellsOf 38 = 3 := by kernel_rfl
theorem is_arr3s {H : Type} {enc : TypeId × Value → H} {w : World} {cs : List Value} (h : Is enc Try.prog w 38 cs) : ∃ x : T3, cs = x.arr.toList ∧ x.ok := by
  obtain ⟨hl, hf⟩ := is_array Try.underlying38 h
  rw [cells_arr3s] at hl
  obtain ⟨c0, r0, rfl, hl0⟩ := cons_of hl
  obtain ⟨c1, r1, rfl, hl1⟩ := cons_of hl0
  obtain ⟨c2, r2, rfl, hl2⟩ := cons_of hl1
  obtain rfl := nil_of hl2
  obtain ⟨s0, h0, w0⟩ := is_string Try.underlying9 (hf 0 (by omega))
  obtain ⟨s1, h1, w1⟩ := is_string Try.underlying9 (hf 1 (by omega))
  obtain ⟨s2, h2, w2⟩ := is_string Try.underlying9 (hf 2 (by omega))
  simp [cells_string] at h0 h1 h2
  subst h0 h1 h2
  exact ⟨⟨s0, s1, s2⟩, rfl, w0, w1, w2⟩
structure T4 where
  a : ByteArray
  b : ByteArray
  c : ByteArray
  d : ByteArray
def T4.arr (x : T4) : Array Value := #[.string x.a, .string x.b, .string x.c, .string x.d]
def T4.ok (x : T4) : Prop := x.a.size ≤ maxLen ∧ x.b.size ≤ maxLen ∧ x.c.size ≤ maxLen ∧ x.d.size ≤ maxLen
theorem cells_arr4s : Try.prog.cellsOf 43 = 4 := by kernel_rfl
theorem is_arr4s {H : Type} {enc : TypeId × Value → H} {w : World} {cs : List Value} (h : Is enc Try.prog w 43 cs) : ∃ x : T4, cs = x.arr.toList ∧ x.ok := by
  obtain ⟨hl, hf⟩ := is_array Try.underlying43 h
  rw [cells_arr4s] at hl
  obtain ⟨c0, r0, rfl, hl0⟩ := cons_of hl
  obtain ⟨c1, r1, rfl, hl1⟩ := cons_of hl0
  obtain ⟨c2, r2, rfl, hl2⟩ := cons_of hl1
  obtain ⟨c3, r3, rfl, hl3⟩ := cons_of hl2
  obtain rfl := nil_of hl3
  obtain ⟨s0, h0, w0⟩ := is_string Try.underlying9 (hf 0 (by omega))
  obtain ⟨s1, h1, w1⟩ := is_string Try.underlying9 (hf 1 (by omega))
  obtain ⟨s2, h2, w2⟩ := is_string Try.underlying9 (hf 2 (by omega))
  obtain ⟨s3, h3, w3⟩ := is_string Try.underlying9 (hf 3 (by omega))
  simp [cells_string] at h0 h1 h2 h3
  subst h0 h1 h2 h3
  exact ⟨⟨s0, s1, s2, s3⟩, rfl, w0, w1, w2, w3⟩

def TrueB (w : World) (e : Ending) (w' : World) : Prop := e = .returned (.bool true) ∧ Below w.heap.size w w'
theorem fin22 (w W : World) (h : Below w.heap.size w W) : Calls Try.prog 21 #[] W fun e w' => e = .returned (.bool true) ∧ Below w.heap.size w w' := (awake22_any W).mono fun _ _ ⟨h1, h2⟩ => ⟨h1, then_ h h2⟩

set_option maxRecDepth 100000 in
set_option maxHeartbeats 8000000 in
theorem accessOf_walk (A : Option Addr) (n c : Nat) (l : List Ent) (x : T3) (w : World) (hr : Rd w A (l.flatMap fun m => m.arr.toList)) (hn : l.length = n) (hm : n ≤ maxLen) (hok : ∀ m ∈ l, m.ok w) (hx : x.ok) :
    Calls Try.prog 5 #[.slice A n c, .agg x.arr] w (TrueB w) := by
  obtain ⟨a, b, u⟩ := x
  simp only [T3.arr]
  obtain ⟨ha, hb0, hu⟩ := hx
  simp only at ha hb0 hu
  have hbx := (Below.refl w.heap.size w).alloc (Nat.le_refl _) (.cells #[.string a, .string b, .string u] 38)
  have hxx := heap_alloc_new w (.cells #[.string a, .string b, .string u] 38)
  have HF := Lib.hid (few10_any A n c l 30 (w.alloc (.cells #[.string a, .string b, .string u] 38)) (hr.below hbx) hn hm (fun m hm => (hok m hm).below hbx))
  have HN := Lib.hid hn; have HR := Lib.hid hr; have HBX := Lib.hid hbx; have HXX := Lib.hid hxx
  clear hr hn hok hbx hxx
  unfold maxLen at hm ha hb0 hu
  go_enter Try.func5, Try.ntmps5
  go_wp2_with fail
  refine HF.out.mono ?_
  rintro e w1 ⟨b1, -, rfl, hb1⟩
  have hbel := then_ HBX.out hb1
  have hX := (hb1.block _ (Array.getElem?_eq_some_iff.1 HXX.out).1).trans HXX.out
  clear HF hb1 HBX HXX
  have x0 : w1.cell? ⟨w.heap.size, 0, none⟩ = some (.string a) := cell_of_row _ _ _ _ _ _ hX
  have x1 : w1.cell? ⟨w.heap.size, 1, none⟩ = some (.string b) := cell_of_row _ _ _ _ _ _ hX
  have x2 : w1.cell? ⟨w.heap.size, 2, none⟩ = some (.string u) := cell_of_row _ _ _ _ _ _ hX
  clear hX
  cases b1
  · go_wp2_with fail
    refine (fin22 w _ hbel).mono ?_
    rintro e w2 ⟨rfl, hb2⟩
    go_wp2
    go_ret
    exact ⟨rfl, hb2⟩
  by_cases f1 : 100 < a.size
  · go_wp2_with fail
    refine (fin22 w _ hbel).mono ?_
    rintro e w2 ⟨rfl, hb2⟩
    go_wp2
    go_ret
    exact ⟨rfl, hb2⟩
  by_cases f2 : 100 < b.size
  · go_wp2_with fail
    refine (fin22 w _ hbel).mono ?_
    rintro e w2 ⟨rfl, hb2⟩
    go_wp2
    go_ret
    exact ⟨rfl, hb2⟩
  by_cases f3 : 100 < u.size
  · go_wp2_with fail
    refine (fin22 w _ hbel).mono ?_
    rintro e w2 ⟨rfl, hb2⟩
    go_wp2
    go_ret
    exact ⟨rfl, hb2⟩
  go_wp2
  have X0 := Lib.hid x0; have X1 := Lib.hid x1; have X2 := Lib.hid x2
  clear x0 x1 x2
  have HO := Lib.hid (fun W (hW : Below w.heap.size w W) => of_any A n c l a b u W (HR.out.below hW) HN.out hm (by omega) (by omega) (by omega))
  have HRO := Lib.hid (fun W (hW : Below w.heap.size w W) => rof_any A n c l a b u W (HR.out.below hW) HN.out hm (by omega) (by omega) (by omega))
  have HK := Lib.hid (fun W => key_any a b u W (by omega) (by omega) (by omega))
  have HRK := Lib.hid (fun W => rkey_any a b u W (by omega) (by omega) (by omega))
  generalize ofA l a b u = o at HO HRO
  generalize keyA a b u = k at HK HRK
  have to : (o == o) = true := by simp
  have tk : (k.toList == k.toList) = true := by simp
  have hb : Below w1.heap.size w1 w1.drew := (Below.refl _ _).drew
  clear f1 f2 f3 ha hb0 hu hm
  refine wp_region_held_drew (S := (fun W => W.cell? ⟨w.heap.size, 0, none⟩ = some (.string a) ∧ W.cell? ⟨w.heap.size, 1, none⟩ = some (.string b) ∧ W.cell? ⟨w.heap.size, 2, none⟩ = some (.string u))) (by kernel_rfl) ⟨X0.out, X1.out, X2.out⟩ (fun hHeld => ?_)
  refine wpAnyH_take (i := 0) (oi := _) (v := ?vq1) rfl (by kernel_rfl) (by kernel_rfl) (by kernel_rfl) (fun _ _ _ h => h) (Or.inl ⟨by rfl, ?hq1⟩) (by assumption) ?rq1
  case hq1 => (intro w hSw; go_simp; try with_reducible rfl)
  try dsimp only [Act.put, List.getElem_toArray, List.getElem_cons_zero, List.getElem_cons_succ]; try simp only [List.setIfInBounds_toArray, List.set_cons_zero, List.set_cons_succ]
  refine wpAnyH_take (i := 1) (oi := _) (v := ?vq2) rfl (by kernel_rfl) (by kernel_rfl) (by kernel_rfl) (fun _ _ _ h => h) (Or.inl ⟨by rfl, ?hq2⟩) (by assumption) ?rq2
  case hq2 => (intro w hSw; go_simp; try with_reducible rfl)
  try dsimp only [Act.put, List.getElem_toArray, List.getElem_cons_zero, List.getElem_cons_succ]; try simp only [List.setIfInBounds_toArray, List.set_cons_zero, List.set_cons_succ]
  refine wpAnyH_take (i := 2) (oi := _) (v := ?vq3) rfl (by kernel_rfl) (by kernel_rfl) (by kernel_rfl) (fun _ _ _ h => h) (Or.inl ⟨by rfl, ?hq3⟩) (by assumption) ?rq3
  case hq3 => (intro w hSw; go_simp; try with_reducible rfl)
  try dsimp only [Act.put, List.getElem_toArray, List.getElem_cons_zero, List.getElem_cons_succ]; try simp only [List.setIfInBounds_toArray, List.set_cons_zero, List.set_cons_succ]
  refine wpAnyH_take (i := 3) (oi := _) (v := ?vq4) rfl (by kernel_rfl) (by kernel_rfl) (by kernel_rfl) (fun _ _ _ h => h) (Or.inl ⟨by rfl, ?hq4⟩) (by assumption) ?rq4
  case hq4 => (intro w hSw; go_simp; try with_reducible rfl)
  try dsimp only [Act.put, List.getElem_toArray, List.getElem_cons_zero, List.getElem_cons_succ]; try simp only [List.setIfInBounds_toArray, List.set_cons_zero, List.set_cons_succ]
  refine wpAnyH_take (i := 4) (oi := _) (v := ?vq5) rfl (by kernel_rfl) (by kernel_rfl) (by kernel_rfl) (fun _ _ _ h => h) (Or.inl ⟨by rfl, ?hq5⟩) (by assumption) ?rq5
  case hq5 => (intro w hSw; go_simp; try with_reducible rfl)
  try dsimp only [Act.put, List.getElem_toArray, List.getElem_cons_zero, List.getElem_cons_succ]; try simp only [List.setIfInBounds_toArray, List.set_cons_zero, List.set_cons_succ]
  refine wpAnyH_take (i := 5) (oi := _) (v := ?vq6) rfl (by kernel_rfl) (by kernel_rfl) (by kernel_rfl) (fun _ _ _ h => h) (Or.inl ⟨by rfl, ?hq6⟩) (by assumption) ?rq6
  case hq6 => (intro w hSw; go_simp; try with_reducible rfl)
  try dsimp only [Act.put, List.getElem_toArray, List.getElem_cons_zero, List.getElem_cons_succ]; try simp only [List.setIfInBounds_toArray, List.set_cons_zero, List.set_cons_succ]
  refine wpAnyH_take (i := 6) (oi := _) (v := ?vq7) rfl (by kernel_rfl) (by kernel_rfl) (by kernel_rfl) (fun _ _ _ h => h) (Or.inl ⟨by rfl, ?hq7⟩) (by assumption) ?rq7
  case hq7 => (intro w hSw; go_simp; try with_reducible rfl)
  try dsimp only [Act.put, List.getElem_toArray, List.getElem_cons_zero, List.getElem_cons_succ]; try simp only [List.setIfInBounds_toArray, List.set_cons_zero, List.set_cons_succ]
  refine wpAnyH_take (i := 8) (oi := _) (v := ?vq8) rfl (by kernel_rfl) (by kernel_rfl) (by kernel_rfl) (fun _ _ _ h => h) (Or.inl ⟨by rfl, ?hq8⟩) (by assumption) ?rq8
  case hq8 => (intro w hSw; go_simp; try with_reducible rfl)
  try dsimp only [Act.put, List.getElem_toArray, List.getElem_cons_zero, List.getElem_cons_succ]; try simp only [List.setIfInBounds_toArray, List.set_cons_zero, List.set_cons_succ]
  refine wpAnyH_take (i := 9) (oi := _) (v := ?vq9) rfl (by kernel_rfl) (by kernel_rfl) (by kernel_rfl) (fun _ _ _ h => h) (Or.inl ⟨by rfl, ?hq9⟩) (by assumption) ?rq9
  case hq9 => (intro w hSw; go_simp; try with_reducible rfl)
  try dsimp only [Act.put, List.getElem_toArray, List.getElem_cons_zero, List.getElem_cons_succ]; try simp only [List.setIfInBounds_toArray, List.set_cons_zero, List.set_cons_succ]
  refine wpAnyH_take (i := 10) (oi := _) (v := ?vq10) rfl (by kernel_rfl) (by kernel_rfl) (by kernel_rfl) (fun _ _ _ h => h) (Or.inl ⟨by rfl, ?hq10⟩) (by assumption) ?rq10
  case hq10 => (intro w hSw; go_simp; try with_reducible rfl)
  try dsimp only [Act.put, List.getElem_toArray, List.getElem_cons_zero, List.getElem_cons_succ]; try simp only [List.setIfInBounds_toArray, List.set_cons_zero, List.set_cons_succ]
  refine wpAnyH_take (i := 11) (oi := _) (v := ?vq11) rfl (by kernel_rfl) (by kernel_rfl) (by kernel_rfl) (fun _ _ _ h => h) (Or.inl ⟨by rfl, ?hq11⟩) (by assumption) ?rq11
  case hq11 => (intro w hSw; go_simp; try with_reducible rfl)
  try dsimp only [Act.put, List.getElem_toArray, List.getElem_cons_zero, List.getElem_cons_succ]; try simp only [List.setIfInBounds_toArray, List.set_cons_zero, List.set_cons_succ]
  refine wpAnyH_take (i := 12) (oi := _) (v := ?vq12) rfl (by kernel_rfl) (by kernel_rfl) (by kernel_rfl) (fun _ _ _ h => h) (Or.inl ⟨by rfl, ?hq12⟩) (by assumption) ?rq12
  case hq12 => (intro w hSw; go_simp; try with_reducible rfl)
  try dsimp only [Act.put, List.getElem_toArray, List.getElem_cons_zero, List.getElem_cons_succ]; try simp only [List.setIfInBounds_toArray, List.set_cons_zero, List.set_cons_succ]
  refine wpAnyH_take (i := 13) (oi := _) (v := ?vq13) rfl (by kernel_rfl) (by kernel_rfl) (by kernel_rfl) (fun _ _ _ h => h) (Or.inl ⟨by rfl, ?hq13⟩) (by assumption) ?rq13
  case hq13 => (intro w hSw; go_simp; try with_reducible rfl)
  try dsimp only [Act.put, List.getElem_toArray, List.getElem_cons_zero, List.getElem_cons_succ]; try simp only [List.setIfInBounds_toArray, List.set_cons_zero, List.set_cons_succ]
  refine wpAnyH_take (i := 14) (oi := _) (v := ?vq14) rfl (by kernel_rfl) (by kernel_rfl) (by kernel_rfl) (fun _ _ _ h => h) (Or.inl ⟨by rfl, ?hq14⟩) (by assumption) ?rq14
  case hq14 => (intro w hSw; go_simp; try with_reducible rfl)
  try dsimp only [Act.put, List.getElem_toArray, List.getElem_cons_zero, List.getElem_cons_succ]; try simp only [List.setIfInBounds_toArray, List.set_cons_zero, List.set_cons_succ]
  refine wpAnyH_ready (rs := [7]) (by kernel_rfl) (by simp) ?_
  refine AllReadyH.cons (o := _) rfl (fun K hK => ?_) ?_
  · rw [if_pos (by rfl)]
    go_simp
    refine (HO.out _ (then_ hbel hb)).mono ?_
    rintro e wx ⟨rfl, hbx⟩
    have hb := then_ hb hbx
    clear hbx
    go_wp2_with fail
    refine hK.out _ _ ⟨cell_below hb X0.out, cell_below hb X1.out, cell_below hb X2.out⟩ (fun hHeld => ?_)
    clear hK K
    try dsimp only [Act.put, List.getElem_toArray, List.getElem_cons_zero, List.getElem_cons_succ]; try simp only [List.setIfInBounds_toArray, List.set_cons_zero, List.set_cons_succ]
    refine wpAnyH_ready (rs := [15]) (by kernel_rfl) (by simp) ?_
    refine AllReadyH.cons (o := _) rfl (fun K hK => ?_) ?_
    · rw [if_pos (by rfl)]
      go_simp
      refine (HRO.out _ (then_ hbel hb)).mono ?_
      rintro e wx ⟨rfl, hbx⟩
      have hb := then_ hb hbx
      clear hbx
      go_wp2_with fail
      refine hK.out _ _ ⟨cell_below hb X0.out, cell_below hb X1.out, cell_below hb X2.out⟩ (fun hHeld => ?_)
      clear hK K
      try dsimp only [Act.put, List.getElem_toArray, List.getElem_cons_zero, List.getElem_cons_succ]; try simp only [List.setIfInBounds_toArray, List.set_cons_zero, List.set_cons_succ]
      refine wpAnyH_take (i := 16) (oi := _) (v := ?vq15) rfl (by kernel_rfl) (by kernel_rfl) (by kernel_rfl) (fun _ _ _ h => h) (Or.inl ⟨by rfl, ?hq15⟩) (by assumption) ?rq15
      case hq15 => (intro w hSw; go_simp; try with_reducible rfl)
      try dsimp only [Act.put, List.getElem_toArray, List.getElem_cons_zero, List.getElem_cons_succ]; try simp only [List.setIfInBounds_toArray, List.set_cons_zero, List.set_cons_succ]
      refine wpAnyH_take (i := 17) (oi := _) (v := ?vq16) rfl (by kernel_rfl) (by kernel_rfl) (by kernel_rfl) (fun _ _ _ h => h) (Or.inl ⟨by rfl, ?hq16⟩) (by assumption) ?rq16
      case hq16 => (intro w hSw; go_simp; try with_reducible rfl)
      try dsimp only [Act.put, List.getElem_toArray, List.getElem_cons_zero, List.getElem_cons_succ]; try simp only [List.setIfInBounds_toArray, List.set_cons_zero, List.set_cons_succ]
      refine wpAnyH_take (i := 18) (oi := _) (v := ?vq17) rfl (by kernel_rfl) (by kernel_rfl) (by kernel_rfl) (fun _ _ _ h => h) (Or.inl ⟨by rfl, ?hq17⟩) (by assumption) ?rq17
      case hq17 => (intro w hSw; go_simp; try with_reducible rfl)
      try dsimp only [Act.put, List.getElem_toArray, List.getElem_cons_zero, List.getElem_cons_succ]; try simp only [List.setIfInBounds_toArray, List.set_cons_zero, List.set_cons_succ]
      refine wpAnyH_take (i := 19) (oi := _) (v := ?vq18) rfl (by kernel_rfl) (by kernel_rfl) (by kernel_rfl) (fun _ _ _ h => h) (Or.inl ⟨by rfl, ?hq18⟩) (by assumption) ?rq18
      case hq18 => (intro w hSw; go_simp; try with_reducible rfl)
      try dsimp only [Act.put, List.getElem_toArray, List.getElem_cons_zero, List.getElem_cons_succ]; try simp only [List.setIfInBounds_toArray, List.set_cons_zero, List.set_cons_succ]
      refine wpAnyH_take (i := 20) (oi := _) (v := ?vq19) rfl (by kernel_rfl) (by kernel_rfl) (by kernel_rfl) (fun _ _ _ h => h) (Or.inl ⟨by rfl, ?hq19⟩) (by assumption) ?rq19
      case hq19 => (intro w hSw; go_simp; try with_reducible rfl)
      try dsimp only [Act.put, List.getElem_toArray, List.getElem_cons_zero, List.getElem_cons_succ]; try simp only [List.setIfInBounds_toArray, List.set_cons_zero, List.set_cons_succ]
      refine wpAnyH_take (i := 21) (oi := _) (v := ?vq20) rfl (by kernel_rfl) (by kernel_rfl) (by kernel_rfl) (fun _ _ _ h => h) (Or.inl ⟨by rfl, ?hq20⟩) (by assumption) ?rq20
      case hq20 => (intro w hSw; go_simp; try with_reducible rfl)
      try dsimp only [Act.put, List.getElem_toArray, List.getElem_cons_zero, List.getElem_cons_succ]; try simp only [List.setIfInBounds_toArray, List.set_cons_zero, List.set_cons_succ]
      refine wpAnyH_take (i := 22) (oi := _) (v := ?vq21) rfl (by kernel_rfl) (by kernel_rfl) (by kernel_rfl) (fun _ _ _ h => h) (Or.inl ⟨by rfl, ?hq21⟩) (by assumption) ?rq21
      case hq21 => (intro w hSw; go_simp; try with_reducible rfl)
      try dsimp only [Act.put, List.getElem_toArray, List.getElem_cons_zero, List.getElem_cons_succ]; try simp only [List.setIfInBounds_toArray, List.set_cons_zero, List.set_cons_succ]
      refine wpAnyH_take (i := 23) (oi := _) (v := ?vq22) rfl (by kernel_rfl) (by kernel_rfl) (by kernel_rfl) (fun _ _ _ h => h) (Or.inl ⟨by rfl, ?hq22⟩) (by assumption) ?rq22
      case hq22 => (intro w hSw; go_simp; try with_reducible rfl)
      try dsimp only [Act.put, List.getElem_toArray, List.getElem_cons_zero, List.getElem_cons_succ]; try simp only [List.setIfInBounds_toArray, List.set_cons_zero, List.set_cons_succ]
      refine wpAnyH_take (i := 25) (oi := _) (v := ?vq23) rfl (by kernel_rfl) (by kernel_rfl) (by kernel_rfl) (fun _ _ _ h => h) (Or.inl ⟨by rfl, ?hq23⟩) (by assumption) ?rq23
      case hq23 => (intro w hSw; go_simp; try with_reducible rfl)
      try dsimp only [Act.put, List.getElem_toArray, List.getElem_cons_zero, List.getElem_cons_succ]; try simp only [List.setIfInBounds_toArray, List.set_cons_zero, List.set_cons_succ]
      refine wpAnyH_take (i := 26) (oi := _) (v := ?vq24) rfl (by kernel_rfl) (by kernel_rfl) (by kernel_rfl) (fun _ _ _ h => h) (Or.inl ⟨by rfl, ?hq24⟩) (by assumption) ?rq24
      case hq24 => (intro w hSw; go_simp; try with_reducible rfl)
      try dsimp only [Act.put, List.getElem_toArray, List.getElem_cons_zero, List.getElem_cons_succ]; try simp only [List.setIfInBounds_toArray, List.set_cons_zero, List.set_cons_succ]
      refine wpAnyH_take (i := 27) (oi := _) (v := ?vq25) rfl (by kernel_rfl) (by kernel_rfl) (by kernel_rfl) (fun _ _ _ h => h) (Or.inl ⟨by rfl, ?hq25⟩) (by assumption) ?rq25
      case hq25 => (intro w hSw; go_simp; try with_reducible rfl)
      try dsimp only [Act.put, List.getElem_toArray, List.getElem_cons_zero, List.getElem_cons_succ]; try simp only [List.setIfInBounds_toArray, List.set_cons_zero, List.set_cons_succ]
      refine wpAnyH_take (i := 28) (oi := _) (v := ?vq26) rfl (by kernel_rfl) (by kernel_rfl) (by kernel_rfl) (fun _ _ _ h => h) (Or.inl ⟨by rfl, ?hq26⟩) (by assumption) ?rq26
      case hq26 => (intro w hSw; go_simp; try with_reducible rfl)
      try dsimp only [Act.put, List.getElem_toArray, List.getElem_cons_zero, List.getElem_cons_succ]; try simp only [List.setIfInBounds_toArray, List.set_cons_zero, List.set_cons_succ]
      refine wpAnyH_take (i := 29) (oi := _) (v := ?vq27) rfl (by kernel_rfl) (by kernel_rfl) (by kernel_rfl) (fun _ _ _ h => h) (Or.inl ⟨by rfl, ?hq27⟩) (by assumption) ?rq27
      case hq27 => (intro w hSw; go_simp; try with_reducible rfl)
      try dsimp only [Act.put, List.getElem_toArray, List.getElem_cons_zero, List.getElem_cons_succ]; try simp only [List.setIfInBounds_toArray, List.set_cons_zero, List.set_cons_succ]
      refine wpAnyH_take (i := 30) (oi := _) (v := ?vq28) rfl (by kernel_rfl) (by kernel_rfl) (by kernel_rfl) (fun _ _ _ h => h) (Or.inl ⟨by rfl, ?hq28⟩) (by assumption) ?rq28
      case hq28 => (intro w hSw; go_simp; try with_reducible rfl)
      try dsimp only [Act.put, List.getElem_toArray, List.getElem_cons_zero, List.getElem_cons_succ]; try simp only [List.setIfInBounds_toArray, List.set_cons_zero, List.set_cons_succ]
      refine wpAnyH_ready (rs := [24]) (by kernel_rfl) (by simp) ?_
      refine AllReadyH.cons (o := _) rfl (fun K hK => ?_) ?_
      · rw [if_pos (by rfl)]
        go_simp
        refine (HK.out _).mono ?_
        rintro e wx ⟨rfl, hbx⟩
        have hb := then_ hb hbx
        clear hbx
        go_wp2_with fail
        refine hK.out _ _ ⟨cell_below hb X0.out, cell_below hb X1.out, cell_below hb X2.out⟩ (fun hHeld => ?_)
        clear hK K
        try dsimp only [Act.put, List.getElem_toArray, List.getElem_cons_zero, List.getElem_cons_succ]; try simp only [List.setIfInBounds_toArray, List.set_cons_zero, List.set_cons_succ]
        refine wpAnyH_ready (rs := [31]) (by kernel_rfl) (by simp) ?_
        refine AllReadyH.cons (o := _) rfl (fun K hK => ?_) ?_
        · rw [if_pos (by rfl)]
          go_simp
          refine (HRK.out _).mono ?_
          rintro e wx ⟨rfl, rfl⟩
          go_wp2_with fail
          refine hK.out _ _ ⟨cell_below hb X0.out, cell_below hb X1.out, cell_below hb X2.out⟩ (fun hHeld => ?_)
          clear hK K
          try dsimp only [Act.put, List.getElem_toArray, List.getElem_cons_zero, List.getElem_cons_succ]; try simp only [List.setIfInBounds_toArray, List.set_cons_zero, List.set_cons_succ]
          refine wpAnyH_take (i := 32) (oi := _) (v := ?vq29) rfl (by kernel_rfl) (by kernel_rfl) (by kernel_rfl) (fun _ _ _ h => h) (Or.inl ⟨by rfl, ?hq29⟩) (by assumption) ?rq29
          case hq29 => (intro w hSw; go_simp; try with_reducible rfl)
          try dsimp only [Act.put, List.getElem_toArray, List.getElem_cons_zero, List.getElem_cons_succ]; try simp only [List.setIfInBounds_toArray, List.set_cons_zero, List.set_cons_succ]
          refine wpAnyH_take (i := 33) (oi := _) (v := ?vq30) rfl (by kernel_rfl) (by kernel_rfl) (by kernel_rfl) (fun _ _ _ h => h) (Or.inl ⟨by rfl, ?hq30⟩) (by assumption) ?rq30
          case hq30 => (intro w hSw; go_simp; try with_reducible rfl)
          try dsimp only [Act.put, List.getElem_toArray, List.getElem_cons_zero, List.getElem_cons_succ]; try simp only [List.setIfInBounds_toArray, List.set_cons_zero, List.set_cons_succ]
          refine wpAnyH_take (i := 34) (oi := _) (v := ?vq31) rfl (by kernel_rfl) (by kernel_rfl) (by kernel_rfl) (fun _ _ _ h => h) (Or.inl ⟨by rfl, ?hq31⟩) (by assumption) ?rq31
          case hq31 => (intro w hSw; go_simp; try with_reducible rfl)
          try dsimp only [Act.put, List.getElem_toArray, List.getElem_cons_zero, List.getElem_cons_succ]; try simp only [List.setIfInBounds_toArray, List.set_cons_zero, List.set_cons_succ]
          refine wpAnyH_ready (rs := [35]) (by kernel_rfl) (by simp) ?_
          refine AllReadyH.cons (o := _) rfl (fun K hK => ?_) ?_
          · rw [if_pos (by rfl)]
            go_simp
            refine (awake22_any _).mono ?_
            rintro e wx ⟨rfl, hbx⟩
            have hb := then_ hb hbx
            clear hbx
            go_wp2_with fail
            refine hK.out _ _ ⟨cell_below hb X0.out, cell_below hb X1.out, cell_below hb X2.out⟩ (fun hHeld => ?_)
            clear hK K
            try dsimp only [Act.put, List.getElem_toArray, List.getElem_cons_zero, List.getElem_cons_succ]; try simp only [List.setIfInBounds_toArray, List.set_cons_zero, List.set_cons_succ]
            refine wpAnyH_take (i := 36) (oi := _) (v := ?vq32) rfl (by kernel_rfl) (by kernel_rfl) (by kernel_rfl) (fun _ _ _ h => h) (Or.inl ⟨by rfl, ?hq32⟩) (by assumption) ?rq32
            case hq32 => (intro w hSw; go_simp; try with_reducible rfl)
            try dsimp only [Act.put, List.getElem_toArray, List.getElem_cons_zero, List.getElem_cons_succ]; try simp only [List.setIfInBounds_toArray, List.set_cons_zero, List.set_cons_succ]
            refine wpAnyH_take (i := 37) (oi := _) (v := ?vq33) rfl (by kernel_rfl) (by kernel_rfl) (by kernel_rfl) (fun _ _ _ h => h) (Or.inl ⟨by rfl, ?hq33⟩) (by assumption) ?rq33
            case hq33 => (intro w hSw; go_simp; try with_reducible rfl)
            try dsimp only [Act.put, List.getElem_toArray, List.getElem_cons_zero, List.getElem_cons_succ]; try simp only [List.setIfInBounds_toArray, List.set_cons_zero, List.set_cons_succ]
            refine wpAnyH_done (by kernel_rfl) ?_ _
            go_wp2
            go_ret
            exact ⟨rfl, then_ hbel hb⟩
          exact AllReadyH.nil
        exact AllReadyH.nil
      exact AllReadyH.nil
    exact AllReadyH.nil
  exact AllReadyH.nil

theorem rts_self (s : ByteArray) (h : rtsB s = true) : ((txt (rtsI s)).toList == s.toList) = true := by
  unfold rtsI
  unfold rtsB at h
  simp only [Bool.or_eq_true] at h
  repeat' split
  all_goals first | assumption | simp_all
theorem rts_txt (n : Int) : rtsB (txt n) = true := by
  by_cases h : n < 0 ∨ 7 < n
  · rw [txt_out h]; kernel_rfl
  · rcases eight n h with rfl | rfl | rfl | rfl | rfl | rfl | rfl | rfl <;> kernel_rfl
theorem rts_num (n : Int) (h : ¬ (n < 0 ∨ 7 < n)) : rtsI (txt n) = n := by
  rcases eight n h with rfl | rfl | rfl | rfl | rfl | rfl | rfl | rfl <;> kernel_rfl

set_option maxRecDepth 100000 in
set_option maxHeartbeats 8000000 in
theorem accessLetters_walk (n : Int) (s : ByteArray) (w : World) (hn : (Lit.int .i64 n).wf = true) (hs : s.size ≤ maxLen) :
    Calls Try.prog 7 #[.int .i64 n, .string s] w (TrueB w) := by
  unfold maxLen at hs
  by_cases h100 : 100 < s.size
  · go_enter Try.func7, Try.ntmps7
    go_wp2_with fail
    refine (fin22 w _ (Below.refl _ _)).mono ?_
    rintro e w2 ⟨rfl, hb2⟩
    go_wp2
    go_ret
    exact ⟨rfl, hb2⟩
  have HR := Lib.hid (fun W => rights_any s W); have HRR := Lib.hid (fun W => rrights_any s W)
  have HT := Lib.hid (fun W => text_any n W); have HRT := Lib.hid (fun W => rtext_any n W)
  have HRT2 := Lib.hid (fun W => rights_any (txt n) W)
  have HS := Lib.hid (fun h => rts_self s h)
  have HTI := Lib.hid (fun W => text_any (rtsI s) W)
  unfold Rts at HR HRR HRT2
  rw [rts_txt n] at HRT2
  have HNI := Lib.hid (rts_num n)
  generalize txt (rtsI s) = ts at HS HTI
  generalize rtsI s = a at HR HRR HTI
  generalize rtsI (txt n) = k at HRT2 HNI
  generalize txt n = t at HT HRT HRT2
  have haa : (a != a) = false := by rw [bne_eq_false_iff_eq]
  have htt : (t.toList == t.toList) = true := by rw [beq_iff_eq]
  generalize hp : rtsB s = p at HR HRR HS
  clear hn hp
  cases p
  all_goals
    focus
    try have hts := HS.out rfl
    clear HS
    have hpp : (a == a) = true := by rw [beq_iff_eq]
    have hk : ¬ (n < 0 ∨ 7 < n) → (k == n) = true := fun h => by rw [HNI.out h]; simp
    rcases (by omega : n < 0 ∨ (¬ n < 0 ∧ 7 < n) ∨ (¬ n < 0 ∧ ¬ 7 < n)) with g1 | ⟨g1, g2⟩ | ⟨g1, g2⟩
    all_goals
      focus
      try have hkn := hk (by omega)
      clear hk
      go_enter Try.func7, Try.ntmps7
      go_wp2_with fail
      refine (HR.out _).mono ?_
      rintro e w1 ⟨rfl, hb1⟩
      go_wp2_with fail
      refine (HRR.out _).mono ?_
      rintro e w2 ⟨rfl, hb2⟩
      have hb2 := then_ hb1 hb2
      go_wp2_with fail
      refine (HT.out _).mono ?_
      rintro e w3 ⟨rfl, hb3⟩
      have hb3 := then_ hb2 hb3
      go_wp2_with fail
      refine (HRT2.out _).mono ?_
      rintro e w4 ⟨rfl, hb4⟩
      have hb4 := then_ hb3 hb4
      go_wp2_with fail
      refine (HT.out _).mono ?_
      rintro e w5 ⟨rfl, hb5⟩
      have hb5 := then_ hb4 hb5
      go_wp2_with fail
      refine (HRT.out _).mono ?_
      rintro e w6 ⟨rfl, rfl⟩
      go_wp2_with ((go_at_call 30; refine (HTI.out _).mono ?_; rintro e w7 ⟨rfl, hb7⟩; have hb5 := then_ hb5 hb7))
      refine (fin22 w _ hb5).mono ?_
      rintro e w8 ⟨rfl, hb8⟩
      go_wp2
      go_ret
      exact ⟨rfl, hb8⟩
end Go.Proofs.Ytlmplibdfhamjaa
