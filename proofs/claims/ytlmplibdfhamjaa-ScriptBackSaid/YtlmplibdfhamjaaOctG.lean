/- octet.Writer's methods once more, with what else turns: the writer's own block, and a block of bytes, alone. -/
import Derived.Test.YtlmplibdfhamjaaOctC
namespace Go.Proofs.Ytlmplibdfhamjaa
open Go.RowKit Go.Mem Go.Num
set_option linter.unusedVariables false

/-- below B nothing turns; above it the writer's block, and blocks of bytes, alone -/
structure Turn (B b : Nat) (w w' : World) : Prop where
  bel : Below B w w'
  rest : ∀ (k : Nat) (o : Obj), k ≠ b → w.heap[k]? = some o → (∀ cs fr, o ≠ .cells cs 5 fr) → w'.heap[k]? = some o
section
variable {B b : Nat} {w w' w'' : World}
theorem Turn.refl (B b : Nat) (w : World) : Turn B b w w := ⟨Below.refl B w, fun _ _ _ h _ => h⟩
theorem Turn.trans (h : Turn B b w w') (k : Turn B b w' w'') : Turn B b w w'' := ⟨h.bel.trans k.bel, fun i o hi ho ht => k.rest i o hi (h.rest i o hi ho ht) ht⟩
theorem Turn.drew (h : Turn B b w w') : Turn B b w w'.drew := ⟨h.bel.drew, h.rest⟩
theorem Turn.size (h : Turn B b w w') : w.heap.size ≤ w'.heap.size := h.bel.size
theorem Turn.alloc (h : Turn B b w w') (hB : B ≤ w'.heap.size) (o : Obj) : Turn B b w (w'.alloc o) :=
  ⟨h.bel.alloc hB o, fun k o' hk ho ht => (Below.heap_alloc w' o k (Array.getElem?_eq_some_iff.1 (h.rest k o' hk ho ht)).1).trans (h.rest k o' hk ho ht)⟩
theorem Turn.setCell (h : Turn B b w w') {p : Addr} (hB : B ≤ p.block) (hp : p.block = b) (u : Value) : Turn B b w (w'.setCell p u) :=
  ⟨h.bel.setCell hB u, fun k o hk ho ht => (Below.heap_setCell w' p u k (fun e => hk (by rw [← hp, e]))).trans (h.rest k o hk ho ht)⟩
theorem Turn.below (h : Turn B b w w') (hB : B ≤ w'.heap.size) (hb : Below w'.heap.size w' w'') : Turn B b w w'' :=
  ⟨h.bel.trans (hb.mono hB), fun k o hk ho ht => (hb.block k (Array.getElem?_eq_some_iff.1 (h.rest k o hk ho ht)).1).trans (h.rest k o hk ho ht)⟩
theorem own_u8 {e : TypeId} {sz n : Nat} {v : Value} {cs : List Value} (h : w.ownsRow B e sz v n cs) : ∀ g, v.ownBlock = some g → ∃ cs fr, w.heap[g]? = some (.cells cs e fr) := fun g hg => by
  rcases h.2 with ⟨rfl, _⟩ | ⟨g', cap, cur, rfl, _, hh, _⟩
  · cases hg
  · obtain rfl : g' = g := by simpa [Value.ownBlock] using hg
    exact ⟨_, _, hh⟩
theorem Turn.grown {e : TypeId} {sz n : Nat} {v : Value} {cs : List Value} (h : Turn B b w w') (hown : w'.ownsRow B 5 sz v n cs) (hg : w'.grownBy w'' v.ownBlock) (hB : B ≤ w'.heap.size) : Turn B b w w'' :=
  ⟨h.bel.grown hg hB (fun k hk => (hown.lt k hk).1), fun k o hk ho ht => by
    have h1 := h.rest k o hk ho ht
    refine (hg.block k (Array.getElem?_eq_some_iff.1 h1).1 (fun e => ?_)).trans h1
    obtain ⟨cs, fr, h2⟩ := own_u8 hown k e.symm
    rw [h1] at h2
    injection h2 with h2
    exact ht _ _ h2⟩
end

/-- a text of so many bytes -/
def SaysT (l : List UInt8) (w : World) (e : Ending) (w' : World) : Prop := e = .returned (.string (bs l)) ∧ Below w.heap.size w w'
theorem Wr.alloc {B b : Nat} {l : List UInt8} {w : World} (h : Wr B b l w) (o : Obj) : Wr B b l (w.alloc o) := by
  rcases h with ⟨hB, v, hb, hown, hne⟩ | ⟨hB, v, hb, hown, hne⟩
  · exact .inl ⟨hB, v, (Below.heap_alloc w o b (Array.getElem?_eq_some_iff.1 hb).1).trans hb, hown.alloc o, hne⟩
  · exact .inr ⟨hB, v, (Below.heap_alloc w o b (Array.getElem?_eq_some_iff.1 hb).1).trans hb, hown.alloc o, hne⟩
theorem Wr.lt {B b : Nat} {l : List UInt8} {w : World} (h : Wr B b l w) : b < w.heap.size := h.holds.lt

theorem copyCheck_turn (B b : Nat) (bs : List UInt8) (w : World) (h : Wr B b bs w) :
    Calls Try.prog 158 #[.pointer (some ⟨b, 0, none⟩)] w fun e w' => e = .returned (.tuple #[]) ∧ (BuilderAt B b (.pointer (some ⟨b, 0, none⟩)) bs w' ∧ Turn B b w w') := by
  rcases h with h | h
  · refine (copyCheck_fresh b w h.cell0 h.shape h.frozen0).mono ?_
    rintro e w' ⟨rfl, rfl⟩
    exact ⟨rfl, h.used _, (Turn.refl B b w).setCell (p := ⟨b, 0, none⟩) h.1 rfl _⟩
  · refine (copyCheck_used b w h.cell0).mono ?_
    rintro e w' ⟨rfl, rfl⟩
    exact ⟨rfl, h, Turn.refl B b _⟩

set_option maxHeartbeats 2000000 in
set_option maxRecDepth 100000 in
theorem wbyte_turn (B b : Nat) (bs : List UInt8) (c : UInt8) (w : World) (h : Wr B b bs w) (hlen : bs.length + 1 ≤ 140737488355328) (hBw : B ≤ w.heap.size) :
    Calls Try.prog 149 #[.pointer (some ⟨b, 0, none⟩), .int .u8 c.toNat] w fun e w' => e = .returned .nilIface ∧ Wr B b (bs ++ [c]) w' ∧ Turn B b w w' := by
  obtain ⟨i0, hi, hz0, hz1, hz2⟩ := info_parts infoByte
  go_enter Try.func149, Try.ntmps149
  go_wp2_with fail
  refine (copyCheck_turn B b bs _ h).mono ?_
  rintro e w1 ⟨rfl, h1, hb1⟩
  obtain ⟨hB, v, hbk, hown, hne⟩ := h1
  have hbl : (Lib.byteCells bs).length = bs.length := Lib.byteCells_length bs
  have c0 : w1.cell? ⟨b, 0, none⟩ = some (.pointer (some ⟨b, 0, none⟩)) := by rw [Lib.cell_of_heap hbk]; rfl
  have c1 : w1.cell? ⟨b, 1, none⟩ = some v := by rw [Lib.cell_of_heap hbk]; rfl
  have HBL := Lib.hid hbl; clear hbl
  have HBK := Lib.hid hbk; clear hbk
  go_wp2_with (at_builtin; refine wpList_append_own _ rfl _ _ 61 rfl B 5 i0 (.int .u8 0) 1 1 Try.underlying61 hi hz0 hz1 hz2 rfl (by decide) _ _ _ rfl (hown.alloc _) ⟨w1.heap.size, 0, none⟩ 1 1 [.int .u8 c.toNat] rfl rfl ?c1 ?c2 ?c3 ?c4 ?c5 ?_)
  case c1 =>
    intro j u hj
    match j, hj with
    | 0, hj => simp at hj; subst hj; simp [Addr.add]
  case c2 => intro u hu; simp at hu; subst hu; rfl
  case c3 => rw [HBL.out]; unfold maxLen; omega
  case c4 => rw [HBL.out]; omega
  case c5 => have := hb1.size; simp; omega
  intro v' w2 hown' hgrow _
  have hbk := HBK.out
  have hlt : b < w1.heap.size := by
    rcases Nat.lt_or_ge b w1.heap.size with h' | h'
    · exact h'
    · simp [Array.getElem?_eq_none h'] at hbk
  have hb2 : w2.heap[b]? = some (.cells #[.pointer (some ⟨b, 0, none⟩), v] 65 (0, 0)) := by
    rw [hgrow.block b (by simp; omega) (fun e => hne e.symm), Lib.alloc_old w1 _ b hlt]
    exact hbk
  have d0 : w2.cell? ⟨b, 0, none⟩ = some (.pointer (some ⟨b, 0, none⟩)) := by rw [Lib.cell_of_heap hb2]; rfl
  have d1 : w2.cell? ⟨b, 1, none⟩ = some v := by rw [Lib.cell_of_heap hb2]; rfl
  have f1 : w2.frozen? ⟨b, 1, none⟩ = false := Lib.frozen_of_heap hb2 1
  clear hbk
  have HB2 := Lib.hid hb2; clear hb2
  obtain ⟨g, cap, rfl⟩ : ∃ g cap, v' = .slice (some ⟨g, 0, none⟩) ((Lib.byteCells bs).length + 1) cap := by
    rcases hown'.2 with ⟨_, h0⟩ | ⟨g, cap, cur, hv, _⟩
    · omega
    · exact ⟨g, cap, hv⟩
  have HOWN := Lib.hid hown'; clear hown'
  go_wp2
  go_ret
  refine ⟨rfl, .inr ?_, ?_⟩
  · have hc : Lib.byteCells (bs ++ [c]) = Lib.byteCells bs ++ [.int .u8 c.toNat] := by unfold Lib.byteCells; rw [List.map_append]; rfl
    exact Lib.BuilderAt.put (T := 65) (e := 5) hB HB2.out (bs' := Lib.byteCells (bs ++ [c])) (by rw [hc]; simpa using HOWN.out) (by decide)
  · exact ((hb1.alloc (by have := hb1.size; omega) _).grown (e := 0) (hown.alloc _) hgrow (by have := hb1.size; simp; omega)).setCell (p := ⟨b, 1, none⟩) hB rfl _

set_option maxHeartbeats 2000000 in
set_option maxRecDepth 100000 in
theorem wstring_turn (B b : Nat) (bs : List UInt8) (s : ByteArray) (w : World) (h : Wr B b bs w) (hlen : bs.length + s.size ≤ 140737488355328) (hBw : B ≤ w.heap.size) :
    Calls Try.prog 142 #[.pointer (some ⟨b, 0, none⟩), .string s] w fun e w' => e = .returned (.tuple #[.int .i64 s.size, .nilIface]) ∧ Wr B b (bs ++ s.data.toList) w' ∧ Turn B b w w' := by
  obtain ⟨i0, hi, hz0, hz1, hz2⟩ := info_parts infoByte
  go_enter Try.func142, Try.ntmps142
  go_wp2_with fail
  refine (copyCheck_turn B b bs _ h).mono ?_
  rintro e w1 ⟨rfl, h1, hb1⟩
  obtain ⟨hB, v, hbk, hown, hne⟩ := h1
  have hbl : (Lib.byteCells bs).length = bs.length := Lib.byteCells_length bs
  have c0 : w1.cell? ⟨b, 0, none⟩ = some (.pointer (some ⟨b, 0, none⟩)) := by rw [Lib.cell_of_heap hbk]; rfl
  have c1 : w1.cell? ⟨b, 1, none⟩ = some v := by rw [Lib.cell_of_heap hbk]; rfl
  have HBL := Lib.hid hbl; clear hbl
  have HBK := Lib.hid hbk; clear hbk
  go_wp2_with (at_builtin; refine Lib.wpList_append_own_string _ rfl _ _ 61 9 rfl B 5 i0 Try.underlying61 Try.underlying9 hi hz0 hz1 hz2 _ _ _ rfl hown s rfl ?c3 ?c4 ?c5 ?_)
  case c3 => rw [HBL.out]; unfold maxLen; omega
  case c4 => rw [HBL.out]; omega
  case c5 => have := hb1.size; omega
  intro v' w2 hown' hgrow _
  have hbk := HBK.out
  have hlt : b < w1.heap.size := by
    rcases Nat.lt_or_ge b w1.heap.size with h' | h'
    · exact h'
    · simp [Array.getElem?_eq_none h'] at hbk
  have hb2 : w2.heap[b]? = some (.cells #[.pointer (some ⟨b, 0, none⟩), v] 65 (0, 0)) := by
    rw [hgrow.block b hlt (fun e => hne e.symm)]
    exact hbk
  have d0 : w2.cell? ⟨b, 0, none⟩ = some (.pointer (some ⟨b, 0, none⟩)) := by rw [Lib.cell_of_heap hb2]; rfl
  have d1 : w2.cell? ⟨b, 1, none⟩ = some v := by rw [Lib.cell_of_heap hb2]; rfl
  have f1 : w2.frozen? ⟨b, 1, none⟩ = false := Lib.frozen_of_heap hb2 1
  clear hbk
  have HB2 := Lib.hid hb2; clear hb2
  obtain ⟨ao, n', cap, rfl⟩ : ∃ ao n' cap, v' = .slice ao n' cap := by
    rcases hown'.2 with ⟨hv, _⟩ | ⟨g, cap, cur, hv, _⟩
    · exact ⟨_, _, _, hv⟩
    · exact ⟨_, _, _, hv⟩
  have HOWN := Lib.hid hown'; clear hown'
  go_wp2
  go_ret2
  refine ⟨rfl, .inr ?_, ?_⟩
  · have hc : Lib.byteCells (bs ++ s.data.toList) = Lib.byteCells bs ++ Lib.strCells s := by unfold Lib.byteCells Lib.strCells; rw [List.map_append]
    exact Lib.BuilderAt.put (T := 65) (e := 5) hB HB2.out (bs' := Lib.byteCells (bs ++ s.data.toList)) (by rw [hc]; simpa [Lib.strCells_length] using HOWN.out) (by decide)
  · exact (hb1.grown (e := 0) hown hgrow (by have := hb1.size; omega)).setCell (p := ⟨b, 1, none⟩) hB rfl _
set_option maxRecDepth 100000 in
set_option maxHeartbeats 1000000 in
theorem low_turn (B b : Nat) (l : List UInt8) (n : Int) (k : Nat) (w : World) (h : Wr B b l w) (hk : k ≤ 8) (hlen : l.length + 8 ≤ 140737488355328) (hBw : B ≤ w.heap.size) :
    Calls Try.prog 122 #[.pointer (some ⟨b, 0, none⟩), .int .i64 n, .int .i64 k] w fun e w' => e = .returned (.tuple #[]) ∧ Wr B b (l ++ be k n) w' ∧ Turn B b w w' := by
  have HLEN := Lib.hid hlen; clear hlen
  go_enter Try.func122, Try.ntmps122
  go_wp2
  go_loopw [6] (fun i wr => ∃ (j : Nat) (d : List UInt8), j ≤ k ∧ i = .int .i64 ((j : Int) - 1) ∧ d ++ be j n = be k n ∧ d.length ≤ 8 - j ∧ Wr B b (l ++ d) wr ∧ Turn B b w wr) (fun i _ => (intOf i + 1).toNat)
  case atStart => exact ⟨k, [], Nat.le_refl _, rfl, rfl, by simp, by simpa using h, Turn.refl _ _ _⟩
  case round =>
    obtain ⟨j, d, hj, rfl, hd, hdl, hw, hbel⟩ := hrel
    have HD := Lib.hid hd; have HDL := Lib.hid hdl; clear hd hdl
    cases j with
    | succ m =>
      have e1 : ((m + 1 : Nat) : Int) - 1 = (m : Int) := by omega
      rw [e1]
      clear e1
      have hm0 : (0 : Int) ≤ 8 * (m : Int) := by omega
      have hm1 : 8 * (m : Int) ≤ 64 := by omega
      have hmw : IntKind.i64.wrap (8 * (m : Int)) = 8 * (m : Int) := IntWalk.i64_in _ (by omega)
      go_wp2
      go_still_tail 8, (by kernel_rfl)
      change wpList _ _ _ _ _ wr.drew
      rw [pow_byte, u8_lowB]
      clear hm0 hm1 hmw
      have hw2 : Wr B b (l ++ d) wr.drew := hw
      have hbel2 : Turn B b w wr.drew := hbel.drew
      generalize wr.drew = w2 at hw2 hbel2 ⊢
      clear hw hbel
      go_wp2_with fail
      refine (wbyte_turn B b _ _ _ hw2 (by have := HDL.out; have := HLEN.out; rw [List.length_append]; omega) (Nat.le_trans hBw hbel2.size)).mono ?_
      rintro e w3 ⟨rfl, hw3, hb3⟩
      go_wp2
      go_roundw
      case rel => exact ⟨m, d ++ [lowB (n / 256 ^ m)], by omega, rfl, by rw [List.append_assoc]; exact HD.out, by have := HDL.out; rw [List.length_append]; simp; omega, by rw [← List.append_assoc]; exact hw3, hbel2.trans hb3⟩
      case measure => simp [intOf]
    | zero =>
      have hneg : decide ((0 : Int) ≤ ((0 : Nat) : Int) - 1) = false := by decide
      go_wp2
      go_end0
      refine ⟨rfl, ?_, hbel⟩
      have := HD.out
      simp only [be, List.append_nil] at this
      rw [← this]
      exact hw

/-- nobody's writer -/
theorem wByte_turn (B b : Nat) (l : List UInt8) (n : Int) (w : World) (h : Wr B b l w) (hlen : l.length + 8 ≤ 140737488355328) (hBw : B ≤ w.heap.size) :
    Calls Try.prog 109 #[.pointer (some ⟨b, 0, none⟩), .int .i64 n] w fun e w' => e = .returned (.tuple #[]) ∧ Wr B b (l ++ be 1 n) w' ∧ Turn B b w w' := by
  go_enter Try.func109, Try.ntmps109
  go_wp2_with fail
  refine (low_turn B b l n 1 _ h (by omega) hlen hBw).mono ?_
  rintro e w1 ⟨rfl, hw, hb⟩
  go_wp2
  go_end0
  exact ⟨rfl, hw, hb⟩
theorem wInt_turn (B b : Nat) (l : List UInt8) (n : Int) (w : World) (h : Wr B b l w) (hlen : l.length + 8 ≤ 140737488355328) (hBw : B ≤ w.heap.size) :
    Calls Try.prog 110 #[.pointer (some ⟨b, 0, none⟩), .int .i64 n] w fun e w' => e = .returned (.tuple #[]) ∧ Wr B b (l ++ be 8 n) w' ∧ Turn B b w w' := by
  go_enter Try.func110, Try.ntmps110
  go_wp2_with fail
  refine (low_turn B b l n 8 _ h (by omega) hlen hBw).mono ?_
  rintro e w1 ⟨rfl, hw, hb⟩
  go_wp2
  go_end0
  exact ⟨rfl, hw, hb⟩
theorem wCount_turn (B b : Nat) (l : List UInt8) (n : Int) (w : World) (h : Wr B b l w) (hlen : l.length + 8 ≤ 140737488355328) (hBw : B ≤ w.heap.size) :
    Calls Try.prog 80 #[.pointer (some ⟨b, 0, none⟩), .int .i64 n] w fun e w' => e = .returned (.tuple #[]) ∧ Wr B b (l ++ be 4 n) w' ∧ Turn B b w w' := by
  go_enter Try.func80, Try.ntmps80
  go_wp2_with fail
  refine (low_turn B b l n 4 _ h (by omega) hlen hBw).mono ?_
  rintro e w1 ⟨rfl, hw, hb⟩
  go_wp2
  go_end0
  exact ⟨rfl, hw, hb⟩
theorem wText_turn (B b : Nat) (l : List UInt8) (s : ByteArray) (w : World) (h : Wr B b l w) (hlen : l.length + s.size + 8 ≤ 140737488355328) (hBw : B ≤ w.heap.size) :
    Calls Try.prog 123 #[.pointer (some ⟨b, 0, none⟩), .string s] w fun e w' => e = .returned (.tuple #[]) ∧ Wr B b (l ++ textB s) w' ∧ Turn B b w w' := by
  go_enter Try.func123, Try.ntmps123
  go_wp2_with fail
  refine (wCount_turn B b l _ _ h (by omega) hBw).mono ?_
  rintro e w1 ⟨rfl, hw, hb⟩
  go_wp2_with fail
  refine (wstring_turn B b _ s _ hw (by rw [List.length_append, be_length]; omega) (Nat.le_trans hBw hb.size)).mono ?_
  rintro e w2 ⟨rfl, hw2, hb2⟩
  go_wp2
  go_end0
  rw [List.append_assoc] at hw2
  exact ⟨rfl, hw2, hb.trans hb2⟩
end Go.Proofs.Ytlmplibdfhamjaa
