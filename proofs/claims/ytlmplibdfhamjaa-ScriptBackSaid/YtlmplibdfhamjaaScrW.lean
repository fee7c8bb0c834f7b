/- A cluster and events written as bytes: the code's: texts, a member. -/
import Derived.Test.YtlmplibdfhamjaaCtxW
import Derived.Test.YtlmplibdfhamjaaEvent
attribute [local go_sem ↓] Go.wp_at_zero Go.wp_at_succ
namespace Go.Proofs.Ytlmplibdfhamjaa
open Go.RowKit Go.Mem Go.Num
set_option linter.unusedVariables false
set_option linter.unusedSimpArgs false

def wTs (l : List ByteArray) : List UInt8 := l.flatMap textB
set_option maxRecDepth 100000 in
set_option maxHeartbeats 2000000 in
theorem wTexts_turn (B b q n c : Nat) (l : List UInt8) (ss : List ByteArray) (w : World) (h : Wr B b l w) (hs : SBox 9 (ss.map Value.string).toArray q w) (hqb : q ≠ b) (hn : ss.length = n) (hlen : l.length + (wTs ss).length + 64 ≤ 140737488355328) (hm : n ≤ 1000) (hBw : B ≤ w.heap.size) :
    Calls Try.prog 108 #[.agg #[.pointer (some ⟨b, 0, none⟩)], .slice (some ⟨q, 0, none⟩) n c] w fun e w' => e = .returned (.tuple #[]) ∧ Wr B b (l ++ wTs ss) w' ∧ Turn B b w w' := by
  have hbw := h.lt
  have hx := show SBox 106 #[.pointer (some ⟨b, 0, none⟩)] w.heap.size (w.alloc (.cells #[.pointer (some ⟨b, 0, none⟩)] 106)) from heap_alloc_new w _
  have ht := (Turn.refl B b w).alloc hBw (.cells #[.pointer (some ⟨b, 0, none⟩)] 106)
  have hs1 : SBox 9 (ss.map Value.string).toArray q (w.alloc (.cells #[.pointer (some ⟨b, 0, none⟩)] 106)) := (Below.heap_alloc w _ q (Array.getElem?_eq_some_iff.1 hs).1).trans hs
  have hw1 := h.alloc (.cells #[.pointer (some ⟨b, 0, none⟩)] 106)
  have HN := Lib.hid hn; have HLEN := Lib.hid hlen
  have hne : w.heap.size ≠ b := by omega
  clear h hs hn hlen
  go_enter Try.func108, Try.ntmps108
  go_wp2
  generalize w.alloc (.cells #[.pointer (some ⟨b, 0, none⟩)] 106) = w1 at *
  go_loopw [8] (fun i wr => ∃ k : Nat, k ≤ n ∧ i = .int .i64 k ∧ Wr B b (l ++ (ss.take k).flatMap textB) wr ∧ SBox 106 #[.pointer (some ⟨b, 0, none⟩)] w.heap.size wr ∧ SBox 9 (ss.map Value.string).toArray q wr ∧ Turn B b w wr) (fun i _ => n - (intOf i).toNat)
  case atStart => exact ⟨0, Nat.zero_le _, rfl, by simpa using hw1, hx, hs1, ht⟩
  case round =>
    clear hw1 hx hs1 ht
    obtain ⟨k, hk, rfl, hw, hx, hs, ht⟩ := hrel
    by_cases hlt : k < n
    · have hx2 : k < ss.length := by have := HN.out; omega
      have c0 : wr.cell? ⟨q, k, none⟩ = some (.string ss[k]) := hs.cell k (by simp [hx2])
      have HNX := Lib.hid (flat_step textB ss k hx2)
      have HLE := Lib.hid (flat_take_le textB ss k hx2)
      generalize ss[k] = s at c0 HNX HLE
      have x0 := hx.cell 0 rfl
      have HX := Lib.hid hx; have HS := Lib.hid hs; have HW := Lib.hid hw; have HT := Lib.hid ht
      clear hx hs hw ht
      go_wp2_with fail
      refine (wText_turn B b _ s _ HW.out (by have := HLE.out; have := HLEN.out; unfold wTs at this; rw [textB_length] at *; simp only [List.length_append]; omega) (Nat.le_trans hBw HT.out.size)).mono ?_
      rintro e w3 ⟨rfl, hw3, ht3⟩
      clear c0 x0
      go_wp2
      go_roundw
      case rel => exact ⟨k + 1, by omega, by go_num, by rw [HNX.out, ← List.append_assoc]; exact hw3, HX.out.step hne (by decide) ht3, HS.out.step hqb (by decide) ht3, HT.out.trans ht3⟩
      case measure => simp [intOf]; omega
    · obtain rfl : k = n := by omega
      rw [List.take_of_length_le (by have := HN.out; omega)] at hw
      go_wp2
      go_end0
      exact ⟨rfl, hw, ht⟩

def upN (b : Bool) : Int := if b then 1 else 0
def memB (m : Memb) : List UInt8 := textB m.name ++ textB m.rack ++ textB m.zone ++ be 1 (upN m.up)
theorem memB_length (m : Memb) : (memB m).length = m.name.size + m.rack.size + m.zone.size + 13 := by
  unfold memB; simp only [List.length_append, textB_length, be_length]; omega
theorem SBox.alloc' {T : TypeId} {c : Array Value} {q : Nat} {W : World} (h : SBox T c q W) (o : Obj) : SBox T c q (W.alloc o) := (Below.heap_alloc W o q (Array.getElem?_eq_some_iff.1 h).1).trans h
theorem SBox.new (W : World) (T : TypeId) (c : Array Value) : SBox T c W.heap.size (W.alloc (.cells c T)) := heap_alloc_new W _
set_option maxRecDepth 100000 in
set_option maxHeartbeats 2000000 in
theorem wMem_turn (B b : Nat) (l : List UInt8) (m : Memb) (w : World) (h : Wr B b l w) (hlen : l.length + (memB m).length + 128 ≤ 140737488355328) (hBw : B ≤ w.heap.size) :
    Calls Try.prog 65 #[.agg #[.pointer (some ⟨b, 0, none⟩)], .agg m.arr] w fun e w' => e = .returned (.tuple #[]) ∧ Wr B b (l ++ memB m) w' ∧ Turn B b w w' := by
  obtain ⟨nm, rk, zn, up⟩ := m
  rw [memB_length] at hlen
  simp only at hlen
  simp only [Memb.arr]
  have hbw := h.lt
  have hz1 : (w.alloc (.cells #[.pointer (some ⟨b, 0, none⟩)] 106)).heap.size = w.heap.size + 1 := by simp
  have hx := (SBox.new w 106 #[.pointer (some ⟨b, 0, none⟩)]).alloc' (.cells #[.string nm, .string rk, .string zn, .bool up] 82)
  have hy := SBox.new (w.alloc (.cells #[.pointer (some ⟨b, 0, none⟩)] 106)) 82 #[.string nm, .string rk, .string zn, .bool up]
  rw [hz1] at hy
  have ht := ((Turn.refl B b w).alloc hBw (.cells #[.pointer (some ⟨b, 0, none⟩)] 106)).alloc (by omega) (.cells #[.string nm, .string rk, .string zn, .bool up] 82)
  have hw := (h.alloc (.cells #[.pointer (some ⟨b, 0, none⟩)] 106)).alloc (.cells #[.string nm, .string rk, .string zn, .bool up] 82)
  have hz2 : ((w.alloc (.cells #[.pointer (some ⟨b, 0, none⟩)] 106)).alloc (.cells #[.string nm, .string rk, .string zn, .bool up] 82)).heap.size = w.heap.size + 1 + 1 := by simp
  have HLEN := Lib.hid hlen
  have hx0 := hx.cell 0 rfl
  have y0 := hy.cell 0 rfl; have y1 := hy.cell 1 rfl; have y2 := hy.cell 2 rfl; have y3 := hy.cell 3 rfl
  have HX := Lib.hid hx; have HY := Lib.hid hy; have HW := Lib.hid hw; have HT := Lib.hid ht; have HZ := Lib.hid hz2
  have HS1 := Lib.hid (show wTs [nm, rk, zn] = textB nm ++ textB rk ++ textB zn by simp [wTs])
  clear h hlen hz1 hz2 hx hy ht hw
  go_enter Try.func65, Try.ntmps65
  go_wp2_with fail
  have hal := HT.out.alloc (by rw [HZ.out]; omega) (.cells #[.string nm, .string rk, .string zn] 9)
  have hsz := HZ.out
  refine (wTexts_turn B b _ 3 3 l [nm, rk, zn] _ (HW.out.alloc _) (by rw [← hsz]; exact SBox.new _ 9 #[.string nm, .string rk, .string zn]) (by omega) rfl (by rw [HS1.out]; have := HLEN.out; simp only [List.length_append, textB_length]; omega) (by decide) (Nat.le_trans hBw hal.size)).mono ?_
  clear hx0 y0 y1 y2 y3
  rintro e w1 ⟨rfl, hw1, ht1⟩
  rw [HS1.out] at hw1
  have HX := Lib.hid ((HX.out.alloc' _).step (by omega) (by decide) ht1)
  have HY := Lib.hid ((HY.out.alloc' _).step (by omega) (by decide) ht1)
  have HT := Lib.hid (hal.trans ht1)
  have HW := Lib.hid hw1
  clear hw1 ht1 hal hsz HZ
  have hx0 := HX.out.cell 0 rfl
  have y3 := HY.out.cell 3 rfl
  have HU := Lib.hid (fun (z : Int) (W : World) => wByte_turn B b (l ++ (textB nm ++ textB rk ++ textB zn)) z W)
  have HL2 : Hid ((l ++ (textB nm ++ textB rk ++ textB zn)).length + 8 ≤ 140737488355328) := Lib.hid (by have := HLEN.out; simp only [List.length_append, textB_length]; omega)
  have HF : Hid (l ++ memB ⟨nm, rk, zn, up⟩ = l ++ (textB nm ++ textB rk ++ textB zn) ++ be 1 (upN up)) := Lib.hid (by unfold memB; simp only [List.append_assoc])
  have HW9 := HW; have HT9 := HT
  clear HX HY HW HT HS1
  cases up
  · go_wp2_with fail
    refine (HU.out 0 _ HW9.out HL2.out (Nat.le_trans hBw HT9.out.size)).mono ?_
    rintro e w2 ⟨rfl, hw2, ht2⟩
    clear hx0 y3
    go_wp2
    go_end0
    exact ⟨rfl, by rw [HF.out]; exact hw2, HT9.out.trans ht2⟩
  · go_wp2_with fail
    refine (HU.out 1 _ HW9.out HL2.out (Nat.le_trans hBw HT9.out.size)).mono ?_
    rintro e w2 ⟨rfl, hw2, ht2⟩
    clear hx0 y3
    go_wp2
    go_end0
    exact ⟨rfl, by rw [HF.out]; exact hw2, HT9.out.trans ht2⟩
end Go.Proofs.Ytlmplibdfhamjaa
