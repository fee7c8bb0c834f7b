/- mac: the sum by a secret. -/
import Derived.Test.YtejfnkialhlkmaaShaK
import Derived.Lib.SlBuf
import Derived.Lib.BufferWrite
attribute [local go_sem ↓] Go.wp_at_zero Go.wp_at_succ
namespace Go.Mac
open Go.Num
def key (k : List UInt8) : List UInt8 := if 64 < k.length then Sha.sum k else k
def full (k : List UInt8) : List UInt8 := key k ++ List.replicate (64 - (key k).length) 0
def mixed (k : List UInt8) (c : UInt8) : List UInt8 := (full k).map (· ^^^ c)
def sum (k s : List UInt8) : List UInt8 := Sha.sum (mixed k 0x5c ++ Sha.sum (mixed k 0x36 ++ s))
end Go.Mac
namespace Go.Proofs.Ytejfnkialhlkmaa
open Go.RowKit Go.Mem Go.Num
set_option linter.unusedVariables false
theorem key_length (k : List UInt8) : (Mac.key k).length ≤ 64 := by
  unfold Mac.key
  split
  · rw [sum_length]; decide
  · omega
theorem full_length (k : List UInt8) : (Mac.full k).length = 64 := by
  have := key_length k
  unfold Mac.full
  rw [List.length_append, List.length_replicate]
  omega
theorem mixed_length (k : List UInt8) (c : UInt8) : (Mac.mixed k c).length = 64 := by unfold Mac.mixed; rw [List.length_map, full_length]
def z64b : List Value := List.replicate 64 (.int .u8 0)
def mixTo (kb : List UInt8) (c : UInt8) (k : Nat) : List Value := ((kb.take k).map (· ^^^ c) ++ kb.drop k).map u8v
theorem mixTo_zero (kb : List UInt8) (c : UInt8) : mixTo kb c 0 = kb.map u8v := by simp [mixTo]
theorem mixTo_all (kb : List UInt8) (c : UInt8) : mixTo kb c kb.length = (kb.map (· ^^^ c)).map u8v := by simp [mixTo]
theorem mixTo_at (kb : List UInt8) (c : UInt8) (k : Nat) (h : k < kb.length) : (mixTo kb c k)[k]? = some (u8v kb[k]) := by
  unfold mixTo
  rw [List.getElem?_map, List.getElem?_append_right (by rw [List.length_map, List.length_take]; omega), List.length_map, List.length_take, List.getElem?_drop, show k + (k - min k kb.length) = k by omega, List.getElem?_eq_getElem h]
  rfl
theorem mixTo_set (kb : List UInt8) (c : UInt8) (k : Nat) (h : k < kb.length) : (mixTo kb c k).set k (u8v (kb[k] ^^^ c)) = mixTo kb c (k + 1) := by
  have hl : ((kb.take k).map (· ^^^ c)).length = k := by rw [List.length_map, List.length_take]; omega
  unfold mixTo
  rw [← List.map_set, List.set_append_right _ _ (by omega), hl, Nat.sub_self, List.drop_eq_getElem_cons h, List.set_cons_zero, List.take_succ_eq_append_getElem h]
  congr 1
  rw [List.map_append, List.append_assoc]
  rfl
theorem one_u8 (l : List UInt8) : (l.map u8v).toArray.all (·.oneCell') = true := all_oneCell_toArray (fun v hv => by obtain ⟨x, _, rfl⟩ := List.mem_map.1 hv; rfl)
theorem info64b (cs : List Value) (h : cs.length = 64) : (Try.prog.info? 73).map (·.size) = some cs.toArray.size := by rw [List.size_toArray, h]; kernel_rfl
def zb1 (w : World) : World := w.alloc (.cells z64b.toArray 73)
theorem enter_pad (args : Array Value) (W : World) : Sem.run Try.prog (callFunc 62 args) W = .ok (.enter 62 args) W := by kernel_rfl

set_option maxRecDepth 100000 in
set_option maxHeartbeats 1000000 in
theorem macPad_any (g : Nat) (kb : List UInt8) (hk : kb.length = 64) (c : UInt8) (w : World) (h : Blk w g 73 (kb.map u8v)) :
    Calls Try.prog 62 #[.int .u8 c.toNat, .pointer (some ⟨g, 0, none⟩)] w fun e w' => e = .returned (.string (bs (kb.map (· ^^^ c)))) ∧ Below w.heap.size w w' := by
  have n4 : Blk (zb1 w) w.heap.size 73 z64b := Blk.new w _ _
  have hml : (kb.map u8v).length = 64 := by rw [List.length_map]; exact hk
  have s4 := n4.store (kb.map u8v) (by rw [hml]; rfl)
  have t4 := Blk.there' n4 (vs := kb.map u8v) (by rw [hml]; rfl)
  have hi := info64b (kb.map u8v) hml
  have one := one_u8 kb
  have fB := below_setCells (B := w.heap.size) (b := w.heap.size) (Nat.le_refl _) (kb.map u8v) 0 (zb1 w) ((Below.refl _ _).alloc (Nat.le_refl _) _)
  rw [← mixTo_zero kb c] at h s4 t4 hi one fB
  generalize hcs : mixTo kb c 0 = cs at h s4 t4 hi one fB
  have HCS := Lib.hid hcs; clear hcs hml
  have H := Lib.hid h; have S4 := Lib.hid s4; have T4 := Lib.hid t4; have HI := Lib.hid hi; have ONE := Lib.hid one; have FB := Lib.hid fB; have HK := Lib.hid hk
  clear h s4 t4 hi one fB n4 hk
  have hx := UInt8.toNat_lt c
  go_enter Try.func62, Try.ntmps62
  go_upto_region 2 with (first
    | (refine wpList_load_row (by rfl) 73 (.tmp 1) (by rfl) g (by rfl) 73 cs.toArray (0, 0) _ H.out Try.underlying73 rfl HI.out ?_)
    | (refine wpList_store_mid (by rfl) 73 (.tmp 4) (.tmp 6) (by rfl) w.heap.size 0 cs.toArray (by rfl) (by rfl) T4.out HI.out ONE.out ?_))
  refine wp_world (w0 := (zb1 w).setCells w.heap.size 0 cs) (by rfl) ?_
  generalize (zb1 w).setCells w.heap.size 0 cs = w1 at S4 FB ⊢
  clear T4 HI ONE H
  go_wp2
  go_loopw [7] (fun i wr => ∃ k : Nat, k ≤ 64 ∧ i = .int .i64 k ∧ Blk wr w.heap.size 73 (mixTo kb c k) ∧ Below w.heap.size w wr) (fun i _ => 64 - (intOf i).toNat)
  case atStart => exact ⟨0, by omega, rfl, by rw [HCS.out]; exact S4.out, FB.out⟩
  case round =>
    clear S4 FB
    obtain ⟨k, hk, rfl, hB, hb⟩ := hrel
    by_cases hlt : k < 64
    · have i1 : (0 : Int) ≤ (k : Int) := by omega
      have i2 : (k : Int) < 64 := by omega
      have hkl : k < kb.length := by rw [HK.out]; exact hlt
      have cx := hB.cell k _ (mixTo_at kb c k hkl)
      have fx := hB.frozen k
      have hset := mixTo_set kb c k hkl
      generalize kb[k] = x at *
      have hxx := UInt8.toNat_lt x
      have hxor : bits .xor .u8 (x.toNat : Int) (c.toNat : Int) = ((x ^^^ c).toNat : Int) := by rw [u8_xor_nat _ _ hxx hx, UInt8.toNat_xor]
      have HSET := Lib.hid hset; clear hset
      unfold u8v at cx
      generalize x ^^^ c = z at *
      have s7 := Blk.set_ hB k (u8v z)
      rw [HSET.out] at s7
      have b7 := hb.setCell (p := ⟨w.heap.size, k, none⟩) (Nat.le_refl _) (u8v z)
      unfold u8v at s7 b7
      have S7 := Lib.hid s7; have B7 := Lib.hid b7; clear s7 b7 hB hb
      go_wp2
      go_roundw
      case rel => exact ⟨k + 1, by omega, by go_num, S7.out, B7.out⟩
      case measure => simp [intOf]; omega
    · have HKK : Hid (k = 64) := Lib.hid (by omega)
      have i3 : (64 : Int) ≤ (k : Int) := by omega
      have hfin : mixTo kb c k = (kb.map (· ^^^ c)).map u8v := by rw [HKK.out, ← HK.out, mixTo_all]
      rw [hfin] at hB
      have hback := run_convert_bytes_back (P := Try.prog) wr 27 9 5 ⟨w.heap.size, 0, none⟩ 64 (kb.map (· ^^^ c)) Try.underlying27 Try.underlying5 Try.underlying9
        (fun j hj => by rw [add_none, Nat.zero_add]; exact hB.cell j _ (by rw [List.getElem?_map, List.getElem?_eq_getElem hj]; rfl))
      rw [List.length_map, HK.out] at hback
      generalize hdm : kb.map (· ^^^ c) = dm at hback
      have HDM := Lib.hid hdm
      clear hfin hB hdm
      go_wp2
      go_ret
      exact ⟨by rw [HDM.out]; rfl, hb⟩
end Go.Proofs.Ytejfnkialhlkmaa
