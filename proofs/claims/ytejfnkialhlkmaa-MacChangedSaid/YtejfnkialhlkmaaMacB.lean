/- mac: the sum, the document's sum, the test. -/
import Derived.Test.YtejfnkialhlkmaaMacA
attribute [local go_sem ↓] Go.wp_at_zero Go.wp_at_succ
namespace Go.Proofs.Ytejfnkialhlkmaa
open Go.RowKit Go.Mem Go.Num
set_option linter.unusedVariables false
theorem sum_bs_size (l : List UInt8) : (bs (Sha.sum l)).size = 32 := by rw [bs_size, sum_length]
/-- the secret as the key takes it -/
def IsKey (s t : ByteArray) : Prop := t.size ≤ 64 ∧ t.data.toList = Mac.key s.data.toList
theorem isKey_long {s : ByteArray} (h : 64 < s.size) : IsKey s (bs (Sha.sum s.data.toList)) := by
  refine ⟨by rw [sum_bs_size]; decide, ?_⟩
  rw [bs_toList]
  unfold Mac.key
  rw [if_pos (by simpa using h)]
theorem isKey_short {s : ByteArray} (h : ¬ 64 < s.size) : IsKey s s := by
  refine ⟨by omega, ?_⟩
  unfold Mac.key
  rw [if_neg (by simpa using h)]
theorem key_cells (s t : ByteArray) (h : IsKey s t) : (z64b.take 0 ++ Lib.byteCells t.data.toList ++ z64b.drop (0 + t.size)) = (Mac.full s.data.toList).map u8v := by
  have h1 := h.1
  have hl : (Mac.key s.data.toList).length = t.size := by rw [← h.2]; simp
  unfold Mac.full z64b
  rw [h.2, hl, List.map_append, List.map_replicate, List.take_zero, List.nil_append, Nat.zero_add, List.drop_replicate]
  rfl
/-- what the two pads and the sums come to -/
def MacSum (s x : ByteArray) : ByteArray := bs (Mac.sum s.data.toList x.data.toList)
theorem mac_text (s x : ByteArray) : (bs (Mac.mixed s.data.toList 0x36) ++ x).data.toList = Mac.mixed s.data.toList 0x36 ++ x.data.toList := by
  rw [ByteArray.data_append, Array.toList_append, bs_toList]
theorem mac_text2 (s : ByteArray) (y : List UInt8) : (bs (Mac.mixed s.data.toList 0x5c) ++ bs y).data.toList = Mac.mixed s.data.toList 0x5c ++ y := by
  rw [bs_append, bs_toList]

theorem mac_run (w2 : World) (g : Nat) (s t : ByteArray) (hk : IsKey s t) (n2 : Blk w2 g 73 z64b) : (Builtin.copy_ #[27, 9] 3 #[.slice (some ⟨g, 0, none⟩) 64 64, .string t]).run Try.prog w2 = .ok (goInt t.size) (w2.setRow g ((Mac.full s.data.toList).map u8v).toArray) := by
  have hiB : (Try.prog.info? 5).map (·.size) = some 1 := by kernel_rfl
  have hrun := Lib.run_copy_row_string (P := Try.prog) w2 27 9 3 5 g 0 64 64 t z64b.toArray 73 Try.underlying27 hiB n2 hk.1 (by have := hk.1; simp [z64b]; omega)
  rw [show z64b.toArray.toList = z64b from by simp, key_cells s t hk] at hrun
  exact hrun
theorem mac_blk (w2 : World) (g : Nat) (l : List UInt8) (n2 : Blk w2 g 73 z64b) : Blk (w2.setRow g (l.map u8v).toArray) g 73 (l.map u8v) := setRow_heap w2 g z64b.toArray _ 73 (0, 0) n2
theorem mac_below {B : Nat} {a : World} (w2 : World) (g : Nat) (l : Array Value) (h : Below B a w2) (hg : B ≤ g) : Below B a (w2.setRow g l) := h.trans ⟨rfl, rfl, rfl, by simp, fun k hk => setRow_other w2 g k _ (by omega)⟩
theorem macPad_lit (g : Nat) (s : ByteArray) (w : World) (h : Blk w g 73 ((Mac.full s.data.toList).map u8v)) :
    (Calls Try.prog 62 #[.int .u8 92, .pointer (some ⟨g, 0, none⟩)] w fun e w' => e = .returned (.string (bs (Mac.mixed s.data.toList 0x5c))) ∧ Below w.heap.size w w') ∧
    (Calls Try.prog 62 #[.int .u8 54, .pointer (some ⟨g, 0, none⟩)] w fun e w' => e = .returned (.string (bs (Mac.mixed s.data.toList 0x36))) ∧ Below w.heap.size w w') :=
  ⟨macPad_any g _ (full_length _) 0x5c w h, macPad_any g _ (full_length _) 0x36 w h⟩
theorem mixed_size (s : ByteArray) (c : UInt8) : (bs (Mac.mixed s.data.toList c)).size = 64 := by rw [bs_size, mixed_length]

set_option maxRecDepth 100000 in
set_option maxHeartbeats 2000000 in
theorem macSum_any (s x : ByteArray) (w : World) (hs : s.size ≤ 1099511627776) (hx : x.size ≤ 1000000000000) :
    Calls Try.prog 42 #[.string s, .string x] w fun e w' => e = .returned (.string (MacSum s x)) ∧ Below w.heap.size w w' := by
  have n1 : Blk (zb1 w) w.heap.size 73 z64b := Blk.new w _ _
  have b1 : Below w.heap.size w (zb1 w) := (Below.refl _ _).alloc (Nat.le_refl _) _
  have henter := enter_pad
  go_enter Try.func42, Try.ntmps42
  go_upto_region 2 with fail
  refine wp_world (w0 := zb1 w) (by rfl) ?_
  generalize zb1 w = w1 at *
  by_cases hbig : 64 < s.size
  · go_wp2_with fail
    refine (shaSum_any s w1 hs).mono ?_
    rintro e w2 ⟨rfl, hb2⟩
    have n2 := n1.belowS hb2
    have b2 := then_ b1 hb2
    have hk := isKey_long hbig
    generalize bs (Sha.sum s.data.toList) = t at *
    clear n1 b1 hb2
    go_upto_region 4 with fail
    have hrun := mac_run w2 w.heap.size s t hk n2
    have n3 := mac_blk w2 w.heap.size (Mac.full s.data.toList) n2
    have b3 := mac_below w2 w.heap.size ((Mac.full s.data.toList).map u8v).toArray b2 (Nat.le_refl _)
    have hsz : t.size ≤ 64 := hk.1
    clear n2 b2 hk
    generalize w2.setRow w.heap.size ((Mac.full s.data.toList).map u8v).toArray = w3 at *
    have N3 := Lib.hid n3; clear n3
    go_wp2_with fail
    clear hrun
    refine (macPad_lit w.heap.size s w3 N3.out).1.mono ?_
    rintro e w4 ⟨rfl, hb4⟩
    have N4 := Lib.hid (N3.out.belowS hb4)
    have b4 := then_ b3 hb4
    have z1 := mixed_size s 0x5c
    have t2 := mac_text2 s
    generalize bs (Mac.mixed s.data.toList 0x5c) = p1 at *
    have HT2 := Lib.hid t2; have Z1 := Lib.hid z1; clear t2 z1
    go_wp2_with fail
    refine (macPad_lit w.heap.size s w4 N4.out).2.mono ?_
    rintro e w5 ⟨rfl, hb5⟩
    have b5 := then_ b4 hb5
    have z2 := mixed_size s 0x36
    have t1 := mac_text s x
    generalize bs (Mac.mixed s.data.toList 0x36) = p2 at *
    have HT1 := Lib.hid t1; have Z2 := Lib.hid z2
    have z2' : p2.size ≤ 64 := by omega
    clear t1 z2 b3 b4 hb4 hb5
    go_wp2_with fail
    refine (shaSum_any (p2 ++ x) _ (by rw [ByteArray.size_append, Z2.out]; omega)).mono ?_
    rintro e w6 ⟨rfl, hb6⟩
    have b6 := then_ b5 hb6
    rw [HT1.out]
    have h2 := HT2.out (Sha.sum (Mac.mixed s.data.toList 0x36 ++ x.data.toList))
    have zy := sum_bs_size (Mac.mixed s.data.toList 0x36 ++ x.data.toList)
    have hfin : MacSum s x = bs (Sha.sum (Mac.mixed s.data.toList 0x5c ++ Sha.sum (Mac.mixed s.data.toList 0x36 ++ x.data.toList))) := rfl
    generalize bs (Sha.sum (Mac.mixed s.data.toList 0x36 ++ x.data.toList)) = y at *
    have H2 := Lib.hid h2; have ZY := Lib.hid zy; have HFIN := Lib.hid hfin
    have zy' : y.size ≤ 32 := by omega
    have z1' : p1.size ≤ 64 := by have := Z1.out; omega
    clear h2 zy hfin hb6 b5
    go_wp2_with fail
    refine (shaSum_any (p1 ++ y) _ (by rw [ByteArray.size_append]; omega)).mono ?_
    rintro e w7 ⟨rfl, hb7⟩
    rw [H2.out]
    go_wp2
    go_ret
    exact ⟨by rw [HFIN.out]; rfl, then_ b6 hb7⟩
  · have n2 := n1
    have b2 := b1
    have hk := isKey_short hbig
    clear n1 b1
    generalize w1 = w2 at *
    go_upto_region 4 with fail
    have hrun := mac_run w2 w.heap.size s s hk n2
    have n3 := mac_blk w2 w.heap.size (Mac.full s.data.toList) n2
    have b3 := mac_below w2 w.heap.size ((Mac.full s.data.toList).map u8v).toArray b2 (Nat.le_refl _)
    have hsz : s.size ≤ 64 := hk.1
    clear n2 b2 hk
    generalize w2.setRow w.heap.size ((Mac.full s.data.toList).map u8v).toArray = w3 at *
    have N3 := Lib.hid n3; clear n3
    go_wp2_with fail
    clear hrun
    refine (macPad_lit w.heap.size s w3 N3.out).1.mono ?_
    rintro e w4 ⟨rfl, hb4⟩
    have N4 := Lib.hid (N3.out.belowS hb4)
    have b4 := then_ b3 hb4
    have z1 := mixed_size s 0x5c
    have t2 := mac_text2 s
    generalize bs (Mac.mixed s.data.toList 0x5c) = p1 at *
    have HT2 := Lib.hid t2; have Z1 := Lib.hid z1; clear t2 z1
    go_wp2_with fail
    refine (macPad_lit w.heap.size s w4 N4.out).2.mono ?_
    rintro e w5 ⟨rfl, hb5⟩
    have b5 := then_ b4 hb5
    have z2 := mixed_size s 0x36
    have t1 := mac_text s x
    generalize bs (Mac.mixed s.data.toList 0x36) = p2 at *
    have HT1 := Lib.hid t1; have Z2 := Lib.hid z2
    have z2' : p2.size ≤ 64 := by omega
    clear t1 z2 b3 b4 hb4 hb5
    go_wp2_with fail
    refine (shaSum_any (p2 ++ x) _ (by rw [ByteArray.size_append, Z2.out]; omega)).mono ?_
    rintro e w6 ⟨rfl, hb6⟩
    have b6 := then_ b5 hb6
    rw [HT1.out]
    have h2 := HT2.out (Sha.sum (Mac.mixed s.data.toList 0x36 ++ x.data.toList))
    have zy := sum_bs_size (Mac.mixed s.data.toList 0x36 ++ x.data.toList)
    have hfin : MacSum s x = bs (Sha.sum (Mac.mixed s.data.toList 0x5c ++ Sha.sum (Mac.mixed s.data.toList 0x36 ++ x.data.toList))) := rfl
    generalize bs (Sha.sum (Mac.mixed s.data.toList 0x36 ++ x.data.toList)) = y at *
    have H2 := Lib.hid h2; have ZY := Lib.hid zy; have HFIN := Lib.hid hfin
    have zy' : y.size ≤ 32 := by omega
    have z1' : p1.size ≤ 64 := by have := Z1.out; omega
    clear h2 zy hfin hb6 b5
    go_wp2_with fail
    refine (shaSum_any (p1 ++ y) _ (by rw [ByteArray.size_append]; omega)).mono ?_
    rintro e w7 ⟨rfl, hb7⟩
    rw [H2.out]
    go_wp2
    go_ret
    exact ⟨by rw [HFIN.out]; rfl, then_ b6 hb7⟩
end Go.Proofs.Ytejfnkialhlkmaa
