/- mac: the document's sum, the test. -/
import Derived.Test.YtejfnkialhlkmaaMacB
attribute [local go_sem ↓] Go.wp_at_zero Go.wp_at_succ
namespace Go.Proofs.Ytejfnkialhlkmaa
open Go.RowKit Go.Mem Go.Num
set_option linter.unusedVariables false
theorem full_at (s t : ByteArray) (hk : IsKey s t) (k : Nat) (h : k < 64) : (Mac.full s.data.toList).getD k 0 = if k < t.size then t.data.toList.getD k 0 else 0 := by
  have hl : (Mac.key s.data.toList).length = t.size := by rw [← hk.2]; simp
  unfold Mac.full
  rw [List.getD_eq_getElem?_getD]
  by_cases hlt : k < t.size
  · rw [if_pos hlt, List.getElem?_append_left (by omega), hk.2, List.getD_eq_getElem?_getD]
  · rw [if_neg hlt, List.getElem?_append_right (by omega), List.getElem?_replicate]
    split <;> rfl
theorem take_snocD (l : List UInt8) (k : Nat) (h : k < l.length) : l.take (k + 1) = l.take k ++ [l.getD k 0] := by
  rw [List.take_succ_eq_append_getElem h, List.getD_eq_getElem?_getD, List.getElem?_eq_getElem h]
  rfl
theorem one_u8v (z : Int) : ∀ u ∈ [Value.int .u8 z], u.oneCell' = true := by intro u hu; simp at hu; subst hu; rfl

set_option maxRecDepth 100000 in
set_option maxHeartbeats 2000000 in
theorem refPadded_any (s t : ByteArray) (hk : IsKey s t) (c : UInt8) (w : World) :
    Calls Try.prog 63 #[.string t, .int .u8 c.toNat] w fun e w' => e = .returned (.string (bs (Mac.mixed s.data.toList c))) ∧ Below w.heap.size w w' := by
  have hat := full_at s t hk
  have hfl := full_length s.data.toList
  have ht64 : t.size ≤ 64 := hk.1
  have hmx : Mac.mixed s.data.toList c = (Mac.full s.data.toList).map (· ^^^ c) := rfl
  have HMX := Lib.hid hmx; clear hmx hk
  generalize Mac.full s.data.toList = F at *
  have HAT := Lib.hid hat; have HFL := Lib.hid hfl; clear hat hfl
  have hc := UInt8.toNat_lt c
  go_enter Try.func63, Try.ntmps63
  go_wp2
  go_loopw [5, 6] (fun v i wr => ∃ k : Nat, k ≤ 64 ∧ i = .int .i64 k ∧ wr.ownsRow w.heap.size 5 1 v k (((F.take k).map (· ^^^ c)).map u8v) ∧ Below w.heap.size w wr) (fun _ i _ => 64 - (intOf i).toNat)
  case atStart => exact ⟨0, by omega, rfl, World.ownsRow_nil _ _ _ _, Below.refl _ _⟩
  case round =>
    obtain ⟨k, hk, rfl, hown, hb⟩ := hrel
    obtain ⟨oA, oc, rfl⟩ := own_form hown
    have HO := Lib.hid hown; clear hown
    have hbs := hb.size
    by_cases hlt : k < 64
    · have hfk := HAT.out k hlt
      have hsn := take_snocD F k (by rw [HFL.out]; exact hlt)
      by_cases hkt : k < t.size
      · rw [if_pos hkt, ← byte_at t k hkt] at hfk
        rw [hfk] at hsn
        have HSN := Lib.hid hsn; clear hsn hfk
        have hx := UInt8.toNat_lt t[k]
        have hxor : bits .xor .u8 ((t[k]).toNat : Int) (c.toNat : Int) = ((t[k] ^^^ c).toNat : Int) := by rw [u8_xor_nat _ _ hx hc, UInt8.toNat_xor]
        generalize hz : t[k] ^^^ c = z at *
        have HZ := Lib.hid hz; clear hz
        go_wp2_with (at_builtin; refine wpList_app elByte (by rfl) (.tmp 19) (.tmp 23) (by rfl) w.heap.size _ _ _ (by rfl) (HO.out.alloc _) (some ⟨wr.heap.size, 0, none⟩) 1 1 [.int .u8 z.toNat] rfl rfl (Rd.new wr #[.int .u8 z.toNat] _) (one_u8v _) (by unfold maxLen; omega) (by omega) (by simp; omega) ?_; intro v1 w1 hown1 hbel1 _ _)
        have hown2 : Hid (w1.ownsRow w.heap.size 5 1 v1 (k + 1) (((F.take (k + 1)).map (· ^^^ c)).map u8v)) := Lib.hid (by
          rw [HSN.out, List.map_append, List.map_append, List.map_singleton, List.map_singleton, HZ.out]
          exact hown1)
        have hb2 := (hb.alloc hbs _).trans hbel1
        clear hown1 hbel1 hb
        go_roundw
        case rel => exact ⟨k + 1, by omega, by go_num, hown2.out, hb2⟩
        case measure => simp [intOf]; omega
      · rw [if_neg hkt] at hfk
        rw [hfk] at hsn
        have HSN := Lib.hid hsn; clear hsn hfk
        have hxor : bits .xor .u8 0 (c.toNat : Int) = ((0 ^^^ c).toNat : Int) := by
          have := u8_xor_nat 0 c.toNat (by omega) hc
          rw [UInt8.toNat_xor]
          exact this
        generalize hz : 0 ^^^ c = z at *
        have HZ := Lib.hid hz; clear hz
        go_wp2_with (at_builtin; refine wpList_app elByte (by rfl) (.tmp 19) (.tmp 23) (by rfl) w.heap.size _ _ _ (by rfl) (HO.out.alloc _) (some ⟨wr.heap.size, 0, none⟩) 1 1 [.int .u8 z.toNat] rfl rfl (Rd.new wr #[.int .u8 z.toNat] _) (one_u8v _) (by unfold maxLen; omega) (by omega) (by simp; omega) ?_; intro v1 w1 hown1 hbel1 _ _)
        have hown2 : Hid (w1.ownsRow w.heap.size 5 1 v1 (k + 1) (((F.take (k + 1)).map (· ^^^ c)).map u8v)) := Lib.hid (by
          rw [HSN.out, List.map_append, List.map_append, List.map_singleton, List.map_singleton, HZ.out]
          exact hown1)
        have hb2 := (hb.alloc hbs _).trans hbel1
        clear hown1 hbel1 hb
        go_roundw
        case rel => exact ⟨k + 1, by omega, by go_num, hown2.out, hb2⟩
        case measure => simp [intOf]; omega
    · have HK : Hid (k = 64) := Lib.hid (by omega)
      have i3 : (64 : Int) ≤ (k : Int) := by omega
      have hown := HO.out
      rw [List.take_of_length_le (by rw [HFL.out]; omega), ← HMX.out] at hown
      obtain ⟨g, rfl, hg1, hg2, hgc⟩ := own_pos hown (by omega)
      have hml : (Mac.mixed s.data.toList c).length = k := by rw [mixed_length, HK.out]
      have hback := run_convert_bytes_back (P := Try.prog) wr 27 9 5 ⟨g, 0, none⟩ oc (Mac.mixed s.data.toList c) Try.underlying27 Try.underlying5 Try.underlying9
        (fun j hj => hown.cells (g := g) rfl j _ (by rw [List.getElem?_map, List.getElem?_eq_getElem hj]; rfl))
      rw [hml] at hback
      generalize hdm : Mac.mixed s.data.toList c = dm at hback
      have HDM := Lib.hid hdm
      clear hown HO hg1 hg2 hgc hdm hml
      go_wp2
      go_ret
      exact ⟨by rw [HDM.out]; rfl, hb⟩

set_option maxRecDepth 100000 in
set_option maxHeartbeats 2000000 in
theorem refMacSum_any (s x : ByteArray) (w : World) (hs : s.size ≤ 1099511627776) (hx : x.size ≤ 1000000000000) :
    Calls Try.prog 43 #[.string s, .string x] w fun e w' => e = .returned (.string (MacSum s x)) ∧ Below w.heap.size w w' := by
  go_enter Try.func43, Try.ntmps43
  by_cases hbig : 64 < s.size
  · go_wp2_with fail
    refine (refSum_any s _ hs).mono ?_
    rintro e w1 ⟨rfl, b1⟩
    have hk := isKey_long hbig
    generalize bs (Sha.sum s.data.toList) = t at *
    have hsz : t.size ≤ 64 := hk.1
    have HKEY := Lib.hid hk; clear hk
    go_wp2_with fail
    refine (refPadded_any s t HKEY.out 0x5c _).mono ?_
    rintro e w4 ⟨rfl, hb4⟩
    have b4 := then_ b1 hb4
    have z1 := mixed_size s 0x5c
    have t2 := mac_text2 s
    generalize bs (Mac.mixed s.data.toList 0x5c) = p1 at *
    have HT2 := Lib.hid t2; have Z1 := Lib.hid z1; clear t2 z1
    go_wp2_with fail
    refine (refPadded_any s t HKEY.out 0x36 _).mono ?_
    rintro e w5 ⟨rfl, hb5⟩
    have b5 := then_ b4 hb5
    have z2 := mixed_size s 0x36
    have t1 := mac_text s x
    generalize bs (Mac.mixed s.data.toList 0x36) = p2 at *
    have HT1 := Lib.hid t1; have Z2 := Lib.hid z2
    have z2' : p2.size ≤ 64 := by omega
    clear t1 z2 b1 b4 hb4 hb5
    go_wp2_with fail
    refine (refSum_any (p2 ++ x) _ (by rw [ByteArray.size_append, Z2.out]; omega)).mono ?_
    rintro e w6 ⟨rfl, hb6⟩
    have b6 := then_ b5 hb6
    rw [HT1.out]
    have h2 := HT2.out (Sha.sum (Mac.mixed s.data.toList 0x36 ++ x.data.toList))
    have zy := sum_bs_size (Mac.mixed s.data.toList 0x36 ++ x.data.toList)
    have hfin : MacSum s x = bs (Sha.sum (Mac.mixed s.data.toList 0x5c ++ Sha.sum (Mac.mixed s.data.toList 0x36 ++ x.data.toList))) := rfl
    generalize bs (Sha.sum (Mac.mixed s.data.toList 0x36 ++ x.data.toList)) = y at *
    have H2 := Lib.hid h2; have ZY := Lib.hid zy; have HFIN := Lib.hid hfin
    have zy' : y.size ≤ 32 := by omega
    have z1' : p1.size ≤ 64 := by have := Z1.out; omega
    clear h2 zy hfin hb6 b5
    go_wp2_with fail
    refine (refSum_any (p1 ++ y) _ (by rw [ByteArray.size_append]; omega)).mono ?_
    rintro e w7 ⟨rfl, hb7⟩
    rw [H2.out]
    go_wp2
    go_ret
    exact ⟨by rw [HFIN.out]; rfl, then_ b6 hb7⟩
  · have HKEY := Lib.hid (isKey_short hbig)
    have b1 := Below.refl w.heap.size w
    have hsz : s.size ≤ 64 := HKEY.out.1
    go_wp2_with fail
    refine (refPadded_any s s HKEY.out 0x5c _).mono ?_
    rintro e w4 ⟨rfl, hb4⟩
    have b4 := then_ b1 hb4
    have z1 := mixed_size s 0x5c
    have t2 := mac_text2 s
    generalize bs (Mac.mixed s.data.toList 0x5c) = p1 at *
    have HT2 := Lib.hid t2; have Z1 := Lib.hid z1; clear t2 z1
    go_wp2_with fail
    refine (refPadded_any s s HKEY.out 0x36 _).mono ?_
    rintro e w5 ⟨rfl, hb5⟩
    have b5 := then_ b4 hb5
    have z2 := mixed_size s 0x36
    have t1 := mac_text s x
    generalize bs (Mac.mixed s.data.toList 0x36) = p2 at *
    have HT1 := Lib.hid t1; have Z2 := Lib.hid z2
    have z2' : p2.size ≤ 64 := by omega
    clear t1 z2 b1 b4 hb4 hb5
    go_wp2_with fail
    refine (refSum_any (p2 ++ x) _ (by rw [ByteArray.size_append, Z2.out]; omega)).mono ?_
    rintro e w6 ⟨rfl, hb6⟩
    have b6 := then_ b5 hb6
    rw [HT1.out]
    have h2 := HT2.out (Sha.sum (Mac.mixed s.data.toList 0x36 ++ x.data.toList))
    have zy := sum_bs_size (Mac.mixed s.data.toList 0x36 ++ x.data.toList)
    have hfin : MacSum s x = bs (Sha.sum (Mac.mixed s.data.toList 0x5c ++ Sha.sum (Mac.mixed s.data.toList 0x36 ++ x.data.toList))) := rfl
    generalize bs (Sha.sum (Mac.mixed s.data.toList 0x36 ++ x.data.toList)) = y at *
    have H2 := Lib.hid h2; have ZY := Lib.hid zy; have HFIN := Lib.hid hfin
    have zy' : y.size ≤ 32 := by omega
    have z1' : p1.size ≤ 64 := by have := Z1.out; omega
    clear h2 zy hfin hb6 b5
    go_wp2_with fail
    refine (refSum_any (p1 ++ y) _ (by rw [ByteArray.size_append]; omega)).mono ?_
    rintro e w7 ⟨rfl, hb7⟩
    rw [H2.out]
    go_wp2
    go_ret
    exact ⟨by rw [HFIN.out]; rfl, then_ b6 hb7⟩
end Go.Proofs.Ytejfnkialhlkmaa
