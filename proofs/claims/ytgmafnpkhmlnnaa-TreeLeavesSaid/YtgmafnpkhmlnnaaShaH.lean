/- sha: the document's words. -/
import Derived.Test.YtgmafnpkhmlnnaaShaG
import Derived.Deep.RegionLaw
attribute [local go_sem ↓] Go.wp_at_zero Go.wp_at_succ
namespace Go.Sha
set_option maxRecDepth 100000 in
theorem wrap_byte64 (a : Nat) (ha : a < 2 ^ 8) (m : Nat) (hm : m ≤ 16777216) : IntKind.i64.wrap (IntKind.i64.wrap (a : Int) * (m : Int)) = ((a * m : Nat) : Int) := by
  have h0 : IntKind.i64.wrap (a : Int) = (a : Int) := IntWalk.i64_in _ (by omega)
  have h1 : a * m ≤ 255 * m := Nat.mul_le_mul_right m (by omega)
  rw [h0, ← Int.natCast_mul]
  clear h0
  generalize a * m = z at *
  exact IntWalk.i64_in _ (by omega)
theorem small_3 (x : Nat) (hx : x < 4294967296) : bits .xor .i64 (bits .xor .i64 (rotr x 7 : Nat) (rotr x 18 : Nat)) ((x : Int) / 8) = ((small x 7 18 3 : Nat) : Int) := by
  have h1 := rotr_lt x 7 hx
  have h2 := rotr_lt x 18 hx
  have h3 := xor_lt h1 h2
  have h4 : (x : Int) / (8 : Int) = Int.ofNat (x >>> 3) := by rw [Nat.shiftRight_eq_div_pow]; rfl
  change (x : Int) / (8 : Int) = ((x >>> 3 : Nat) : Int) at h4
  have h5 := lt_shr x 3 hx
  rw [h4, i64_xor_nat _ _ (by omega) (by omega), i64_xor_nat _ _ (by omega) (by omega)]
  rfl
theorem small_10 (x : Nat) (hx : x < 4294967296) : bits .xor .i64 (bits .xor .i64 (rotr x 17 : Nat) (rotr x 19 : Nat)) ((x : Int) / 1024) = ((small x 17 19 10 : Nat) : Int) := by
  have h1 := rotr_lt x 17 hx
  have h2 := rotr_lt x 19 hx
  have h3 := xor_lt h1 h2
  have h4 : (x : Int) / (1024 : Int) = Int.ofNat (x >>> 10) := by rw [Nat.shiftRight_eq_div_pow]; rfl
  change (x : Int) / (1024 : Int) = ((x >>> 10 : Nat) : Int) at h4
  have h5 := lt_shr x 10 hx
  rw [h4, i64_xor_nat _ _ (by omega) (by omega), i64_xor_nat _ _ (by omega) (by omega)]
  rfl
theorem or3 (x y z d : Nat) (hx : x ≤ 4294967295) (hy : y ≤ 4294967295) (hz : z ≤ 4294967295) (hd : d ≤ 255) : bits .or .i64 (bits .or .i64 (bits .or .i64 (x : Int) (y : Int)) (z : Int)) (d : Int) = ((x ||| y ||| z ||| d : Nat) : Int) := by
  have h4 : x ||| y < 4294967296 := Nat.or_lt_two_pow (n := 32) (by omega) (by omega)
  have h5 : x ||| y ||| z < 4294967296 := Nat.or_lt_two_pow (n := 32) h4 (by omega)
  rw [i64_or_nat x y (by omega) (by omega), i64_or_nat (x ||| y) z (by omega) (by omega), i64_or_nat (x ||| y ||| z) d (by omega) (by omega)]
theorem word_i64 (a b c d : Nat) (ha : a < 2 ^ 8) (hb : b < 2 ^ 8) (hc : c < 2 ^ 8) (hd : d < 2 ^ 8) :
    bits .or .i64 (bits .or .i64 (bits .or .i64 (IntKind.i64.wrap (IntKind.i64.wrap (a : Int) * 16777216)) (IntKind.i64.wrap (IntKind.i64.wrap (b : Int) * 65536))) (IntKind.i64.wrap (IntKind.i64.wrap (c : Int) * 256))) (IntKind.i64.wrap (d : Int)) = ((a <<< 24 ||| b <<< 16 ||| c <<< 8 ||| d : Nat) : Int) := by
  have e1 := wrap_byte64 a ha 16777216 (Nat.le_refl _)
  have e2 := wrap_byte64 b hb 65536 (by omega)
  have e3 := wrap_byte64 c hc 256 (by omega)
  have e4 : IntKind.i64.wrap (d : Int) = (d : Int) := IntWalk.i64_in _ (by omega)
  simp only [Int.cast_ofNat_Int] at e1 e2 e3
  rw [e1, e2, e3, e4, Nat.shiftLeft_eq, Nat.shiftLeft_eq, Nat.shiftLeft_eq]
  clear e1 e2 e3 e4
  exact or3 _ _ _ _ (by omega) (by omega) (by omega) (by omega)
end Go.Sha
namespace Go.Proofs.Ytgmafnpkhmlnnaa
open Go.RowKit Go.Mem Go.Num
set_option linter.unusedVariables false
def i64v (x : Nat) : Value := .int .i64 x
theorem elInt : Elem Try.prog 32 3 1 8 := Elem.of Try.underlying32 (by kernel_rfl : (Try.prog.info? 3).map (fun i => (i.zero, i.size, i.bytes)) = some (some (.int .i64 0), 1, 8)) rfl (by omega)
theorem byte_at (s : ByteArray) (i : Nat) (h : i < s.size) : s[i] = s.data.toList.getD i 0 := by
  rw [List.getD_eq_getElem?_getD, List.getElem?_eq_getElem (by simpa using h)]
  rfl
theorem ix_str (s : ByteArray) (i : Nat) (z : Int) (hz : z = i) (hi : i < s.size) (x : UInt8) (hx : s[i] = x) (W : World) : (Instr.index 9 (.string s) (.int .i64 z)).run Try.prog W = .ok (.int .u8 x.toNat) W := by
  subst hz hx
  rw [run_index_string (P := Try.prog) (w := W) 9 s .i64 i Try.underlying9]
  simp [hi]
theorem one_i64 (z : Int) : ∀ u ∈ [Value.int .i64 z], u.oneCell' = true := by intro u hu; simp at hu; subst hu; rfl
set_option maxRecDepth 100000 in
set_option maxHeartbeats 4000000 in
theorem refWords_any (s : ByteArray) (w : World) (hs : s.size = 64) : Calls Try.prog 81 #[.string s] w (Gives_ w.heap.size 3 1 64 ((Sha.wP s.data.toList 64).map i64v) w) := by
  have hs1 : 64 ≤ s.size := by omega
  have hs2 : s.size ≤ 64 := by omega
  generalize hl : s.data.toList = l
  have hbyte : ∀ i (h : i < s.size), s[i] = l.getD i 0 := fun i h => by rw [byte_at s i h, hl]
  have HBY := Lib.hid hbyte; clear hbyte hl hs
  go_enter Try.func81, Try.ntmps81
  go_wp2
  go_loopw [3, 4] (fun v i wr => ∃ k : Nat, k ≤ 16 ∧ i = .int .i64 k ∧ wr.ownsRow w.heap.size 3 1 v k ((Sha.wP l k).map i64v) ∧ Below w.heap.size w wr) (fun _ i _ => 16 - (intOf i).toNat)
  case atStart => exact ⟨0, by omega, rfl, World.ownsRow_nil _ _ _ _, Below.refl _ _⟩
  case round =>
    obtain ⟨k, hk, rfl, hown, hb⟩ := hrel
    obtain ⟨oA, oc, rfl⟩ := own_form hown
    have HO := Lib.hid hown; clear hown
    by_cases hlt : k < 16
    · have e0 := HBY.out (4 * k) (by omega)
      have e1 := HBY.out (4 * k + 1) (by omega)
      have e2 := HBY.out (4 * k + 2) (by omega)
      have e3 := HBY.out (4 * k + 3) (by omega)
      have hw : Sha.wP l (k + 1) = Sha.wP l k ++ [Sha.word l k] := by rw [show Sha.wP l (k + 1) = Sha.wP l k ++ [if k < 16 then Sha.word l k else Sha.nextW (Sha.wP l k) k] from rfl, if_pos hlt]
      unfold Sha.word at hw
      generalize l.getD (4 * k) 0 = x0 at *
      generalize l.getD (4 * k + 1) 0 = x1 at *
      generalize l.getD (4 * k + 2) 0 = x2 at *
      generalize l.getD (4 * k + 3) 0 = x3 at *
      have HW := Lib.hid hw; clear hw
      have y0 := UInt8.toNat_lt x0
      have y1 := UInt8.toNat_lt x1
      have y2 := UInt8.toNat_lt x2
      have y3 := UInt8.toNat_lt x3
      have m0 : IntKind.i64.wrap (4 * (k : Int)) = 4 * (k : Int) := IntWalk.i64_in _ (by omega)
      have m1 : IntKind.i64.wrap (4 * (k : Int) + 1) = 4 * (k : Int) + 1 := IntWalk.i64_in _ (by omega)
      have m2 : IntKind.i64.wrap (4 * (k : Int) + 2) = 4 * (k : Int) + 2 := IntWalk.i64_in _ (by omega)
      have m3 : IntKind.i64.wrap (4 * (k : Int) + 3) = 4 * (k : Int) + 3 := IntWalk.i64_in _ (by omega)
      have i0 := ix_str s (4 * k) (4 * (k : Int)) (by omega) (by omega) x0 e0
      have i1 := ix_str s (4 * k + 1) (4 * (k : Int) + 1) (by omega) (by omega) x1 e1
      have i2 := ix_str s (4 * k + 2) (4 * (k : Int) + 2) (by omega) (by omega) x2 e2
      have i3 := ix_str s (4 * k + 3) (4 * (k : Int) + 3) (by omega) (by omega) x3 e3
      have hword := Sha.word_i64 x0.toNat x1.toNat x2.toNat x3.toNat y0 y1 y2 y3
      have hbs := hb.size
      have hmx : Hid (k + 1 ≤ maxLen) := by unfold Hid maxLen; omega
      have hmb : Hid ((k + 1) * 8 ≤ 140737488355328) := by unfold Hid; omega
      have HOA : Hid (∀ o, (wr.drew.alloc o).ownsRow w.heap.size 3 1 (.slice oA k oc) k ((Sha.wP l k).map i64v)) := Lib.hid (fun o => own_below HO.out (((Below.refl _ _).drew).alloc (Nat.le_refl _) _))
      have HSZ : Hid (∀ o, w.heap.size ≤ (wr.drew.alloc o).heap.size) := Lib.hid (fun o => by simp; omega)
      have HWD := Lib.hid hword
      go_wp2
      clear hword e0 e1 e2 e3 hbs y0 y1 y2 y3 hlt hk
      go_region_held3 (fun _ => True) (trivial) ((refine step_app elInt (by rfl) (.tmp 14) (.tmp 44) (by rfl) w.heap.size _ _ _ (by rfl) (HOA.out _) _ 1 1 _ (by rfl) rfl (Rd.new _ _ _) (one_i64 _) hmx.out hmb.out (HSZ.out _) ?_; intro v1 w2 hown1 hbel1 _ _))
      all_goals
        rw [HWD.out] at hown1
        have hb2 : Below w.heap.size w w2 := (hb.drew.alloc (show w.heap.size ≤ wr.heap.size from hb.size) _).trans hbel1
        have hown2 : Hid (w2.ownsRow w.heap.size 3 1 v1 (k + 1) ((Sha.wP l (k + 1)).map i64v)) := Lib.hid (by rw [HW.out, List.map_append]; exact hown1)
        clear hown1 hbel1 m0 m1 m2 m3 i0 i1 i2 i3
        go_wp2
        go_roundw
        case rel => exact ⟨k + 1, by omega, by go_num, hown2.out, hb2⟩
        case measure => simp [intOf]; omega
    · have HK : Hid (k = 16) := Lib.hid (by omega)
      have HB0 := Lib.hid hb
      go_wp2
      clear hlt hk hb
      go_loopw [3, 5] (fun v i wr => ∃ k : Nat, 16 ≤ k ∧ k ≤ 64 ∧ i = .int .i64 k ∧ wr.ownsRow w.heap.size 3 1 v k ((Sha.wP l k).map i64v) ∧ Below w.heap.size w wr) (fun _ i _ => 64 - (intOf i).toNat)
      case atStart => exact ⟨16, by omega, by omega, rfl, by have := HO.out; rw [HK.out] at this ⊢; exact this, HB0.out⟩
      case round =>
        clear HO HB0
        obtain ⟨k, hk16, hk, rfl, hown, hb⟩ := hrel
        obtain ⟨oA, oc, rfl⟩ := own_form hown
        obtain ⟨g, rfl, hg1, hg2, hgc⟩ := own_pos hown (by omega)
        have HO := Lib.hid hown
        by_cases hlt : k < 64
        · have hat : ∀ j, j < k → wr.cell? ⟨g, j, none⟩ = some (.int .i64 ((Sha.wP l k).getD j 0 : Nat)) := fun j hj => by
            have hl := Sha.wP_length l k
            have := hown.cells (g := g) rfl j (i64v ((Sha.wP l k).getD j 0)) (by rw [List.getElem?_map, List.getElem?_eq_getElem (by omega)]; simp [List.getD, hl, hj])
            rwa [add_none, Nat.zero_add] at this
          have a2 := hat (k - 2) (by omega)
          have a7 := hat (k - 7) (by omega)
          have a15 := hat (k - 15) (by omega)
          have a16 := hat (k - 16) (by omega)
          clear hat hown
          have hw : Sha.wP l (k + 1) = Sha.wP l k ++ [Sha.nextW (Sha.wP l k) k] := by rw [show Sha.wP l (k + 1) = Sha.wP l k ++ [if k < 16 then Sha.word l k else Sha.nextW (Sha.wP l k) k] from rfl, if_neg (by omega)]
          unfold Sha.nextW at hw
          have b2 := Sha.wP_lt l k (k - 2)
          have b7 := Sha.wP_lt l k (k - 7)
          have b15 := Sha.wP_lt l k (k - 15)
          have b16 := Sha.wP_lt l k (k - 16)
          generalize (Sha.wP l k).getD (k - 2) 0 = y2 at *
          generalize (Sha.wP l k).getD (k - 7) 0 = y7 at *
          generalize (Sha.wP l k).getD (k - 15) 0 = y15 at *
          generalize (Sha.wP l k).getD (k - 16) 0 = y16 at *
          have HW := Lib.hid hw; clear hw
          have m2 : IntKind.i64.wrap ((k : Int) - 2) = (k : Int) - 2 := IntWalk.i64_in _ (by omega)
          have m7 : IntKind.i64.wrap ((k : Int) - 7) = (k : Int) - 7 := IntWalk.i64_in _ (by omega)
          have m15 : IntKind.i64.wrap ((k : Int) - 15) = (k : Int) - 15 := IntWalk.i64_in _ (by omega)
          have m16 : IntKind.i64.wrap ((k : Int) - 16) = (k : Int) - 16 := IntWalk.i64_in _ (by omega)
          have p2 : (2 : Int) ≤ (k : Int) := by omega
          have p7 : (7 : Int) ≤ (k : Int) := by omega
          have p15 : (15 : Int) ≤ (k : Int) := by omega
          have p16 : (16 : Int) ≤ (k : Int) := by omega
          have l2 : (k : Int) - 2 < (k : Int) := by omega
          have l7 : (k : Int) - 7 < (k : Int) := by omega
          have l15 : (k : Int) - 15 < (k : Int) := by omega
          have l16 : (k : Int) - 16 < (k : Int) := by omega
          have t2 : ((k : Int) - 2).toNat = k - 2 := by omega
          have t7 : ((k : Int) - 7).toNat = k - 7 := by omega
          have t15 : ((k : Int) - 15).toNat = k - 15 := by omega
          have t16 : ((k : Int) - 16).toNat = k - 16 := by omega
          go_wp2
          go_quiet (fail)
          clear m2 m15 l2 l15 t2 t15 p2 p15 a2 a15
          go_wp2_with fail
          refine (refTurn_any y15 7 _ b15 (by omega) (by omega)).mono ?_
          rintro e w1 ⟨rfl, q1, rfl⟩
          go_wp2_with fail
          refine (refTurn_any y15 18 _ b15 (by omega) (by omega)).mono ?_
          rintro e w1 ⟨rfl, q2, rfl⟩
          go_wp2_with fail
          refine (refTurn_any y2 17 _ b2 (by omega) (by omega)).mono ?_
          rintro e w1 ⟨rfl, q3, rfl⟩
          go_wp2_with fail
          refine (refTurn_any y2 19 _ b2 (by omega) (by omega)).mono ?_
          rintro e w1 ⟨rfl, q4, rfl⟩
          go_wp2
          rw [Sha.small_3 y15 b15, Sha.small_10 y2 b2]
          have c15 := Sha.small_lt y15 7 18 3 b15
          have c2 := Sha.small_lt y2 17 19 10 b2
          generalize Sha.small y15 7 18 3 = s0 at *
          generalize Sha.small y2 17 19 10 = s1 at *
          have f1 : IntKind.i64.wrap ((s1 : Int) + (y7 : Int)) = (s1 : Int) + y7 := IntWalk.i64_in _ (by omega)
          have f2 : IntKind.i64.wrap ((s1 : Int) + (y7 : Int) + (s0 : Int)) = (s1 : Int) + y7 + s0 := IntWalk.i64_in _ (by omega)
          have f3 : IntKind.i64.wrap ((s1 : Int) + (y7 : Int) + (s0 : Int) + (y16 : Int)) = (s1 : Int) + y7 + s0 + y16 := IntWalk.i64_in _ (by omega)
          have f4 : Hid (((s1 : Int) + (y7 : Int) + (s0 : Int) + (y16 : Int)) % 4294967296 = (((s1 + y7 + s0 + y16) % 4294967296 : Nat) : Int)) := by unfold Hid; omega
          generalize hwd : wr.drewN (nq + q1 + q2 + q3 + q4) = wd
          have d7 : wd.cell? ⟨g, k - 7, none⟩ = some (.int .i64 y7) := by rw [← hwd]; exact a7
          have d16 : wd.cell? ⟨g, k - 16, none⟩ = some (.int .i64 y16) := by rw [← hwd]; exact a16
          have hbd : Below w.heap.size w wd := by rw [← hwd]; exact drewN_ hb _
          have HOD : Hid (wd.ownsRow w.heap.size 3 1 (.slice (some ⟨g, 0, none⟩) k oc) k ((Sha.wP l k).map i64v)) := Lib.hid (by rw [← hwd]; exact HO.out)
          have HOA : Hid (∀ o, (wd.drew.alloc o).ownsRow w.heap.size 3 1 (.slice (some ⟨g, 0, none⟩) k oc) k ((Sha.wP l k).map i64v)) := Lib.hid (fun o => own_below HOD.out (((Below.refl _ _).drew).alloc (Nat.le_refl _) _))
          have HSZ : Hid (∀ o, w.heap.size ≤ (wd.drew.alloc o).heap.size) := Lib.hid (fun o => by have := hbd.size; simp; omega)
          have hmx : Hid (k + 1 ≤ maxLen) := by unfold Hid maxLen; omega
          have hmb : Hid ((k + 1) * 8 ≤ 140737488355328) := by unfold Hid; omega
          clear hwd a7 a16 b2 b7 b15 b16 c2 c15 hb HO hg1 hg2 hgc
          go_region_law (first | (go_simp; go_at_call 84; (refine (refLow_any _ _).mono ?_); rintro e w1 ⟨rfl, rfl⟩) | (refine step_app elInt (by rfl) (.tmp 76) (.tmp 93) (by rfl) w.heap.size _ _ _ (by rfl) (HOA.out _) _ 1 1 _ (by rfl) rfl (Rd.new _ _ _) (one_i64 _) hmx.out hmb.out (HSZ.out _) ?_; intro v1 w2 hown1 hbel1 _ _))
          all_goals
            rw [f4.out] at hown1
            have hb2 : Below w.heap.size w w2 := (hbd.drew.alloc (show w.heap.size ≤ wd.heap.size from hbd.size) _).trans hbel1
            have hown2 : Hid (w2.ownsRow w.heap.size 3 1 v1 (k + 1) ((Sha.wP l (k + 1)).map i64v)) := Lib.hid (by rw [HW.out, List.map_append]; exact hown1)
            clear hown1 hbel1 m7 m16 f1 f2 f3 d7 d16 l7 l16 t7 t16 p7 p16
            go_wp2
            go_roundw
            case rel => exact ⟨k + 1, by omega, by omega, by go_num, hown2.out, hb2⟩
            case measure => simp [intOf]; omega
        · obtain rfl : k = 64 := by omega
          go_wp2
          go_ret
          exact ⟨hb, _, rfl, hown⟩
end Go.Proofs.Ytgmafnpkhmlnnaa
