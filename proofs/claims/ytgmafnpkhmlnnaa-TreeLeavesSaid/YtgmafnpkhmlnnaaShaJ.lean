/- sha: the document's sum; what must come. -/
import Derived.Test.YtgmafnpkhmlnnaaShaI
attribute [local go_sem ↓] Go.wp_at_zero Go.wp_at_succ
namespace Go.Proofs.Ytgmafnpkhmlnnaa
open Go.RowKit Go.Mem Go.Num
set_option linter.unusedVariables false
def Takesi (s : Sha.S8) (bl : List UInt8) (w : World) (e : Ending) (w' : World) : Prop := ∃ st6 cs6, Sha.comp s bl = st6 ∧ arr8i st6 = cs6 ∧ cs6.length = 8 ∧ cs6.toArray.all (·.oneCell') = true ∧ Sha.Ok st6 ∧ e = .returned (.agg cs6.toArray) ∧ Below w.heap.size w w'
theorem refBlock_lit (s : Sha.S8) (hs : Sha.Ok s) (b : ByteArray) (w : World) (hl : b.size = 64) :
    Calls Try.prog 70 #[.agg #[.int .i64 s.a, .int .i64 s.b, .int .i64 s.c, .int .i64 s.d, .int .i64 s.e, .int .i64 s.f, .int .i64 s.g, .int .i64 s.h], .string b] w (Takesi s b.data.toList w) :=
  (refBlock_any s hs b w hl).mono fun e w' ⟨h1, h2⟩ => ⟨_, _, rfl, rfl, rfl, one_i64s _, Sha.comp_ok _ _, h1, h2⟩
theorem bs_cut (l : List UInt8) (n : Nat) : (bs l).extract 0 n = bs (l.take n) := bs_extract l 0 n
theorem bs_rest (l : List UInt8) (n m : Nat) (h : l.length = m) : (bs l).extract n m = bs (l.drop n) := by
  rw [bs_extract l n m, List.take_of_length_le (by omega)]
def zi8 (w : World) : World := w.alloc (.cells z8i.toArray 98)

set_option maxRecDepth 100000 in
set_option maxHeartbeats 2000000 in
theorem refSum_any (s : ByteArray) (w : World) (hs : s.size ≤ 1099511627776) : Calls Try.prog 53 #[.string s] w fun e w' => e = .returned (.string (bs (Sha.sum s.data.toList))) ∧ Below w.heap.size w w' := by
  have n3 : Blk (zi8 w) w.heap.size 98 z8i := Blk.new w _ _
  have s3 := n3.store (arr8i Sha.init) rfl
  have t3 := Blk.there' n3 (vs := arr8i Sha.init) rfl
  have hi3 := info8i (arr8i Sha.init) rfl
  have one3 := one_i64s Sha.init.list
  have fB := below_setCells (B := w.heap.size) (b := w.heap.size) (Nat.le_refl _) (arr8i Sha.init) 0 (zi8 w) ((Below.refl _ _).alloc (Nat.le_refl _) _)
  have S3 := Lib.hid s3; have T3 := Lib.hid t3; have HI3 := Lib.hid hi3; have ONE3 := Lib.hid one3; have FB := Lib.hid fB
  clear s3 t3 hi3 one3 fB n3
  go_enter Try.func53, Try.ntmps53
  go_upto_region 2 with (refine wpList_store_mid (by rfl) 98 (.tmp 3) (.tmp 7) (by rfl) w.heap.size 0 (arr8i Sha.init).toArray (by rfl) (by rfl) T3.out HI3.out ONE3.out ?_)
  refine wp_world (w0 := (zi8 w).setCells w.heap.size 0 (arr8i Sha.init)) (by rfl) ?_
  generalize (zi8 w).setCells w.heap.size 0 (arr8i Sha.init) = w1 at S3 FB ⊢
  clear T3 HI3 ONE3
  go_wp2_with fail
  refine (refPad_any s _ hs).mono ?_
  rintro e w2 ⟨rfl, hb2⟩
  have F3 := Lib.hid (S3.out.belowS hb2)
  have FB2 := Lib.hid (then_ FB.out hb2)
  clear S3 FB hb2
  have hpl := Sha.pad_length s.data.toList
  have hpm := Sha.pad_mod s.data.toList
  have hzl := Sha.zeros_lt s.data.toList.length
  have hsl : s.data.toList.length = s.size := by simp
  have hsum : Sha.sum s.data.toList = Sha.out (Sha.run ((Sha.pad s.data.toList).length / 64) Sha.init (Sha.pad s.data.toList)) := rfl
  have HSUM := Lib.hid hsum; clear hsum
  generalize Sha.pad s.data.toList = P at *
  have hP : P.length ≤ 1099511627776 + 80 := by omega
  have HPM := Lib.hid hpm
  have hps : (bs P).size = P.length := bs_size P
  have HPS := Lib.hid hps
  clear hpl hpm hzl hsl hps
  go_wp2
  go_loopw [4] (fun v wr => ∃ (t : ByteArray) (m : Nat) (rest : List UInt8) (st : Sha.S8), v = .string t ∧ Hid (t = bs rest) ∧ Hid (rest.length = m) ∧ Hid (t.size = m) ∧ m % 64 = 0 ∧ m ≤ P.length ∧ Hid (Sha.run (m / 64) st rest = Sha.run (P.length / 64) Sha.init P) ∧ Sha.Ok st ∧ Blk wr w.heap.size 98 (arr8i st) ∧ Below w.heap.size w wr) (fun v _ => match v with | .string t => t.size | _ => 0)
  case atStart => exact ⟨bs P, P.length, P, Sha.init, rfl, Lib.hid rfl, Lib.hid rfl, HPS, HPM.out, Nat.le_refl _, Lib.hid rfl, Sha.init_ok, F3.out, FB2.out⟩
  case round =>
    clear F3 FB2 HPM HPS
    obtain ⟨t, m, rest, st, rfl, HT, HM, HTM, hm64, hmP, HRUN, hok, hst, hb⟩ := hrel
    have htm : t.size = m := HTM.out
    by_cases hm : 0 < m
    · have i1 : 64 ≤ t.size := by omega
      have i2 : t.size ≤ 1099511627776 + 80 := by omega
      have hcut : t.extract 0 64 = bs (rest.take 64) := by rw [HT.out, bs_cut]
      have hrest : t.extract 64 t.size = bs (rest.drop 64) := by rw [HT.out, bs_rest rest 64 (bs rest).size (by rw [bs_size])]
      have hrn : Sha.run (m / 64) st rest = Sha.run ((m - 64) / 64) (Sha.comp st (rest.take 64)) (rest.drop 64) := by
        rw [show m / 64 = (m - 64) / 64 + 1 by omega]
        rfl
      rw [HRUN.out] at hrn
      have hdl : (rest.drop 64).length = m - 64 := by rw [List.length_drop, HM.out]
      have hcl : (rest.take 64).length = 64 := by rw [List.length_take, HM.out]; omega
      have HRN := Lib.hid hrn; have HDL := Lib.hid hdl; have HCL := Lib.hid hcl; have HCUT := Lib.hid hcut; have HREST := Lib.hid hrest
      clear hrn hdl hcl hcut hrest htm
      have c0 := hst.cell 0 _ rfl
      have c1 := hst.cell 1 _ rfl
      have c2 := hst.cell 2 _ rfl
      have c3 := hst.cell 3 _ rfl
      have c4 := hst.cell 4 _ rfl
      have c5 := hst.cell 5 _ rfl
      have c6 := hst.cell 6 _ rfl
      have c7 := hst.cell 7 _ rfl
      unfold i64v at c0 c1 c2 c3 c4 c5 c6 c7
      go_wp2
      go_still_tail 3, (by kernel_rfl)
      change wpList _ _ _ _ _ wr.drew
      have hst1 : Blk wr.drew w.heap.size 98 (arr8i st) := hst
      have hb1 : Below w.heap.size w wr.drew := hb.drew
      clear c0 c1 c2 c3 c4 c5 c6 c7 hst hb
      generalize wr.drew = wd at *
      go_wp2_with fail
      have h64 : (t.extract 0 64).size = 64 := by rw [HCUT.out, bs_size]; exact HCL.out
      refine (refBlock_lit st hok (t.extract 0 64) wd h64).mono ?_
      rintro e w6 ⟨st6, cs6, hc6, ha6, hl6, one6, hok6, rfl, hb6⟩
      rw [HCUT.out, bs_toList] at hc6
      rw [hc6] at HRN
      have hst6 := hst1.belowS hb6
      have hb7 := then_ hb1 hb6
      have h8 : cs6.length = (arr8i st).length := hl6
      have f6 := hst6.store cs6 h8
      have t6 := Blk.there' hst6 (vs := cs6) h8
      have hi6 := info8i cs6 hl6
      have fB := below_setCells (B := w.heap.size) (b := w.heap.size) (Nat.le_refl _) cs6 0 w6 hb7
      have f6' : Blk (w6.setCells w.heap.size 0 cs6) w.heap.size 98 (arr8i st6) := by rw [ha6]; exact f6
      have F6 := Lib.hid f6'; have T6 := Lib.hid t6; have HI6 := Lib.hid hi6; have FB := Lib.hid fB; have ONE6 := Lib.hid one6
      clear f6 f6' t6 hi6 fB one6 hb7 hb6 hst6 hst1 hb1 h8 hc6 ha6 hl6 h64
      go_wp2_with (refine wpList_store_mid (by rfl) 98 (.tmp 3) (.tmp 16) (by rfl) w.heap.size 0 cs6.toArray (by rfl) (by rfl) T6.out HI6.out ONE6.out ?_)
      have hxs : (t.extract 64 t.size).size = m - 64 := by rw [HREST.out, bs_size]; exact HDL.out
      refine ⟨⟨t.extract 64 t.size, m - 64, rest.drop 64, st6, rfl, HREST, HDL, Lib.hid hxs, by omega, by omega, Lib.hid HRN.out.symm, hok6, F6.out, FB.out⟩, ?_⟩
      show (t.extract 64 t.size).size < t.size
      have := HTM.out
      omega
    · obtain rfl : m = 0 := by omega
      have hrn : st = Sha.run (P.length / 64) Sha.init P := by rw [← HRUN.out, Nat.zero_div]; rfl
      have hfin : Sha.sum s.data.toList = st.list.flatMap fun (x : Nat) => be 4 (x : Int) := by rw [HSUM.out, ← hrn]; rfl
      have HFIN := Lib.hid hfin
      have htz : t.size < 64 := by omega
      clear hrn hfin HSUM HRUN HM HT hm64 hmP hm htm HTM
      go_wp2
      go_loopw [5, 6] (fun v i wr => ∃ (k : Nat) (u : ByteArray), k ≤ 8 ∧ i = .int .i64 k ∧ v = .string u ∧ Hid (u = bs ((st.list.take k).flatMap fun (x : Nat) => be 4 (x : Int))) ∧ u.size ≤ 32 ∧ Blk wr w.heap.size 98 (arr8i st) ∧ Below w.heap.size w wr) (fun _ i _ => 8 - (intOf i).toNat)
      case atStart => exact ⟨0, _, by omega, rfl, rfl, Lib.hid rfl, Nat.zero_le _, hst, hb⟩
      case round =>
        clear hst hb
        obtain ⟨k, u, hk, rfl, rfl, HU, hu, hst, hb⟩ := hrel
        by_cases hlt : k < 8
        · have i1 : (0 : Int) ≤ (k : Int) := by omega
          have i2 : (k : Int) < 8 := by omega
          have cx := hst.cell k _ (arr8i_at st k hlt)
          have hnx : (st.list.take (k + 1)).flatMap (fun (x : Nat) => be 4 (x : Int)) = (st.list.take k).flatMap (fun (x : Nat) => be 4 (x : Int)) ++ be 4 (st.list.getD k 0 : Nat) := by
            have hl8 : st.list.length = 8 := rfl
            rw [List.take_succ_eq_append_getElem (by omega), List.flatMap_append, List.getD_eq_getElem?_getD, List.getElem?_eq_getElem (by omega)]
            simp
          have hft := flat4_take st (k + 1)
          rw [hnx] at hft
          generalize st.list.getD k 0 = z at *
          have HNX := Lib.hid hnx; clear hnx
          go_wp2_with fail
          refine (refCount_any _ _).mono ?_
          rintro e w7 ⟨rfl, hb7⟩
          have hj : u ++ bs (be 4 (z : Int)) = bs ((st.list.take (k + 1)).flatMap fun (x : Nat) => be 4 (x : Int)) := by rw [HU.out, bs_append, HNX.out]
          have hjs : (u ++ bs (be 4 (z : Int))).size ≤ 32 := by rw [hj, bs_size, HNX.out]; exact hft
          have hst7 := hst.belowS hb7
          have hb8 := then_ hb hb7
          have hz4 : (bs (be 4 (z : Int))).size ≤ 4 := by rw [bs_size, be_length]; omega
          generalize bs (be 4 (z : Int)) = y at *
          have HJ := Lib.hid hj; have HJS := Lib.hid hjs; clear hj hjs cx hft
          go_wp2
          go_roundw
          case rel => exact ⟨k + 1, u ++ y, by omega, by go_num, rfl, HJ, HJS.out, hst7, hb8⟩
          case measure => simp [intOf]; omega
        · have HK : Hid (k = 8) := Lib.hid (by omega)
          have i3 : (8 : Int) ≤ (k : Int) := by omega
          go_wp2
          go_ret
          exact ⟨ret_string (by rw [HU.out, HK.out, HFIN.out]; rfl), hb⟩

set_option maxRecDepth 100000 in
theorem refOf_any (A : Option Addr) (n c : Nat) (ss : List ByteArray) (w : World) (hr : Rd w A (ss.map Value.string)) (hn : ss.length = n) (hlen : 4 * ss.length + sumSize ss + 16 ≤ 1099511627776) :
    Calls Try.prog 46 #[.slice A n c] w fun e w' => e = .returned (.string (bs (Sha.sum (textsB ss)))) ∧ Below w.heap.size w w' := by
  have HN := Lib.hid hn; have HLEN := Lib.hid hlen; clear hn hlen
  go_enter Try.func46, Try.ntmps46
  go_wp2_with fail
  refine (refTexts_any A n c ss _ hr HN.out (Nat.le_trans HLEN.out (by decide))).mono ?_
  rintro e w1 ⟨rfl, hb1⟩
  have hd : (bs (textsB ss)).data.toList = textsB ss := bs_toList _
  have hz : (bs (textsB ss)).size ≤ 1099511627776 := by
    have := HLEN.out
    rw [bs_size]
    unfold textsB
    rw [List.length_append, be_length, flat_text_length]
    omega
  generalize bs (textsB ss) = t at *
  have HD := Lib.hid hd; clear hd
  go_wp2_with fail
  refine (refSum_any t _ hz).mono ?_
  rintro e w2 ⟨rfl, hb2⟩
  go_wp2
  go_ret
  exact ⟨by rw [HD.out]; rfl, then_ hb1 hb2⟩
end Go.Proofs.Ytgmafnpkhmlnnaa
