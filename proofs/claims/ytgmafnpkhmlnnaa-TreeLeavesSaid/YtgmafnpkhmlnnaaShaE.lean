/- sha: the sum. -/
import Derived.Test.YtgmafnpkhmlnnaaShaD
import Derived.Test.YtgmafnpkhmlnnaaTail
attribute [local go_sem ↓] Go.wp_at_zero Go.wp_at_succ
namespace Go.Sha
theorem zeros_lt (n : Nat) : zeros n < 64 := Nat.mod_lt _ (by decide)
theorem zeros_mod (n : Nat) : (n + 1 + zeros n) % 64 = 56 := by unfold zeros; omega
theorem zeros_not (n k : Nat) (h : k < zeros n) : (n + 1 + k) % 64 ≠ 56 := by unfold zeros at h; omega
theorem pad_length (m : List UInt8) : (pad m).length = m.length + 1 + zeros m.length + 8 := by
  unfold pad
  rw [List.length_append, List.length_append, List.length_append, Num.be_length, List.length_replicate]
  rfl
theorem pad_mod (m : List UInt8) : (pad m).length % 64 = 0 := by
  have := zeros_mod m.length
  rw [pad_length]
  omega
theorem run_succ (n : Nat) (s : S8) (m : List UInt8) : run (n + 1) s m = run n (comp s (m.take 64)) (m.drop 64) := rfl
theorem run_ok (n : Nat) : ∀ (s : S8) (m : List UInt8), Ok s → Ok (run n s m) := by
  induction n with
  | zero => exact fun s m h => h
  | succ n ih => exact fun s m h => ih _ _ (comp_ok _ _)
end Go.Sha
namespace Go.Proofs.Ytgmafnpkhmlnnaa
open Go.RowKit Go.Mem Go.Num
set_option linter.unusedVariables false
theorem rd_u8 (l : List UInt8) : Lib.byteCells l = l.map u8v := rfl
theorem str_u8 (s : ByteArray) : Lib.strCells s = s.data.toList.map u8v := rfl
theorem infoByteP : ∃ i, Try.prog.info? 5 = some i ∧ i.zero = some (.int .u8 0) ∧ i.size = 1 ∧ i.bytes = 1 := by
  obtain ⟨i0, hi, hz0, hz1, hz2⟩ := info_parts infoByte
  exact ⟨i0, hi, hz0, hz1, hz2⟩

def Takes (s : Sha.S8) (bl : List UInt8) (w : World) (e : Ending) (w' : World) : Prop := ∃ st6 cs6, Sha.comp s bl = st6 ∧ arr8 st6 = cs6 ∧ cs6.length = 8 ∧ cs6.toArray.all (·.oneCell') = true ∧ Sha.Ok st6 ∧ e = .returned (.agg cs6.toArray) ∧ Below w.heap.size w w'
theorem shaTake_lit (s : Sha.S8) (hs : Sha.Ok s) (A : Option Addr) (c : Nat) (bl : List UInt8) (w : World) (hr : Rd w A (bl.map u8v)) (hl : bl.length = 64) :
    Calls Try.prog 67 #[.agg #[.int .u32 s.a, .int .u32 s.b, .int .u32 s.c, .int .u32 s.d, .int .u32 s.e, .int .u32 s.f, .int .u32 s.g, .int .u32 s.h], .slice A 64 c] w (Takes s bl w) :=
  (shaTake_any s hs A c bl w hr hl).mono fun e w' ⟨h1, h2⟩ => ⟨_, _, rfl, rfl, rfl, one_u32 _, Sha.comp_ok _ _, h1, h2⟩
theorem rd_far {w w' : World} {B : Nat} {A : Option Addr} {cs : List Value} (h : Rd w A cs) (hb : Below B w w') (hA : ∀ ad, A = some ad → ad.block < B) : Rd w' A cs := fun j u hj => by
  obtain ⟨b, off, e, hc⟩ := h j u hj
  exact ⟨b, off, e, (hb.cell (p := ⟨b, off + j, none⟩) (hA ⟨b, off, none⟩ e)).trans hc⟩
theorem rd_drop {w : World} {b off : Nat} {cs : List Value} (h : Rd w (some ⟨b, off, none⟩) cs) (k : Nat) : Rd w (some ⟨b, off + k, none⟩) (cs.drop k) := fun j u hj => by
  rw [List.getElem?_drop] at hj
  obtain ⟨b', off', e, hc⟩ := h _ u hj
  injection e with e
  injection e with e1 e2
  subst e1 e2
  exact ⟨b, off + k, rfl, by rw [Nat.add_assoc]; exact hc⟩
theorem flat4_length (l : List Nat) : (l.flatMap fun (x : Nat) => be 4 (x : Int)).length = 4 * l.length := by
  induction l with
  | nil => rfl
  | cons x l ih => rw [List.flatMap_cons, List.length_append, ih, be_length, List.length_cons]; omega
theorem flat4_take (s : Sha.S8) (k : Nat) : ((s.list.take k).flatMap fun (x : Nat) => be 4 (x : Int)).length ≤ 32 := by
  have h8 : s.list.length = 8 := rfl
  rw [flat4_length, List.length_take]
  omega
theorem wr_next {R k x : Nat} {l : List Nat} {w : World} (h : Wr R R ((l.take k).flatMap (fun (x : Nat) => be 4 (x : Int)) ++ be 4 (x : Int)) w) (hx : l[k]? = some x) : Wr R R ((l.take (k + 1)).flatMap fun (x : Nat) => be 4 (x : Int)) w := by
  have hk : k < l.length := (List.getElem?_eq_some_iff.1 hx).1
  rw [List.getElem?_eq_getElem hk] at hx
  injection hx with hx
  rw [List.take_succ_eq_append_getElem hk, List.flatMap_append, hx]
  simpa using h
theorem pad_u8 (l : List UInt8) (k : Nat) (b : List UInt8) : l.map u8v ++ [.int .u8 128] ++ List.replicate k (.int .u8 0) ++ b.map u8v = (l ++ [0x80] ++ List.replicate k 0 ++ b).map u8v := by
  rw [List.map_append, List.map_append, List.map_append, List.map_replicate]
  rfl
set_option maxRecDepth 100000 in
set_option maxHeartbeats 4000000 in
theorem shaSum_any (s : ByteArray) (w : World) (hs : s.size ≤ 1099511627776) :
    Calls Try.prog 52 #[.string s] w fun e w' => e = .returned (.string (bs (Sha.sum s.data.toList))) ∧ Below w.heap.size w w' := by
  obtain ⟨i0, hi, hz0, hz1, hz2⟩ := infoByteP
  have hconv := Lib.run_convert_string_bytes (P := Try.prog) w 9 87 5 s Try.underlying9 Try.underlying87 Try.underlying5
  have ht0 := Tl.of_text w 5 s (by unfold maxLen; omega)
  have hb0 := below_text w 5 s
  rw [str_u8] at ht0
  have hsl : s.data.toList.length = s.size := by simp
  generalize hl : s.data.toList = l at *
  have HL := Lib.hid hl; have HSL := Lib.hid hsl; clear hl hsl
  go_enter Try.func52, Try.ntmps52
  generalize Lib.bytesWorld w 5 s = wb at *
  go_wp2_with (at_builtin; refine wpList_tail_slice (by rfl) (.tmp 10) (.tmp 11) 87 (by rfl) w.heap.size 5 i0 Try.underlying87 hi hz0 hz1 hz2 _ _ _ (by rfl) (ht0.below ((Below.refl _ _).alloc (Nat.le_refl _) _)) ⟨wb.heap.size, 0, none⟩ 1 1 (by rfl) [.int .u8 128] (by rfl) ?c2 ?c3 ?c4 ?c5 ?c6 ?_)
  case c2 =>
    intro j u hj
    match j, hj with
    | 0, hj => simp at hj; subst hj; simp [Addr.add]
  case c3 => intro u hu; simp at hu; subst hu; rfl
  case c4 => unfold maxLen; omega
  case c5 => omega
  case c6 => have := hb0.size; simp; omega
  intro v1 w1 ht1 hb1
  have hb1 : Below w.heap.size w w1 := (hb0.alloc hb0.size _).trans hb1
  clear hb0 ht0 hconv
  go_wp2
  obtain ⟨Z, hZ⟩ : ∃ Z, Sha.zeros s.size = Z := ⟨_, rfl⟩
  have hZl : Z < 64 := by rw [← hZ]; exact Sha.zeros_lt _
  have HZ := Lib.hid hZ; clear hZ
  go_loopw [3] (fun v wr => ∃ n k : Nat, Hid (n = s.size + 1 + k) ∧ k ≤ Z ∧ Tl wr w.heap.size 5 v n (l.map u8v ++ [.int .u8 128] ++ List.replicate k (.int .u8 0)) ∧ Below w.heap.size w wr) (fun v _ => match v with | .slice _ n _ => s.size + 70 - n | _ => 0)
  case atStart => exact ⟨s.size + 1, 0, Lib.hid rfl, Nat.zero_le _, by simpa using ht1, hb1⟩
  case round =>
    clear ht1 hb1
    obtain ⟨n, k, HN, hk, ht, hb⟩ := hrel
    obtain ⟨g, c, rfl, hg1, hg2, hnc, hcm, hrd⟩ := ht.form
    have hn1 : n ≤ 1099511627776 + 70 := by have := HN.out; omega
    have HT := Lib.hid ht; clear ht
    have HRD := Lib.hid hrd; clear hrd
    by_cases hkz : k < Z
    · have e1 : ((n : Int) % 64 != 56) = true := by
        have := Sha.zeros_not s.size k (by rw [HZ.out]; exact hkz)
        rw [bne_iff_ne]
        have := HN.out
        omega
      go_wp2_with (at_builtin; refine wpList_tail_slice (by rfl) (.tmp 17) (.tmp 18) 87 (by rfl) w.heap.size 5 i0 Try.underlying87 hi hz0 hz1 hz2 _ _ _ (by rfl) (HT.out.below ((Below.refl _ _).alloc (Nat.le_refl _) _)) ⟨wr.heap.size, 0, none⟩ 1 1 (by rfl) [.int .u8 0] (by rfl) ?c2 ?c3 ?c4 ?c5 ?c6 ?_)
      case c2 =>
        intro j u hj
        match j, hj with
        | 0, hj => simp at hj; subst hj; simp [Addr.add]
      case c3 => intro u hu; simp at hu; subst hu; rfl
      case c4 => unfold maxLen; omega
      case c5 => omega
      case c6 => have := hb.size; simp; omega
      intro v2 w2 ht2 hb2
      obtain ⟨g2, c2, rfl, hg21, hg22, hnc2, hcm2, hrd2⟩ := ht2.form
      clear hrd2 e1
      have HT2 := Lib.hid ht2; clear ht2
      go_wp2
      go_roundw
      case rel => exact ⟨n + 1, k + 1, Lib.hid (by have := HN.out; omega), by omega, by simpa [List.replicate_succ'] using HT2.out, (hb.alloc hb.size _).trans hb2⟩
      case measure => show s.size + 70 - (n + 1) < s.size + 70 - n; have := HN.out; omega
    · obtain rfl : k = Z := by omega
      have e1 : ((n : Int) % 64 != 56) = false := by
        have := Sha.zeros_mod s.size
        rw [HZ.out] at this
        rw [bne_eq_false_iff_eq]
        have := HN.out
        omega
      have hs8 : IntKind.i64.wrap (8 * (s.size : Int)) = 8 * (s.size : Int) := IntWalk.i64_in _ (by omega)
      go_wp2_with fail
      clear e1
      refine (wInt_any wr.heap.size wr.heap.size [] _ _ (Wr.new wr) (by simp) (by simp)).mono ?_
      rintro e w2 ⟨rfl, hW, hb2⟩
      have hsz : w.heap.size ≤ wr.heap.size := hb.size
      replace hb2 : Below wr.heap.size wr w2 := ((Below.refl _ _).alloc (Nat.le_refl _) _).trans hb2
      have ht2 := HT.out.below hb2
      replace hb := then_ hb hb2
      have hz2 := hb2.size
      go_wp2_with fail
      refine (wBytes_any wr.heap.size wr.heap.size _ _ hW.holds hz2).mono ?_
      rintro e w3 ⟨rfl, hb3, _, _⟩
      have ht3 := ht2.below_at hb3 (by intro q hq; simp [Value.ownBlock] at hq; omega)
      replace hb := hb.trans (hb3.mono hsz)
      clear ht2 hb2 hW hb3 HT HRD hz2 hs8
      have htx : (⟨([] ++ be 8 (8 * (s.size : Int))).toArray⟩ : ByteArray).data.toList = be 8 (8 * (s.size : Int)) := by simp
      have htz : (⟨([] ++ be 8 (8 * (s.size : Int))).toArray⟩ : ByteArray).size = 8 := (bs_size _).trans (by rw [List.nil_append, be_length])
      generalize (⟨([] ++ be 8 (8 * (s.size : Int))).toArray⟩ : ByteArray) = t at htx htz ⊢
      have hpad : l.map u8v ++ [.int .u8 128] ++ List.replicate k (.int .u8 0) ++ Lib.strCells t = (Sha.pad l).map u8v := by
        rw [str_u8, htx]
        unfold Sha.pad
        rw [HSL.out, HZ.out]
        exact pad_u8 l k _
      generalize l.map u8v ++ [.int .u8 128] ++ List.replicate k (.int .u8 0) = xs at hpad ht3
      have hpl := Sha.pad_length l
      have hpm := Sha.pad_mod l
      rw [HSL.out, HZ.out] at hpl
      have hsum : Sha.sum l = Sha.out (Sha.run ((Sha.pad l).length / 64) Sha.init (Sha.pad l)) := rfl
      have HSUM := Lib.hid hsum; clear hsum
      generalize Sha.pad l = P at *
      have hpn : P.length = n + 8 := by have := HN.out; omega
      rw [hpn] at hpm HSUM
      have HPAD := Lib.hid hpad; have HPN := Lib.hid hpn; have HTZ := Lib.hid htz; have HT3 := Lib.hid ht3; have HPM := Lib.hid hpm; have HTX := Lib.hid htx; clear hpad hpn htz ht3 hpl hpm htx
      go_wp2_with (at_builtin; refine wpList_tail_text (by rfl) (.tmp 27) (.tmp 29) 87 9 (by rfl) w.heap.size 5 i0 Try.underlying87 Try.underlying9 hi hz0 hz1 hz2 _ _ _ (by rfl) HT3.out t (by rfl) ?c4 ?c5 ?c6 ?_)
      case c4 => rw [HTZ.out]; unfold maxLen; omega
      case c5 => rw [HTZ.out]; omega
      case c6 => exact hb.size
      intro v4 w4 ht4 hb4
      rw [HTZ.out, HPAD.out] at ht4
      replace hb := hb.trans hb4
      obtain ⟨g4, c4, rfl, hg41, hg42, hnc4, hcm4, hrd4⟩ := ht4.form
      clear hb4 ht4 HT3 HPAD HTZ HTX
      have g0 := hb.size
      have n5 : Blk (w4.alloc (.cells z8.toArray 96)) w4.heap.size 96 z8 := Blk.new w4 _ _
      have f5 := n5.store (arr8 Sha.init) rfl
      have t5 := Blk.there' n5 (vs := arr8 Sha.init) rfl
      have hi5 : (Try.prog.info? 96).map (·.size) = some (arr8 Sha.init).toArray.size := by kernel_rfl
      have fB := below_setCells (B := w.heap.size) (b := w4.heap.size) g0 (arr8 Sha.init) 0 (w4.alloc (.cells z8.toArray 96)) (hb.alloc g0 _)
      have one5 := one_u32 Sha.init.list
      have hrd5 : Rd ((w4.alloc (.cells z8.toArray 96)).setCells w4.heap.size 0 (arr8 Sha.init)) (some ⟨g4, 0, none⟩) (P.map u8v) := hrd4.below (below_setCells (Nat.le_refl _) _ _ _ ((Below.refl _ _).alloc (Nat.le_refl _) _))
      have F5 := Lib.hid f5; have T5 := Lib.hid t5; have HI5 := Lib.hid hi5; have FB := Lib.hid fB; have ONE5 := Lib.hid one5; have RD5 := Lib.hid hrd5
      clear f5 t5 hi5 fB one5 hrd5 n5 hrd4 hb
      go_wp2_with (refine wpList_store_mid (by rfl) 96 (.tmp 5) (.tmp 31) (by rfl) w4.heap.size 0 (arr8 Sha.init).toArray (by rfl) (by rfl) T5.out HI5.out ONE5.out ?_)
      refine wp_world (w0 := (w4.alloc (.cells z8.toArray 96)).setCells w4.heap.size 0 (arr8 Sha.init)) (by rfl) ?_
      generalize (w4.alloc (.cells z8.toArray 96)).setCells w4.heap.size 0 (arr8 Sha.init) = w5 at F5 FB RD5 ⊢
      clear T5 HI5 ONE5
      generalize w4.heap.size = G at *
      go_wp2
      go_frame
      go_loopw [3] (fun v wr => ∃ (A : Option Addr) (m c : Nat) (rest : List UInt8) (st : Sha.S8), v = .slice A m c ∧ Rd wr A (rest.map u8v) ∧ Hid (rest.length = m) ∧ m % 64 = 0 ∧ m ≤ c ∧ m ≤ n + 8 ∧ Hid (Sha.run (m / 64) st rest = Sha.run ((n + 8) / 64) Sha.init P) ∧ Sha.Ok st ∧ Blk wr G 96 (arr8 st) ∧ Below w.heap.size w wr ∧ ∀ ad, A = some ad → ad.block < G) (fun v _ => match v with | .slice _ m _ => m | _ => 0)
      case atStart => exact ⟨_, n + 8, _, P, Sha.init, rfl, RD5.out, HPN, HPM.out, hnc4, Nat.le_refl _, Lib.hid rfl, Sha.init_ok, F5.out, FB.out, fun ad h => by injection h with h; subst h; exact hg42⟩
      case round =>
        clear F5 FB RD5 HPM
        obtain ⟨A, m, c', rest, st, rfl, hrd, HM, hm64, hmc, hmn, HRUN, hok, hst, hb, hAG⟩ := hrel
        have HAG := Lib.hid hAG; clear hAG
        by_cases hm : 0 < m
        · have hm1 : 64 ≤ m := by omega
          have hrl : rest.length = m := HM.out
          obtain ⟨b0, off, rfl, hx0⟩ := hrd.at_ 0 (by rw [List.length_map]; omega)
          have htk : (rest.take 64).length = 64 := by rw [List.length_take]; omega
          have hr64 : Rd wr.drew (some ⟨b0, off, none⟩) ((rest.take 64).map u8v) := by rw [List.map_take]; exact hrd.take 64
          have hdl : (rest.drop 64).length = m - 64 := by rw [List.length_drop]; omega
          have hrn : Sha.run (m / 64) st rest = Sha.run ((m - 64) / 64) (Sha.comp st (rest.take 64)) (rest.drop 64) := by
            rw [show m / 64 = (m - 64) / 64 + 1 by omega]
            rfl
          rw [HRUN.out] at hrn
          have HTK := Lib.hid htk; have HDL := Lib.hid hdl; have HRN := Lib.hid hrn; have HR64 := Lib.hid hr64; have HRD := Lib.hid hrd
          clear hx0 htk hdl hrn hr64 hrl hrd
          have i1 : (0 : Int) < (m : Int) := by omega
          have i2 : (64 : Int) ≤ (m : Int) := by omega
          have i3 : (64 : Int) ≤ (c' : Int) := by omega
          have i4 : (m : Int) ≤ (c' : Int) := by omega
          have c0 := hst.cell 0 _ rfl
          have c1 := hst.cell 1 _ rfl
          have c2 := hst.cell 2 _ rfl
          have c3 := hst.cell 3 _ rfl
          have c4 := hst.cell 4 _ rfl
          have c5 := hst.cell 5 _ rfl
          have c6 := hst.cell 6 _ rfl
          have c7 := hst.cell 7 _ rfl
          unfold u32v at c0 c1 c2 c3 c4 c5 c6 c7
          go_wp2
          go_still_tail 3, (by kernel_rfl)
          change wpList _ _ _ _ _ wr.drew
          have hst1 : Blk wr.drew G 96 (arr8 st) := hst
          have hb1 : Below w.heap.size w wr.drew := hb.drew
          have hrd1 : Hid (Rd wr.drew (some ⟨b0, off, none⟩) (rest.map u8v)) := Lib.hid HRD.out
          clear c0 c1 c2 c3 c4 c5 c6 c7 hst hb HRD
          generalize wr.drew = wd at *
          go_wp2_with fail
          refine (shaTake_lit st hok (some ⟨b0, off, none⟩) c' (rest.take 64) wd HR64.out HTK.out).mono ?_
          rintro e w6 ⟨st6, cs6, hc6, ha6, hl6, one6, hok6, rfl, hb6⟩
          rw [hc6] at HRN
          have HA6 := Lib.hid ha6
          have hst6 := hst1.belowS hb6
          have hb7 := then_ hb1 hb6
          have hrd6 : Rd w6 (some ⟨b0, off, none⟩) (rest.map u8v) := Rd.below hrd1.out hb6
          have h8 : cs6.length = (arr8 st).length := hl6
          have f6 := hst6.store cs6 h8
          have t6 := Blk.there' hst6 (vs := cs6) h8
          have hi6 : (Try.prog.info? 96).map (·.size) = some cs6.toArray.size := by rw [List.size_toArray, hl6]; kernel_rfl
          have fB := below_setCells (B := w.heap.size) (b := G) g0 cs6 0 w6 hb7
          have hrd7 : ∀ A, (A = some ⟨b0, off, none⟩ ∧ c' = 64) ∨ A = some ⟨b0, off + 64, none⟩ → Rd (w6.setCells G 0 cs6) A ((rest.drop 64).map u8v) ∧ ∀ ad, A = some ad → ad.block < G := by
            intro A hA
            have hb0 : b0 < G := HAG.out _ rfl
            have hk := rd_far hrd6 (below_setCells (B := G) (Nat.le_refl G) cs6 0 w6 (Below.refl _ _)) HAG.out
            rcases hA with ⟨rfl, hc⟩ | rfl
            · refine ⟨?_, HAG.out⟩
              have : rest.drop 64 = [] := List.eq_nil_of_length_eq_zero (by rw [HDL.out]; omega)
              rw [this]
              exact Rd.nil
            · refine ⟨?_, fun ad h => by injection h with h; subst h; exact hb0⟩
              rw [List.map_drop]
              exact rd_drop hk 64
          have f6' : Blk (w6.setCells G 0 cs6) G 96 (arr8 st6) := by rw [ha6]; exact f6
          have F6 := Lib.hid f6'; have T6 := Lib.hid t6; have HI6 := Lib.hid hi6; have FB := Lib.hid fB; have ONE6 := Lib.hid one6; have RD7 := Lib.hid hrd7
          clear f6 f6' t6 hi6 fB one6 hrd7 hrd6 hb7 hb6 hst6 hst1 hb1 hrd1 h8 hc6 ha6 hl6
          go_wp2_with (refine wpList_store_mid (by rfl) 96 (.tmp 5) (.tmp 40) (by rfl) G 0 cs6.toArray (by rfl) (by rfl) T6.out HI6.out ONE6.out ?_)
          have hm64' : (m - 64) % 64 = 0 := by omega
          have o1 : m - 64 ≤ c' - 64 := Nat.sub_le_sub_right hmc 64
          have o2 : m - 64 ≤ n + 8 := Nat.le_trans (Nat.sub_le _ _) hmn
          have hrn7 : Hid (Sha.run ((m - 64) / 64) st6 (rest.drop 64) = Sha.run ((n + 8) / 64) Sha.init P) := Lib.hid HRN.out.symm
          have hfin : ∀ A, (A = some ⟨b0, off, none⟩ ∧ c' = 64) ∨ A = some ⟨b0, off + 64, none⟩ → ∃ (A' : Option Addr) (m' c'' : Nat) (rest' : List UInt8) (st' : Sha.S8), Value.slice A (m - 64) (c' - 64) = .slice A' m' c'' ∧ Rd (w6.setCells G 0 cs6) A' (rest'.map u8v) ∧ Hid (rest'.length = m') ∧ m' % 64 = 0 ∧ m' ≤ c'' ∧ m' ≤ n + 8 ∧ Hid (Sha.run (m' / 64) st' rest' = Sha.run ((n + 8) / 64) Sha.init P) ∧ Sha.Ok st' ∧ Blk (w6.setCells G 0 cs6) G 96 (arr8 st') ∧ Below w.heap.size w (w6.setCells G 0 cs6) ∧ ∀ ad, A' = some ad → ad.block < G :=
            fun A hA => ⟨A, m - 64, c' - 64, rest.drop 64, st6, rfl, (RD7.out A hA).1, HDL, hm64', o1, o2, hrn7, hok6, F6.out, FB.out, (RD7.out A hA).2⟩
          refine ⟨?_, ?_⟩
          · by_cases hc64 : c' = 64
            · rw [if_pos hc64]
              exact hfin _ (.inl ⟨rfl, hc64⟩)
            · rw [if_neg hc64]
              exact hfin _ (.inr rfl)
          · show m - 64 < m
            omega
        · obtain rfl : m = 0 := by omega
          have hrn : st = Sha.run ((n + 8) / 64) Sha.init P := by rw [← HRUN.out, Nat.zero_div]; rfl
          rw [← hrn] at HSUM
          have hsta := hst.alloc (.cells #[.pointer none, .slice none 0 0] 93)
          have c0 := hsta.cell 0 _ rfl
          have c1 := hsta.cell 1 _ rfl
          have c2 := hsta.cell 2 _ rfl
          have c3 := hsta.cell 3 _ rfl
          have c4 := hsta.cell 4 _ rfl
          have c5 := hsta.cell 5 _ rfl
          have c6 := hsta.cell 6 _ rfl
          have c7 := hsta.cell 7 _ rfl
          unfold u32v at c0 c1 c2 c3 c4 c5 c6 c7
          have xa := hok.a
          have xb := hok.b
          have xc := hok.c
          have xd := hok.d
          have xe := hok.e
          have xf := hok.f
          have xg := hok.g
          have xh := hok.h
          have hsum : Sha.sum l = st.list.flatMap fun (x : Nat) => be 4 (x : Int) := HSUM.out
          have HS := Lib.hid hsum
          have hsz := hb.size
          have hW := Wr.new wr
          have hba : Below w.heap.size w (wr.alloc (.cells #[.pointer none, .slice none 0 0] 93)) := hb.alloc hsz _
          clear HRUN hrn hrd HM hm64 hmc hmn hm HAG hst hsta HPN HN hsum HSUM hb hok
          go_wp2
          clear c0 c1 c2 c3 c4 c5 c6 c7
          have hR0 : wr.heap.size ≤ (wr.alloc (.cells #[.pointer none, .slice none 0 0] 93)).heap.size := by simp
          generalize wr.alloc (.cells #[.pointer none, .slice none 0 0] 93) = wq at *
          generalize wr.heap.size = R at *
          have HW := Lib.hid hW; clear hW
          go_loopw [44] (fun i wz => ∃ k : Nat, k ≤ 8 ∧ i = .int .i64 k ∧ Wr R R ((st.list.take k).flatMap fun (x : Nat) => be 4 (x : Int)) wz ∧ Below w.heap.size w wz ∧ R ≤ wz.heap.size) (fun i _ => 8 - (intOf i).toNat)
          case atStart => exact ⟨0, by omega, rfl, HW.out, hba, hR0⟩
          case round =>
            obtain ⟨k, hk, rfl, hW, hb, hR⟩ := hrel
            by_cases hlt : k < 8
            · rcases lt8 k hlt with rfl | rfl | rfl | rfl | rfl | rfl | rfl | rfl
              all_goals
                have i0 := ix8_0 st.a st.b st.c st.d st.e st.f st.g st.h
                have i1 := ix8_1 st.a st.b st.c st.d st.e st.f st.g st.h
                have i2 := ix8_2 st.a st.b st.c st.d st.e st.f st.g st.h
                have i3 := ix8_3 st.a st.b st.c st.d st.e st.f st.g st.h
                have i4 := ix8_4 st.a st.b st.c st.d st.e st.f st.g st.h
                have i5 := ix8_5 st.a st.b st.c st.d st.e st.f st.g st.h
                have i6 := ix8_6 st.a st.b st.c st.d st.e st.f st.g st.h
                have i7 := ix8_7 st.a st.b st.c st.d st.e st.f st.g st.h
                go_wp2_with fail
                clear i0 i1 i2 i3 i4 i5 i6 i7
                refine (wCount_any R R _ _ _ hW (by have := flat4_take st; exact Nat.le_trans (Nat.add_le_add_right (this _) 8) (by decide)) hR).mono ?_
                rintro e w9 ⟨rfl, hW9, hb9⟩
                go_wp2
                go_roundw
                case rel => exact ⟨_, by decide, rfl, wr_next hW9 rfl, hb.trans (hb9.mono hsz), Nat.le_trans hR hb9.size⟩
                case measure => simp [intOf]
            · obtain rfl : k = 8 := by omega
              have hH := hW.holds
              rw [show st.list.take 8 = st.list from rfl, ← HS.out] at hH
              clear hW HW
              go_wp2_with fail
              refine (wBytes_any R R _ _ hH hR).mono ?_
              rintro e w9 ⟨rfl, hb9, _, _⟩
              go_wp2
              go_ret
              exact ⟨rfl, hb.trans (hb9.mono hsz)⟩
end Go.Proofs.Ytgmafnpkhmlnnaa
