/- frame: the walk of FrameFinds. -/
import Derived.Test.YtendagkbaihgiaaFrameG
import Derived.Test.YtendagkbaihgiaaOpen
attribute [local go_sem ↓] Go.wp_at_zero Go.wp_at_succ
namespace Go.Proofs.Ytendagkbaihgiaa
open Go.RowKit Go.Mem Go.Num
set_option linter.unusedVariables false
def arr2w (x : Int × Int) : Array Value := #[.int .u16 x.1, .int .u16 x.2]
def wf2w (x : Int × Int) : Prop := (Lit.int .u16 x.1).wf = true ∧ (Lit.int .u16 x.2).wf = true
/-- what a call leaves that came behind a new block -/
theorem ba {w w1 : World} {o : Obj} (h : Below (w.alloc o).heap.size (w.alloc o) w1) : Below w.heap.size w w1 := ((Below.refl _ _).alloc (Nat.le_refl _) o).trans (h.mono (by simp))
theorem cells_arr2w : Try.prog.cellsOf 40 = 2 := by kernel_rfl
theorem cells_u16 : Try.prog.cellsOf 27 = 1 := by kernel_rfl
theorem is_arr2w {H : Type} {enc : TypeId × Value → H} {w : World} {cs : List Value} (h : Is enc Try.prog w 40 cs) : ∃ x : Int × Int, cs = (arr2w x).toList ∧ wf2w x := by
  obtain ⟨hl, hf⟩ := is_array Try.underlying40 h
  rw [cells_arr2w] at hl
  obtain ⟨c0, r0, rfl, hl0⟩ := cons_of hl
  obtain ⟨c1, r1, rfl, hl1⟩ := cons_of hl0
  obtain rfl := nil_of hl1
  obtain ⟨s0, h0, w0⟩ := is_int Try.underlying27 (hf 0 (by omega))
  obtain ⟨s1, h1, w1⟩ := is_int Try.underlying27 (hf 1 (by omega))
  simp [cells_u16] at h0 h1
  subst h0 h1
  exact ⟨⟨s0, s1⟩, rfl, w0, w1⟩
set_option maxRecDepth 100000 in
set_option maxHeartbeats 2000000 in
theorem frameFinds_walk (A : Option Addr) (m c : Nat) (ss : List ByteArray) (at_ : Int × Int) (bts : Int) (w : World) (hr : Rd w A (ss.map Value.string)) (hm : ss.length = m) (hmc : m ≤ c) (hcm : c ≤ maxLen) (hat : wf2w at_) (hbits : (Lit.int .u32 bts).wf = true) :
    Calls Try.prog 8 #[.slice A m c, .agg (arr2w at_), .int .u32 bts] w fun e w' => e = .returned (.bool true) ∧ Below w.heap.size w w' := by
  obtain ⟨at0, at1⟩ := at_
  have ha0 : 0 ≤ at0 ∧ at0 ≤ 65535 := by simpa [Lit.wf, IntKind.min, IntKind.max, IntKind.signed, IntKind.bits] using hat.1
  have ha1 : 0 ≤ at1 ∧ at1 ≤ 65535 := by simpa [Lit.wf, IntKind.min, IntKind.max, IntKind.signed, IntKind.bits] using hat.2
  have hb : 0 ≤ bts ∧ bts ≤ 4294967295 := by simpa [Lit.wf, IntKind.min, IntKind.max, IntKind.signed, IntKind.bits] using hbits
  have hm' : m ≤ maxLen := Nat.le_trans hmc hcm
  have hcn := hcm
  change c ≤ 9223372036854775807 at hcn
  have HM := Lib.hid hm; clear hm hat hbits
  unfold arr2w
  go_enter Try.func8, Try.ntmps8
  go_wp2_with fail
  refine (few01_any A m c ss _ (hr.alloc _) HM.out hm').mono ?_
  rintro e w1 ⟨few, hfew, rfl, rfl⟩
  by_cases hgo : few = false ∨ m = 0 ∨ bts = 0
  · cases few
    · clear hgo hfew
      go_wp2_with fail
      refine (awake26_any _).mono ?_
      rintro e w1 ⟨rfl, hb1⟩
      go_wp2
      go_ret
      exact ⟨rfl, ba hb1⟩
    · by_cases h0 : m = 0
      · have hd : ((m : Int) == 0) = true := by simp; omega
        clear hgo hfew h0
        go_wp2_with fail
        refine (awake26_any _).mono ?_
        rintro e w1 ⟨rfl, hb1⟩
        go_wp2
        go_ret
        exact ⟨rfl, ba hb1⟩
      · have hd : ((m : Int) == 0) = false := by simp; omega
        obtain rfl : bts = 0 := by rcases hgo with h | h | h; cases h; exact absurd h h0; exact h
        clear hgo hfew h0
        go_wp2_with fail
        refine (awake26_any _).mono ?_
        rintro e w1 ⟨rfl, hb1⟩
        go_wp2
        go_ret
        exact ⟨rfl, ba hb1⟩
  obtain rfl : few = true := by cases few; exact absurd (.inl rfl) hgo; rfl
  have HF := Lib.hid (hfew.1 rfl); clear hfew
  have hm20 : m ≤ 20 := by have := HF.out.1; have := HM.out; omega
  have hd0 : ((m : Int) == 0) = false := by simp; omega
  have hd1 : (bts == 0) = false := by simp; omega
  have hmp : 0 < m := by omega
  have hbp : 0 < bts := by omega
  clear hgo
  obtain ⟨bn, rfl⟩ : ∃ bn : Nat, bts = bn := ⟨bts.toNat, by omega⟩
  obtain ⟨k, hk⟩ : ∃ k : Nat, at0 % (m : Int) = k := ⟨(at0 % (m : Int)).toNat, by
    have := Int.emod_nonneg at0 (b := (m : Int)) (by omega); omega⟩
  have hkm : k < m := by
    have := Int.emod_lt_of_pos at0 (b := (m : Int)) (by omega); omega
  have HK := Lib.hid hk; clear hk
  -- the records
  have hdl : (datas ss).length = m := by unfold datas; rw [List.length_map]; exact HM.out
  have hszs : ∀ b ∈ datas ss, b.length ≤ 1048576 := fun b hb => by
    unfold datas at hb; rw [List.mem_map] at hb; obtain ⟨x, hx, rfl⟩ := hb
    have := HF.out.2 x hx; have h2 : x.data.toList.length = x.size := by simp
    omega
  have hxk : k < ss.length := by have := HM.out; omega
  have hgk : (datas ss)[k]'(by omega) = ss[k].data.toList := by unfold datas; simp
  have hsk := HF.out.2 ss[k] (List.getElem_mem hxk)
  have hskl : ss[k].data.toList.length = ss[k].size := by simp
  have hat_ := Frame.all_at (datas ss) k (by omega)
  have hal1 := all_len ss 1024 HF.out.2
  have hal2 : (Frame.all (datas ss)).length ≤ 20640 := by have := HM.out; have : ss.length * (8 + 1024) ≤ 20 * 1032 := Nat.mul_le_mul (by omega) (by omega); omega
  have hT : (Frame.all (datas ss)).length = (Frame.all ((datas ss).take k)).length + (8 + ss[k].size + (Frame.all ((datas ss).drop (k + 1))).length) := by
    conv => lhs; rw [hat_]
    rw [List.length_append, List.length_append, Frame.put_length, hgk, hskl]
  have hflip : ∀ j : Nat, j = 0 ∨ (4 ≤ j ∧ j ≤ ss[k].size) → Frame.scan (flips (Frame.all (datas ss)) ((Frame.all ((datas ss).take k)).length + (4 + j)) bn 4) = (datas ss).take k := fun j hj =>
    Frame.scan_flip (datas ss) k (by omega) hszs j bn (by rw [hgk, hskl]; exact hj) (by omega) (by omega)
  have HFL := Lib.hid hflip
  have hrk := (hr.take k)
  rw [← List.map_take] at hrk
  have hpz : (Frame.all (datas (ss.take k))).length ≤ 140737488355328 := by rw [datas_take]; omega
  have hpp : (bs (Frame.all (datas (ss.take k)))).size = (Frame.all ((datas ss).take k)).length := by rw [bs_size, datas_take]
  have htk : (ss.take k).length = k := by rw [List.length_take]; omega
  have hsw : (strsOf ((datas ss).take k)) = (ss.take k).map Value.string := by rw [strsOf_map, List.map_take, datas_bs]
  have hdt : ((datas ss).take k).length = k := by rw [List.length_take]; omega
  have hall : (Frame.all ((datas ss).take k)).length ≤ (Frame.all (datas ss)).length := by omega
  obtain ⟨b0, off0, rfl, hcell⟩ := hr.at_ k (by simp; exact hxk)
  simp only [List.getElem_map] at hcell
  have htz := bs_size (Frame.all (datas ss))
  have htl := bs_toList (Frame.all (datas ss))
  have HPZ := Lib.hid hpz; have HTK := Lib.hid htk; have HSW := Lib.hid hsw; have HPP := Lib.hid hpp; have HDT := Lib.hid hdt; have HTZ := Lib.hid htz; have HTL := Lib.hid htl; have HT := Lib.hid hT; have HAL := Lib.hid hal2
  clear hdl hszs hgk hat_ hal1 hal2 hflip hpz htk hsw hpp hdt htz htl hT hskl hall
  generalize hsx : ss[k] = sk at *
  clear hsx
  have i0 : (0 : Int) ≤ (k : Int) := by omega
  have i1 : (k : Int) < (m : Int) := by omega
  have i2 : (k : Int) ≤ (c : Int) := by omega
  go_wp2_with fail
  rw [HK.out]
  refine (fAll_any _ m c ss _ (hr.alloc _) HM.out (by omega) (fun x hx => by have := HF.out.2 x hx; omega) (by have := HAL.out; omega)).mono ?_
  rintro e w2 ⟨rfl, hb2⟩
  have hr2 : Rd w2 (some ⟨b0, off0, none⟩) (ss.map Value.string) := hr.below (ba hb2)
  have c1 : w2.cell? ⟨w.heap.size, 1, none⟩ = some (.int .u16 at1) := cell_below hb2 (by simp [World.cell?_alloc_at _ _ _ _ rfl])
  have hcell2 := cell_below (ba hb2) hcell
  have hbw2 := ba hb2
  generalize hS : Frame.all (datas ss) = S at *
  generalize hP : (Frame.all ((datas ss).take k)).length = P at *
  have HP := Lib.hid hP
  clear hb2 hcell hP
  go_wp2_with fail
  refine (fAll_any _ k c (ss.take k) _ (by rw [List.map_take]; exact hr2.take k) HTK.out (by omega) (fun x hx => by have := HF.out.2 x (List.mem_of_mem_take hx); omega) HPZ.out).mono ?_
  rintro e w3 ⟨rfl, hb3⟩
  have hpp := HPP.out
  generalize bs (Frame.all (datas (ss.take k))) = pt at *
  have hcell3 := cell_below hb3 hcell2
  have c13 := cell_below hb3 c1
  have hr3 := hr2.below hb3
  have hbw3 := then_ hbw2 hb3
  have hal := HAL.out
  have hT := HT.out
  have htz := HTZ.out
  have htl := HTL.out
  clear hb3 hcell2 c1 hr2 hbw2 hrk HPZ HPP HT HAL HTZ HTL
  obtain ⟨j, hj⟩ : ∃ j : Nat, at1 % (4 + (sk.size : Int) - 3) = j := ⟨(at1 % (4 + (sk.size : Int) - 3)).toNat, by
    have := Int.emod_nonneg at1 (b := 4 + (sk.size : Int) - 3) (by omega); omega⟩
  have hjs : j ≤ sk.size := by
    have := Int.emod_lt_of_pos at1 (b := 4 + (sk.size : Int) - 3) (by omega); omega
  have HJ := Lib.hid hj
  have hptz : pt.size = P := hpp
  have hSz : (bs S).size = S.length := htz
  have hPS : P + 8 + sk.size ≤ S.length := by omega
  have hSb : (bs S).data.toList = S := htl
  generalize hst : bs S = st at *
  have hstz : st.size ≤ 20640 := by omega
  have hge : P + 8 + sk.size ≤ st.size := by omega
  have HS := Lib.hid hS; have HSB := Lib.hid hSb; have HSZ := Lib.hid hSz; have HSN := Lib.hid htz
  have hj0 : 0 ≤ at1 % (4 + (sk.size : Int) - 3) := by omega
  have hj1 : at1 % (4 + (sk.size : Int) - 3) ≤ 1024 := by omega
  have hd2 : decide ((st.size : Int) < (P : Int) + 4 + (4 + (sk.size : Int))) = false := by simp; omega
  have hd3 : decide (4 + (sk.size : Int) < 4) = false := by simp; omega
  clear hS hSb hSz hT htz htl hj hPS hpp hst
  have hconv := Lib.run_convert_string_bytes (P := Try.prog) w3 9 29 5 st Try.underlying9 Try.underlying29 Try.underlying5
  go_wp2_with fail
  rw [HJ.out]
  clear hconv hj0 hj1 hd2 hd3
  have hw : Below w.heap.size w (Lib.bytesWorld w3 5 st) := hbw3.trans ((below_bytes w3 5 st).mono hbw3.size)
  have hSl : S.length = st.size := by have := HSZ.out; omega
  have hby0 : BytesAt (Lib.bytesWorld w3 5 st) w3.heap.size (flips S (P + (4 + j)) bn 0) := by
    have := bytesAt_new w3 5 st
    rw [HSB.out] at this
    exact this
  have hsz3 := hbw3.size
  have hszB : w3.heap.size < (Lib.bytesWorld w3 5 st).heap.size := (Array.getElem?_eq_some_iff.1 (Lib.bytesWorld_at_new w3 5 st)).1
  generalize Lib.bytesWorld w3 5 st = w4 at *
  generalize grownCap w3 st.size 0 5 = cap at *
  generalize w3.heap.size = G at *
  clear hr3 hcell3 c13
  go_loopw [13] (fun i wr => ∃ q : Nat, q ≤ 4 ∧ i = .int .i64 q ∧ BytesAt wr G (flips S (P + (4 + j)) bn q) ∧ Below w.heap.size w wr) (fun i _ => 4 - (intOf i).toNat)
  case atStart => exact ⟨0, by omega, rfl, hby0, hw⟩
  case round =>
    obtain ⟨q, hq, rfl, hby, hbel⟩ := hrel
    clear hw hby0
    have hln := flips_length S (P + (4 + j)) bn q
    by_cases hlt : q < 4
    · obtain ⟨hcell, hfro⟩ := hby (P + (4 + j) + q) (by omega)
      have e1 : IntKind.i64.wrap ((P : Int) + 4 + (j : Int) + (q : Int)) = (P : Int) + 4 + (j : Int) + (q : Int) := IntWalk.i64_in _ (by omega)
      have e2 : 0 ≤ (P : Int) + 4 + (j : Int) + (q : Int) := by omega
      have e3 : (P : Int) + 4 + (j : Int) + (q : Int) < (st.size : Int) := by omega
      have e0 : ((P : Int) + 4 + (j : Int) + (q : Int)).toNat = P + (4 + j) + q := by omega
      have hset := hby.set (P + (4 + j) + q) (by omega) (UInt8.ofNat (((flips S (P + (4 + j)) bn q).getD (P + (4 + j) + q) 0).toNat ^^^ bn / 256 ^ q % 256))
      have HSET := Lib.hid hset
      clear hset hby hln
      generalize hc : (flips S (P + (4 + j)) bn q).getD (P + (4 + j) + q) 0 = ch at hcell
      have HC := Lib.hid hc; clear hc
      go_wp2
      go_region
      go_wp2
      go_roundw
      case rel =>
        refine ⟨q + 1, by omega, by go_num, ?_, (hbel.setCell hsz3 _).drew⟩
        have := HSET.out
        rw [HC.out, xor_byte] at this
        have e4 : bits .xor .u8 (ch.toNat : Int) ((bn : Int) / 2 ^ (8 * q) % 256) = ((ch.toNat ^^^ bn / 256 ^ q % 256 : Nat) : Int) := by
          have e5 : ((bn : Int) / 2 ^ (8 * q) % 256) = ((bn / 256 ^ q % 256 : Nat) : Int) := by
            rw [Int.natCast_emod, Int.natCast_ediv, Int.natCast_pow, Int.pow_mul]; rfl
          rw [e5]
          exact u8_xor_nat _ _ ch.toNat_lt (by omega)
        rw [e4]
        unfold flips flip
        rw [HC.out]
        exact this
      case measure => simp [intOf]; omega
    · obtain rfl : q = 4 := by omega
      have hback := run_convert_bytes_back (P := Try.prog) wr 29 9 5 ⟨G, 0, none⟩ cap (flips S (P + (4 + j)) bn 4) Try.underlying29 Try.underlying5 Try.underlying9
        (fun j' hj' => by have := (hby j' hj').1; rw [add_none]; simpa [List.getD, hj'] using this)
      rw [hln, hSl] at hback
      have hr5 := hr.below hbel
      by_cases hin : 0 < j ∧ j < 4
      · have h1 : (P : Int) + 4 + (j : Int) < (P : Int) + 4 + 4 := by omega
        have h2 : (P : Int) + 4 + 4 < (P : Int) + 4 + (j : Int) + 4 := by omega
        clear hback hby hin
        go_wp2_with fail
        refine (awake26_any _).mono ?_
        rintro e w5 ⟨rfl, hb5⟩
        go_wp2
        go_ret
        exact ⟨rfl, then_ hbel hb5⟩
      · have hsc := HFL.out j (by omega)
        have hd4 : (decide ((P : Int) + 4 + (j : Int) < (P : Int) + 4 + 4) && decide ((P : Int) + 4 + 4 < (P : Int) + 4 + (j : Int) + 4)) = false := by
          rw [Bool.and_eq_false_iff, decide_eq_false_iff_not, decide_eq_false_iff_not]; omega
        generalize flips S (P + (4 + j)) bn 4 = fl at *
        have HSCAN := Lib.hid hsc
        have hlz : (⟨fl.toArray⟩ : ByteArray).size ≤ 20640 := by show fl.length ≤ _; omega
        clear hsc hby HFL
        have hkm2 : k ≤ maxLen := by omega
        have hpe : ((P : Int) == (P : Int) + 4 - 4) = true := by rw [beq_iff_eq]; omega
        have hcases : j = 0 ∨ 4 ≤ j := by omega
        rcases hcases with hj0 | hj4
        rotate_left
        have i5 : (4 : Int) ≤ (j : Int) := by omega
        rotate_left
        have i5 : (P : Int) + 4 + (j : Int) ≤ (P : Int) + 4 := by omega
        have i6 : (j : Int) < 4 := by omega
        rotate_left
        all_goals
          go_wp2_with fail
          refine (scan_any ⟨fl.toArray⟩ _ (by omega)).mono ?_
          rintro e w6 ⟨hb6, v, rfl, hown⟩
          rw [show (⟨fl.toArray⟩ : ByteArray).data.toList = fl from bs_toList fl, HSCAN.out] at hown ⊢
          rw [HSW.out, HDT.out] at hown
          rw [HP.out]
          obtain ⟨vA, vc, rfl⟩ := own_form hown
          have hv := Rd.of_own hown
          have hr6 := (hr5.below hb6).take k
          rw [← List.map_take] at hr6
          have hb56 := then_ hbel hb6
          clear hown hb6
          go_wp2_with fail
          refine (sameTexts_any vA k vc (ss.take k) _ k c (ss.take k) _ hv HTK.out hkm2 hr6 HTK.out hkm2).mono ?_
          rintro e w7 ⟨rfl, hb7⟩
          rw [decide_eq_true (rfl : ss.take k = ss.take k)]
          go_wp2_with fail
          refine (awake26_any _).mono ?_
          rintro e w8 ⟨rfl, hb8⟩
          go_wp2
          go_ret
          exact ⟨rfl, then_ (then_ hb56 hb7) hb8⟩
end Go.Proofs.Ytendagkbaihgiaa
