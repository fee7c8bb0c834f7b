/- sha: the digits. -/
import Derived.Test.YtejfnkialhlkmaaShaF
attribute [local go_sem ↓] Go.wp_at_zero Go.wp_at_succ
namespace Go.Proofs.Ytejfnkialhlkmaa
open Go.RowKit Go.Mem Go.Num
set_option linter.unusedVariables false

theorem take_snocB (s : ByteArray) (k : Nat) (h : k < s.size) : s.data.toList.take (k + 1) = s.data.toList.take k ++ [s[k]] := by
  rw [List.take_succ_eq_append_getElem (by simpa using h)]; rfl
def hexS : ByteArray := ⟨#[48, 49, 50, 51, 52, 53, 54, 55, 56, 57, 97, 98, 99, 100, 101, 102]⟩
theorem hex_digit (a : Nat) (h : a < 16) : hexS.extract a (a + 1) = bs [Sha.digit a] := by
  have h1 : ∀ a : Fin 16, hexS.extract a.1 (a.1 + 1) = bs [Sha.digit a.1] := by decide +kernel
  exact h1 ⟨a, h⟩
theorem digits_snoc (l : List UInt8) (c : UInt8) : Sha.digits (l ++ [c]) = Sha.digits l ++ [Sha.digit (c.toNat / 16), Sha.digit (c.toNat % 16)] := by
  unfold Sha.digits
  rw [List.flatMap_append]
  simp
theorem hexAt (a : Nat) (h : a < 16) : ∃ x : ByteArray, hexS.extract a (a + 1) = x ∧ x.size = 1 := by
  refine ⟨_, rfl, ?_⟩
  rw [ByteArray.size_extract]
  have : hexS.size = 16 := rfl
  omega
set_option maxRecDepth 100000 in
set_option maxHeartbeats 1000000 in
theorem refDigits_any (s : ByteArray) (w : World) (hs : s.size ≤ 1099511627776) : Calls Try.prog 64 #[.string s] w fun e w' => e = .returned (.string (bs (Sha.digits s.data.toList))) ∧ Below w.heap.size w w' := by
  go_enter Try.func64, Try.ntmps64
  go_wp2
  go_loopw [3, 4] (fun v i wr => ∃ (k : Nat) (t : ByteArray), k ≤ s.size ∧ i = .int .i64 k ∧ v = .string t ∧ Hid (t.size = 2 * k) ∧ Hid (t = bs (Sha.digits (s.data.toList.take k))) ∧ Below w.heap.size w wr) (fun _ i _ => s.size - (intOf i).toNat)
  case atStart => exact ⟨0, _, Nat.zero_le _, rfl, rfl, Lib.hid rfl, Lib.hid rfl, Below.refl _ _⟩
  case round =>
    obtain ⟨k, t, hk, rfl, rfl, HTZ, HT, hb⟩ := hrel
    by_cases hlt : k < s.size
    · have hts := take_snocB s k hlt
      have HTS := Lib.hid hts; clear hts
      have hc := UInt8.toNat_lt s[k]
      obtain ⟨a, ha⟩ : ∃ a, s[k].toNat / 16 = a := ⟨_, rfl⟩
      obtain ⟨b, hb'⟩ : ∃ b, s[k].toNat % 16 = b := ⟨_, rfl⟩
      have e1 : (s[k].toNat : Int) / 16 = (a : Int) := by omega
      have e2 : bits .and .i64 (s[k].toNat : Int) 15 = (b : Int) := by
        rw [show (15 : Int) = ((2 ^ 4 - 1 : Nat) : Int) from rfl, i64_mask 4 (by omega)]
        omega
      have ha1 : a < 16 := by omega
      have hb1 : b < 16 := by omega
      have HA := Lib.hid ha; have HB' := Lib.hid hb'; clear ha hb'
      obtain ⟨xa, hxa, za⟩ := hexAt a ha1
      obtain ⟨xb, hxb, zb⟩ := hexAt b hb1
      have HXA := Lib.hid hxa; have HXB := Lib.hid hxb
      unfold hexS at hxa hxb
      have ht1 : t.size ≤ 2199023255552 := by have := HTZ.out; omega
      have za1 : xa.size ≤ 1 := by omega
      have zb1 : xb.size ≤ 1 := by omega
      have HZA := Lib.hid za; have HZB := Lib.hid zb; clear za zb
      have i1 : (0 : Int) ≤ (a : Int) := by omega
      have i2 : (a : Int) + 1 ≤ 16 := by omega
      have i3 : (0 : Int) ≤ (b : Int) := by omega
      have i4 : (b : Int) + 1 ≤ 16 := by omega
      go_wp2
      go_quiet (fail)
      clear e1 e2
      have wa : IntKind.i64.wrap ((a : Int) + 1) = (a : Int) + 1 := IntWalk.i64_in _ (by omega)
      have wb : IntKind.i64.wrap ((b : Int) + 1) = (b : Int) + 1 := IntWalk.i64_in _ (by omega)
      have na : (0 : Int) ≤ (a : Int) + 1 := by omega
      have nb : (0 : Int) ≤ (b : Int) + 1 := by omega
      have la : (a : Int) ≤ (a : Int) + 1 := by omega
      have lb : (b : Int) ≤ (b : Int) + 1 := by omega
      have ta : ((a : Int) + 1).toNat = a + 1 := by omega
      have tb : ((b : Int) + 1).toNat = b + 1 := by omega
      go_wp2
      go_quiet (fail)
      clear hxa hxb wa wb na nb la lb ta tb
      go_wp2
      go_roundw
      case rel =>
        refine ⟨k + 1, t ++ xa ++ xb, by omega, by go_num, rfl, Lib.hid ?_, Lib.hid ?_, drewN_ hb _⟩
        · rw [ByteArray.size_append, ByteArray.size_append, HTZ.out, HZA.out, HZB.out]
          omega
        · rw [HTS.out, digits_snoc, HA.out, HB'.out, HT.out, ← HXA.out, ← HXB.out, hex_digit a ha1, hex_digit b hb1, bs_append, bs_append, List.append_assoc]
          rfl
      case measure => simp [intOf]; omega
    · obtain rfl : k = s.size := by omega
      rw [List.take_of_length_le (by simp)] at HT
      go_wp2
      go_ret
      exact ⟨ret_string HT.out, hb⟩

theorem elByte : Elem Try.prog 27 5 1 1 := Elem.of Try.underlying27 (by kernel_rfl : (Try.prog.info? 5).map (fun i => (i.zero, i.size, i.bytes)) = some (some (.int .u8 0), 1, 1)) rfl (by omega)
theorem hex_idx (a : Nat) (h : a < 16) : (⟨#[48, 49, 50, 51, 52, 53, 54, 55, 56, 57, 97, 98, 99, 100, 101, 102]⟩ : ByteArray)[a]'(show a < 16 from h) = Sha.digit a := by
  have h1 : ∀ a : Fin 16, (⟨#[48, 49, 50, 51, 52, 53, 54, 55, 56, 57, 97, 98, 99, 100, 101, 102]⟩ : ByteArray)[a.1]'(show a.1 < 16 from a.2) = Sha.digit a.1 := by decide +kernel
  exact h1 ⟨a, h⟩
set_option maxRecDepth 100000 in
set_option maxHeartbeats 2000000 in
theorem shaHex_any (s : ByteArray) (w : World) (hs : s.size ≤ 1099511627776) : Calls Try.prog 48 #[.string s] w fun e w' => e = .returned (.string (bs (Sha.digits (Sha.sum s.data.toList)))) ∧ Below w.heap.size w w' := by
  have hconv := fun (t : ByteArray) (w : World) => Lib.run_convert_string_bytes (P := Try.prog) w 9 27 5 t Try.underlying9 Try.underlying27 Try.underlying5
  have hlen : (Sha.sum s.data.toList).length = 32 := by
    unfold Sha.sum Sha.out
    rw [flat4_length]
    rfl
  generalize hm : Sha.sum s.data.toList = m at hlen
  have HM := Lib.hid hm; clear hm
  go_enter Try.func48, Try.ntmps48
  go_wp2_with fail
  refine (shaSum_any s _ hs).mono ?_
  rintro e w1 ⟨rfl, hb1⟩
  rw [HM.out]
  have hw01 := hb1.size
  have htd : (bs m).data.toList = m := bs_toList m
  have htz : (bs m).size = 32 := by rw [bs_size]; exact hlen
  generalize bs m = t at *
  have ht0 := (Tl.of_text w1 5 t (by unfold maxLen; omega)).form
  have hb0 := then_ hb1 (below_text w1 5 t)
  have hz0 : w1.heap.size < (Lib.bytesWorld w1 5 t).heap.size := by rw [Lib.bytesWorld_size]; omega
  rw [str_u8, htd] at ht0
  replace hconv := hconv t w1
  have hts : t.size ≤ 32 := by omega
  have HTZ := Lib.hid htz; have HTD := Lib.hid htd; have HLEN := Lib.hid hlen; clear htz htd hlen
  generalize Lib.bytesWorld w1 5 t = wb at *
  obtain ⟨g, c, hv, hg1, hg2, hnc, hcm, hrd⟩ := ht0
  injection hv with hv1 hv2 hv3
  injection hv1 with hv1
  injection hv1 with hv1
  subst hv1 hv3
  clear hv2
  go_wp2
  clear hconv
  go_loopw [3, 10] (fun v i wr => ∃ k : Nat, k ≤ t.size ∧ i = .int .i64 k ∧ wr.ownsRow (w1.heap.size + 1) 5 1 v (2 * k) ((Sha.digits (m.take k)).map u8v) ∧ Hid (Rd wr (some ⟨w1.heap.size, 0, none⟩) (m.map u8v)) ∧ Below w.heap.size w wr ∧ w1.heap.size < wr.heap.size) (fun _ i _ => t.size - (intOf i).toNat)
  case atStart => exact ⟨0, Nat.zero_le _, rfl, World.ownsRow_nil _ _ _ _, Lib.hid hrd, hb0, hz0⟩
  case round =>
    clear hrd
    obtain ⟨k, hk, rfl, hown, HRD, hb, hlt1⟩ := hrel
    obtain ⟨oA, oc, rfl⟩ := own_form hown
    have HO := Lib.hid hown; clear hown
    by_cases hlt : k < t.size
    · have hmk : k < m.length := by rw [HLEN.out]; omega
      obtain ⟨b0, off, hA, hc⟩ := HRD.out.at_ k (by rw [List.length_map]; exact hmk)
      injection hA with hA
      injection hA with hA1 hA2
      subst hA1 hA2
      have hts' : m.take (k + 1) = m.take k ++ [m[k]] := List.take_succ_eq_append_getElem hmk
      simp only [List.getElem_map, u8v, Nat.zero_add] at hc
      generalize m[k] = x at hc hts'
      have HTS := Lib.hid hts'; clear hts'
      have hx := UInt8.toNat_lt x
      obtain ⟨a, ha⟩ : ∃ a, x.toNat / 16 = a := ⟨_, rfl⟩
      obtain ⟨b, hb'⟩ : ∃ b, x.toNat % 16 = b := ⟨_, rfl⟩
      have e1 : (x.toNat : Int) / 16 = (a : Int) := by omega
      have e2 : bits .and .u8 (x.toNat : Int) 15 = (b : Int) := by
        rw [show (15 : Int) = ((15 : Nat) : Int) from rfl, u8_and_nat _ _ hx (by omega), nat_mask4, hb']
      have ha1 : a < 16 := by omega
      have hb1 : b < 16 := by omega
      have HA := Lib.hid ha; have HB' := Lib.hid hb'; clear ha hb'
      have i1 : (0 : Int) ≤ (a : Int) := by omega
      have i2 : (a : Int) < 16 := by omega
      have i3 : (0 : Int) ≤ (b : Int) := by omega
      have i4 : (b : Int) < 16 := by omega
      go_wp2
      have e3 := hex_idx a ha1
      have e4 := hex_idx b hb1
      have hks : k ≤ 32 := by omega
      have hbs := hb.size
      go_region_held3 (fun _ => True) (trivial) ((refine step_app elByte (by rfl) (.tmp 14) (.tmp 21) (by rfl) (w1.heap.size + 1) _ _ _ (by rfl) (own_below HO.out (((Below.refl _ _).drew).alloc (Nat.le_refl _) _)) _ 2 2 [u8v (Sha.digit a), u8v (Sha.digit b)] (by rfl) rfl (Rd.new _ _ _) (by intro u hu; simp [u8v] at hu; rcases hu with rfl | rfl <;> rfl) (by unfold maxLen; omega) (by omega) (by simp; omega) ?_; intro v1 w2 hown1 hbel1 _ _))
      all_goals
        clear e1 e2 e3 e4
        have hown2 : w2.ownsRow (w1.heap.size + 1) 5 1 v1 (2 * (k + 1)) ((Sha.digits (m.take (k + 1))).map u8v) := by
          have hd : (Sha.digits (m.take (k + 1))).map u8v = (Sha.digits (m.take k)).map u8v ++ [u8v (Sha.digit a), u8v (Sha.digit b)] := by
            rw [HTS.out, digits_snoc, HA.out, HB'.out, List.map_append]; rfl
          rw [hd]
          exact hown1
        have hb2 : Below (w1.heap.size + 1) wr w2 := (((Below.refl _ _).drew).alloc (show w1.heap.size + 1 ≤ wr.heap.size from hlt1) _).trans hbel1
        have hrd2 : Hid (Rd w2 (some ⟨w1.heap.size, 0, none⟩) (m.map u8v)) := Lib.hid (rd_far HRD.out hb2 (fun ad h => by injection h with h; subst h; exact Nat.lt_succ_self _))
        have hb3 : Below w.heap.size w w2 := hb.trans (hb2.mono (Nat.le_succ_of_le hw01))
        have hlt2 : w1.heap.size < w2.heap.size := Nat.lt_of_lt_of_le hlt1 hb2.size
        have HOWN2 := Lib.hid hown2; clear hown2 hown1 hb2 hbel1
        go_wp2
        go_roundw
        case rel => exact ⟨k + 1, by omega, by go_num, HOWN2.out, hrd2, hb3, hlt2⟩
        case measure => simp [intOf]; omega
    · obtain rfl : k = t.size := by omega
      have hown := HO.out
      rw [List.take_of_length_le (by rw [HLEN.out]; have := HTZ.out; omega)] at hown
      obtain ⟨g, rfl, hg1, hg2, hgc⟩ := own_pos hown (by have := HTZ.out; omega)
      have hdl : (Sha.digits m).length = 2 * t.size := by
        have := hown.1
        rw [List.length_map] at this
        omega
      have hback := run_convert_bytes_back (P := Try.prog) wr 27 9 5 ⟨g, 0, none⟩ oc (Sha.digits m) Try.underlying27 Try.underlying5 Try.underlying9
        (fun j hj => hown.cells (g := g) rfl j _ (by rw [List.getElem?_map, List.getElem?_eq_getElem hj]; rfl))
      rw [hdl] at hback
      generalize hdm : Sha.digits m = dm at hback
      have HDM := Lib.hid hdm
      clear hown HO hg1 hg2 hgc hdm hdl
      go_wp2
      go_ret
      exact ⟨by rw [HDM.out]; rfl, hb⟩
end Go.Proofs.Ytejfnkialhlkmaa
