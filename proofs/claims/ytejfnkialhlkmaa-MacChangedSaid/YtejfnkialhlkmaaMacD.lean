/- mac: the test; what must come. -/
import Derived.Test.YtejfnkialhlkmaaMacC
attribute [local go_sem ↓] Go.wp_at_zero Go.wp_at_succ
namespace Go.Proofs.Ytejfnkialhlkmaa
open Go.RowKit Go.Mem Go.Num
set_option linter.unusedVariables false
theorem macSum_size (s x : ByteArray) : (MacSum s x).size = 32 := by
  unfold MacSum Mac.sum
  exact sum_bs_size _
theorem or_xor_zero (n a b : Nat) : n ||| (a ^^^ b) = 0 ↔ n = 0 ∧ a = b := by
  rw [Nat.or_eq_zero_iff]
  refine and_congr_right fun _ => ⟨fun h => ?_, fun h => by rw [h, Nat.xor_self]⟩
  have h1 := congrArg (· ^^^ b) h
  simpa [Nat.xor_assoc] using h1

set_option maxRecDepth 100000 in
set_option maxHeartbeats 2000000 in
theorem macIs_any (s x u : ByteArray) (w : World) (hs : s.size ≤ 1099511627776) (hx : x.size ≤ 1000000000000) (hu : u.size ≤ 1099511627776) :
    Calls Try.prog 45 #[.string s, .string x, .string u] w fun e w' => e = .returned (.bool (decide (MacSum s x = u))) ∧ Below w.heap.size w w' := by
  go_enter Try.func45, Try.ntmps45
  go_wp2_with fail
  refine (macSum_any s x _ hs hx).mono ?_
  rintro e w1 ⟨rfl, hb1⟩
  have hz := macSum_size s x
  generalize hW : MacSum s x = W at *
  have HW := Lib.hid hW; clear hW
  have z1 : W.size ≤ 32 := by omega
  have z2 : 32 ≤ W.size := by omega
  by_cases hne : u.size = 32
  · have u1 : u.size ≤ 32 := by omega
    have u2 : 32 ≤ u.size := by omega
    have e0 : ((W.size : Int) != (u.size : Int)) = false := by rw [bne_eq_false_iff_eq]; omega
    have HZ := Lib.hid hz; have HNE := Lib.hid hne; clear hz hne
    go_wp2
    clear e0
    go_loopw [8, 20] (fun z i wr => ∃ (k : Nat) (n : Nat), k ≤ u.size ∧ i = .int .i64 k ∧ z = .int .u8 n ∧ n < 256 ∧ Hid (n = 0 ↔ W.data.toList.take k = u.data.toList.take k) ∧ Below w.heap.size w wr) (fun _ i _ => u.size - (intOf i).toNat)
    case atStart => exact ⟨0, 0, Nat.zero_le _, rfl, rfl, by decide, Lib.hid (by simp), hb1⟩
    case round =>
      clear hb1
      obtain ⟨k, n, hk, rfl, rfl, hn, HN, hb⟩ := hrel
      by_cases hlt : k < u.size
      · have hltW : k < W.size := by omega
        have i1 : (0 : Int) ≤ (k : Int) := by omega
        have i2 : (k : Int) < (u.size : Int) := by omega
        have i3 : (k : Int) < (W.size : Int) := by omega
        have s1 := take_snocB W k hltW
        have s2 := take_snocB u k hlt
        have ha := UInt8.toNat_lt W[k]
        have hb' := UInt8.toNat_lt u[k]
        have e1 := u8_xor_nat W[k].toNat u[k].toNat ha hb'
        have hxl : W[k].toNat ^^^ u[k].toNat < 256 := Nat.xor_lt_two_pow (n := 8) ha hb'
        have e2 := u8_or_nat n (W[k].toNat ^^^ u[k].toNat) hn hxl
        have hol : n ||| (W[k].toNat ^^^ u[k].toNat) < 256 := Nat.or_lt_two_pow (n := 8) hn hxl
        have hnew : Hid (n ||| (W[k].toNat ^^^ u[k].toNat) = 0 ↔ W.data.toList.take (k + 1) = u.data.toList.take (k + 1)) := by
          unfold Hid
          rw [s1, s2, or_xor_zero, HN.out]
          constructor
          · rintro ⟨h1, h2⟩
            rw [h1, UInt8.toNat_inj.1 h2]
          · intro h
            have := List.append_inj' h rfl
            refine ⟨this.1, ?_⟩
            have h2 := this.2
            injection h2 with h2
            rw [h2]
        generalize W[k].toNat ^^^ u[k].toNat = y at *
        generalize hq : n ||| y = q at *
        have HQ := Lib.hid hq
        clear s1 s2 hq hxl
        go_wp2
        go_quiet (fail)
        clear e1 e2
        go_wp2
        go_roundw
        case rel => exact ⟨k + 1, q, by omega, by go_num, rfl, hol, hnew, drewN_ hb _⟩
        case measure => simp [intOf]; omega
      · have HK : Hid (k = u.size) := Lib.hid (by omega)
        have i3 : (u.size : Int) ≤ (k : Int) := by omega
        go_wp2
        go_ret
        refine ⟨ret_bool ?_, hb⟩
        rw [HW.out]
        have h1 := HN.out
        rw [HK.out, List.take_of_length_le (by simp; omega), List.take_of_length_le (by simp)] at h1
        rw [Bool.eq_iff_iff, decide_eq_true_eq, beq_iff_eq]
        constructor
        · intro h
          have : n = 0 := by omega
          exact WideShapes.bytes_inj (h1.1 this)
        · intro h
          have : n = 0 := h1.2 (by rw [h])
          omega
  · have e0 : ((W.size : Int) != (u.size : Int)) = true := by rw [bne_iff_ne]; omega
    have hd : decide (W = u) = false := by rw [decide_eq_false_iff_not]; rintro rfl; omega
    have HD := Lib.hid hd; clear hd
    go_wp2
    go_ret
    exact ⟨ret_bool (by rw [HW.out, HD.out]), hb1⟩

def fox : ByteArray := ⟨#[84, 104, 101, 32, 113, 117, 105, 99, 107, 32, 98, 114, 111, 119, 110, 32, 102, 111, 120, 32, 106, 117, 109, 112, 115, 32, 111, 118, 101, 114, 32, 116, 104, 101, 32, 108, 97, 122, 121, 32, 100, 111, 103]⟩
set_option maxRecDepth 100000 in
theorem mac_fox : bs (Sha.digits (MacSum ⟨#[107, 101, 121]⟩ fox).data.toList) = ⟨#[102, 55, 98, 99, 56, 51, 102, 52, 51, 48, 53, 51, 56, 52, 50, 52, 98, 49, 51, 50, 57, 56, 101, 54, 97, 97, 54, 102, 98, 49, 52, 51, 101, 102, 52, 100, 53, 57, 97, 49, 52, 57, 52, 54, 49, 55, 53, 57, 57, 55, 52, 55, 57, 100, 98, 99, 50, 100, 49, 97, 51, 99, 100, 56]⟩ := by decide +kernel
set_option maxRecDepth 100000 in
theorem mac_x : decide (MacSum ⟨#[107, 101, 121]⟩ ⟨#[120]⟩ = MacSum ⟨#[107, 101, 121]⟩ fox) = false := by decide +kernel
set_option maxRecDepth 100000 in
set_option maxHeartbeats 1000000 in
theorem awake03_any (w : World) : Calls Try.prog 44 #[] w fun e w' => e = .returned (.bool true) ∧ Below w.heap.size w w' := by
  have h1 := mac_fox
  have h2 := mac_x
  have hz := macSum_size ⟨#[107, 101, 121]⟩ fox
  have hfz : fox.size = 43 := rfl
  unfold fox at h1 h2 hz
  go_enter Try.func44, Try.ntmps44
  have H1 := Lib.hid h1; have H2 := Lib.hid h2; clear h1 h2
  go_wp2_with fail
  refine (macSum_any _ _ _ (by decide) (by decide)).mono ?_
  rintro e w1 ⟨rfl, hb1⟩
  generalize hM : MacSum ⟨#[107, 101, 121]⟩ ⟨#[84, 104, 101, 32, 113, 117, 105, 99, 107, 32, 98, 114, 111, 119, 110, 32, 102, 111, 120, 32, 106, 117, 109, 112, 115, 32, 111, 118, 101, 114, 32, 116, 104, 101, 32, 108, 97, 122, 121, 32, 100, 111, 103]⟩ = M at *
  have HM := Lib.hid hM; clear hM
  go_wp2_with fail
  refine (refDigits_any M _ (by omega)).mono ?_
  rintro e w2 ⟨rfl, hb2⟩
  have hb2 := then_ hb1 hb2
  rw [H1.out]
  go_wp2_with fail
  refine (macIs_any _ _ M _ (by decide) (by decide) (by omega)).mono ?_
  rintro e w3 ⟨rfl, hb3⟩
  have hb3 := then_ hb2 hb3
  rw [HM.out, decide_eq_true (rfl : M = M)]
  go_wp2_with fail
  refine (macIs_any _ _ M _ (by decide) (by decide) (by omega)).mono ?_
  rintro e w4 ⟨rfl, hb4⟩
  have hb4 := then_ hb3 hb4
  rw [H2.out]
  go_wp2
  go_ret
  exact ⟨rfl, hb4⟩
end Go.Proofs.Ytejfnkialhlkmaa
