/- The walks of the laws CrcParts and CrcFinds. -/
import Derived.Test.YtendagkbaihgiaaCrcWalk
import Derived.RegionTactic
import Derived.ChangeAlike
import Derived.BigRegion
namespace Go.Proofs.Ytendagkbaihgiaa
open Go.RowKit

set_option maxHeartbeats 400000 in
theorem crcParts_walk (a : ByteArray) (ha : a.size ≤ maxLen) (b : ByteArray) (hb : b.size ≤ maxLen) (w : World) :
    Calls Try.prog 4 #[.string a, .string b] w fun e w' => e = .returned (.bool true) ∧ Below w.heap.size w w' := by
  by_cases h1 : 1024 < a.size
  · go_enter Try.func4, Try.ntmps4
    go_wp2_with fail
    refine (awake4_any _).mono ?_
    rintro e w1 ⟨rfl, hb1⟩
    go_wp2
    go_ret
    exact ⟨rfl, hb1⟩
  by_cases h2 : 1024 < b.size
  · go_enter Try.func4, Try.ntmps4
    go_wp2_with fail
    refine (awake4_any _).mono ?_
    rintro e w1 ⟨rfl, hb1⟩
    go_wp2
    go_ret
    exact ⟨rfl, hb1⟩
  · go_enter Try.func4, Try.ntmps4
    go_wp2_with fail
    refine (sum_any _ (by simp [maxLen]; omega) _).mono ?_
    rintro e w1 ⟨rfl, hb1⟩
    go_wp2_with fail
    refine (sum_any _ ha _).mono ?_
    rintro e w2 ⟨rfl, hb2⟩
    go_wp2_with fail
    refine (more_any _ _ hb _).mono ?_
    rintro e w3 ⟨rfl, hb3⟩
    rw [Crc.sum_append]
    go_wp2_with fail
    refine (awake4_any _).mono ?_
    rintro e w5 ⟨rfl, hb5⟩
    go_wp2
    go_ret
    exact ⟨rfl, hb1.trans ((hb2.mono hb1.size).trans ((hb3.mono (Nat.le_trans hb1.size hb2.size)).trans (hb5.mono (Nat.le_trans hb1.size (Nat.le_trans hb2.size hb3.size)))))⟩

/-- a byte of a list changed by the 'i'-th byte of a number -/
def flip (k bts : Nat) (l : List UInt8) (i : Nat) : List UInt8 := l.set (k + i) (UInt8.ofNat ((l.getD (k + i) 0).toNat ^^^ bts / 256 ^ i % 256))
/-- the first 'j' of four bytes changed -/
def flips (l : List UInt8) (k bts : Nat) : Nat → List UInt8
  | 0 => l
  | j + 1 => flip k bts (flips l k bts j) j
theorem flips_length (l : List UInt8) (k bts j : Nat) : (flips l k bts j).length = l.length := by
  induction j with
  | zero => rfl
  | succ j ih => simp [flips, flip, ih]

theorem flip_mid (p q : List UInt8) (c : UInt8) (bts i k : Nat) (h : p.length = k + i) : flip k bts (p ++ c :: q) i = p ++ UInt8.ofNat (c.toNat ^^^ bts / 256 ^ i % 256) :: q := by
  unfold flip
  rw [← h]
  simp [List.getD]
theorem ofNat_toNat (n : Nat) (h : n < 256) : (UInt8.ofNat n).toNat = n := by simp [UInt8.toNat_ofNat']; omega
theorem xor_byte (c : UInt8) (m : Nat) : (UInt8.ofNat (c.toNat ^^^ m % 256)).toNat = c.toNat ^^^ m % 256 :=
  ofNat_toNat _ (Nat.xor_lt_two_pow (n := 8) c.toNat_lt (by omega))

theorem flips_sum (l : List UInt8) (k bts : Nat) (hk : k + 4 ≤ l.length) (hb : bts < 4294967296) (h0 : bts ≠ 0) : Crc.sum 0 (flips l k bts 4) ≠ Crc.sum 0 l := by
  obtain ⟨p, b0, b1, b2, b3, q, rfl, hp⟩ : ∃ p b0 b1 b2 b3 q, l = p ++ b0 :: b1 :: b2 :: b3 :: q ∧ p.length = k := by
    refine ⟨l.take k, l[k], l[k + 1], l[k + 2], l[k + 3], l.drop (k + 4), ?_, by simp; omega⟩
    rw [← List.drop_eq_getElem_cons, ← List.drop_eq_getElem_cons, ← List.drop_eq_getElem_cons, ← List.drop_eq_getElem_cons, List.take_append_drop]
  have e : flips (p ++ b0 :: b1 :: b2 :: b3 :: q) k bts 4 = p ++ UInt8.ofNat (b0.toNat ^^^ bts / 256 ^ 0 % 256) :: UInt8.ofNat (b1.toNat ^^^ bts / 256 ^ 1 % 256) :: UInt8.ofNat (b2.toNat ^^^ bts / 256 ^ 2 % 256) :: UInt8.ofNat (b3.toNat ^^^ bts / 256 ^ 3 % 256) :: q := by
    simp only [flips]
    rw [flip_mid p _ b0 bts 0 k (by omega)]
    rw [show ∀ x, p ++ x :: b1 :: b2 :: b3 :: q = (p ++ [x]) ++ b1 :: b2 :: b3 :: q by simp, flip_mid _ _ b1 bts 1 k (by simp; omega)]
    rw [show ∀ x y, p ++ [x] ++ y :: b2 :: b3 :: q = (p ++ [x, y]) ++ b2 :: b3 :: q by simp, flip_mid _ _ b2 bts 2 k (by simp; omega)]
    rw [show ∀ x y z, p ++ [x, y] ++ z :: b3 :: q = (p ++ [x, y, z]) ++ b3 :: q by simp, flip_mid _ _ b3 bts 3 k (by simp; omega)]
    simp
  rw [e]
  intro he
  unfold Crc.sum at he
  have he' := congrArg Crc.inv he
  rw [Crc.inv_inv (Crc.more_lt _ (Crc.inv_lt _)), Crc.inv_inv (Crc.more_lt _ (Crc.inv_lt _))] at he'
  rw [Crc.more_append, Crc.more_append] at he'
  have hn : Crc.more (Crc.inv ((0 : Int) % 4294967296).toNat) p < 2 ^ 32 := Crc.more_lt p (Crc.inv_lt _)
  generalize Crc.more (Crc.inv ((0 : Int) % 4294967296).toNat) p = n at he' hn
  have hq := Crc.four bts (by omega)
  have hz : Crc.steps 32 bts ≠ 0 := fun hz => h0 (Crc.steps_zero 32 (by omega) hz)
  simp only [Crc.more, List.foldl_cons] at he'
  rw [xor_byte, xor_byte, xor_byte, xor_byte] at he'
  have key : ∀ n' e', Crc.byte n' (b0.toNat ^^^ e') = Crc.byte n' b0.toNat ^^^ Crc.byte 0 e' := fun n' e' => by
    rw [← Crc.byte_xor, Nat.xor_zero]
  rw [key, Crc.byte_xor, Crc.byte_xor, Crc.byte_xor] at he'
  simp only [Nat.pow_zero, Nat.div_one, Nat.pow_one, show 256 ^ 2 = 65536 from rfl, show 256 ^ 3 = 16777216 from rfl] at he'
  rw [hq] at he'
  have hx := Crc.byte_lt (Crc.byte_lt (Crc.byte_lt (Crc.byte_lt hn b0.toNat_lt) b1.toNat_lt) b2.toNat_lt) b3.toNat_lt
  generalize Crc.byte (Crc.byte (Crc.byte (Crc.byte n b0.toNat) b1.toNat) b2.toNat) b3.toNat = X at he' hx
  have hl := Crc.steps_lt 32 (n := bts) (by omega)
  have hi := Crc.more_inj q (Nat.xor_lt_two_pow hx hl) hx he'
  apply hz
  have := congrArg (X ^^^ ·) hi
  simpa [← Nat.xor_assoc] using this

theorem add_none (b o j : Nat) : (⟨b, o, none⟩ : Addr).add j = ⟨b, o + j, none⟩ := by
  unfold Addr.add
  split
  · rename_i h; subst h; rfl
  · rfl

/-- the bytes of a list as the cells of a block, from its head on -/
def BytesAt (w : World) (b : Nat) (l : List UInt8) : Prop :=
  ∀ i, i < l.length → w.cell? ⟨b, i, none⟩ = some (.int .u8 (l.getD i 0).toNat) ∧ w.frozen? ⟨b, i, none⟩ = false

theorem bytesAt_new (w : World) (e : TypeId) (s : ByteArray) : BytesAt (Lib.bytesWorld w e s) w.heap.size s.data.toList := by
  intro i hi
  have hi' : i < s.size := hi
  refine ⟨Lib.bytesWorld_cell w e s i hi', ?_⟩
  have h := Lib.bytesWorld_at_new w e s
  have hz : s.size ≤ (Lib.bytesCells w e s).size := by simp [Lib.bytesCells]
  simp [World.frozen?, h]
  omega

theorem BytesAt.set {w : World} {b : Nat} {l : List UInt8} (h : BytesAt w b l) (k : Nat) (hk : k < l.length) (c : UInt8) :
    BytesAt (w.setCell ⟨b, k, none⟩ (.int .u8 c.toNat)) b (l.set k c) := by
  intro i hi
  have hi' : i < l.length := by simpa using hi
  obtain ⟨h1, h2⟩ := h i hi'
  refine ⟨?_, by rw [World.frozen?_setCell]; exact h2⟩
  by_cases e : k = i
  · subst e
    rw [World.cell?_setCell_same _ _ _ h1]
    simp [List.getD, hk]
  · rw [World.cell?_setCell_other _ _ _ _ (fun h => e (by injection h)), h1]
    simp [List.getD, e]

set_option maxHeartbeats 400000 in
theorem crcFinds_walk (s : ByteArray) (hs : s.size ≤ maxLen) (at_ : Int) (hat : (Lit.int .u16 at_).wf = true) (bts : Int) (hbits : (Lit.int .u32 bts).wf = true) (w : World) :
    Calls Try.prog 5 #[.string s, .int .u16 at_, .int .u32 bts] w fun e w' => e = .returned (.bool true) ∧ Below w.heap.size w w' := by
  have ha : 0 ≤ at_ ∧ at_ ≤ 65535 := by simpa [Lit.wf, IntKind.min, IntKind.max, IntKind.signed, IntKind.bits] using hat
  have hb : 0 ≤ bts ∧ bts ≤ 4294967295 := by simpa [Lit.wf, IntKind.min, IntKind.max, IntKind.signed, IntKind.bits] using hbits
  clear hat hbits
  by_cases hgo : 1024 < s.size ∨ s.size < 4 ∨ bts = 0
  · by_cases h1 : 1024 < s.size
    · go_enter Try.func5, Try.ntmps5
      go_wp2_with fail
      refine (awake4_any _).mono ?_
      rintro e w1 ⟨rfl, hb1⟩
      go_wp2
      go_ret
      exact ⟨rfl, hb1⟩
    by_cases h2 : s.size < 4
    · go_enter Try.func5, Try.ntmps5
      go_wp2_with fail
      refine (awake4_any _).mono ?_
      rintro e w1 ⟨rfl, hb1⟩
      go_wp2
      go_ret
      exact ⟨rfl, hb1⟩
    obtain rfl : bts = 0 := by omega
    clear hgo
    go_enter Try.func5, Try.ntmps5
    go_wp2_with fail
    refine (awake4_any _).mono ?_
    rintro e w1 ⟨rfl, hb1⟩
    go_wp2
    go_ret
    exact ⟨rfl, hb1⟩
  have g1 : ¬ 1024 < s.size := by omega
  have g2 : ¬ s.size < 4 := by omega
  have g3 : (bts == 0) = false := by simp; omega
  have g1' : decide (1024 < (s.size : Int)) = false := by simp; omega
  have g2' : decide ((s.size : Int) < 4) = false := by simp; omega
  clear hgo
  obtain ⟨bn, rfl⟩ : ∃ bn : Nat, bts = bn := ⟨bts.toNat, by omega⟩
  obtain ⟨k, hk⟩ : ∃ k : Nat, at_ % ((s.size : Int) - 3) = k := ⟨(at_ % ((s.size : Int) - 3)).toNat, by
    have := Int.emod_nonneg at_ (b := (s.size : Int) - 3) (by omega); omega⟩
  have hk4 : k + 4 ≤ s.size := by
    have := Int.emod_lt_of_pos at_ (b := (s.size : Int) - 3) (by omega); omega
  have hconv := Lib.run_convert_string_bytes (P := Try.prog) w 9 29 5 s Try.underlying9 Try.underlying29 Try.underlying5
  go_enter Try.func5, Try.ntmps5
  go_wp2_with fail
  rw [hk]
  clear hk hconv
  go_loopw [9] (fun i wr => ∃ j : Nat, j ≤ 4 ∧ i = .int .i64 j ∧ BytesAt wr w.heap.size (flips s.data.toList k bn j) ∧ Below w.heap.size w wr) (fun i _ => 4 - (intOf i).toNat)
  case atStart => exact ⟨0, by omega, rfl, bytesAt_new _ _ _, below_bytes _ _ _⟩
  case round =>
    obtain ⟨j, hj, rfl, hby, hbel⟩ := hrel
    by_cases hlt : j < 4
    · have hln := flips_length s.data.toList k bn j
      have hls : s.data.toList.length = s.size := rfl
      obtain ⟨hcell, hfro⟩ := hby (k + j) (by omega)
      have e1 : IntKind.i64.wrap ((k : Int) + (j : Int)) = (k : Int) + (j : Int) := IntWalk.i64_in _ (by omega)
      have e2 : 0 ≤ (k : Int) + (j : Int) := by omega
      have e3 : (k : Int) + (j : Int) < (s.size : Int) := by omega
      have e0 : ((k : Int) + (j : Int)).toNat = k + j := by omega
      have hset := hby.set (k + j) (by omega) (UInt8.ofNat (((flips s.data.toList k bn j).getD (k + j) 0).toNat ^^^ bn / 256 ^ j % 256))
      have HS := Lib.hid hset
      clear hset hby hln hls
      generalize hc : (flips s.data.toList k bn j).getD (k + j) 0 = c at hcell
      have HC := Lib.hid hc; clear hc
      go_wp2
      go_region
      go_wp2
      go_roundw
      case rel =>
        refine ⟨j + 1, by omega, by go_num, ?_, (hbel.setCell (Nat.le_refl _) _).drew⟩
        have := HS.out
        rw [HC.out, xor_byte] at this
        have e4 : bits .xor .u8 (c.toNat : Int) ((bn : Int) / 2 ^ (8 * j) % 256) = ((c.toNat ^^^ bn / 256 ^ j % 256 : Nat) : Int) := by
          have e5 : ((bn : Int) / 2 ^ (8 * j) % 256) = ((bn / 256 ^ j % 256 : Nat) : Int) := by
            rw [Int.natCast_emod, Int.natCast_ediv, Int.natCast_pow, Int.pow_mul]; rfl
          rw [e5]
          exact u8_xor_nat _ _ c.toNat_lt (by omega)
        rw [e4]
        unfold flips flip
        rw [HC.out]
        exact this
      case measure => simp [intOf]; omega
    · obtain rfl : j = 4 := by omega
      have hln : (flips s.data.toList k bn 4).length = s.size := flips_length s.data.toList k bn 4
      have hne := flips_sum s.data.toList k bn hk4 (by omega) (by simp at g3; exact g3)
      have hback := run_convert_bytes_back (P := Try.prog) wr 29 9 5 ⟨w.heap.size, 0, none⟩ (grownCap w s.size 0 5) (flips s.data.toList k bn 4) Try.underlying29 Try.underlying5 Try.underlying9
        (fun j hj => by have := (hby j hj).1; rw [add_none]; simpa [List.getD, hj] using this)
      rw [hln] at hback
      generalize hfl : flips s.data.toList k bn 4 = fl at hback hne hln
      clear hfl hby
      have hne' : ((Crc.sum 0 fl : Nat) : Int) ≠ (Crc.sum 0 s.data.toList : Nat) := fun h => hne (by omega)
      have hbne : (((Crc.sum 0 fl : Nat) : Int) != (Crc.sum 0 s.data.toList : Nat)) = true := by simpa using hne'
      clear hne hne'
      go_wp2_with fail
      refine (sum_any _ (by unfold maxLen; show fl.length ≤ _; omega) _).mono ?_
      rintro e w1 ⟨rfl, hb1⟩
      go_wp2_with fail
      refine (sum_any _ hs _).mono ?_
      rintro e w2 ⟨rfl, hb2⟩
      go_wp2_with fail
      refine (awake4_any _).mono ?_
      rintro e w5 ⟨rfl, hb5⟩
      go_wp2
      go_ret
      exact ⟨rfl, hbel.trans ((hb1.mono hbel.size).trans ((hb2.mono (Nat.le_trans hbel.size hb1.size)).trans (hb5.mono (Nat.le_trans hbel.size (Nat.le_trans hb1.size hb2.size)))))⟩
end Go.Proofs.Ytendagkbaihgiaa
