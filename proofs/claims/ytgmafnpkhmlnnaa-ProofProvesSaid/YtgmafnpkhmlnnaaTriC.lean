/- Whether leaves are those of a bucket: the code's and the document's. -/
import Derived.Test.YtgmafnpkhmlnnaaTriB
attribute [local go_sem ↓] Go.wp_at_zero Go.wp_at_succ
namespace Go.Proofs.Ytgmafnpkhmlnnaa
open Go.RowKit Go.Mem Go.Num Go.Tri
set_option linter.unusedVariables false
set_option linter.unusedSimpArgs false

/-- whether leaves are those of a bucket, by such hashes, under a root -/
def chkB (root : ByteArray) (k : Int) (l : List Leaf) (ss : List ByteArray) : Bool :=
  decide (0 ≤ k ∧ k < 64 ∧ ss.length = 6 ∧ climb hashT k.toNat (hashT (leavesT l)) ss = root)
theorem climb_cons (hT : List ByteArray → ByteArray) (k : Nat) (s o : ByteArray) (r : List ByteArray) : climb hT k s (o :: r) = climb hT (k / 2) (hT (pairOf k s o)) r := rfl
theorem quo_two (k : Nat) : ((k : Int)).tdiv 2 = ((k / 2 : Nat) : Int) := by rw [Int.tdiv_eq_ediv_of_nonneg (by omega)]; omega
theorem rem_two (k : Nat) : ((k : Int)).tmod 2 = ((k % 2 : Nat) : Int) := by rw [Int.tmod_eq_emod_of_nonneg (by omega)]; omega
theorem quo_two' (k : Nat) : ((k : Int)) / 2 = ((k / 2 : Nat) : Int) := by omega
theorem rem_two' (k : Nat) : ((k : Int)) % 2 = ((k % 2 : Nat) : Int) := by omega
set_option maxRecDepth 100000 in
set_option maxHeartbeats 4000000 in
theorem check_any (root : ByteArray) (k : Int) (A : Option Addr) (n c : Nat) (l : List Leaf) (B : Option Addr) (m d : Nat) (ss : List ByteArray) (w : World) (hr : Rd w A (leafc l)) (hn : l.length = n) (hm : n ≤ 1000) (hok : ∀ m ∈ l, smallL m)
    (hr2 : Rd w B (ss.map Value.string)) (hn2 : ss.length = m) (hm2 : m ≤ maxLen) (hok2 : ∀ s ∈ ss, s.size ≤ 100000) :
    Calls Try.prog 43 #[.string root, .int .i64 k, .slice A n c, .slice B m d] w fun e w' => e = .returned (.bool (chkB root k l ss)) ∧ Below w.heap.size w w' := by
  have HR := Lib.hid hr; have HN := Lib.hid hn; have HR2 := Lib.hid hr2; have HN2 := Lib.hid hn2; have HOK := Lib.hid hok; have HOK2 := Lib.hid hok2
  clear hr hn hok hr2 hn2 hok2
  unfold maxLen at hm2
  by_cases h0 : k < 0
  · have hF : chkB root k l ss = false := by unfold chkB; rw [decide_eq_false]; intro h; omega
    rw [hF]
    have HF := Lib.hid hF; clear hF
    go_enter Try.func43, Try.ntmps43
    go_wp2
    go_ret
    exact ⟨rfl, Below.refl _ _⟩
  by_cases h1 : 64 ≤ k
  · have hF : chkB root k l ss = false := by unfold chkB; rw [decide_eq_false]; intro h; omega
    rw [hF]
    have HF := Lib.hid hF; clear hF
    go_enter Try.func43, Try.ntmps43
    go_wp2
    go_ret
    exact ⟨rfl, Below.refl _ _⟩
  obtain ⟨kn, rfl⟩ : ∃ kn : Nat, k = kn := ⟨k.toNat, by omega⟩
  by_cases h6 : m = 6
  rotate_left
  · have hF : chkB root kn l ss = false := by unfold chkB; rw [decide_eq_false]; intro h; exact h6 (by rw [← HN2.out]; exact h.2.2.1)
    rw [hF]
    have HF := Lib.hid hF; clear hF
    have hne : ((m : Int) != 6) = true := by simp; omega
    go_enter Try.func43, Try.ntmps43
    go_wp2
    go_ret
    exact ⟨rfl, Below.refl _ _⟩
  subst h6
  have HC : Hid (chkB root kn l ss = decide (climb hashT kn (hashT (leavesT l)) ss = root)) := Lib.hid (by
    unfold chkB; rw [decide_eq_decide]; constructor
    · intro h; simpa using h.2.2.2
    · intro h; exact ⟨by omega, by omega, HN2.out, by simpa using h⟩)
  rw [HC.out]
  clear HC
  go_enter Try.func43, Try.ntmps43
  go_wp2_with fail
  refine (leaf_any A n c l w HR.out HN.out hm HOK.out).mono ?_
  rintro e w1 ⟨rfl, hb1⟩
  have HR2 := Lib.hid (HR2.out.below hb1); have HB := Lib.hid hb1
  have hz0 := hashT_size (leavesT l)
  generalize hs0 : hashT (leavesT l) = s0 at hz0 ⊢
  have HS0 := Lib.hid hs0
  clear hs0
  clear hb1 HR
  go_wp2
  have HZ0 := Lib.hid hz0
  clear hz0
  go_loopw [1, 9, 27] (fun kb sv i wr => ∃ (j q : Nat) (s : ByteArray), j ≤ 6 ∧ i = .int .i64 j ∧ kb = .int .i64 q ∧ q < 64 ∧ sv = .string s ∧ s.size = 32 ∧ Hid (climb hashT q s (ss.drop j) = climb hashT kn s0 ss) ∧ Below w1.heap.size w1 wr) (fun _ _ i _ => 6 - (intOf i).toNat)
  case atStart => exact ⟨0, kn, s0, Nat.zero_le _, rfl, rfl, by omega, rfl, HZ0.out, Lib.hid rfl, Below.refl _ _⟩
  case round =>
    obtain ⟨j, q, s, hj, rfl, rfl, hq, rfl, hsz, HC, hbel⟩ := hrel
    by_cases hlt : j < 6
    · have hx : j < ss.length := by have := HN2.out; omega
      obtain ⟨b, off, rfl, hcell⟩ := (HR2.out.below hbel).at_ j (by simpa using hx)
      simp only [List.getElem_map] at hcell
      have hoz := HOK2.out ss[j] (List.getElem_mem hx)
      have HD := Lib.hid (show ss.drop j = ss[j] :: ss.drop (j + 1) from List.drop_eq_getElem_cons hx)
      generalize ss[j] = o at hcell hoz HD
      rw [HD.out, climb_cons] at HC
      have HBL := Lib.hid hbel
      have HQ2 := Lib.hid (quo_two q); have HRM := Lib.hid (rem_two q)
      have hq2 := quo_two q; have hrm := rem_two q
      have hj6 : ((j : Int) < 6) := by omega
      clear hbel HD
      by_cases hev : q % 2 = 0
      · have hP : pairOf q s o = [s, o] := by unfold pairOf; rw [if_pos hev]
        rw [hP] at HC
        have hdd : ((q : Int).tmod 2 == 0) = true := by rw [rem_two, hev]; rfl
        have HDD := Lib.hid hdd
        clear hP
        go_wp2_with fail
        refine (both_any s o wr (by omega)).mono ?_
        rintro e w2 ⟨rfl, hb2⟩
        have hz2 := hashT_size [s, o]
        generalize hashT [s, o] = s2 at hz2 HC ⊢
        have HZ2 := Lib.hid hz2; have HB2 := Lib.hid (then_ HBL.out hb2)
        clear hz2 hb2
        go_wp2
        go_roundw
        case rel => exact ⟨j + 1, q / 2, s2, by omega, by go_num, by first | rfl | (rw [HQ2.out]), by omega, rfl, HZ2.out, HC, HB2.out⟩
        case measure => simp [intOf]; omega
      · have hP : pairOf q s o = [o, s] := by unfold pairOf; rw [if_neg hev]
        rw [hP] at HC
        have hdd : ((q : Int).tmod 2 == 0) = false := by rw [rem_two]; simp; omega
        have HDD := Lib.hid hdd
        clear hP
        go_wp2_with fail
        refine (both_any o s wr (by omega)).mono ?_
        rintro e w2 ⟨rfl, hb2⟩
        have hz2 := hashT_size [o, s]
        generalize hashT [o, s] = s2 at hz2 HC ⊢
        have HZ2 := Lib.hid hz2; have HB2 := Lib.hid (then_ HBL.out hb2)
        clear hz2 hb2
        go_wp2
        go_roundw
        case rel => exact ⟨j + 1, q / 2, s2, by omega, by go_num, by first | rfl | (rw [HQ2.out]), by omega, rfl, HZ2.out, HC, HB2.out⟩
        case measure => simp [intOf]; omega
    · obtain rfl : j = 6 := by omega
      have HCC : Hid (s = climb hashT kn s0 ss) := Lib.hid (by
        have := HC.out
        rw [List.drop_of_length_le (by rw [HN2.out]; exact Nat.le_refl _)] at this
        exact this)
      have HB2 := Lib.hid (then_ HB.out hbel)
      have HSB := Lib.hid (str_beq s root)
      have HCC2 := HCC
      clear hbel HC HCC
      go_wp2
      go_ret
      exact ⟨by rw [HS0.out, ← HCC2.out, ← HSB.out]; rfl, HB2.out⟩
end Go.Proofs.Ytgmafnpkhmlnnaa
