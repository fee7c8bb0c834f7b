/- The walk of the law MoveParts. -/
import Derived.Test.YtebfmacbdjnhbaaMoveE
namespace Go.Proofs.Ytebfmacbdjnhbaa
open Go.RowKit Go.Mem
set_option linter.unusedVariables false

theorem parts_len (was now : List ByteArray) : (gainsL was now).length + (restsL was now).length = now.length := by
  unfold gainsL restsL
  induction now with
  | nil => rfl
  | cons s l ih => by_cases h : mem s was <;> simp [h] <;> omega
theorem parts_apart (was now : List ByteArray) : restsL (gainsL was now) (restsL was now) = [] := by
  unfold restsL gainsL
  rw [List.filter_eq_nil_iff]
  intro s hs hm
  rw [List.mem_filter] at hs
  rw [mem_iff, List.mem_filter] at hm
  simp [hs.2] at hm
theorem parts_in (was now : List ByteArray) : gainsL now (gainsL was now) = [] := by
  unfold gainsL
  rw [List.filter_eq_nil_iff]
  intro s hs
  rw [List.mem_filter] at hs
  simp [mem_iff.2 hs.1]
theorem parts_own (now : List ByteArray) : gainsL now now = [] := by
  unfold gainsL
  rw [List.filter_eq_nil_iff]
  intro s hs
  simp [mem_iff.2 hs]

set_option maxRecDepth 100000 in
set_option maxHeartbeats 2000000 in
theorem moveParts_walk (A : Option Addr) (n c : Nat) (ss : List ByteArray) (B : Option Addr) (m d : Nat) (ts : List ByteArray) (w : World) (hr : Rd w A (ss.map Value.string)) (hn : ss.length = n) (hm : n ≤ maxLen)
    (hr' : Rd w B (ts.map Value.string)) (hn' : ts.length = m) (hm' : m ≤ maxLen) :
    Calls Try.prog 7 #[.slice A n c, .slice B m d] w fun e w' => e = .returned (.bool true) ∧ Below w.heap.size w w' := by
  have HN := Lib.hid hn; have HN' := Lib.hid hn'; clear hn hn'
  go_enter Try.func7, Try.ntmps7
  go_wp2_with fail
  refine (few19_any A n c ss 40 w hr HN.out hm (by omega)).mono ?_
  rintro e w1 ⟨rfl, rfl⟩
  generalize hf : fewT ss 40 = b1
  have HF1 := Lib.hid hf; clear hf
  cases b1
  · go_wp2_with fail
    refine (awake20_any _).mono ?_
    rintro e w1 ⟨rfl, hb1⟩
    go_wp2
    go_ret
    exact ⟨rfl, hb1⟩
  go_wp2_with fail
  refine (few19_any B m d ts 40 w hr' HN'.out hm' (by omega)).mono ?_
  rintro e w1 ⟨rfl, rfl⟩
  generalize hf : fewT ts 40 = b2
  have HF2 := Lib.hid hf; clear hf
  cases b2
  · go_wp2_with fail
    refine (awake20_any _).mono ?_
    rintro e w1 ⟨rfl, hb1⟩
    go_wp2
    go_ret
    exact ⟨rfl, hb1⟩
  have hl1 : n ≤ 40 := by have := (fewT_true HF1.out).1; rw [HN.out] at this; exact this
  have hl2 : m ≤ 40 := by have := (fewT_true HF2.out).1; rw [HN'.out] at this; exact this
  clear hm hm' HF1 HF2
  go_wp2_with fail
  refine (gains_any A n c ss B m d ts w hr HN.out (by omega) hr' HN'.out (by omega)).mono ?_
  rintro e w1 ⟨v1, rfl, ho1, hb1⟩
  obtain ⟨G1, c1, rfl⟩ := own_form ho1
  have hg1 := Rd.of_own ho1
  clear ho1
  go_wp2_with fail
  refine (rests_any A n c ss B m d ts w1 (hr.below hb1) HN.out (by omega) (hr'.below hb1) HN'.out (by omega)).mono ?_
  rintro e w2 ⟨v2, rfl, ho2, hb2⟩
  obtain ⟨G2, c2, rfl⟩ := own_form ho2
  have hg2 := Rd.of_own ho2
  have hg1 := hg1.below hb2
  have hbw := then_ hb1 hb2
  clear ho2 hb1 hb2
  have hlen := parts_len ss ts
  rw [HN'.out] at hlen
  have hp1 := parts_apart ss ts
  have hp2 := parts_in ss ts
  have hp3 := parts_own ts
  generalize gainsL ss ts = ga at hg1 hlen hp1 hp2 ⊢
  generalize restsL ss ts = re at hg2 hlen hp1 ⊢
  have hbe : (((ga.length : Int) + (re.length : Int)) == (m : Int)) = true := by simp; omega
  have hga : ga.length ≤ 40 := by omega
  have hre : re.length ≤ 40 := by omega
  have HP1 := Lib.hid hp1; have HP2 := Lib.hid hp2; have HP3 := Lib.hid hp3; clear hlen hp1 hp2 hp3
  go_wp2_with fail
  refine (rrests_any G1 _ c1 ga G2 _ c2 re w2 hg1 rfl (by omega) hg2 rfl (by omega)).mono ?_
  rintro e w3 ⟨v3, rfl, ho3, hb3⟩
  rw [HP1.out] at ho3
  obtain ⟨G3, c3, rfl⟩ := own_form ho3
  have hg1 := hg1.below hb3
  have hbw := then_ hbw hb3
  clear hb3 ho3 hg2
  go_wp2_with fail
  refine (rgains_any B m d ts G1 _ c1 ga w3 (hr'.below hbw) HN'.out (by omega) hg1 rfl (by omega)).mono ?_
  rintro e w4 ⟨v4, rfl, ho4, hb4⟩
  rw [HP2.out] at ho4
  obtain ⟨G4, c4, rfl⟩ := own_form ho4
  have hbw := then_ hbw hb4
  clear hb4 ho4 hg1
  go_wp2_with fail
  refine (gains_any B m d ts B m d ts w4 (hr'.below hbw) HN'.out (by omega) (hr'.below hbw) HN'.out (by omega)).mono ?_
  rintro e w5 ⟨v5, rfl, ho5, hb5⟩
  rw [HP3.out] at ho5
  obtain ⟨G5, c5, rfl⟩ := own_form ho5
  have hbw := then_ hbw hb5
  clear hb5 ho5
  go_wp2_with fail
  refine (awake20_any _).mono ?_
  rintro e w13 ⟨rfl, hb13⟩
  go_wp2
  go_ret
  exact ⟨rfl, then_ hbw hb13⟩
end Go.Proofs.Ytebfmacbdjnhbaa
