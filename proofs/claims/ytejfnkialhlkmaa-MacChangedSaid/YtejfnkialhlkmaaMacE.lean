/- mac: the walks of the laws. -/
import Derived.Test.YtejfnkialhlkmaaMacD
attribute [local go_sem ↓] Go.wp_at_zero Go.wp_at_succ
namespace Go.Proofs.Ytejfnkialhlkmaa
open Go.RowKit Go.Mem Go.Num
set_option linter.unusedVariables false

set_option maxRecDepth 100000 in
set_option maxHeartbeats 1000000 in
theorem macIs_walk (s x : ByteArray) (w : World) (hs : s.size ≤ maxLen) (hx : x.size ≤ maxLen) :
    Calls Try.prog 7 #[.string s, .string x] w fun e w' => e = .returned (.bool true) ∧ Below w.heap.size w w' := by
  unfold maxLen at hs hx
  go_enter Try.func7, Try.ntmps7
  by_cases hbig : 512 < s.size
  · go_wp2_with fail
    refine (awake03_any _).mono ?_
    rintro e w1 ⟨rfl, hb1⟩
    go_wp2
    go_ret
    exact ⟨rfl, hb1⟩
  · by_cases hbig2 : 512 < x.size
    · go_wp2_with fail
      refine (awake03_any _).mono ?_
      rintro e w1 ⟨rfl, hb1⟩
      go_wp2
      go_ret
      exact ⟨rfl, hb1⟩
    · go_wp2_with fail
      refine (macSum_any s x _ (by omega) (by omega)).mono ?_
      rintro e w1 ⟨rfl, hb1⟩
      go_wp2_with fail
      refine (refMacSum_any s x _ (by omega) (by omega)).mono ?_
      rintro e w2 ⟨rfl, hb2⟩
      have hb2 := then_ hb1 hb2
      generalize MacSum s x = m
      go_wp2_with fail
      refine (awake03_any _).mono ?_
      rintro e w3 ⟨rfl, hb3⟩
      go_wp2
      go_ret
      exact ⟨rfl, then_ hb2 hb3⟩

set_option maxRecDepth 100000 in
set_option maxHeartbeats 1000000 in
theorem macTells_walk (s x u : ByteArray) (w : World) (hs : s.size ≤ maxLen) (hx : x.size ≤ maxLen) (hu : u.size ≤ maxLen) :
    Calls Try.prog 8 #[.string s, .string x, .string u] w fun e w' => e = .returned (.bool true) ∧ Below w.heap.size w w' := by
  unfold maxLen at hs hx hu
  go_enter Try.func8, Try.ntmps8
  by_cases hbig : 512 < s.size
  · go_wp2_with fail
    refine (awake03_any _).mono ?_
    rintro e w1 ⟨rfl, hb1⟩
    go_wp2
    go_ret
    exact ⟨rfl, hb1⟩
  · by_cases hbig2 : 512 < x.size
    · go_wp2_with fail
      refine (awake03_any _).mono ?_
      rintro e w1 ⟨rfl, hb1⟩
      go_wp2
      go_ret
      exact ⟨rfl, hb1⟩
    · by_cases hbig3 : 512 < u.size
      · go_wp2_with fail
        refine (awake03_any _).mono ?_
        rintro e w1 ⟨rfl, hb1⟩
        go_wp2
        go_ret
        exact ⟨rfl, hb1⟩
      · go_wp2_with fail
        refine (macIs_any s x u _ (by omega) (by omega) (by omega)).mono ?_
        rintro e w1 ⟨rfl, hb1⟩
        go_wp2_with fail
        refine (refMacSum_any s x _ (by omega) (by omega)).mono ?_
        rintro e w2 ⟨rfl, hb2⟩
        have hb2 := then_ hb1 hb2
        generalize MacSum s x = m
        have he : decide (m = u) = (u.toList == m.toList) := by rw [str_beq]; exact decide_eq_decide.2 ⟨fun h => h.symm, fun h => h.symm⟩
        rw [he]
        clear he
        have hee : ((u.toList == m.toList) == (u.toList == m.toList)) = true := by simp
        go_wp2_with fail
        refine (awake03_any _).mono ?_
        rintro e w3 ⟨rfl, hb3⟩
        go_wp2
        go_ret
        exact ⟨rfl, then_ hb2 hb3⟩

theorem key_sum {s : ByteArray} (h : 64 < s.size) (x : ByteArray) : MacSum s x = MacSum (bs (Sha.sum s.data.toList)) x := by
  have h1 : Mac.key s.data.toList = Sha.sum s.data.toList := by unfold Mac.key; rw [if_pos (by simpa using h)]
  have h2 : Mac.key (Sha.sum s.data.toList) = Sha.sum s.data.toList := by unfold Mac.key; rw [if_neg (by rw [sum_length]; omega)]
  unfold MacSum Mac.sum Mac.mixed Mac.full
  rw [bs_toList, h1, h2]
theorem key_zeros {s t : ByteArray} (n : Nat) (h : s.data.toList.length + n ≤ 64) (ht : t.data.toList = s.data.toList ++ List.replicate n 0) (x : ByteArray) : MacSum t x = MacSum s x := by
  have h1 : Mac.key s.data.toList = s.data.toList := by unfold Mac.key; rw [if_neg (by omega)]
  have h2 : Mac.key t.data.toList = t.data.toList := by unfold Mac.key; rw [if_neg (by rw [ht, List.length_append, List.length_replicate]; omega)]
  have h3 : Mac.full t.data.toList = Mac.full s.data.toList := by
    unfold Mac.full
    rw [h1, h2, ht, List.append_assoc, List.replicate_append_replicate, List.length_append, List.length_replicate]
    congr 2
    omega
  unfold MacSum Mac.sum Mac.mixed
  rw [h3]

theorem make_text (w : World) (n : Nat) (hn : n ≤ 15) : ∃ wm, (Instr.makeSlice 27 (.int .i64 n) (.int .i64 n)).run Try.prog w = .ok (.slice (some ⟨w.heap.size, 0, none⟩) n n) wm ∧ (convert 27 9 (.slice (some ⟨w.heap.size, 0, none⟩) n n)).run Try.prog wm = .ok (.string (bs (List.replicate n 0))) wm ∧ Below w.heap.size w wm := by
  obtain ⟨i0, hi, hz0, hz1, hz2⟩ := infoByteP
  obtain ⟨wm, h1, h2, h3⟩ := run_make_full (P := Try.prog) w w.heap.size 27 5 i0 (.int .u8 0) 1 Try.underlying27 hi hz0 hz1 .i64 .i64 n (by rw [hz2]; omega) (by unfold maxLen; omega) (Nat.le_refl _)
  refine ⟨wm, h1, ?_, (Below.refl _ _).grown h3 (Nat.le_refl _) (fun k hk => by cases hk)⟩
  have hcells : (madeCells (Value.int .u8 0).cells (n * 1)).toList = (List.replicate n (0 : UInt8)).map u8v := by
    rw [Nat.mul_one, List.map_replicate]
    exact toList_madeCells_one _ n
  rw [hcells] at h2
  have hb := run_convert_bytes_back (P := Try.prog) wm 27 9 5 ⟨w.heap.size, 0, none⟩ n (List.replicate n 0) Try.underlying27 Try.underlying5 Try.underlying9
    (fun j hj => h2.cells (g := w.heap.size) rfl j _ (by rw [List.getElem?_map, List.getElem?_eq_getElem hj]; rfl))
  rw [List.length_replicate] at hb
  exact hb
theorem wf8 {m : Int} (h : (Lit.int .u8 m).wf = true) : 0 ≤ m ∧ m < 256 := by
  simp [Lit.wf, IntKind.min, IntKind.max, IntKind.signed, IntKind.bits] at h
  omega

set_option maxRecDepth 100000 in
set_option maxHeartbeats 1000000 in
theorem macKeys_walk (s x : ByteArray) (m : Int) (w : World) (hs : s.size ≤ maxLen) (hx : x.size ≤ maxLen) (hm : (Lit.int .u8 m).wf = true) :
    Calls Try.prog 10 #[.string s, .string x, .int .u8 m] w fun e w' => e = .returned (.bool true) ∧ Below w.heap.size w w' := by
  unfold maxLen at hs hx
  go_enter Try.func10, Try.ntmps10
  by_cases hbig : 512 < s.size
  · go_wp2_with fail
    refine (awake03_any _).mono ?_
    rintro e w1 ⟨rfl, hb1⟩
    go_wp2
    go_ret
    exact ⟨rfl, hb1⟩
  · by_cases hbig2 : 512 < x.size
    · go_wp2_with fail
      refine (awake03_any _).mono ?_
      rintro e w1 ⟨rfl, hb1⟩
      go_wp2
      go_ret
      exact ⟨rfl, hb1⟩
    · by_cases h64 : 64 < s.size
      · go_wp2_with fail
        refine (macSum_any s x _ (by omega) (by omega)).mono ?_
        rintro e w1 ⟨rfl, hb1⟩
        go_wp2_with fail
        refine (refSum_any s _ (by omega)).mono ?_
        rintro e w2 ⟨rfl, hb2⟩
        have hb2 := then_ hb1 hb2
        have hk := key_sum h64 x
        have hz := sum_bs_size s.data.toList
        generalize bs (Sha.sum s.data.toList) = t at *
        rw [hk]
        clear hk
        go_wp2_with fail
        refine (macSum_any t x _ (by omega) (by omega)).mono ?_
        rintro e w3 ⟨rfl, hb3⟩
        have hb3 := then_ hb2 hb3
        generalize MacSum t x = m
        go_wp2_with fail
        refine (awake03_any _).mono ?_
        rintro e w4 ⟨rfl, hb4⟩
        go_wp2
        go_ret
        exact ⟨rfl, then_ hb3 hb4⟩
      · obtain ⟨m0, m1⟩ := wf8 hm
        obtain ⟨n, hn⟩ : ∃ n : Nat, m % 16 = n := ⟨(m % 16).toNat, by omega⟩
        have hn15 : n ≤ 15 := by omega
        have hand : bits .and .u8 m 15 = (n : Int) := by
          rw [u8_and m 15 m0 (by omega) (by omega) (by omega), show (15 : Int).toNat = 15 from rfl, nat_mask4, ← hn]
          omega
        have HN := Lib.hid hn; clear hn
        obtain ⟨wm, hmk, hcv, hbm⟩ := make_text w n hn15
        have hzs : (bs (List.replicate n 0)).size = n := by rw [bs_size, List.length_replicate]
        have hkz := fun (h : s.size + n ≤ 64) => key_zeros (s := s) (t := s ++ bs (List.replicate n 0)) n (by simpa using h) (by rw [ByteArray.data_append, Array.toList_append, bs_toList]) x
        generalize bs (List.replicate n 0) = z at *
        have HKZ := Lib.hid hkz; have HZS := Lib.hid hzs; clear hkz
        have hzs1 : z.size ≤ 15 := by omega
        clear m0 m1 hm hzs
        by_cases hlong : 64 < s.size + z.size
        · go_wp2_with fail
          clear hmk hcv hand
          refine (awake03_any _).mono ?_
          rintro e w4 ⟨rfl, hb4⟩
          go_wp2
          go_ret
          exact ⟨rfl, then_ hbm hb4⟩
        · go_wp2_with fail
          clear hmk hcv hand
          refine (macSum_any (s ++ z) x _ (by rw [ByteArray.size_append]; omega) (by omega)).mono ?_
          rintro e w4 ⟨rfl, hb4⟩
          have hb4 := then_ hbm hb4
          rw [HKZ.out (by have := HZS.out; omega)]
          go_wp2_with fail
          refine (macSum_any s x _ (by omega) (by omega)).mono ?_
          rintro e w5 ⟨rfl, hb5⟩
          have hb5 := then_ hb4 hb5
          generalize MacSum s x = q
          go_wp2_with fail
          refine (awake03_any _).mono ?_
          rintro e w6 ⟨rfl, hb6⟩
          go_wp2
          go_ret
          exact ⟨rfl, then_ hb5 hb6⟩
end Go.Proofs.Ytejfnkialhlkmaa
