/- The walk of OctetReads. -/
import Derived.Test.YtejfnkialhlkmaaOctY
namespace Go.Mem
theorem own_max {w : World} {base : Nat} {e : TypeId} {sz n : Nat} {v : Value} {cs : List Value} (h : w.ownsRow base e sz v n cs) : n ≤ maxLen := by
  rcases h.2 with ⟨_, h0⟩ | ⟨g, cap, cur, hv, hb, hh, hc, hm, _⟩
  · omega
  · omega
theorem quiet_left {P : Program} {f : FuncId} {args : Array Value} {w : World} {n : Nat} {v : Value} (h : Calls P f args (w.drewN n) fun e w' => e = .returned v ∧ w.drewN n = w') : Calls P f args (w.drewN n) fun e w'' => e = .returned v ∧ ∃ m, w'' = w.drewN m :=
  h.mono fun _ _ ⟨he, hm⟩ => ⟨he, n, hm.symm⟩
end Go.Mem
namespace Go.Proofs.Ytejfnkialhlkmaa
open Go.RowKit Go.Mem Go.Num
set_option linter.unusedVariables false
theorem sev_len (n : Nat) (st : St) : (sev n st).2.1.length ≤ st.1.length := by
  induction n generalizing st with
  | zero => exact Nat.le_refl _
  | succ n ih =>
    unfold sev
    split
    · exact Nat.le_trans (ih _) (rdText_len st).1
    · exact Nat.le_refl _
theorem rdTexts_len (st : St) : (rdTexts st).2.1.length ≤ st.1.length := Nat.le_trans (sev_len _ _) (rdCount_len _ _)
theorem txs_map (ts : List (List UInt8)) : txs ts = (ts.map bs).map Value.string := by simp [txs]

set_option maxRecDepth 100000 in
set_option maxHeartbeats 4000000 in
theorem octetReads_walk (s : ByteArray) (A : Option Addr) (n c : Nat) (zs : List Int) (most : Int) (w : World) (hs : s.size ≤ maxLen) (hr : Rd w A (zs.map (Value.int .u8))) (hn : zs.length = n) (hn' : n ≤ maxLen) :
    Calls Try.prog 4 #[.string s, .slice A n c, .int .i64 most] w fun e w' => e = .returned (.bool true) ∧ Below w.heap.size w w' := by
  unfold maxLen at hs hn'
  have HN := Lib.hid hn; clear hn
  go_enter Try.func4, Try.ntmps4
  by_cases hbig : 1024 < s.size ∨ 20 < n
  · have hb2 : 1024 < s.size ∨ (¬ 1024 < s.size ∧ 20 < n) := by omega
    rcases hb2 with h1 | ⟨h1, h2⟩
    all_goals
      go_wp2_with fail
      refine (awake01_any _).mono ?_
      rintro e w1 ⟨rfl, hb1⟩
      go_wp2
      go_ret
      exact ⟨rfl, hb1⟩
  · have hb1 : s.size ≤ 1024 := by omega
    have hb2 : n ≤ 20 := by omega
    clear hbig
    go_wp2_with fail
    refine (new_any s _).mono ?_
    rintro e w1 ⟨rfl, hR1, hB1, hsz1⟩
    have hF : RdF w1.heap.size (s.data.toList, true) (w1.alloc (.cells #[.string s, .bool false] 44)) := by
      have := Two.new w1 44 (.string s) (.bool false)
      unfold RdF
      rw [bs_of]
      exact this
    have hR := Two.alloc hR1 (.cells #[.string s, .bool false] 44)
    have hB := hB1.alloc hB1.size (.cells #[.string s, .bool false] 44)
    have hlen : s.data.toList.length ≤ 1024 := by simpa using hb1
    have hrx : w.heap.size < w1.heap.size := by omega
    clear hsz1 hB1 hR1
    go_wp2
    generalize w1.alloc (.cells #[.string s, .bool false] 44) = w0 at hF hR hB ⊢
    generalize w1.heap.size = x at hF hrx ⊢
    go_loopw [9] (fun i wr => ∃ (k : Nat) (st : St), k ≤ n ∧ i = .int .i64 k ∧ RdO w.heap.size st wr ∧ RdF x st wr ∧ st.1.length ≤ 1024 ∧ Below w.heap.size w wr) (fun i _ => n - (intOf i).toNat)
    case atStart => exact ⟨0, (s.data.toList, true), by omega, rfl, hR, hF, hlen, hB⟩
    case round =>
      obtain ⟨k, st, hk, rfl, hR, hF, hlen, hB⟩ := hrel
      have hxl := Two.lt hF
      have hl47 : st.1.length ≤ 140737488355328 := by omega
      by_cases hlt : k < n
      · have hx : k < zs.length := by have := HN.out; omega
        obtain ⟨b', off, rfl, hcell⟩ := (hr.below hB).at_ k (by simp; exact hx)
        simp only [List.getElem_map] at hcell
        generalize zs[k] = z at hcell
        have hcase : z = 1 ∨ (z ≠ 1 ∧ z = 2) ∨ (z ≠ 1 ∧ z ≠ 2 ∧ z = 3) ∨ (z ≠ 1 ∧ z ≠ 2 ∧ z ≠ 3 ∧ z = 4) ∨ (z ≠ 1 ∧ z ≠ 2 ∧ z ≠ 3 ∧ z ≠ 4) := by omega
        rcases hcase with rfl | ⟨h1, rfl⟩ | ⟨h1, h2, rfl⟩ | ⟨h1, h2, h3, rfl⟩ | ⟨h1, h2, h3, h4⟩
        · have hz1 : ((1 : Int) == 1) = true := rfl
          have hle := rdNum_len 1 st
          go_wp2_with fail
          refine (rByte_any w.heap.size st _ hR hl47).mono ?_
          rintro e y1 ⟨rfl, hR1, ho1⟩
          have hFx : RdF x st y1 := Two.grown hF ho1 (by omega)
          have hB1 := hB.trans (ho1.belowS (Nat.le_refl _) (Two.lt hR))
          go_wp2_with fail
          refine (fByte_any x st _ hFx hl47).mono ?_
          rintro e wx ⟨rfl, hF2, ho2⟩
          have hR2 : RdO w.heap.size _ wx := Two.grown hR1 ho2 (by omega)
          have hB2 := hB1.trans (ho2.belowS (Nat.le_of_lt hrx) (Two.lt hFx))
          generalize rdNum 1 st = rr at hle hR1 hR2 hF2 ⊢
          obtain ⟨val, st'⟩ := rr
          simp only at hle hR2 hF2 ⊢
          have hlen' : st'.1.length ≤ 1024 := by omega
          clear hR hF hB hR1 hB1 hFx hcell
          have hR := hR2; have hF := hF2; have hB := hB2
          clear hR2 hF2 hB2
          have hc1 := Two.c1 hF
          cases hg : st'.2 with
          | true =>
            rw [hg] at hc1
            simp only [Bool.not_true] at hc1
            have hbad : ∀ q, Calls Try.prog 39 #[.pointer (some ⟨w.heap.size, 0, none⟩)] (wx.drewN q) fun e w' => e = .returned (.bool false) ∧ wx.drewN q = w' := fun q => by have := rBad_any w.heap.size st' (wx.drewN q) hR; rw [hg] at this; exact this
            have hdo : ∀ q, Calls Try.prog 40 #[.pointer (some ⟨w.heap.size, 0, none⟩)] (wx.drewN q) fun e w' => e = .returned (.bool (rdDone st')) ∧ wx.drewN q = w' := fun q => rDone_any w.heap.size st' (wx.drewN q) hR
            have hdf : ∀ q, Calls Try.prog 41 #[.pointer (some ⟨x, 0, none⟩)] (wx.drewN q) fun e w' => e = .returned (.bool (rdDone st')) ∧ wx.drewN q = w' := fun q => fDone_any x st' (wx.drewN q) hF
            have HBD := Lib.hid hbad; have HDO := Lib.hid hdo; have HDF := Lib.hid hdf; clear hbad hdo hdf
            generalize rdDone st' = dn at HDO HDF
            have HG := Lib.hid hg; clear hg
            go_wp2
            go_quiet ((first | (go_at_call 39; exact quiet_left (HBD.out _)) | (go_at_call 40; exact quiet_left (HDO.out _)) | (go_at_call 41; exact quiet_left (HDF.out _))))
            go_wp2
            go_roundw
            case rel => exact ⟨k + 1, st', by omega, by go_num, hR, hF, hlen', drewN_ hB _⟩
            case measure => simp [intOf]; omega
          | false =>
            rw [hg] at hc1
            simp only [Bool.not_false] at hc1
            have hbad : ∀ q, Calls Try.prog 39 #[.pointer (some ⟨w.heap.size, 0, none⟩)] (wx.drewN q) fun e w' => e = .returned (.bool true) ∧ wx.drewN q = w' := fun q => by have := rBad_any w.heap.size st' (wx.drewN q) hR; rw [hg] at this; exact this
            have hdo : ∀ q, Calls Try.prog 40 #[.pointer (some ⟨w.heap.size, 0, none⟩)] (wx.drewN q) fun e w' => e = .returned (.bool (rdDone st')) ∧ wx.drewN q = w' := fun q => rDone_any w.heap.size st' (wx.drewN q) hR
            have hdf : ∀ q, Calls Try.prog 41 #[.pointer (some ⟨x, 0, none⟩)] (wx.drewN q) fun e w' => e = .returned (.bool (rdDone st')) ∧ wx.drewN q = w' := fun q => fDone_any x st' (wx.drewN q) hF
            have HBD := Lib.hid hbad; have HDO := Lib.hid hdo; have HDF := Lib.hid hdf; clear hbad hdo hdf
            generalize rdDone st' = dn at HDO HDF
            have HG := Lib.hid hg; clear hg
            go_wp2
            go_quiet ((first | (go_at_call 39; exact quiet_left (HBD.out _)) | (go_at_call 40; exact quiet_left (HDO.out _)) | (go_at_call 41; exact quiet_left (HDF.out _))))
            go_wp2
            go_roundw
            case rel => exact ⟨k + 1, st', by omega, by go_num, hR, hF, hlen', drewN_ hB _⟩
            case measure => simp [intOf]; omega
        · have hz1 : ((2 : Int) == 1) = false := rfl
          have hz2 : ((2 : Int) == 2) = true := rfl
          have hle := rdNum_len 8 st
          go_wp2_with fail
          refine (rInt_any w.heap.size st _ hR hl47).mono ?_
          rintro e y1 ⟨rfl, hR1, ho1⟩
          have hFx : RdF x st y1 := Two.grown hF ho1 (by omega)
          have hB1 := hB.trans (ho1.belowS (Nat.le_refl _) (Two.lt hR))
          go_wp2_with fail
          refine (fInt_any x st _ hFx hl47).mono ?_
          rintro e wx ⟨rfl, hF2, ho2⟩
          have hR2 : RdO w.heap.size _ wx := Two.grown hR1 ho2 (by omega)
          have hB2 := hB1.trans (ho2.belowS (Nat.le_of_lt hrx) (Two.lt hFx))
          generalize rdNum 8 st = rr at hle hR1 hR2 hF2 ⊢
          obtain ⟨val, st'⟩ := rr
          simp only at hle hR2 hF2 ⊢
          have hlen' : st'.1.length ≤ 1024 := by omega
          clear hR hF hB hR1 hB1 hFx hcell
          have hR := hR2; have hF := hF2; have hB := hB2
          clear hR2 hF2 hB2
          have hc1 := Two.c1 hF
          cases hg : st'.2 with
          | true =>
            rw [hg] at hc1
            simp only [Bool.not_true] at hc1
            have hbad : ∀ q, Calls Try.prog 39 #[.pointer (some ⟨w.heap.size, 0, none⟩)] (wx.drewN q) fun e w' => e = .returned (.bool false) ∧ wx.drewN q = w' := fun q => by have := rBad_any w.heap.size st' (wx.drewN q) hR; rw [hg] at this; exact this
            have hdo : ∀ q, Calls Try.prog 40 #[.pointer (some ⟨w.heap.size, 0, none⟩)] (wx.drewN q) fun e w' => e = .returned (.bool (rdDone st')) ∧ wx.drewN q = w' := fun q => rDone_any w.heap.size st' (wx.drewN q) hR
            have hdf : ∀ q, Calls Try.prog 41 #[.pointer (some ⟨x, 0, none⟩)] (wx.drewN q) fun e w' => e = .returned (.bool (rdDone st')) ∧ wx.drewN q = w' := fun q => fDone_any x st' (wx.drewN q) hF
            have HBD := Lib.hid hbad; have HDO := Lib.hid hdo; have HDF := Lib.hid hdf; clear hbad hdo hdf
            generalize rdDone st' = dn at HDO HDF
            have HG := Lib.hid hg; clear hg
            go_wp2
            go_quiet ((first | (go_at_call 39; exact quiet_left (HBD.out _)) | (go_at_call 40; exact quiet_left (HDO.out _)) | (go_at_call 41; exact quiet_left (HDF.out _))))
            go_wp2
            go_roundw
            case rel => exact ⟨k + 1, st', by omega, by go_num, hR, hF, hlen', drewN_ hB _⟩
            case measure => simp [intOf]; omega
          | false =>
            rw [hg] at hc1
            simp only [Bool.not_false] at hc1
            have hbad : ∀ q, Calls Try.prog 39 #[.pointer (some ⟨w.heap.size, 0, none⟩)] (wx.drewN q) fun e w' => e = .returned (.bool true) ∧ wx.drewN q = w' := fun q => by have := rBad_any w.heap.size st' (wx.drewN q) hR; rw [hg] at this; exact this
            have hdo : ∀ q, Calls Try.prog 40 #[.pointer (some ⟨w.heap.size, 0, none⟩)] (wx.drewN q) fun e w' => e = .returned (.bool (rdDone st')) ∧ wx.drewN q = w' := fun q => rDone_any w.heap.size st' (wx.drewN q) hR
            have hdf : ∀ q, Calls Try.prog 41 #[.pointer (some ⟨x, 0, none⟩)] (wx.drewN q) fun e w' => e = .returned (.bool (rdDone st')) ∧ wx.drewN q = w' := fun q => fDone_any x st' (wx.drewN q) hF
            have HBD := Lib.hid hbad; have HDO := Lib.hid hdo; have HDF := Lib.hid hdf; clear hbad hdo hdf
            generalize rdDone st' = dn at HDO HDF
            have HG := Lib.hid hg; clear hg
            go_wp2
            go_quiet ((first | (go_at_call 39; exact quiet_left (HBD.out _)) | (go_at_call 40; exact quiet_left (HDO.out _)) | (go_at_call 41; exact quiet_left (HDF.out _))))
            go_wp2
            go_roundw
            case rel => exact ⟨k + 1, st', by omega, by go_num, hR, hF, hlen', drewN_ hB _⟩
            case measure => simp [intOf]; omega
        · have hz1 : ((3 : Int) == 1) = false := rfl
          have hz2 : ((3 : Int) == 2) = false := rfl
          have hle := rdCount_len most st
          go_wp2_with fail
          refine (rCount_any w.heap.size most st _ hR hl47).mono ?_
          rintro e y1 ⟨rfl, hR1, ho1⟩
          have hFx : RdF x st y1 := Two.grown hF ho1 (by omega)
          have hB1 := hB.trans (ho1.belowS (Nat.le_refl _) (Two.lt hR))
          go_wp2_with fail
          refine (fCount_any x most st _ hFx hl47).mono ?_
          rintro e wx ⟨rfl, hF2, ho2⟩
          have hR2 : RdO w.heap.size _ wx := Two.grown hR1 ho2 (by omega)
          have hB2 := hB1.trans (ho2.belowS (Nat.le_of_lt hrx) (Two.lt hFx))
          generalize rdCount most st = rr at hle hR1 hR2 hF2 ⊢
          obtain ⟨val, st'⟩ := rr
          simp only at hle hR2 hF2 ⊢
          have hlen' : st'.1.length ≤ 1024 := by omega
          clear hR hF hB hR1 hB1 hFx hcell
          have hR := hR2; have hF := hF2; have hB := hB2
          clear hR2 hF2 hB2
          have hc1 := Two.c1 hF
          cases hg : st'.2 with
          | true =>
            rw [hg] at hc1
            simp only [Bool.not_true] at hc1
            have hbad : ∀ q, Calls Try.prog 39 #[.pointer (some ⟨w.heap.size, 0, none⟩)] (wx.drewN q) fun e w' => e = .returned (.bool false) ∧ wx.drewN q = w' := fun q => by have := rBad_any w.heap.size st' (wx.drewN q) hR; rw [hg] at this; exact this
            have hdo : ∀ q, Calls Try.prog 40 #[.pointer (some ⟨w.heap.size, 0, none⟩)] (wx.drewN q) fun e w' => e = .returned (.bool (rdDone st')) ∧ wx.drewN q = w' := fun q => rDone_any w.heap.size st' (wx.drewN q) hR
            have hdf : ∀ q, Calls Try.prog 41 #[.pointer (some ⟨x, 0, none⟩)] (wx.drewN q) fun e w' => e = .returned (.bool (rdDone st')) ∧ wx.drewN q = w' := fun q => fDone_any x st' (wx.drewN q) hF
            have HBD := Lib.hid hbad; have HDO := Lib.hid hdo; have HDF := Lib.hid hdf; clear hbad hdo hdf
            generalize rdDone st' = dn at HDO HDF
            have HG := Lib.hid hg; clear hg
            go_wp2
            go_quiet ((first | (go_at_call 39; exact quiet_left (HBD.out _)) | (go_at_call 40; exact quiet_left (HDO.out _)) | (go_at_call 41; exact quiet_left (HDF.out _))))
            go_wp2
            go_roundw
            case rel => exact ⟨k + 1, st', by omega, by go_num, hR, hF, hlen', drewN_ hB _⟩
            case measure => simp [intOf]; omega
          | false =>
            rw [hg] at hc1
            simp only [Bool.not_false] at hc1
            have hbad : ∀ q, Calls Try.prog 39 #[.pointer (some ⟨w.heap.size, 0, none⟩)] (wx.drewN q) fun e w' => e = .returned (.bool true) ∧ wx.drewN q = w' := fun q => by have := rBad_any w.heap.size st' (wx.drewN q) hR; rw [hg] at this; exact this
            have hdo : ∀ q, Calls Try.prog 40 #[.pointer (some ⟨w.heap.size, 0, none⟩)] (wx.drewN q) fun e w' => e = .returned (.bool (rdDone st')) ∧ wx.drewN q = w' := fun q => rDone_any w.heap.size st' (wx.drewN q) hR
            have hdf : ∀ q, Calls Try.prog 41 #[.pointer (some ⟨x, 0, none⟩)] (wx.drewN q) fun e w' => e = .returned (.bool (rdDone st')) ∧ wx.drewN q = w' := fun q => fDone_any x st' (wx.drewN q) hF
            have HBD := Lib.hid hbad; have HDO := Lib.hid hdo; have HDF := Lib.hid hdf; clear hbad hdo hdf
            generalize rdDone st' = dn at HDO HDF
            have HG := Lib.hid hg; clear hg
            go_wp2
            go_quiet ((first | (go_at_call 39; exact quiet_left (HBD.out _)) | (go_at_call 40; exact quiet_left (HDO.out _)) | (go_at_call 41; exact quiet_left (HDF.out _))))
            go_wp2
            go_roundw
            case rel => exact ⟨k + 1, st', by omega, by go_num, hR, hF, hlen', drewN_ hB _⟩
            case measure => simp [intOf]; omega
        · have hz1 : ((4 : Int) == 1) = false := rfl
          have hle := (rdText_len st).1
          go_wp2_with fail
          refine (rText_any w.heap.size st _ hR hl47).mono ?_
          rintro e y1 ⟨rfl, hR1, ho1⟩
          have hFx : RdF x st y1 := Two.grown hF ho1 (by omega)
          have hB1 := hB.trans (ho1.belowS (Nat.le_refl _) (Two.lt hR))
          go_wp2_with fail
          refine (fText_any x st _ hFx hl47).mono ?_
          rintro e wx ⟨rfl, hF2, ho2⟩
          have hR2 : RdO w.heap.size _ wx := Two.grown hR1 ho2 (by omega)
          have hB2 := hB1.trans (ho2.belowS (Nat.le_of_lt hrx) (Two.lt hFx))
          generalize rdText st = rr at hle hR1 hR2 hF2 ⊢
          obtain ⟨val, st'⟩ := rr
          simp only at hle hR2 hF2 ⊢
          have hlen' : st'.1.length ≤ 1024 := by omega
          clear hR hF hB hR1 hB1 hFx hcell
          have hR := hR2; have hF := hF2; have hB := hB2
          clear hR2 hF2 hB2
          have hc1 := Two.c1 hF
          cases hg : st'.2 with
          | true =>
            rw [hg] at hc1
            simp only [Bool.not_true] at hc1
            have hbad : ∀ q, Calls Try.prog 39 #[.pointer (some ⟨w.heap.size, 0, none⟩)] (wx.drewN q) fun e w' => e = .returned (.bool false) ∧ wx.drewN q = w' := fun q => by have := rBad_any w.heap.size st' (wx.drewN q) hR; rw [hg] at this; exact this
            have hdo : ∀ q, Calls Try.prog 40 #[.pointer (some ⟨w.heap.size, 0, none⟩)] (wx.drewN q) fun e w' => e = .returned (.bool (rdDone st')) ∧ wx.drewN q = w' := fun q => rDone_any w.heap.size st' (wx.drewN q) hR
            have hdf : ∀ q, Calls Try.prog 41 #[.pointer (some ⟨x, 0, none⟩)] (wx.drewN q) fun e w' => e = .returned (.bool (rdDone st')) ∧ wx.drewN q = w' := fun q => fDone_any x st' (wx.drewN q) hF
            have HBD := Lib.hid hbad; have HDO := Lib.hid hdo; have HDF := Lib.hid hdf; clear hbad hdo hdf
            generalize rdDone st' = dn at HDO HDF
            have HG := Lib.hid hg; clear hg
            go_wp2
            go_quiet ((first | (go_at_call 39; exact quiet_left (HBD.out _)) | (go_at_call 40; exact quiet_left (HDO.out _)) | (go_at_call 41; exact quiet_left (HDF.out _))))
            go_wp2
            go_roundw
            case rel => exact ⟨k + 1, st', by omega, by go_num, hR, hF, hlen', drewN_ hB _⟩
            case measure => simp [intOf]; omega
          | false =>
            rw [hg] at hc1
            simp only [Bool.not_false] at hc1
            have hbad : ∀ q, Calls Try.prog 39 #[.pointer (some ⟨w.heap.size, 0, none⟩)] (wx.drewN q) fun e w' => e = .returned (.bool true) ∧ wx.drewN q = w' := fun q => by have := rBad_any w.heap.size st' (wx.drewN q) hR; rw [hg] at this; exact this
            have hdo : ∀ q, Calls Try.prog 40 #[.pointer (some ⟨w.heap.size, 0, none⟩)] (wx.drewN q) fun e w' => e = .returned (.bool (rdDone st')) ∧ wx.drewN q = w' := fun q => rDone_any w.heap.size st' (wx.drewN q) hR
            have hdf : ∀ q, Calls Try.prog 41 #[.pointer (some ⟨x, 0, none⟩)] (wx.drewN q) fun e w' => e = .returned (.bool (rdDone st')) ∧ wx.drewN q = w' := fun q => fDone_any x st' (wx.drewN q) hF
            have HBD := Lib.hid hbad; have HDO := Lib.hid hdo; have HDF := Lib.hid hdf; clear hbad hdo hdf
            generalize rdDone st' = dn at HDO HDF
            have HG := Lib.hid hg; clear hg
            go_wp2
            go_quiet ((first | (go_at_call 39; exact quiet_left (HBD.out _)) | (go_at_call 40; exact quiet_left (HDO.out _)) | (go_at_call 41; exact quiet_left (HDF.out _))))
            go_wp2
            go_roundw
            case rel => exact ⟨k + 1, st', by omega, by go_num, hR, hF, hlen', drewN_ hB _⟩
            case measure => simp [intOf]; omega
        · have hz1 : (z == 1) = false := by simpa using h1
          have hz2 : (z == 2) = false := by simpa using h2
          have hz3 : (z == 3) = false := by simpa using h3
          have hz4 : (z == 4) = false := by simpa using h4
          have hle := rdTexts_len st
          go_wp2_with fail
          refine (rTexts_any w.heap.size st _ hR hl47).mono ?_
          rintro e y1 ⟨v1, rfl, hv1, hR1, ho1⟩
          have hFx : RdF x st y1 := Two.grown hF ho1 (by omega)
          have hB1 := hB.trans (ho1.belowS (Nat.le_refl _) (Two.lt hR))
          go_wp2_with fail
          refine (fTexts_any x st _ hFx hl47).mono ?_
          rintro e y2 ⟨v2, rfl, hv2, hF2, ho2⟩
          have hR2 : RdO w.heap.size _ y2 := Two.grown hR1 ho2 (by omega)
          have hB2 := hB1.trans (ho2.belowS (Nat.le_of_lt hrx) (Two.lt hFx))
          have hv1 := own_only hv1 hxl ho2
          generalize rdTexts st = rr at hle hR1 hR2 hF2 hv1 hv2 ⊢
          obtain ⟨ts, st'⟩ := rr
          simp only at hle hR2 hF2 hv1 hv2 ⊢
          have hlen' : st'.1.length ≤ 1024 := by omega
          have hm1 := own_max hv1
          obtain ⟨A1, c1, rfl⟩ := own_form hv1
          obtain ⟨A2, c2, rfl⟩ := own_form hv2
          have hd1 := Rd.of_own hv1
          have hd2 := Rd.of_own hv2
          rw [txs_map] at hd1 hd2
          have HV1 := Lib.hid hd1; have HV2 := Lib.hid hd2; clear hv1 hv2 hd1 hd2
          generalize htl : ts.length = tl at hm1 ⊢
          have HTL := Lib.hid htl; clear htl
          go_wp2_with fail
          refine (sameTexts_any A1 tl c1 (ts.map bs) A2 tl c2 (ts.map bs) _ HV1.out (by rw [List.length_map]; exact HTL.out) hm1 HV2.out (by rw [List.length_map]; exact HTL.out) hm1).mono ?_
          rintro e wx ⟨rfl, hb5⟩
          rw [decide_eq_true (rfl : ts.map bs = ts.map bs)]
          have hR3 : RdO w.heap.size st' wx := Two.below hR2 hb5
          have hF3 : RdF x st' wx := Two.below hF2 hb5
          have hB3 := then_ hB2 hb5
          clear hR hF hB hR1 hB1 hFx hcell hR2 hF2 hB2
          have hR := hR3; have hF := hF3; have hB := hB3
          clear hR3 hF3 hB3
          have hc1 := Two.c1 hF
          cases hg : st'.2 with
          | true =>
            rw [hg] at hc1
            simp only [Bool.not_true] at hc1
            have hbad : ∀ q, Calls Try.prog 39 #[.pointer (some ⟨w.heap.size, 0, none⟩)] (wx.drewN q) fun e w' => e = .returned (.bool false) ∧ wx.drewN q = w' := fun q => by have := rBad_any w.heap.size st' (wx.drewN q) hR; rw [hg] at this; exact this
            have hdo : ∀ q, Calls Try.prog 40 #[.pointer (some ⟨w.heap.size, 0, none⟩)] (wx.drewN q) fun e w' => e = .returned (.bool (rdDone st')) ∧ wx.drewN q = w' := fun q => rDone_any w.heap.size st' (wx.drewN q) hR
            have hdf : ∀ q, Calls Try.prog 41 #[.pointer (some ⟨x, 0, none⟩)] (wx.drewN q) fun e w' => e = .returned (.bool (rdDone st')) ∧ wx.drewN q = w' := fun q => fDone_any x st' (wx.drewN q) hF
            have HBD := Lib.hid hbad; have HDO := Lib.hid hdo; have HDF := Lib.hid hdf; clear hbad hdo hdf
            generalize rdDone st' = dn at HDO HDF
            have HG := Lib.hid hg; clear hg
            go_wp2
            go_quiet ((first | (go_at_call 39; exact quiet_left (HBD.out _)) | (go_at_call 40; exact quiet_left (HDO.out _)) | (go_at_call 41; exact quiet_left (HDF.out _))))
            go_wp2
            go_roundw
            case rel => exact ⟨k + 1, st', by omega, by go_num, hR, hF, hlen', drewN_ hB _⟩
            case measure => simp [intOf]; omega
          | false =>
            rw [hg] at hc1
            simp only [Bool.not_false] at hc1
            have hbad : ∀ q, Calls Try.prog 39 #[.pointer (some ⟨w.heap.size, 0, none⟩)] (wx.drewN q) fun e w' => e = .returned (.bool true) ∧ wx.drewN q = w' := fun q => by have := rBad_any w.heap.size st' (wx.drewN q) hR; rw [hg] at this; exact this
            have hdo : ∀ q, Calls Try.prog 40 #[.pointer (some ⟨w.heap.size, 0, none⟩)] (wx.drewN q) fun e w' => e = .returned (.bool (rdDone st')) ∧ wx.drewN q = w' := fun q => rDone_any w.heap.size st' (wx.drewN q) hR
            have hdf : ∀ q, Calls Try.prog 41 #[.pointer (some ⟨x, 0, none⟩)] (wx.drewN q) fun e w' => e = .returned (.bool (rdDone st')) ∧ wx.drewN q = w' := fun q => fDone_any x st' (wx.drewN q) hF
            have HBD := Lib.hid hbad; have HDO := Lib.hid hdo; have HDF := Lib.hid hdf; clear hbad hdo hdf
            generalize rdDone st' = dn at HDO HDF
            have HG := Lib.hid hg; clear hg
            go_wp2
            go_quiet ((first | (go_at_call 39; exact quiet_left (HBD.out _)) | (go_at_call 40; exact quiet_left (HDO.out _)) | (go_at_call 41; exact quiet_left (HDF.out _))))
            go_wp2
            go_roundw
            case rel => exact ⟨k + 1, st', by omega, by go_num, hR, hF, hlen', drewN_ hB _⟩
            case measure => simp [intOf]; omega
      · obtain rfl : k = n := by omega
        go_wp2_with fail
        refine (awake01_any _).mono ?_
        rintro e x1 ⟨rfl, hx1⟩
        go_wp2
        go_ret
        exact ⟨rfl, then_ hB hx1⟩
end Go.Proofs.Ytejfnkialhlkmaa
