/- The document's reader (pantlerref01.Reader), SameTexts, Few. -/
import Derived.Test.YtlmplibdfhamjaaOctU
namespace Go.Proofs.Ytlmplibdfhamjaa
open Go.RowKit Go.Mem Go.Num
set_option linter.unusedVariables false

set_option maxRecDepth 100000 in
set_option maxHeartbeats 1000000 in
theorem ftake_any (b n : Nat) (st : St) (w : World) (h : RdF b st w) (hn : n ≤ 140737488355328) (hs : st.1.length ≤ 140737488355328) :
    Calls Try.prog 100 #[.pointer (some ⟨b, 0, none⟩), .int .i64 n] w fun e w' => ∃ ok : Bool, e = .returned (.tuple #[.string (bs (tk n st).1), .bool ok]) ∧ RdF b (tk n st).2 w' ∧ Only b w w' := by
  obtain ⟨s, g⟩ := st
  unfold RdF at h
  simp only at h hs
  have c0 := h.c0
  have c1 := h.c1
  have f0 := h.f 0
  have f1 := h.f 1
  have hsz : (bs s).size = s.length := bs_size s
  by_cases hg : g = true ∧ n ≤ s.length
  · obtain ⟨rfl, hns⟩ := hg
    have htk : tk n (s, true) = (s.take n, (s.drop n, true)) := by unfold tk; rw [if_pos ⟨rfl, hns⟩]
    rw [htk]
    have hx1 := bs_extract s 0 n
    have hx2 := bs_extract s n s.length
    have hns' : n ≤ (bs s).size := by omega
    have hle : (bs s).size ≤ 140737488355328 := by omega
    have hgt : decide ((bs s).size < n) = false := by simp; omega
    have hst := h.set0 (.string (bs (s.drop n)))
    have HX1 := Lib.hid hx1; have HX2 := Lib.hid hx2; have HSZ := Lib.hid hsz; have HST := Lib.hid hst; clear hx1 hx2 hsz hst h htk
    generalize bs s = t at *
    simp only [Bool.not_true] at c1
    go_enter Try.func100, Try.ntmps100
    go_wp2
    go_ret2
    have he : t.extract n t.size = bs (s.drop n) := by rw [HSZ.out, HX2.out, List.take_length]
    rw [he]
    refine ⟨true, ?_, HST.out, Only.rfl_.set _ _⟩
    have h0 : t.extract 0 n = bs (s.take n) := by rw [HX1.out]; rfl
    rw [← h0]
    rfl
  · have htk : tk n (s, g) = ([], (s, false)) := by unfold tk; rw [if_neg hg]
    rw [htk]
    have HH := Lib.hid h; clear h
    cases g
    · simp only [Bool.not_false] at c1
      go_enter Try.func100, Try.ntmps100
      go_wp2
      go_ret2
      exact ⟨false, rfl, HH.out.set1 _, Only.rfl_.set _ _⟩
    · have hgn : ¬ n ≤ s.length := fun h => hg ⟨rfl, h⟩
      have hgt : decide ((bs s).size < n) = true := by simp; omega
      have hgt2 : (bs s).size < n := by omega
      simp only [Bool.not_true] at c1
      clear hg hgn hsz htk
      go_enter Try.func100, Try.ntmps100
      go_wp2
      go_ret2
      exact ⟨false, rfl, HH.out.set1 _, Only.rfl_.set _ _⟩

set_option maxRecDepth 100000 in
set_option maxHeartbeats 1000000 in
theorem fnumber_any (l : List UInt8) (w : World) (hl : l.length ≤ 8) : Calls Try.prog 101 #[.string (bs l)] w fun e w' => e = .returned (.int .i64 (num l)) ∧ w = w' := by
  obtain ⟨t, hT⟩ : ∃ t, t = bs l := ⟨_, rfl⟩
  have hts : t.size = l.length := by rw [hT]; exact bs_size l
  have hat : ∀ j (hj : j < t.size) (hx : j < l.length), t[j] = l[j] := by subst hT; exact fun j hj hx => rfl
  rw [← hT]
  have htl8 : t.size ≤ 8 := by omega
  have HTS := Lib.hid hts; have HAT := Lib.hid hat; clear hts hat hT
  go_enter Try.func101, Try.ntmps101
  go_wp2
  go_loop [3, 4] (fun a i => ∃ j : Nat, j ≤ t.size ∧ i = .int .i64 j ∧ a = .int .i64 (num (l.take j))) (fun _ i => t.size - (intOf i).toNat)
  case atStart => exact ⟨0, Nat.zero_le _, rfl, rfl⟩
  case round =>
    obtain ⟨j, hj, rfl, rfl⟩ := hrel
    by_cases hlt : j < t.size
    · have hx : j < l.length := by have := HTS.out; omega
      have hsn := num_snoc (l.take j) l[j]
      rw [← List.take_succ_eq_append_getElem hx] at hsn
      have hor := or_byte (num (l.take j)) l[j]
      have hjt : t[j] = l[j] := HAT.out j hlt hx
      have hc256 : ((t[j]).toNat : Int) < 256 := by have := UInt8.toNat_lt t[j]; omega
      rw [← hjt] at hsn hor
      generalize num (l.take j) = a at hsn hor
      have HSN := Lib.hid hsn; have HOR := Lib.hid hor; clear hsn hor hjt
      go_wp2
      go_round
      case rel => exact ⟨j + 1, by omega, by go_num, by rw [HSN.out, wrap64_eq]; exact congrArg (Value.int .i64) HOR.out⟩
      case measure => simp [intOf]; omega
    · obtain rfl : j = t.size := by omega
      rw [List.take_of_length_le (by have := HTS.out; omega)]
      go_wp2
      go_ret
      exact ⟨rfl, rfl⟩

set_option maxRecDepth 100000 in
theorem fByte_any (b : Nat) (st : St) (w : World) (h : RdF b st w) (hs : st.1.length ≤ 140737488355328) :
    Calls Try.prog 102 #[.pointer (some ⟨b, 0, none⟩)] w fun e w' => e = .returned (.int .i64 (rdNum 1 st).1) ∧ RdF b (rdNum 1 st).2 w' ∧ Only b w w' := by
  have hta := ftake_any b 1 st w h (by omega) hs
  have hl := tk_fst_len 1 st
  unfold rdNum
  generalize tk 1 st = r at hta hl ⊢
  obtain ⟨l, st'⟩ := r
  have HTA := Lib.hid hta; clear hta
  simp only at hl ⊢
  go_enter Try.func102, Try.ntmps102
  go_wp2_with fail
  refine HTA.out.mono ?_
  rintro e w1 ⟨ok, rfl, h1, ho1⟩
  go_wp2_with fail
  refine (fnumber_any l _ (by omega)).mono ?_
  rintro e w2 ⟨rfl, rfl⟩
  go_wp2
  go_ret
  exact ⟨rfl, h1, ho1⟩

set_option maxRecDepth 100000 in
theorem fInt_any (b : Nat) (st : St) (w : World) (h : RdF b st w) (hs : st.1.length ≤ 140737488355328) :
    Calls Try.prog 92 #[.pointer (some ⟨b, 0, none⟩)] w fun e w' => e = .returned (.int .i64 (rdNum 8 st).1) ∧ RdF b (rdNum 8 st).2 w' ∧ Only b w w' := by
  have hta := ftake_any b 8 st w h (by omega) hs
  have hl := tk_fst_len 8 st
  unfold rdNum
  generalize tk 8 st = r at hta hl ⊢
  obtain ⟨l, st'⟩ := r
  have HTA := Lib.hid hta; clear hta
  simp only at hl ⊢
  go_enter Try.func92, Try.ntmps92
  go_wp2_with fail
  refine HTA.out.mono ?_
  rintro e w1 ⟨ok, rfl, h1, ho1⟩
  go_wp2_with fail
  refine (fnumber_any l _ (by omega)).mono ?_
  rintro e w2 ⟨rfl, rfl⟩
  go_wp2
  go_ret
  exact ⟨rfl, h1, ho1⟩

set_option maxRecDepth 100000 in
theorem fCount_any (b : Nat) (most : Int) (st : St) (w : World) (h : RdF b st w) (hs : st.1.length ≤ 140737488355328) :
    Calls Try.prog 56 #[.pointer (some ⟨b, 0, none⟩), .int .i64 most] w fun e w' => e = .returned (.int .i64 (rdCount most st).1) ∧ RdF b (rdCount most st).2 w' ∧ Only b w w' := by
  have hta := ftake_any b 4 st w h (by omega) hs
  have hl := tk_fst_len 4 st
  unfold rdCount rdNum
  generalize tk 4 st = r at hta hl ⊢
  obtain ⟨l, st'⟩ := r
  have HTA := Lib.hid hta; clear hta
  simp only at hl ⊢
  have hnum := fun W => fnumber_any l W (by omega)
  have HNUM := Lib.hid hnum; clear hnum
  generalize num l = n at HNUM ⊢
  by_cases hm : most < n
  · rw [if_pos hm]
    go_enter Try.func56, Try.ntmps56
    go_wp2_with fail
    refine HTA.out.mono ?_
    rintro e w1 ⟨ok, rfl, h1, ho1⟩
    have c1 := Two.c1 h1
    have f1 := Two.f h1 1
    have H1 := Lib.hid h1; clear h1
    go_wp2_with fail
    refine (HNUM.out _).mono ?_
    rintro e w2 ⟨rfl, rfl⟩
    go_wp2
    go_ret
    exact ⟨rfl, Two.set1 H1.out _, ho1.set _ _⟩
  · rw [if_neg hm]
    go_enter Try.func56, Try.ntmps56
    go_wp2_with fail
    refine HTA.out.mono ?_
    rintro e w1 ⟨ok, rfl, h1, ho1⟩
    go_wp2_with fail
    refine (HNUM.out _).mono ?_
    rintro e w2 ⟨rfl, rfl⟩
    go_wp2
    go_ret
    exact ⟨rfl, h1, ho1⟩
set_option maxRecDepth 100000 in
theorem fText_any (b : Nat) (st : St) (w : World) (h : RdF b st w) (hs : st.1.length ≤ 140737488355328) :
    Calls Try.prog 91 #[.pointer (some ⟨b, 0, none⟩)] w fun e w' => e = .returned (.string (bs (rdText st).1)) ∧ RdF b (rdText st).2 w' ∧ Only b w w' := by
  have hta := fCount_any b 1048576 st w h hs
  have hlen := rdCount_len 1048576 st
  have hra := rdCount_range 1048576 st
  unfold rdText
  generalize rdCount 1048576 st = r at hta hlen hra ⊢
  obtain ⟨n, st'⟩ := r
  simp only at hlen hra hta ⊢
  obtain ⟨n, rfl⟩ := Int.eq_ofNat_of_zero_le hra.1
  rw [Int.toNat_natCast]
  have hn := hra.2.2 (by omega)
  clear hra
  have HTA := Lib.hid hta; clear hta
  go_enter Try.func91, Try.ntmps91
  go_wp2_with fail
  refine HTA.out.mono ?_
  rintro e w1 ⟨rfl, h1, ho1⟩
  go_wp2_with fail
  refine (ftake_any b n st' _ h1 (by omega) (by omega)).mono ?_
  rintro e w2 ⟨ok, rfl, h2, ho2⟩
  go_wp2
  go_ret
  exact ⟨rfl, h2, ho1.then_ ho2⟩
set_option maxRecDepth 100000 in
theorem fDone_any (b : Nat) (st : St) (w : World) (h : RdF b st w) :
    Calls Try.prog 50 #[.pointer (some ⟨b, 0, none⟩)] w fun e w' => e = .returned (.bool (rdDone st)) ∧ w = w' := by
  have c0 := Two.c0 h
  have c1 := Two.c1 h
  obtain ⟨s, g⟩ := st
  unfold rdDone
  simp only at c0 c1 ⊢
  have hnb := bs_nil_beq s
  generalize bs s = t at c0 hnb
  have HNB := Lib.hid hnb; clear hnb
  cases g
  · simp only [Bool.not_false] at c1
    go_enter Try.func50, Try.ntmps50
    go_wp2
    go_ret
    exact ⟨rfl, rfl⟩
  · simp only [Bool.not_true] at c1
    go_enter Try.func50, Try.ntmps50
    go_wp2
    go_ret
    exact ⟨ret_bool (by simpa using HNB.out), rfl⟩

end Go.Proofs.Ytlmplibdfhamjaa
