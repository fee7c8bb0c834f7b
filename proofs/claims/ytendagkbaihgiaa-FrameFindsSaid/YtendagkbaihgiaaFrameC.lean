/- frame: the document's functions. -/
import Derived.Test.YtendagkbaihgiaaFrameB
attribute [local go_sem ↓] Go.wp_at_zero Go.wp_at_succ
namespace Go.Proofs.Ytendagkbaihgiaa
open Go.RowKit Go.Mem Go.Num
set_option linter.unusedVariables false
theorem rdCount_good {most : Int} {st : St} (h : (rdCount most st).2.2 = true) : st.2 = true ∧ 4 ≤ st.1.length ∧ (rdCount most st).2.1 = st.1.drop 4 := by
  unfold rdCount at h ⊢
  split at h
  · cases h
  · rename_i hc
    rw [if_neg hc]
    unfold rdNum tk at h ⊢
    by_cases hk : st.2 = true ∧ 4 ≤ st.1.length
    · simp only [if_pos hk] at h ⊢
      exact ⟨hk.1, hk.2, trivial⟩
    · simp only [if_neg hk] at h
      cases h
set_option maxRecDepth 100000 in
set_option maxHeartbeats 1000000 in
theorem refPut_any (s : ByteArray) (w : World) (hs : s.size ≤ 1099511627776) : Calls Try.prog 21 #[.string s] w fun e w' => e = .returned (.string (bs (Frame.put s.data.toList))) ∧ Below w.heap.size w w' := by
  have hsl : s.data.toList.length = s.size := by simp
  have hput : bs (be 4 (s.size : Int)) ++ bs (be 4 (Frame.crcOf s.data.toList : Nat)) ++ s = bs (Frame.put s.data.toList) := by
    have h := bs_append (be 4 (s.size : Int) ++ be 4 (Frame.crcOf s.data.toList : Nat)) s.data.toList
    rw [bs_of] at h
    rw [bs_append, h]
    unfold Frame.put
    rw [hsl, List.append_assoc]
  have hcat : (bs (be 4 (s.size : Int)) ++ s).data.toList = be 4 (s.size : Int) ++ s.data.toList := by rw [ByteArray.data_append, Array.toList_append, bs_toList]
  have hcrc : Crc.sum 0 (be 4 (s.size : Int) ++ s.data.toList) = Frame.crcOf s.data.toList := by unfold Frame.crcOf; rw [hsl]
  have HPUT := Lib.hid hput; have HCAT := Lib.hid hcat; have HCRC := Lib.hid hcrc; clear hput hcat hcrc hsl
  go_enter Try.func21, Try.ntmps21
  go_wp2_with fail
  refine (refCount_any _ _).mono ?_
  rintro e w1 ⟨rfl, hb1⟩
  have hz := be_size (s.size : Int)
  generalize bs (be 4 (s.size : Int)) = t at *
  go_wp2_with fail
  refine (rsum_any (t ++ s) (by rw [ByteArray.size_append]; unfold maxLen; omega) _).mono ?_
  rintro e w2 ⟨rfl, rfl⟩
  rw [HCAT.out, HCRC.out]
  go_wp2_with fail
  refine (refCount_any _ _).mono ?_
  rintro e w3 ⟨rfl, hb3⟩
  have hz2 := be_size ((Frame.crcOf s.data.toList : Nat) : Int)
  generalize bs (be 4 ((Frame.crcOf s.data.toList : Nat) : Int)) = u at *
  have hzt : t.size ≤ 4 := by omega
  have hzu : u.size ≤ 4 := by omega
  clear hz hz2
  go_wp2
  go_ret
  exact ⟨ret_string HPUT.out, then_ hb1 hb3⟩
set_option maxRecDepth 100000 in
set_option maxHeartbeats 1000000 in
theorem refAll_any (A : Option Addr) (n c : Nat) (ss : List ByteArray) (w : World) (hr : Rd w A (ss.map Value.string)) (hn : ss.length = n) (hn6 : n ≤ 65536) (hs : ∀ s ∈ ss, s.size ≤ 1000000) :
    Calls Try.prog 19 #[.slice A n c] w fun e w' => e = .returned (.string (bs (Frame.all (datas ss)))) ∧ Below w.heap.size w w' := by
  have HN := Lib.hid hn; have HS := Lib.hid hs; clear hn hs
  go_enter Try.func19, Try.ntmps19
  go_wp2
  go_loopw [3, 4] (fun v i wr => ∃ (k : Nat) (t : ByteArray), k ≤ n ∧ i = .int .i64 k ∧ v = .string t ∧ Hid (t = bs (Frame.all (datas (ss.take k)))) ∧ t.size ≤ k * 1000008 ∧ Below w.heap.size w wr) (fun _ i _ => n - (intOf i).toNat)
  case atStart => exact ⟨0, _, Nat.zero_le _, rfl, rfl, Lib.hid rfl, Nat.zero_le _, Below.refl _ _⟩
  case round =>
    obtain ⟨k, t, hk, rfl, rfl, HT, htz, hb⟩ := hrel
    by_cases hlt : k < n
    · have hx : k < ss.length := by have := HN.out; omega
      obtain ⟨b, off, rfl, hcell⟩ := (hr.below hb).at_ k (by simp; exact hx)
      simp only [List.getElem_map] at hcell
      have hsn : Frame.all (datas (ss.take (k + 1))) = Frame.all (datas (ss.take k)) ++ Frame.put ss[k].data.toList := by
        unfold datas
        rw [List.take_succ_eq_append_getElem hx, List.map_append, Frame.all_append]
        simp [Frame.all]
      have hsz := HS.out ss[k] (List.getElem_mem hx)
      generalize ss[k] = s at *
      have HSN := Lib.hid hsn; clear hsn
      go_wp2_with fail
      refine (refPut_any s _ (by omega)).mono ?_
      rintro e w7 ⟨rfl, hb7⟩
      have hpz : (bs (Frame.put s.data.toList)).size = 8 + s.size := by rw [bs_size, Frame.put_length]; simp
      have hj : t ++ bs (Frame.put s.data.toList) = bs (Frame.all (datas (ss.take (k + 1)))) := by rw [HT.out, bs_append, HSN.out]
      generalize bs (Frame.put s.data.toList) = u at *
      have HJ := Lib.hid hj; have HPZ := Lib.hid hpz; clear hj
      have hu : u.size ≤ 1000008 := by omega
      have ht2 : t.size ≤ 65536524288 := by omega
      clear hcell hpz
      go_wp2
      go_roundw
      case rel => exact ⟨k + 1, t ++ u, by omega, by go_num, rfl, HJ, by rw [ByteArray.size_append]; omega, then_ hb hb7⟩
      case measure => simp [intOf]; omega
    · have HK : Hid (k = n) := Lib.hid (by omega)
      have i3 : (n : Int) ≤ (k : Int) := by omega
      rw [List.take_of_length_le (by rw [HN.out, HK.out]; exact Nat.le_refl _)] at HT
      go_wp2
      go_ret
      exact ⟨ret_string HT.out, hb⟩

set_option maxRecDepth 100000 in
set_option maxHeartbeats 2000000 in
theorem refScan_any (s : ByteArray) (w : World) (hs : s.size ≤ 1000000000) : Calls Try.prog 17 #[.string s] w (ScanRes s.data.toList w) := by
  have hsl : s.data.toList.length = s.size := by simp
  have hss : bs s.data.toList = s := bs_of s
  generalize s.data.toList = S at *
  have HSL := Lib.hid hsl; have HSS := Lib.hid hss; clear hsl hss
  go_enter Try.func17, Try.ntmps17
  go_wp2
  go_loopw [4, 5] (fun v a wr => ∃ (at_ : Nat) (out : List (List UInt8)), at_ ≤ s.size ∧ a = .int .i64 at_ ∧ Hid (at_ = (Frame.all out).length) ∧ Hid (Frame.scan S = out ++ Frame.scan (S.drop at_)) ∧ wr.ownsRow w.heap.size 9 1 v out.length (strsOf out) ∧ Below w.heap.size w wr) (fun _ a _ => s.size - (intOf a).toNat)
  case atStart => exact ⟨0, [], Nat.zero_le _, rfl, Lib.hid rfl, Lib.hid rfl, World.ownsRow_nil _ _ _ _, Below.refl _ _⟩
  case round =>
    obtain ⟨at_, out, hat, rfl, HAT, HSC, hown, hb⟩ := hrel
    obtain ⟨oA, oc, rfl⟩ := own_form hown
    have hx : s.extract at_ s.size = bs (S.drop at_) := by
      have h1 := bs_extract S at_ s.size
      rw [HSS.out] at h1
      rw [h1, List.take_of_length_le (by rw [HSL.out]; exact Nat.le_refl _)]
    have hol : out.length ≤ at_ := by
      have := HAT.out
      rw [this]
      clear this HAT HSC hown
      induction out with
      | nil => exact Nat.zero_le _
      | cons b l ih => rw [Frame.all_cons, List.length_append, Frame.put_length, List.length_cons]; omega
    have hne : (Value.slice oA out.length oc).ownBlock ≠ some wr.heap.size := fun h => absurd (hown.lt _ h).2 (Nat.lt_irrefl _)
    have HNE := Lib.hid hne; clear hne
    have HO := Lib.hid hown; clear hown
    have i1 : (0 : Int) ≤ (at_ : Int) := by omega
    have i2 : (at_ : Int) ≤ (s.size : Int) := by omega
    have hXl : (S.drop at_).length = s.size - at_ := by rw [List.length_drop, HSL.out]
    have hhd := Frame.head_range (S.drop at_)
    have hfd : Frame.first (S.drop at_) = if (Frame.head (S.drop at_)).2.2 = true ∧ (Frame.head (S.drop at_)).1 ≤ ((S.drop at_).length : Int) - 8 ∧ (Frame.crcOf (((S.drop at_).drop 8).take (Frame.head (S.drop at_)).1.toNat) : Int) = (Frame.head (S.drop at_)).2.1 then some (((S.drop at_).drop 8).take (Frame.head (S.drop at_)).1.toNat) else none := rfl
    have hhe : Frame.head (S.drop at_) = ((rdCount 1048576 (S.drop at_, true)).1, (rdCount 4294967295 (rdCount 1048576 (S.drop at_, true)).2).1, (rdCount 4294967295 (rdCount 1048576 (S.drop at_, true)).2).2.2) := rfl
    have hscan : ∀ b, Frame.first (S.drop at_) = some b → Frame.scan S = out ++ b :: Frame.scan (S.drop (at_ + (8 + b.length))) := fun b h => by rw [HSC.out, Frame.scan_some h, List.drop_drop]
    have HSCAN := Lib.hid hscan; clear hscan
    generalize S.drop at_ = X at *
    have HFD := Lib.hid hfd; clear hfd
    have hR : RdF wr.heap.size (X, true) (wr.alloc (.cells #[.string (bs X), .bool false] 49)) := heap_alloc_new wr _
    have hbA := hb.alloc hb.size (.cells #[.string (bs X), .bool false] 49)
    have hOA : Hid ((wr.alloc (.cells #[.string (bs X), .bool false] 49)).ownsRow w.heap.size 9 1 (.slice oA out.length oc) out.length (strsOf out)) := Lib.hid (HO.out.alloc _)
    have hltA : wr.heap.size < (wr.alloc (.cells #[.string (bs X), .bool false] 49)).heap.size := by simp
    have hbs := hb.size
    clear HO hb
    go_wp2_with fail
    generalize wr.alloc (.cells #[.string (bs X), .bool false] 49) = wa at *
    generalize wr.heap.size = R at *
    refine (fCount_any R 1048576 _ _ hR (by simp only; omega)).mono ?_
    rintro e w2 ⟨rfl, hR2, ho2⟩
    have hl2 := rdCount_len 1048576 (X, true)
    simp only at hl2
    go_wp2_with fail
    refine (fCount_any R 4294967295 _ _ hR2 (by omega)).mono ?_
    rintro e w3 ⟨rfl, hR3, ho3⟩
    have hO := ho2.then_ ho3
    have HO3 := Lib.hid (hOA.out.kept hO (.inr HNE.out))
    have hb3 := hbA.trans (hO.belowS hbs hltA)
    have hgood : (rdCount 4294967295 (rdCount 1048576 (X, true)).2).2.2 = true → 8 ≤ X.length ∧ (rdCount 4294967295 (rdCount 1048576 (X, true)).2).2.1 = X.drop 8 := fun h => by
      obtain ⟨h1, h2, h3⟩ := rdCount_good h
      obtain ⟨h4, h5, h6⟩ := rdCount_good h1
      simp only at h5 h6
      rw [h6, List.length_drop] at h2
      exact ⟨by omega, by rw [h3, h6, List.drop_drop]⟩
    rw [hhe] at hhd HFD
    generalize hst : (rdCount 4294967295 (rdCount 1048576 (X, true)).2).2 = st at *
    generalize hn : (rdCount 1048576 (X, true)).1 = n at *
    generalize hwt : (rdCount 4294967295 (rdCount 1048576 (X, true)).2).1 = want at *
    try simp only at hhd
    obtain ⟨n0, n1, w0⟩ := hhd
    have hbs3 := hb3.size
    clear hhe hR hR2 ho2 ho3 hO hl2 hst hn hwt hbA hOA hltA hx HNE
    obtain ⟨rest, good⟩ := st
    simp only at HFD hgood hR3
    obtain ⟨m, rfl⟩ : ∃ m : Nat, n = (m : Int) := ⟨n.toNat, by omega⟩
    rw [Int.toNat_natCast, hXl] at HFD
    have cF := Two.c1 hR3
    have cS := Two.c0 hR3
    have hrz : (bs rest).size = rest.length := bs_size rest
    cases good
    · have HS : Hid (Frame.scan S = out) := Lib.hid (by rw [HSC.out, Frame.scan_none (by rw [HFD.out, if_neg (by simp)]), List.append_nil])
      clear HFD HSC HSCAN hgood
      simp only [Bool.not_false] at cF
      go_wp2
      go_ret2
      exact ⟨hb3, _, by rw [HS.out, HAT.out]; rfl, by rw [HS.out]; exact HO3.out⟩
    · obtain ⟨h8, rfl⟩ := hgood rfl
      rw [List.length_drop, hXl] at hrz
      simp only [Bool.not_true] at cF
      generalize hrs : bs (X.drop 8) = rs at *
      by_cases hbig : rs.size < m
      · have HS : Hid (Frame.scan S = out) := Lib.hid (by rw [HSC.out, Frame.scan_none (by rw [HFD.out, if_neg (by rintro ⟨_, h, _⟩; omega)]), List.append_nil])
        clear HFD HSC HSCAN hrs
        go_wp2
        go_ret2
        exact ⟨hb3, _, by rw [HS.out, HAT.out]; rfl, by rw [HS.out]; exact HO3.out⟩
      · have hbody : rs.extract 0 m = bs ((X.drop 8).take m) := by rw [← hrs]; exact bs_extract _ 0 m
        have hBl : ((X.drop 8).take m).length = m := by rw [List.length_take, List.length_drop]; omega
        generalize (X.drop 8).take m = B at *
        have hbz : (bs B).size = m := by rw [bs_size]; exact hBl
        have hcat : (bs (be 4 (m : Int)) ++ bs B).data.toList = be 4 (m : Int) ++ B := by rw [bs_append, bs_toList]
        have hcrc : Crc.sum 0 (be 4 (m : Int) ++ B) = Frame.crcOf B := by unfold Frame.crcOf; rw [hBl]
        have HBODY := Lib.hid hbody; have HCAT := Lib.hid hcat; have HCRC := Lib.hid hcrc; clear hcat hcrc hrs
        generalize hy : bs B = y at *
        have HY := Lib.hid hy; clear hy
        have j1 : (0 : Int) ≤ (m : Int) := by omega
        have j2 : (m : Int) ≤ (rs.size : Int) := by omega
        have hym : y.size ≤ 1000000000 := by omega
        have hym2 : m ≤ 1000000000 := by omega
        go_wp2_with fail
        refine (refCount_any _ _).mono ?_
        rintro e w4 ⟨rfl, hb4⟩
        have hz4 := be_size (m : Int)
        generalize bs (be 4 (m : Int)) = t at *
        have hz4' : t.size ≤ 4 := by omega
        have HO4 := Lib.hid (own_below HO3.out hb4)
        have hb5 := then_ hb3 hb4
        have hbs5 := hb5.size
        clear cF cS hR3 hb3 hb4 HO3 hz4
        go_wp2_with fail
        refine (rsum_any (t ++ y) (by rw [ByteArray.size_append]; unfold maxLen; omega) _).mono ?_
        rintro e w5 ⟨rfl, rfl⟩
        rw [HCAT.out, HCRC.out]
        by_cases hc : ((Frame.crcOf B : Nat) : Int) = want
        · have hne : (((Frame.crcOf B : Nat) : Int) != want) = false := by rw [bne_eq_false_iff_eq]; exact hc
          have HF : Hid (Frame.first X = some B) := Lib.hid (by rw [HFD.out, if_pos ⟨trivial, by omega, hc⟩])
          have HS := Lib.hid (HSCAN.out B HF.out)
          have hat2 : at_ + 8 + m = (Frame.all (out ++ [B])).length := by rw [Frame.all_append, List.length_append, ← HAT.out]; show _ = at_ + (Frame.put B ++ []).length; rw [List.append_nil, Frame.put_length, hBl]; omega
          have hone : strsOf (out ++ [B]) = strsOf out ++ [.string y] := by unfold strsOf; rw [List.map_append, List.map_append, ← HY.out]; rfl
          have HAT2 := Lib.hid hat2; have HONE := Lib.hid hone; have HBL := Lib.hid hBl
          have hle : at_ + 8 + m ≤ s.size := by omega
          clear hat2 hone hc HFD HSC HSCAN HF hBl hbody
          go_wp2_with (at_builtin; refine wpList_app elStr (by rfl) (.tmp 49) (.tmp 51) (by rfl) w.heap.size _ _ _ (by rfl) (HO4.out.alloc _) (some ⟨w4.heap.size, 0, none⟩) 1 1 [.string y] rfl rfl (Rd.new w4 #[.string y] _) (by intro u hu; simp at hu; subst hu; rfl) (by unfold maxLen; omega) (by omega) (by simp; omega) ?_; intro v1 w6 hown1 hbel1 _ _)
          have hown2 : Hid (w6.ownsRow w.heap.size 9 1 v1 (out ++ [B]).length (strsOf (out ++ [B]))) := Lib.hid (by rw [HONE.out, List.length_append]; exact hown1)
          have hb9 := (hb5.alloc hbs5 _).trans hbel1
          clear hown1 hbel1 hb5
          refine ⟨⟨at_ + 8 + m, out ++ [B], hle, by go_num, HAT2, Lib.hid (by rw [HS.out, List.append_assoc, HBL.out, show at_ + 8 + m = at_ + (8 + m) by omega]; rfl), hown2.out, hb9⟩, ?_⟩
          simp [intOf]
          omega
        · have hne : (((Frame.crcOf B : Nat) : Int) != want) = true := by rw [bne_iff_ne]; exact hc
          have HS : Hid (Frame.scan S = out) := Lib.hid (by rw [HSC.out, Frame.scan_none (by rw [HFD.out, if_neg (by rintro ⟨_, _, h⟩; exact hc h)]), List.append_nil])
          clear HFD HSC HSCAN hc
          go_wp2
          go_ret2
          exact ⟨hb5, _, by rw [HS.out, HAT.out]; rfl, by rw [HS.out]; exact HO4.out⟩
end Go.Proofs.Ytendagkbaihgiaa
