/- frame: all frames; the first frame; the scan. -/
import Derived.Test.YtendagkbaihgiaaFrame
attribute [local go_sem ↓] Go.wp_at_zero Go.wp_at_succ
namespace Go.Proofs.Ytendagkbaihgiaa
open Go.RowKit Go.Mem Go.Num
set_option linter.unusedVariables false
def datas (ss : List ByteArray) : List (List UInt8) := ss.map (·.data.toList)
def puts (ss : List ByteArray) : List ByteArray := ss.map fun s => bs (Frame.put s.data.toList)
theorem puts_flat (ss : List ByteArray) : ((puts ss).map (·.data.toList)).flatten = Frame.all (datas ss) := by
  unfold puts datas Frame.all
  rw [List.map_map, List.flatMap_map, List.flatMap_def]
  congr 1
theorem puts_snoc (ss : List ByteArray) (k : Nat) (h : k < ss.length) : (puts (ss.take (k + 1))).map Value.string = (puts (ss.take k)).map Value.string ++ [.string (bs (Frame.put ss[k].data.toList))] := by
  unfold puts
  rw [List.take_succ_eq_append_getElem h, List.map_append, List.map_append]
  rfl
set_option maxRecDepth 100000 in
set_option maxHeartbeats 1000000 in
theorem fAll_any (A : Option Addr) (n c : Nat) (ss : List ByteArray) (w : World) (hr : Rd w A (ss.map Value.string)) (hn : ss.length = n) (hn6 : n ≤ 65536) (hs : ∀ s ∈ ss, s.size ≤ 1099511627776) (hz : (Frame.all (datas ss)).length ≤ 140737488355328) :
    Calls Try.prog 18 #[.slice A n c] w fun e w' => e = .returned (.string (bs (Frame.all (datas ss)))) ∧ Below w.heap.size w w' := by
  have HN := Lib.hid hn; have HS := Lib.hid hs; have HZ := Lib.hid hz; clear hn hs hz
  go_enter Try.func18, Try.ntmps18
  go_wp2
  go_loopw [3, 8] (fun v i wr => ∃ k : Nat, k ≤ n ∧ i = .int .i64 k ∧ wr.ownsRow w.heap.size 9 1 v k ((puts (ss.take k)).map Value.string) ∧ Below w.heap.size w wr) (fun _ i _ => n - (intOf i).toNat)
  case atStart => exact ⟨0, Nat.zero_le _, rfl, World.ownsRow_nil _ _ _ _, Below.refl _ _⟩
  case round =>
    obtain ⟨k, hk, rfl, hown, hb⟩ := hrel
    obtain ⟨oA, oc, rfl⟩ := own_form hown
    by_cases hlt : k < n
    · have hx : k < ss.length := by have := HN.out; omega
      obtain ⟨b, off, rfl, hcell⟩ := (hr.below hb).at_ k (by simp; exact hx)
      simp only [List.getElem_map] at hcell
      have hsn := puts_snoc ss k hx
      have hsz := HS.out ss[k] (List.getElem_mem hx)
      generalize ss[k] = s at *
      have HSN := Lib.hid hsn; have HO := Lib.hid hown; clear hsn hown
      go_wp2_with fail
      refine (fPut_any s _ hsz).mono ?_
      rintro e w7 ⟨rfl, hb7⟩
      have HO7 := Lib.hid (own_below HO.out hb7)
      have hb8 := then_ hb hb7
      have hbs := hb8.size
      clear hcell HO hb hb7
      generalize bs (Frame.put s.data.toList) = t at *
      go_wp2_with (at_builtin; refine wpList_app elStr (by rfl) (.tmp 12) (.tmp 15) (by rfl) w.heap.size _ _ _ (by rfl) (HO7.out.alloc _) (some ⟨w7.heap.size, 0, none⟩) 1 1 [.string t] rfl rfl (Rd.new w7 #[.string t] _) (by intro u hu; simp at hu; subst hu; rfl) (by unfold maxLen; omega) (by omega) (by simp; omega) ?_; intro v1 w1 hown1 hbel1 _ _)
      have hown2 : Hid (w1.ownsRow w.heap.size 9 1 v1 (k + 1) ((puts (ss.take (k + 1))).map Value.string)) := Lib.hid (by rw [HSN.out]; exact hown1)
      have hb9 := (hb8.alloc hbs _).trans hbel1
      clear hown1 hbel1 hb8
      go_roundw
      case rel => exact ⟨k + 1, by omega, by go_num, hown2.out, hb9⟩
      case measure => simp [intOf]; omega
    · have HK : Hid (k = n) := Lib.hid (by omega)
      have i3 : (n : Int) ≤ (k : Int) := by omega
      have htk : ss.take k = ss := List.take_of_length_le (by rw [HN.out, HK.out]; exact Nat.le_refl _)
      rw [htk] at hown
      have hoc : k ≤ oc := by
        rcases hown.2 with ⟨hv, h0⟩ | ⟨g, cap, cur, hv, _, _, hnc, _⟩
        · omega
        · injection hv with _ _ hc; omega
      have HRD := Lib.hid (Rd.of_own hown)
      have hlen : (puts ss).length = k := by unfold puts; rw [List.length_map, HN.out, HK.out]
      have HLEN := Lib.hid hlen; have HFL := Lib.hid (puts_flat ss)
      have HFZ : Hid (((puts ss).map (·.data.toList)).flatten.length ≤ 140737488355328) := Lib.hid (by rw [HFL.out]; exact HZ.out)
      clear htk hown hlen
      go_wp2_with fail
      refine (join_any oA k oc (puts ss) _ HRD.out HLEN.out hoc HFZ.out (by omega)).mono ?_
      rintro e w2 ⟨rfl, hb2⟩
      rw [HFL.out]
      go_wp2
      go_ret
      exact ⟨rfl, then_ hb hb2⟩

def FirstRes (s : ByteArray) (w : World) (e : Ending) (w' : World) : Prop :=
  Below w.heap.size w w' ∧ ∃ (b : List UInt8) (ok : Bool), e = .returned (.tuple #[.string (bs b), .bool ok]) ∧ Frame.first s.data.toList = if ok then some b else none
set_option maxRecDepth 100000 in
set_option maxHeartbeats 1000000 in
theorem first_any (s : ByteArray) (w : World) (hs : s.size ≤ 1099511627776) : Calls Try.prog 26 #[.string s] w (FirstRes s w) := by
  have hhd := Frame.head_range s.data.toList
  have hfd : Frame.first s.data.toList = if (Frame.head s.data.toList).2.2 = true ∧ (Frame.head s.data.toList).1 ≤ (s.data.toList.length : Int) - 8 ∧ (Frame.crcOf ((s.data.toList.drop 8).take (Frame.head s.data.toList).1.toNat) : Int) = (Frame.head s.data.toList).2.1 then some ((s.data.toList.drop 8).take (Frame.head s.data.toList).1.toNat) else none := rfl
  have hhe : Frame.head s.data.toList = ((rdCount 1048576 (s.data.toList, true)).1, (rdCount 4294967295 (rdCount 1048576 (s.data.toList, true)).2).1, (rdCount 4294967295 (rdCount 1048576 (s.data.toList, true)).2).2.2) := rfl
  have hsl : s.data.toList.length = s.size := by simp
  rw [hsl] at hfd
  have HFD := Lib.hid hfd; clear hfd
  go_enter Try.func26, Try.ntmps26
  go_wp2_with fail
  refine (new_any s _).mono ?_
  rintro e w1 ⟨rfl, hR1, hb1, hs1⟩
  have hlt : w.heap.size < w1.heap.size := by omega
  clear hs1
  go_wp2_with fail
  refine (rCount_any w.heap.size 1048576 _ _ hR1 (by simp only; rw [hsl]; omega)).mono ?_
  rintro e w2 ⟨rfl, hR2, ho2⟩
  have hl2 := rdCount_len 1048576 (s.data.toList, true)
  simp only at hl2
  go_wp2_with fail
  refine (rCount_any w.heap.size 4294967295 _ _ hR2 (by omega)).mono ?_
  rintro e w3 ⟨rfl, hR3, ho3⟩
  have hO := ho2.then_ ho3
  have hb3 := hb1.trans (hO.belowS (Nat.le_refl _) hlt)
  generalize hst : (rdCount 4294967295 (rdCount 1048576 (s.data.toList, true)).2).2 = st at *
  generalize hn : (rdCount 1048576 (s.data.toList, true)).1 = n at *
  generalize hwt : (rdCount 4294967295 (rdCount 1048576 (s.data.toList, true)).2).1 = want at *
  rw [hhe] at hhd HFD
  simp only at hhd
  obtain ⟨n0, n1, w0⟩ := hhd
  clear hhe hR1 hR2 ho2 ho3 hO hl2 hst hn hwt hb1
  go_wp2_with fail
  refine (rBad_any w.heap.size st _ hR3).mono ?_
  rintro e w4 ⟨rfl, rfl⟩
  obtain ⟨rest, good⟩ := st
  simp only at HFD ⊢
  obtain ⟨m, rfl⟩ : ∃ m : Nat, n = (m : Int) := ⟨n.toNat, by omega⟩
  cases good
  · have HF : Hid (Frame.first s.data.toList = none) := Lib.hid (by rw [HFD.out, if_neg (by simp)])
    clear HFD
    go_wp2
    go_ret2
    exact ⟨hb3, [], false, rfl, by rw [HF.out]; rfl⟩
  · by_cases hbig : (s.size : Int) - 8 < (m : Int)
    · have HF : Hid (Frame.first s.data.toList = none) := Lib.hid (by rw [HFD.out, if_neg (by simp; omega)])
      clear HFD
      go_wp2
      go_ret2
      exact ⟨hb3, [], false, rfl, by rw [HF.out]; rfl⟩
    · have hm8 : 8 + m ≤ s.size := by omega
      have hbody : s.extract 8 (8 + m) = bs ((s.data.toList.drop 8).take m) := by
        have h1 := bs_extract s.data.toList 8 (8 + m)
        rw [bs_of] at h1
        rw [h1, List.drop_take]
        congr 2
        omega
      rw [Int.toNat_natCast] at HFD
      have hbd : (bs ((s.data.toList.drop 8).take m)).data.toList = (s.data.toList.drop 8).take m := bs_toList _
      have hbz : (bs ((s.data.toList.drop 8).take m)).size ≤ 1099511627776 := by rw [bs_size, List.length_take]; omega
      generalize (s.data.toList.drop 8).take m = B at *
      have hw1 : IntKind.i64.wrap (8 + (m : Int)) = 8 + (m : Int) := IntWalk.i64_in _ (by omega)
      have ht1 : (8 + (m : Int)).toNat = 8 + m := by omega
      go_wp2_with fail
      refine (fsum_any (bs B) _ hbz).mono ?_
      rintro e w5 ⟨rfl, hb5⟩
      rw [hbd]
      have hb5 := then_ hb3 hb5
      by_cases hc : ((Frame.crcOf B : Nat) : Int) = want
      · have he : (((Frame.crcOf B : Nat) : Int) == want) = true := by rw [beq_iff_eq]; exact hc
        have HF : Hid (Frame.first s.data.toList = some B) := Lib.hid (by rw [HFD.out, if_pos ⟨by simp, by omega, hc⟩])
        clear HFD hc hbody
        go_wp2
        go_ret2
        exact ⟨hb5, B, true, rfl, by rw [HF.out]; rfl⟩
      · have he : (((Frame.crcOf B : Nat) : Int) == want) = false := by rw [beq_eq_false_iff_ne]; exact hc
        have HF : Hid (Frame.first s.data.toList = none) := Lib.hid (by rw [HFD.out, if_neg (by rintro ⟨_, _, h⟩; exact hc h)])
        clear HFD hc hbody
        go_wp2
        go_ret2
        exact ⟨hb5, B, false, rfl, by rw [HF.out]; rfl⟩

def strsOf (l : List (List UInt8)) : List Value := (l.map bs).map Value.string
def ScanRes (s : List UInt8) (w : World) (e : Ending) (w' : World) : Prop :=
  Below w.heap.size w w' ∧ ∃ v, e = .returned (.tuple #[v, .int .i64 (Frame.all (Frame.scan s)).length]) ∧ w'.ownsRow w.heap.size 9 1 v (Frame.scan s).length (strsOf (Frame.scan s))
theorem first_crc {s b : List UInt8} (h : Frame.first s = some b) : (Frame.put b).length = 8 + b.length := Frame.put_length b
set_option maxRecDepth 100000 in
set_option maxHeartbeats 1000000 in
theorem scan_any (s : ByteArray) (w : World) (hs : s.size ≤ 1000000000) : Calls Try.prog 16 #[.string s] w (ScanRes s.data.toList w) := by
  have hsl : s.data.toList.length = s.size := by simp
  have hss : bs s.data.toList = s := bs_of s
  generalize s.data.toList = S at *
  have HSL := Lib.hid hsl; have HSS := Lib.hid hss; clear hsl hss
  go_enter Try.func16, Try.ntmps16
  go_wp2
  go_loopw [4, 5] (fun v a wr => ∃ (at_ : Nat) (out : List (List UInt8)), at_ ≤ s.size ∧ a = .int .i64 at_ ∧ Hid (at_ = (Frame.all out).length) ∧ Hid (Frame.scan S = out ++ Frame.scan (S.drop at_)) ∧ wr.ownsRow w.heap.size 9 1 v out.length (strsOf out) ∧ Below w.heap.size w wr) (fun _ a _ => s.size - (intOf a).toNat)
  case atStart => exact ⟨0, [], Nat.zero_le _, rfl, Lib.hid rfl, Lib.hid rfl, World.ownsRow_nil _ _ _ _, Below.refl _ _⟩
  case round =>
    obtain ⟨at_, out, hat, rfl, HAT, HSC, hown, hb⟩ := hrel
    obtain ⟨oA, oc, rfl⟩ := own_form hown
    have hx : s.extract at_ s.size = bs (S.drop at_) := by
      have h1 := bs_extract S at_ s.size
      rw [HSS.out] at h1
      rw [h1, List.take_of_length_le (by rw [HSL.out]; exact Nat.le_refl _)]
    have hol : out.length ≤ at_ := by
      have := HAT.out
      rw [this]
      clear this HAT HSC hown
      induction out with
      | nil => exact Nat.zero_le _
      | cons b l ih => rw [Frame.all_cons, List.length_append, Frame.put_length, List.length_cons]; omega
    have hxd : (bs (S.drop at_)).data.toList = S.drop at_ := bs_toList _
    have hxz : (bs (S.drop at_)).size = s.size - at_ := by rw [bs_size, List.length_drop, HSL.out]
    have HXZ := Lib.hid hxz; clear hxz
    have HO := Lib.hid hown; clear hown
    have i1 : (0 : Int) ≤ (at_ : Int) := by omega
    have i2 : (at_ : Int) ≤ (s.size : Int) := by omega
    go_wp2_with fail
    generalize bs (S.drop at_) = x at *
    refine (first_any x _ (by have := HXZ.out; omega)).mono ?_
    rintro e w1 ⟨hb1, b, ok, rfl, hf⟩
    rw [hxd] at hf
    have hb2 := then_ hb hb1
    have HO1 := Lib.hid (own_below HO.out hb1)
    clear hx hxd HO hb hb1
    cases ok
    · have hsc : Frame.scan S = out := by rw [HSC.out, Frame.scan_none (by rw [hf]; rfl), List.append_nil]
      have HS := Lib.hid hsc
      clear hf hsc HSC
      go_wp2
      go_ret2
      exact ⟨hb2, _, by rw [HS.out, HAT.out]; rfl, by rw [HS.out]; exact HO1.out⟩
    · have hf' : Frame.first (S.drop at_) = some b := hf
      have hfl := Frame.first_len hf'
      rw [List.length_drop, HSL.out] at hfl
      have hsc := HSC.out
      rw [Frame.scan_some hf', List.drop_drop] at hsc
      have HS := Lib.hid hsc
      have hbz : (bs b).size = b.length := bs_size b
      have hbs := hb2.size
      have hat2 : at_ + (8 + b.length) = (Frame.all (out ++ [b])).length := by rw [Frame.all_append, List.length_append, ← HAT.out]; show _ = at_ + (Frame.put b ++ []).length; rw [List.append_nil, Frame.put_length]
      have hone : strsOf (out ++ [b]) = strsOf out ++ [.string (bs b)] := by unfold strsOf; rw [List.map_append, List.map_append]; rfl
      have HAT2 := Lib.hid hat2; have HBZ := Lib.hid hbz; have HONE := Lib.hid hone
      clear hf hf' hsc HSC hat2 hbz hone HAT
      generalize hy : bs b = y at *
      have HY := Lib.hid hy; clear hy
      have hyz : y.size = b.length := HBZ.out
      have hy1 : y.size ≤ 1000000000 := by omega
      have hy2 : at_ + (8 + y.size) ≤ s.size := by omega
      have HYZ := Lib.hid hyz; clear hyz
      go_wp2_with (at_builtin; refine wpList_app elStr (by rfl) (.tmp 19) (.tmp 21) (by rfl) w.heap.size _ _ _ (by rfl) (HO1.out.alloc _) (some ⟨w1.heap.size, 0, none⟩) 1 1 [.string y] rfl rfl (Rd.new w1 #[.string y] _) (by intro u hu; simp at hu; subst hu; rfl) (by unfold maxLen; omega) (by omega) (by simp; omega) ?_; intro v1 w2 hown1 hbel1 _ _)
      have hown2 : Hid (w2.ownsRow w.heap.size 9 1 v1 (out ++ [b]).length (strsOf (out ++ [b]))) := Lib.hid (by rw [HONE.out, List.length_append]; exact hown1)
      have hb9 := (hb2.alloc hbs _).trans hbel1
      clear hown1 hbel1 hb2
      refine ⟨⟨at_ + (8 + y.size), out ++ [b], hy2, by go_num, Lib.hid (by rw [HYZ.out]; exact HAT2.out), Lib.hid (by rw [HYZ.out, HS.out, List.append_assoc]; rfl), hown2.out, hb9⟩, ?_⟩
      simp [intOf]
      omega
end Go.Proofs.Ytendagkbaihgiaa
