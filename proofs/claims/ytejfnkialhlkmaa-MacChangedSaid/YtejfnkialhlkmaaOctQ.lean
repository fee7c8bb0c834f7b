/- The walk of OctetBack. -/
import Derived.Test.YtejfnkialhlkmaaOctZ
import Derived.Test.YtejfnkialhlkmaaOctP
import Derived.Test.YtejfnkialhlkmaaOpen
import Derived.Deep.DeepCutAuto
namespace Go.Proofs.Ytejfnkialhlkmaa
open Go.RowKit Go.Mem Go.Num
set_option linter.unusedVariables false
theorem textB_tx (s : ByteArray) : textB s = tx s.data.toList := by
  unfold textB tx
  have : s.data.toList.length = s.size := by simp
  rw [this]
theorem textsB_tx (ss : List ByteArray) : textsB ss = be 4 ((ss.map fun s => s.data.toList).length) ++ (ss.map fun s => s.data.toList).flatMap tx := by
  unfold textsB
  rw [List.length_map]
  congr 1
  induction ss with
  | nil => rfl
  | cons s ss ih => simp only [List.flatMap_cons, List.map_cons, ih, textB_tx]
/-- what is read, one behind the other: texts, a number, a text -/
def rd3 (st : St) : (List (List UInt8) × Int × List UInt8) × St :=
  (((rdTexts st).1, (rdNum 8 (rdTexts st).2).1, (rdText (rdNum 8 (rdTexts st).2).2).1), (rdText (rdNum 8 (rdTexts st).2).2).2)
theorem rd3_mono : Mono rd3 := by
  have h1 : Mono (fun st => (fun (a : List (List UInt8)) (st1 : St) => (((a, (rdNum 8 st1).1, (rdText (rdNum 8 st1).2).1), (rdText (rdNum 8 st1).2).2) : (List (List UInt8) × Int × List UInt8) × St)) (rdTexts st).1 (rdTexts st).2) := by
    have h2 : ∀ a : List (List UInt8), Mono (fun st1 : St => ((a, (rdNum 8 st1).1, (rdText (rdNum 8 st1).2).1), (rdText (rdNum 8 st1).2).2)) := by
      intro a
      refine mono_then (f := rdNum 8) (g := fun (m : Int) (st2 : St) => (((a, m, (rdText st2).1), (rdText st2).2) : (List (List UInt8) × Int × List UInt8) × St)) (rdNum_mono 8) (fun m st h => rdText_stays st h) ?_
      intro m p d h
      have := rdText_mono p d h
      simp only
      rw [this]
    exact mono_then (f := rdTexts) (g := fun (a : List (List UInt8)) (st1 : St) => (((a, (rdNum 8 st1).1, (rdText (rdNum 8 st1).2).1), (rdText (rdNum 8 st1).2).2) : (List (List UInt8) × Int × List UInt8) × St)) rdTexts_mono (fun a st h => rdText_stays _ (rdNum_stays 8 st h)) h2
  exact h1
theorem rd3_app (ts : List (List UInt8)) (n : Int) (s : List UInt8) (h : ∀ t ∈ ts, t.length ≤ 1048576) (hl : ts.length ≤ 65536) (h0 : -9223372036854775808 ≤ n) (h1 : n ≤ 9223372036854775807) (hs : s.length ≤ 1048576) :
    rdTexts (be 4 ts.length ++ ts.flatMap tx ++ be 8 n ++ tx s, true) = (ts, (be 8 n ++ tx s, true)) ∧ rdNum 8 (be 8 n ++ tx s, true) = (n, (tx s, true)) ∧ rdText (tx s, true) = (s, ([], true)) := by
  refine ⟨?_, rdNum8_app n _ h0 h1, ?_⟩
  · rw [List.append_assoc]
    exact rdTexts_app ts _ h hl
  · have := rdText_app s [] hs
    rwa [List.append_nil] at this

theorem szB {B : Nat} {a w : World} (h : Below B a w) (e : a.heap.size = B) : B ≤ w.heap.size := by have := h.size; omega
set_option maxRecDepth 100000 in
set_option maxHeartbeats 4000000 in
theorem octetBack_walk (n0 n1 : Int) (s : ByteArray) (A : Option Addr) (m c : Nat) (ss : List ByteArray) (w : World) (hn0 : (Lit.int .i64 n0).wf = true) (hn1 : (Lit.int .i64 n1).wf = true) (hs : s.size ≤ maxLen) (hr : Rd w A (ss.map Value.string)) (hm : ss.length = m) (hm' : m ≤ maxLen) :
    Calls Try.prog 6 #[.agg #[.int .i64 n0, .int .i64 n1], .string s, .slice A m c] w fun e w' => e = .returned (.bool true) ∧ Below w.heap.size w w' := by
  obtain ⟨hlo, hhi⟩ := bounds_i64 hn0
  obtain ⟨hlo1, hhi1⟩ := bounds_i64 hn1
  unfold maxLen at hs
  have HM := Lib.hid hm; clear hm hn0 hn1
  have hN : Two 54 w.heap.size (.int .i64 n0) (.int .i64 n1) (w.alloc (.cells #[.int .i64 n0, .int .i64 n1] 54)) := Two.new w _ _ _
  have hbN : Below w.heap.size w (w.alloc (.cells #[.int .i64 n0, .int .i64 n1] 54)) := (Below.refl _ _).alloc (Nat.le_refl _) _
  have hsN : (w.alloc (.cells #[.int .i64 n0, .int .i64 n1] 54)).heap.size = w.heap.size + 1 := by simp
  generalize hwN : w.alloc (.cells #[.int .i64 n0, .int .i64 n1] 54) = wN at hN hbN hsN
  have hW := Wr.new wN
  have hb0 : Below wN.heap.size wN (wN.alloc (.cells #[.pointer none, .slice none 0 0] 31)) := (Below.refl _ _).alloc (Nat.le_refl _) _
  generalize hw0 : wN.alloc (.cells #[.pointer none, .slice none 0 0] 31) = w0 at hW hb0
  have HWN := Lib.hid hwN; have HW0 := Lib.hid hw0; have HSN := Lib.hid hsN; clear hw0 hwN hsN
  go_enter Try.func6, Try.ntmps6
  go_upto_region 1 with fail
  rw [HWN.out]
  have hrN := hr.below hbN
  by_cases hbig : 1024 < s.size
  · go_wp2_with fail
    refine (awake01_any _).mono ?_
    rintro e w1 ⟨rfl, hb1⟩
    go_wp2
    go_ret
    exact ⟨rfl, then_ hbN hb1⟩
  · go_wp2_with fail
    refine (few01_any A m c ss _ hrN HM.out hm').mono ?_
    rintro e w1 ⟨few, hfew, rfl, rfl⟩
    cases few
    · clear hfew
      go_wp2_with fail
      refine (awake01_any _).mono ?_
      rintro e w1 ⟨rfl, hb1⟩
      go_wp2
      go_ret
      exact ⟨rfl, then_ hbN hb1⟩
    · obtain ⟨hl20, hall⟩ := hfew.1 rfl
      have hsum := sumSize_le ss 1024 hall
      clear hfew
      have HS : Hid (sumSize ss ≤ 20480) := Lib.hid (by omega)
      have HL : Hid (ss.length ≤ 20) := Lib.hid hl20
      have HALL : Hid (∀ t ∈ ss.map (fun s => s.data.toList), t.length ≤ 1048576) := Lib.hid (by
        intro t ht
        obtain ⟨x, hx, rfl⟩ := List.mem_map.1 ht
        have := hall x hx
        simp
        omega)
      have hm20 : m ≤ 20 := by rw [← HM.out]; exact hl20
      clear hsum hall hl20
      generalize hBB : wN.heap.size = B at *
      have HBB := Lib.hid hBB; clear hBB
      go_wp2_with fail
      rw [HW0.out, HBB.out]
      have hrd0 : Rd w0 A (ss.map Value.string) := hrN.below (by rw [HBB.out]; exact hb0)
      have hrlt : 0 < ss.length → ∀ ad, A = some ad → ad.block < B := fun h ad e => by have := rd_lt hrN h ad e; rw [HBB.out] at this; exact this
      have hq1 : ([] : List UInt8).length + 4 * ss.length + sumSize ss + 16 ≤ 140737488355328 := by have := HS.out; have := HL.out; simp; omega
      refine (wTexts_any B B [] A m c ss w0 hW hrd0 hrlt HM.out hq1 (szB hb0 HBB.out)).mono ?_
      clear hrlt hq1
      rintro e w1 ⟨rfl, hW1, hb1⟩
      have hb1 := hb0.trans hb1
      have hlt : w.heap.size < B := by have := HSN.out; have := HBB.out; omega
      have hN1 := hN.below_at hb1 hlt
      have c0 := hN1.c0
      have hlT : (textsB ss).length ≤ 21000 := by
        have := HS.out
        have := HL.out
        unfold textsB
        rw [List.length_append, be_length, flat_text_length]
        omega
      go_wp2_with fail
      refine (wInt_any B B _ n0 _ hW1 (by simp; omega) (szB hb1 HBB.out)).mono ?_
      rintro e w2 ⟨rfl, hW2, hb2⟩
      have hb2 := hb1.trans hb2
      clear c0
      go_wp2_with fail
      refine (wText_any B B _ s _ hW2 (by simp [be_length]; omega) (szB hb2 HBB.out)).mono ?_
      rintro e w3 ⟨rfl, hW3, hb3⟩
      have hb3 := hb2.trans hb3
      have hH := hW3.holds
      rw [List.nil_append, textsB_tx, textB_tx] at hH
      rw [textsB_tx] at hlT
      have hsl : s.data.toList.length = s.size := by simp
      have h3 := rd3_app (ss.map fun s => s.data.toList) n0 s.data.toList HALL.out (by rw [List.length_map]; have := HL.out; omega) hlo hhi (by omega)
      have hmap : (ss.map fun s => s.data.toList).map bs = ss := by
        rw [List.map_map]
        have : (bs ∘ fun s : ByteArray => s.data.toList) = id := by funext x; exact bs_of x
        rw [this, List.map_id]
      have hbss : bs s.data.toList = s := bs_of s
      have htsl : (ss.map fun s => s.data.toList).length = m := by rw [List.length_map]; exact HM.out
      generalize (ss.map fun s => s.data.toList) = ts at h3 hH hmap htsl hlT
      generalize s.data.toList = sl at h3 hH hsl hbss
      have hlen : (be 4 ts.length ++ ts.flatMap tx ++ be 8 n0 ++ tx sl).length ≤ 30000 := by
        have htx : (tx sl).length = 4 + sl.length := by unfold tx; rw [List.length_append, be_length]
        rw [List.length_append, List.length_append, be_length]
        omega
      have hpos : 0 < (be 4 ts.length ++ ts.flatMap tx ++ be 8 n0 ++ tx sl).length := by
        rw [List.length_append, List.length_append, be_length]
        omega
      obtain ⟨h31, h32, h33⟩ := h3
      generalize be 4 ts.length ++ ts.flatMap tx ++ be 8 n0 ++ tx sl = L at *
      have HSL := Lib.hid hsl; have HMAP := Lib.hid hmap; have HBSS := Lib.hid hbss; have HTSL := Lib.hid htsl; have H31 := Lib.hid h31; have H32 := Lib.hid h32; have H33 := Lib.hid h33
      clear hsl hmap hbss htsl h31 h32 h33 hlT hW hW1 hW2 hW3 HW0 HWN
      go_wp2_with fail
      refine (wBytes_any B B L _ hH (szB hb3 HBB.out)).mono ?_
      rintro e w4 ⟨rfl, hb4, _, _⟩
      have hb4 := hb3.trans hb4
      have hLs : (⟨L.toArray⟩ : ByteArray).size = L.length := bs_size L
      have hLd : (⟨L.toArray⟩ : ByteArray).data.toList = L := by simp
      have hLx : ∀ k, (⟨L.toArray⟩ : ByteArray).extract 0 k = bs (L.take k) := fun k => (bs_extract L 0 k).trans rfl
      generalize (⟨L.toArray⟩ : ByteArray) = lb at hLs hLd hLx ⊢
      have HLD := Lib.hid hLd; have HLX := Lib.hid hLx; have HLS := Lib.hid hLs; clear hLd hLx hLs
      go_wp2_with fail
      refine (new_any lb _).mono ?_
      rintro e w5 ⟨rfl, hR5, hb5, hs5⟩
      rw [HLD.out] at hR5
      have hB4 : B ≤ w4.heap.size := szB hb4 HBB.out
      have hb5w := hb4.trans (hb5.mono hB4)
      have hlt5 : w4.heap.size < w5.heap.size := by omega
      clear hs5 hb5
      generalize w4.heap.size = r at *
      go_wp2_with fail
      refine (rTexts_any r _ _ hR5 (by simp; omega)).mono ?_
      rw [H31.out]
      rintro e w6 ⟨v, rfl, hv, hR6, ho6⟩
      simp only at hv hR6
      have hb6 := hb5w.trans (ho6.belowS hB4 hlt5)
      go_wp2_with fail
      refine (rInt_any r _ _ hR6 (by have := rdTexts_len (L, true); rw [H31.out] at this; simp only at this ⊢; omega)).mono ?_
      rw [H32.out]
      rintro e w7 ⟨rfl, hR7, ho7⟩
      simp only at hR7 ⊢
      have hb7 := hb6.trans (ho7.belowS hB4 (Two.lt hR6))
      have hv7 := own_only hv hlt5 ho7
      go_wp2_with fail
      refine (rText_any r _ _ hR7 (by have := rdTexts_len (L, true); rw [H31.out] at this; have h2 := rdNum_len 8 (be 8 n0 ++ tx sl, true); rw [H32.out] at h2; simp only at this h2 ⊢; omega)).mono ?_
      rw [H33.out]
      rintro e w8 ⟨rfl, hR8, ho8⟩
      simp only at hR8 ⊢
      rw [HBSS.out]
      have hb8 := hb7.trans (ho8.belowS hB4 (Two.lt hR7))
      have hv8 := own_only hv7 hlt5 ho8
      have hm1 := own_max hv8
      obtain ⟨vA, vc, rfl⟩ := own_form hv8
      have hd8 := Rd.of_own hv8
      rw [txs_map, HMAP.out] at hd8
      rw [HTSL.out] at hm1 ⊢
      clear hv hv7 hv8 hR5 hR6 hR7
      go_wp2_with fail
      have hrd8 : Rd w8 A (ss.map Value.string) := hrN.below (by rw [HBB.out]; exact hb8)
      refine (sameTexts_any vA m vc ss A m c ss _ hd8 HM.out hm1 hrd8 HM.out hm').mono ?_
      rintro e w9 ⟨rfl, hb9⟩
      rw [decide_eq_true (rfl : ss = ss)]
      have hR9 := Two.below hR8 hb9
      have hb9 := hb8.trans (hb9.mono (szB hb8 HBB.out))
      have hN9 := hN.below_at hb9 hlt
      have c0 := hN9.c0
      have c1 := hN9.c1
      go_wp2_with fail
      refine (rDone_any r ([], true) _ hR9).mono ?_
      rintro e w10 ⟨rfl, rfl⟩
      rw [show rdDone (([], true) : St) = true from rfl]
      go_wp2_with fail
      refine (rBad_any r ([], true) _ hR9).mono ?_
      rintro e w10 ⟨rfl, rfl⟩
      simp only [Bool.not_true]
      have hl0 : ((lb.size : Int) == 0) = false := beq_eq_false_iff_ne.2 (by have := HLS.out; omega)
      have hls1 : 0 < lb.size := by have := HLS.out; omega
      have hls2 : lb.size ≤ 30000 := by have := HLS.out; omega
      obtain ⟨k, hk, hk1⟩ : ∃ k : Nat, (IntKind.u64.wrap n1).tmod lb.size = (k : Int) ∧ k < lb.size := by
        have h0 : 0 ≤ IntKind.u64.wrap n1 := by simp only [IntKind.wrap, IntKind.signed, IntKind.bits]; simp; omega
        have h1 := Int.emod_nonneg (IntKind.u64.wrap n1) (b := (lb.size : Int)) (by omega)
        have h2 := Int.emod_lt_of_pos (IntKind.u64.wrap n1) (b := (lb.size : Int)) (by omega)
        rw [Int.tmod_eq_emod_of_nonneg h0]
        exact ⟨(IntKind.u64.wrap n1 % (lb.size : Int)).toNat, by omega, by omega⟩
      have hk2 : (k : Int) < lb.size := by omega
      go_wp2_with fail
      refine (new_any _ _).mono ?_
      rintro e w10 ⟨rfl, hR10, hb10, hs10⟩
      rw [HLX.out k, bs_toList] at hR10
      clear hk c0 c1
      have hbad := cut_bad rd3_mono L (ts, n0, sl) (by unfold rd3; rw [H31.out, H32.out, H33.out]) k (by have := HLS.out; omega)
      unfold rd3 at hbad
      simp only at hbad
      have hl1 : (L.take k).length ≤ 140737488355328 := by rw [List.length_take]; omega
      have HBAD := Lib.hid hbad; clear hbad
      have hlt10 : w9.heap.size < w10.heap.size := by omega
      have hb9s : B ≤ w9.heap.size := szB hb9 HBB.out
      have hc10 := hb9.trans (hb10.mono hb9s)
      clear hs10 hb10
      generalize w9.heap.size = q at *
      go_wp2_with fail
      refine (rTexts_any q _ _ hR10 hl1).mono ?_
      rintro e w11 ⟨v, rfl, hv, hR11, ho11⟩
      have hb11 := hc10.trans (ho11.belowS hb9s hlt10)
      have hl2 := rdTexts_len (L.take k, true)
      generalize rdTexts (L.take k, true) = x1 at *
      obtain ⟨y1, st1⟩ := x1
      simp only at hl2 hR11 HBAD
      go_wp2_with fail
      refine (rInt_any q _ _ hR11 (by omega)).mono ?_
      rintro e w12 ⟨rfl, hR12, ho12⟩
      have hb12 := hb11.trans (ho12.belowS hb9s (Two.lt hR11))
      have hl3 := rdNum_len 8 st1
      generalize rdNum 8 st1 = x2 at *
      obtain ⟨y2, st2⟩ := x2
      simp only at hl3 hR12 HBAD ⊢
      go_wp2_with fail
      refine (rText_any q _ _ hR12 (by omega)).mono ?_
      rintro e w13 ⟨rfl, hR13, ho13⟩
      have hb13 := hb12.trans (ho13.belowS hb9s (Two.lt hR12))
      generalize rdText st2 = x3 at *
      obtain ⟨y3, p3, g3⟩ := x3
      have hg3 := HBAD.out
      simp only at hg3 hR13 ⊢
      subst hg3
      clear HBAD
      go_wp2_with fail
      refine (rBad_any q _ _ hR13).mono ?_
      rintro e w14 ⟨rfl, rfl⟩
      simp only [Bool.not_false]
      go_wp2_with fail
      refine (rDone_any q _ _ hR13).mono ?_
      rintro e w14 ⟨rfl, rfl⟩
      rw [show rdDone ((p3, false) : St) = false from rfl]
      go_wp2_with fail
      refine (awake01_any _).mono ?_
      rintro e w15 ⟨rfl, hb15⟩
      go_wp2
      go_ret
      exact ⟨rfl, (hbN.trans (hb13.mono (Nat.le_of_lt hlt))).trans (hb15.mono (Nat.le_trans hbN.size (by rw [HBB.out]; exact szB hb13 HBB.out)))⟩

def arr2i (x : Int × Int) : Array Value := #[.int .i64 x.1, .int .i64 x.2]
def wf2i (x : Int × Int) : Prop := (Lit.int .i64 x.1).wf = true ∧ (Lit.int .i64 x.2).wf = true
theorem cells_int : Try.prog.cellsOf 3 = 1 := by kernel_rfl
theorem cells_arr2i : Try.prog.cellsOf 54 = 2 := by kernel_rfl
theorem is_arr2i {H : Type} {enc : TypeId × Value → H} {w : World} {cs : List Value} (h : Is enc Try.prog w 54 cs) : ∃ x : Int × Int, cs = (arr2i x).toList ∧ wf2i x := by
  obtain ⟨hl, hf⟩ := is_array Try.underlying54 h
  rw [cells_arr2i] at hl
  obtain ⟨c0, r0, rfl, hl0⟩ := cons_of hl
  obtain ⟨c1, r1, rfl, hl1⟩ := cons_of hl0
  obtain rfl := nil_of hl1
  obtain ⟨s0, h0, w0⟩ := is_int Try.underlying3 (hf 0 (by omega))
  obtain ⟨s1, h1, w1⟩ := is_int Try.underlying3 (hf 1 (by omega))
  simp [cells_int] at h0 h1
  subst h0 h1
  exact ⟨⟨s0, s1⟩, rfl, w0, w1⟩
end Go.Proofs.Ytejfnkialhlkmaa
