/- mac: the walk of MacChanged. -/
import Derived.Test.YtejfnkialhlkmaaMacE
import Derived.Deep.RegionHeld3
attribute [local go_sem ↓] Go.wp_at_zero Go.wp_at_succ
namespace Go.Proofs.Ytejfnkialhlkmaa
open Go.RowKit Go.Mem Go.Num
set_option linter.unusedVariables false
def arr2b (x : Int × Int) : Array Value := #[.int .u8 x.1, .int .u8 x.2]
def wf2b (x : Int × Int) : Prop := (Lit.int .u8 x.1).wf = true ∧ (Lit.int .u8 x.2).wf = true
theorem cells_arr2b : Try.prog.cellsOf 60 = 2 := by kernel_rfl
theorem is_arr2b {H : Type} {enc : TypeId × Value → H} {w : World} {cs : List Value} (h : Is enc Try.prog w 60 cs) : ∃ x : Int × Int, cs = (arr2b x).toList ∧ wf2b x := by
  obtain ⟨hl, hf⟩ := is_array Try.underlying60 h
  rw [cells_arr2b] at hl
  obtain ⟨c0, r0, rfl, hl0⟩ := cons_of hl
  obtain ⟨c1, r1, rfl, hl1⟩ := cons_of hl0
  obtain rfl := nil_of hl1
  obtain ⟨s0, h0, w0⟩ := is_int Try.underlying5 (hf 0 (by omega))
  obtain ⟨s1, h1, w1⟩ := is_int Try.underlying5 (hf 1 (by omega))
  simp [cellsByte] at h0 h1
  subst h0 h1
  exact ⟨⟨s0, s1⟩, rfl, w0, w1⟩

theorem Tl.put_ {w : World} {base n g c : Nat} {e : TypeId} {xs : List Value} (h : Tl w base e (.slice (some ⟨g, 0, none⟩) n c) n xs) (k : Nat) (hk : k < n) (u : Value) :
    Tl (w.setCell ⟨g, k, none⟩ u) base e (.slice (some ⟨g, 0, none⟩) n c) n (xs.set k u) ∧ w.frozen? ⟨g, k, none⟩ = false := by
  obtain ⟨h1, g', cap, cur, fz, hv, hg, hh, hf, hn, hc, hcs, htk⟩ := h
  injection hv with ha _ hcap
  injection ha with ha
  injection ha with ha
  subst ha hcap
  refine ⟨⟨by simpa using h1, g, c, cur.setIfInBounds k u, fz, rfl, hg, by simp [World.setCell, Array.getElem?_modify, hh], hf, hn, hc, by simpa using hcs, ?_⟩, ?_⟩
  · rw [Array.toList_setIfInBounds, ← htk, List.take_set]
  · obtain ⟨lo, hi⟩ := fz
    simp only [World.frozen?, hh, Bool.and_eq_false_iff, decide_eq_false_iff_not]
    simp only at hf
    omega
theorem changed_iff (l : List UInt8) (k : Nat) (h : k < l.length) (c : UInt8) : l.set k (l[k] ^^^ c) = l ↔ c = 0 := by
  constructor
  · intro he
    have h1 : (l.set k (l[k] ^^^ c))[k]'(by simpa using h) = l[k] ^^^ c := by simp
    have h2 : l[k] ^^^ c = l[k] := by
      rw [← h1]
      simp only [he]
    have h3 := congrArg (l[k] ^^^ ·) h2
    simpa [← UInt8.xor_assoc] using h3
  · rintro rfl
    simp

set_option maxRecDepth 100000 in
set_option maxHeartbeats 2000000 in
theorem macChanged_walk (s x : ByteArray) (a b : Int) (w : World) (hs : s.size ≤ maxLen) (hx : x.size ≤ maxLen) (ha : (Lit.int .u8 a).wf = true) (hb : (Lit.int .u8 b).wf = true) :
    Calls Try.prog 9 #[.string s, .string x, .agg #[.int .u8 a, .int .u8 b]] w fun e w' => e = .returned (.bool true) ∧ Below w.heap.size w w' := by
  unfold maxLen at hs hx
  obtain ⟨a0, a1⟩ := wf8 ha
  obtain ⟨b0, b1⟩ := wf8 hb
  clear ha hb
  have hB0 : Below w.heap.size w (w.alloc (.cells #[.int .u8 a, .int .u8 b] 60)) := (Below.refl _ _).alloc (Nat.le_refl _) _
  have nB : Blk (w.alloc (.cells #[.int .u8 a, .int .u8 b] 60)) w.heap.size 60 [.int .u8 a, .int .u8 b] := Blk.new w _ [.int .u8 a, .int .u8 b]
  go_enter Try.func9, Try.ntmps9
  go_upto_region 1 with fail
  refine wp_world (w0 := w.alloc (.cells #[.int .u8 a, .int .u8 b] 60)) (by rfl) ?_
  generalize w.alloc (.cells #[.int .u8 a, .int .u8 b] 60) = w0 at *
  by_cases hbig : 512 < s.size
  · go_wp2_with fail
    refine (awake03_any _).mono ?_
    rintro e w1 ⟨rfl, hb1⟩
    go_wp2
    go_ret
    exact ⟨rfl, then_ hB0 hb1⟩
  · by_cases hbig2 : 512 < x.size
    · go_wp2_with fail
      refine (awake03_any _).mono ?_
      rintro e w1 ⟨rfl, hb1⟩
      go_wp2
      go_ret
      exact ⟨rfl, then_ hB0 hb1⟩
    · have hs9 : s.size ≤ 512 := by omega
      have hx9 : x.size ≤ 512 := by omega
      go_wp2_with fail
      refine (macSum_any s x _ (by omega) (by omega)).mono ?_
      rintro e w1 ⟨rfl, hb1⟩
      have nB1 := nB.belowS hb1
      have hb1 := then_ hB0 hb1
      have hz := macSum_size s x
      generalize hW : MacSum s x = W at *
      have HW := Lib.hid hW; clear hW nB hB0
      have z1 : W.size ≤ 32 := by omega
      have z2 : 32 ≤ W.size := by omega
      have e0 : ((W.size : Int) != 32) = false := by rw [bne_eq_false_iff_eq]; omega
      have HZ := Lib.hid hz; clear hz
      go_wp2_with fail
      refine (macIs_any s x W _ (by omega) (by omega) (by omega)).mono ?_
      rintro e w2 ⟨rfl, hb2⟩
      have nB2 := nB1.belowS hb2
      have hb2 := then_ hb1 hb2
      rw [HW.out, decide_eq_true (rfl : W = W)]
      clear nB1 hb1
      go_wp2_with fail
      have hd1 : decide (W = W.extract 0 31) = false := by
        rw [decide_eq_false_iff_not]
        intro h
        have h1 := congrArg ByteArray.size h
        rw [ByteArray.size_extract, HZ.out] at h1
        omega
      refine (macIs_any s x (W.extract 0 31) _ (by omega) (by omega) (by rw [ByteArray.size_extract]; omega)).mono ?_
      rintro e w3 ⟨rfl, hb3⟩
      have nB3 := nB2.belowS hb3
      have hb3 := then_ hb2 hb3
      rw [HW.out, hd1]
      clear nB2 hb2 hd1
      go_wp2_with fail
      have hq1 : (W ++ (⟨#[120]⟩ : ByteArray)).size = 33 := by rw [ByteArray.size_append, HZ.out]; rfl
      generalize W ++ (⟨#[120]⟩ : ByteArray) = q at hq1 ⊢
      have hd2 : decide (W = q) = false := by
        rw [decide_eq_false_iff_not]
        rintro rfl
        have := HZ.out
        omega
      refine (macIs_any s x q _ (by omega) (by omega) (by omega)).mono ?_
      rintro e w4 ⟨rfl, hb4⟩
      have nB4 := nB3.belowS hb4
      have hb4 := then_ hb3 hb4
      rw [HW.out, hd2]
      clear nB3 hb3 hd2 e0 hq1
      have hconv := Lib.run_convert_string_bytes (P := Try.prog) w4 9 27 5 W Try.underlying9 Try.underlying27 Try.underlying5
      have ht := Tl.of_text w4 5 W (by unfold maxLen; omega)
      have hbt := below_text w4 5 W
      have nB5 := nB4.belowS hbt
      have hb5 := then_ hb4 hbt
      have h5 := hb4.size
      have hG := nB4.lt
      obtain ⟨k, hk⟩ : ∃ k : Nat, a % 32 = k := ⟨(a % 32).toNat, by omega⟩
      have hk32 : k < 32 := by omega
      have hand : bits .and .u8 a 31 = (k : Int) := by
        rw [u8_and a 31 a0 (by omega) (by omega) (by omega), show (31 : Int).toNat = 31 from rfl, nat_mask5, ← hk]
        omega
      clear hk a0 a1
      obtain ⟨c, rfl⟩ : ∃ c : UInt8, b = (c.toNat : Int) := ⟨UInt8.ofNat b.toNat, by rw [UInt8.toNat_ofNat']; omega⟩
      clear b0 b1
      have hWl : W.data.toList.length = 32 := by rw [← HZ.out]; simp
      have hkW : k < W.data.toList.length := by omega
      have hkz : k < W.size := by omega
      obtain ⟨hput, hfro⟩ := Tl.put_ ht k hkz (.int .u8 (W.data.toList[k] ^^^ c).toNat)
      have hcell := ht.cells k (u8v W.data.toList[k]) (by rw [str_u8, List.getElem?_map, List.getElem?_eq_getElem hkW]; rfl)
      rw [add_none, Nat.zero_add] at hcell
      have hxs : (Lib.strCells W).set k (.int .u8 (W.data.toList[k] ^^^ c).toNat) = (W.data.toList.set k (W.data.toList[k] ^^^ c)).map u8v := by rw [str_u8, List.map_set]; rfl
      rw [hxs] at hput
      have hiff := changed_iff W.data.toList k hkW c
      have hx1 := UInt8.toNat_lt W.data.toList[k]
      have hxor : bits .xor .u8 (W.data.toList[k].toNat : Int) (c.toNat : Int) = ((W.data.toList[k] ^^^ c).toNat : Int) := by rw [u8_xor_nat _ _ hx1 (UInt8.toNat_lt c), UInt8.toNat_xor]
      unfold u8v at hcell
      have c0 := nB5.cell 0 _ rfl
      have c1 := nB5.cell 1 _ rfl
      have hcap := grownCap_ge w4 W.size 0 5
      generalize grownCap w4 W.size 0 5 = cap at *
      generalize Lib.bytesWorld w4 5 W = wb at *
      generalize w4.heap.size = G at *
      generalize W.data.toList[k] = y at *
      generalize y ^^^ c = z at *
      have hlen : (W.data.toList.set k z).length = 32 := by rw [List.length_set]; exact hWl
      have htW : W = bs (W.data.toList.set k z) ↔ c = 0 := by
        rw [← hiff]
        constructor
        · intro h
          have := congrArg (fun s : ByteArray => s.data.toList) h
          rw [bs_toList] at this
          exact this.symm
        · intro h; rw [h, bs_of]
      generalize W.data.toList.set k z = L at *
      have hw7 : Tl (wb.drew.setCell ⟨G, k, none⟩ (.int .u8 z.toNat)).drew G 5 (.slice (some ⟨G, 0, none⟩) W.size cap) W.size (L.map u8v) := hput
      have hback : ∀ V : World, Below (wb.drew.setCell ⟨G, k, none⟩ (.int .u8 z.toNat)).drew.heap.size (wb.drew.setCell ⟨G, k, none⟩ (.int .u8 z.toNat)).drew V → (convert 27 9 (.slice (some ⟨G, 0, none⟩) W.size cap)).run Try.prog V = .ok (.string (bs L)) V := fun V hV => by
        have h := run_convert_bytes_back (P := Try.prog) V 27 9 5 ⟨G, 0, none⟩ cap L Try.underlying27 Try.underlying5 Try.underlying9
          (fun j hj => (hw7.below hV).cells j _ (by rw [List.getElem?_map, List.getElem?_eq_getElem hj]; rfl))
        rw [hlen, ← HZ.out] at h
        exact h
      have hts : (bs L).size = 32 := by rw [bs_size]; exact hlen
      have HIS : Hid (∀ V : World, Calls Try.prog 45 #[.string s, .string x, .string (bs L)] V fun e w' => e = .returned (.bool (decide (c = 0))) ∧ Below V.heap.size V w') := Lib.hid (fun V => by
        have := macIs_any s x (bs L) V (by omega) (by omega) (by omega)
        rw [HW.out, decide_eq_decide.2 htW] at this
        exact this)
      have hc0 : ((c.toNat : Int) == 0) = decide (c = 0) := by
        rw [Bool.eq_iff_iff, beq_iff_eq, decide_eq_true_eq]
        constructor
        · intro h; exact UInt8.toNat_inj.1 (by show c.toNat = 0; omega)
        · rintro rfl; rfl
      have hB7 : Below w.heap.size w (wb.drew.setCell ⟨G, k, none⟩ (.int .u8 z.toNat)) := hb5.drew.setCell (by simp; omega) _
      have d1 : (wb.drew.setCell ⟨G, k, none⟩ (.int .u8 z.toNat)).cell? ⟨w.heap.size, 1, none⟩ = some (.int .u8 c.toNat) := by
        rw [World.cell?_setCell_other _ _ _ _ (fun e => by have := congrArg Addr.block e; simp only at this; omega)]
        exact c1
      generalize decide (c = 0) = r at *
      generalize bs L = t at *
      have HB5 := Lib.hid hb5; have HTS := Lib.hid hts; have HB7 := Lib.hid hB7; have HBACK := Lib.hid hback; have HD1 := Lib.hid d1; have HC0 := Lib.hid hc0
      have i1 : (0 : Int) ≤ (k : Int) := by omega
      have i2 : (k : Int) < (W.size : Int) := by omega
      have i3 : (W.size : Int) ≤ (cap : Int) := by omega
      clear htW hw7 hlen hiff hxs hput ht hbt hb5 hts hB7 hback d1 hc0 nB5 nB4 hb4 hx1 hWl hkW hcap
      go_wp2
      go_still_tail 10, (by kernel_rfl)
      change wpList _ _ _ _ _ wb.drew
      go_wp2
      refine wp_world (w0 := wb.drew.setCell ⟨G, k, none⟩ (.int .u8 z.toNat)) (by rfl) ?_
      generalize wb.drew.setCell ⟨G, k, none⟩ (.int .u8 z.toNat) = w7 at HB7 HBACK HD1 ⊢
      clear hcell hfro c0 c1 hxor hand hconv i1 i2 i3 HB5
      have hback := HBACK.out w7.drew (Below.refl _ _)
      have d1 := HD1.out
      have hc0 := HC0.out
      have hb7 := HB7.out
      clear HD1 HC0
      go_region_held3 (fun V => V.cell? ⟨w.heap.size, 1, none⟩ = some (.int .u8 c.toNat) ∧ (convert 27 9 (.slice (some ⟨G, 0, none⟩) W.size cap)).run Try.prog V = .ok (.string t) V) (first | exact ⟨by simpa using d1, hback⟩ | exact ⟨cell_below hb9 (by simpa using d1), HBACK.out _ hb9⟩ | exact ⟨cell_below hb10 (cell_below hb9 (by simpa using d1)), HBACK.out _ (then_ hb9 hb10)⟩) (first | (go_at_call 45; (refine (HIS.out _).mono ?_); rintro e w9 ⟨rfl, hb9⟩) | (go_at_call 44; (refine (awake03_any _).mono ?_); rintro e w10 ⟨rfl, hb10⟩))
      all_goals
        go_wp2
        go_ret
        exact ⟨rfl, then_ (then_ hb7.drew hb9) hb10⟩
end Go.Proofs.Ytejfnkialhlkmaa
