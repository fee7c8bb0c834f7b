/- sha: the document's block. -/
import Derived.Test.YtgmafnpkhmlnnaaShaH
import Derived.StillTactics
attribute [local go_sem ↓] Go.wp_at_zero Go.wp_at_succ
namespace Go.Sha
open Go.RowKit
def T1 (x : S8) (k w : Nat) : Nat := x.h + big x.e 6 11 25 + ((x.e &&& x.f) ^^^ ((4294967295 - x.e) &&& x.g)) + k + w
def T2 (x : S8) : Nat := big x.a 2 13 22 + ((x.a &&& x.b) ^^^ (x.a &&& x.c) ^^^ (x.b &&& x.c))
theorem T1_lt {x : S8} (hx : Ok x) {k w : Nat} (hk : k < 4294967296) (hw : w < 4294967296) : T1 x k w < 25769803776 := by
  have h1 := big_lt x.e 6 11 25 hx.e
  have h2 := xor_lt (and_lt hx.f : x.e &&& x.f < 4294967296) (and_lt hx.g : (4294967295 - x.e) &&& x.g < 4294967296)
  have h3 := hx.h
  unfold T1
  omega
theorem T2_lt {x : S8} (hx : Ok x) : T2 x < 25769803776 := by
  have h1 := big_lt x.a 2 13 22 hx.a
  have h2 := xor_lt (xor_lt (and_lt hx.b : x.a &&& x.b < 4294967296) (and_lt hx.c : x.a &&& x.c < 4294967296)) (and_lt hx.c : x.b &&& x.c < 4294967296)
  unfold T2
  omega
theorem not_i64 (e : Nat) (he : e < 4294967296) : bits .xor .i64 (if IntKind.i64.signed = true then -1 else 9223372036854775807) (e : Int) % 4294967296 = ((4294967295 - e : Nat) : Int) := by
  rw [show (if IntKind.i64.signed = true then (-1 : Int) else 9223372036854775807) = -1 from rfl]
  show IntKind.i64.wrap ((BitVec.ofInt 64 (-1) ^^^ BitVec.ofInt 64 (e : Int)).toNat : Int) % _ = _
  rw [show BitVec.ofInt 64 (-1) = BitVec.allOnes 64 by decide, BitVec.allOnes_xor, BitVec.toNat_not, ofInt_i64 e (by omega), IntKind.wrap_i64]
  omega
theorem big_i64 (x a b c : Nat) (hx : x < 4294967296) : bits .xor .i64 (bits .xor .i64 (rotr x a : Nat) (rotr x b : Nat)) (rotr x c : Nat) = ((big x a b c : Nat) : Int) := by
  have h1 := rotr_lt x a hx
  have h2 := rotr_lt x b hx
  have h3 := rotr_lt x c hx
  have h4 := xor_lt h1 h2
  rw [i64_xor_nat _ _ (by omega) (by omega), i64_xor_nat _ _ (by omega) (by omega)]
  rfl
theorem wrap64_nat (n : Nat) (h : n < 25769803776) : wrap64 (n : Int) = (n : Int) := IntWalk.wrap64_in _ ⟨by omega, by omega⟩
theorem t1_int {x : S8} (hx : Ok x) {k w : Nat} (hk : k < 4294967296) (hw : w < 4294967296) :
    wrap64 (wrap64 (wrap64 (wrap64 ((x.h : Int) + bits .xor .i64 (bits .xor .i64 (rotr x.e 6 : Nat) (rotr x.e 11 : Nat)) (rotr x.e 25 : Nat)) + bits .xor .i64 (bits .and .i64 (x.e : Int) (x.f : Int)) (bits .and .i64 (bits .xor .i64 (if IntKind.i64.signed = true then -1 else 9223372036854775807) (x.e : Int) % 4294967296) (x.g : Int))) + (k : Int)) + (w : Int)) = ((T1 x k w : Nat) : Int) := by
  have h1 := big_lt x.e 6 11 25 hx.e
  have ha : x.e &&& x.f < 4294967296 := and_lt hx.f
  have hb : (4294967295 - x.e) &&& x.g < 4294967296 := and_lt hx.g
  have h2 := xor_lt ha hb
  have h3 := hx.h
  have h4 := hx.e
  have h5 := hx.f
  have h6 := hx.g
  rw [big_i64 x.e 6 11 25 hx.e, not_i64 x.e hx.e, i64_and_nat x.e x.f (by omega) (by omega), i64_and_nat (4294967295 - x.e) x.g (by omega) (by omega), i64_xor_nat _ _ (by omega) (by omega)]
  unfold T1
  generalize (x.e &&& x.f) ^^^ ((4294967295 - x.e) &&& x.g) = y at *
  generalize big x.e 6 11 25 = z at *
  rw [← Int.natCast_add, wrap64_nat _ (by omega), ← Int.natCast_add, wrap64_nat _ (by omega), ← Int.natCast_add, wrap64_nat _ (by omega), ← Int.natCast_add, wrap64_nat _ (by omega)]
theorem t2_int {x : S8} (hx : Ok x) :
    wrap64 (bits .xor .i64 (bits .xor .i64 (rotr x.a 2 : Nat) (rotr x.a 13 : Nat)) (rotr x.a 22 : Nat) + bits .xor .i64 (bits .xor .i64 (bits .and .i64 (x.a : Int) (x.b : Int)) (bits .and .i64 (x.a : Int) (x.c : Int))) (bits .and .i64 (x.b : Int) (x.c : Int))) = ((T2 x : Nat) : Int) := by
  have h1 := big_lt x.a 2 13 22 hx.a
  have ha : x.a &&& x.b < 4294967296 := and_lt hx.b
  have hb : x.a &&& x.c < 4294967296 := and_lt hx.c
  have hc : x.b &&& x.c < 4294967296 := and_lt hx.c
  have h2 := xor_lt (xor_lt ha hb) hc
  have h7 := xor_lt ha hb
  have h3 := hx.a
  have h4 := hx.b
  have h5 := hx.c
  rw [big_i64 x.a 2 13 22 hx.a, i64_and_nat x.a x.b (by omega) (by omega), i64_and_nat x.a x.c (by omega) (by omega), i64_and_nat x.b x.c (by omega) (by omega), i64_xor_nat _ _ (by omega) (by omega), i64_xor_nat _ _ (by omega) (by omega)]
  unfold T2
  generalize (x.a &&& x.b) ^^^ (x.a &&& x.c) ^^^ (x.b &&& x.c) = y at *
  generalize big x.a 2 13 22 = z at *
  rw [← Int.natCast_add, wrap64_nat _ (by omega)]
theorem step_T (x : S8) (k w : Nat) : step x k w = ⟨(T1 x k w + T2 x) % 4294967296, x.a, x.b, x.c, (x.d + T1 x k w) % 4294967296, x.e, x.f, x.g⟩ := by
  have h1 : one x k w = T1 x k w % 4294967296 := rfl
  have h2 : two x = T2 x % 4294967296 := rfl
  unfold step
  rw [h1, h2]
  congr 1
  · omega
  · omega
end Go.Sha
namespace Go.Proofs.Ytgmafnpkhmlnnaa
open Go.RowKit Go.Mem Go.Num
set_option linter.unusedVariables false
def z64i : List Value := List.replicate 64 (.int .i64 0)
def z8i : List Value := List.replicate 8 (.int .i64 0)
def zi1 (w : World) : World := w.alloc (.cells z64i.toArray 109)
theorem info64i (cs : List Value) (h : cs.length = 64) : (Try.prog.info? 109).map (·.size) = some cs.toArray.size := by rw [List.size_toArray, h]; kernel_rfl
theorem info8i (cs : List Value) (h : cs.length = 8) : (Try.prog.info? 98).map (·.size) = some cs.toArray.size := by rw [List.size_toArray, h]; kernel_rfl
theorem one_i64s (l : List Nat) : (l.map i64v).toArray.all (·.oneCell') = true := all_oneCell_toArray (fun v hv => by obtain ⟨x, _, rfl⟩ := List.mem_map.1 hv; rfl)
def kListI : List Value := Sha.K.map i64v
theorem kListI_eq : kListI = Sha.K.map i64v := rfl
theorem kListI_len : kListI.length = z64i.length := rfl
theorem kListI_64 : kListI.length = 64 := rfl
theorem kListI_one : kListI.toArray.all (·.oneCell') = true := one_i64s Sha.K
attribute [irreducible] kListI
theorem kListI_at (k : Nat) (h : k < 64) : kListI[k]? = some (.int .i64 (Sha.K.getD k 0 : Nat)) := by
  have hl : Sha.K.length = 64 := rfl
  rw [kListI_eq, List.getElem?_map, List.getElem?_eq_getElem (by omega)]
  simp [List.getD, hl, h, i64v]
set_option maxRecDepth 100000 in
set_option maxHeartbeats 1000000 in
theorem refConstants_any (w : World) : Calls Try.prog 82 #[] w fun e w' => e = .returned (.agg kListI.toArray) ∧ Below w.heap.size w w' := by
  have h2 : Blk (zi1 w) w.heap.size 109 z64i := Blk.new w _ _
  have hB : Below w.heap.size w (zi1 w) := (Below.refl _ _).alloc (Nat.le_refl _) _
  have hst := h2.store kListI kListI_len
  have hth := Blk.there' h2 kListI_len
  have hb5 := below_setCells (Nat.le_refl w.heap.size) kListI 0 (zi1 w) hB
  have hi := info64i kListI kListI_64
  have HI := Lib.hid hi; have HTH := Lib.hid hth; have HST := Lib.hid hst; have HB5 := Lib.hid hb5; clear hi hth hst h2 hB hb5
  go_enter Try.func82, Try.ntmps82
  go_upto_region 1 with fail
  refine wp_world (w0 := zi1 w) (by rfl) ?_
  generalize zi1 w = w0 at HTH HST HB5 ⊢
  go_wp2_with (first | (refine wpList_store_mid (by rfl) 109 (.tmp 0) (.tmp 1) (by rfl) w.heap.size 0 kListI.toArray (by rfl) (by rfl) HTH.out HI.out kListI_one ?_) | (refine wpList_value (by rfl) (.agg kListI.toArray) (by kernel_rfl) ?_))
  refine bodyPost_ret (results_cell_row rfl _ _ w.heap.size _ kListI.toArray (0, 0) _ rfl HST.out Try.underlying109 rfl HI.out) rfl ⟨rfl, HB5.out⟩

theorem quiet_more {P : Program} {f : FuncId} {args : Array Value} {w : World} {n : Nat} {v : Value} (h : Calls P f args (w.drewN n) fun e w' => e = .returned v ∧ ∃ q, w' = (w.drewN n).drewN q) : Calls P f args (w.drewN n) fun e w'' => e = .returned v ∧ ∃ m, w'' = w.drewN m :=
  h.mono fun e w' ⟨h1, q, h2⟩ => ⟨h1, n + q, by rw [h2]; simp⟩
theorem refTurnZ (x : Nat) (z : Int) (w : World) (hx : x < 4294967296) (h2 : 2 ≤ z) (h31 : z ≤ 31) :
    Calls Try.prog 83 #[.int .i64 x, .int .i64 z] w fun e w' => e = .returned (.int .i64 (Sha.rotr x z.toNat : Nat)) ∧ ∃ q, w' = w.drewN q := by
  obtain ⟨a, rfl⟩ := Int.eq_ofNat_of_zero_le (show (0 : Int) ≤ z by omega)
  exact refTurn_any x a w hx (by omega) (by omega)
def arr8i (s : Sha.S8) : List Value := s.list.map i64v
def pl8i (x s : Sha.S8) (k : Nat) : List Value := (arr8i (Sha.plus x s)).take k ++ (arr8i x).drop k
theorem pl8i_len (x s : Sha.S8) (k : Nat) (h : k ≤ 8) : (pl8i x s k).length = 8 := by
  have hl : (arr8i (Sha.plus x s)).length = 8 := rfl
  have hl2 : (arr8i x).length = 8 := rfl
  unfold pl8i
  rw [List.length_append, List.length_take, List.length_drop]
  omega
theorem pl8i_at (x s : Sha.S8) (k : Nat) (h : k < 8) : (pl8i x s k)[k]? = some (.int .i64 (x.list.getD k 0 : Nat)) := by
  unfold pl8i
  have hl : (arr8i (Sha.plus x s)).length = 8 := rfl
  rw [List.getElem?_append_right (by rw [List.length_take]; omega), List.length_take, hl, List.getElem?_drop, show k + (k - min k 8) = k by omega]
  rcases lt8 k h with rfl | rfl | rfl | rfl | rfl | rfl | rfl | rfl <;> rfl
theorem arr8i_at (s : Sha.S8) (k : Nat) (h : k < 8) : (arr8i s)[k]? = some (.int .i64 (s.list.getD k 0 : Nat)) := by
  rcases lt8 k h with rfl | rfl | rfl | rfl | rfl | rfl | rfl | rfl <;> rfl
theorem pl8i_set (x s : Sha.S8) (k : Nat) (h : k < 8) : (pl8i x s k).set k (.int .i64 ((x.list.getD k 0 + s.list.getD k 0) % 4294967296 : Nat)) = pl8i x s (k + 1) := by
  rcases lt8 k h with rfl | rfl | rfl | rfl | rfl | rfl | rfl | rfl <;> rfl
theorem list_lt {s : Sha.S8} (h : Sha.Ok s) (k : Nat) : s.list.getD k 0 < 4294967296 := by
  rcases Nat.lt_or_ge k 8 with hk | hk
  · rcases lt8 k hk with rfl | rfl | rfl | rfl | rfl | rfl | rfl | rfl
    · exact h.a
    · exact h.b
    · exact h.c
    · exact h.d
    · exact h.e
    · exact h.f
    · exact h.g
    · exact h.h
  · rw [List.getD_eq_getElem?_getD, List.getElem?_eq_none (show s.list.length ≤ k from hk)]; decide
def wtakei (s : Sha.S8) (w : World) : World := (w.alloc (.cells (arr8i s).toArray 98)).alloc (.cells z8i.toArray 98)
theorem zi1Old (w : World) {g : Nat} {t : TypeId} {cs : List Value} (h : Blk w g t cs) : Blk (zi1 w) g t cs := h.alloc _

set_option maxRecDepth 100000 in
set_option maxHeartbeats 2000000 in
theorem refBlock_any (s : Sha.S8) (hs : Sha.Ok s) (b : ByteArray) (w : World) (hb64 : b.size = 64) :
    Calls Try.prog 70 #[.agg (arr8i s).toArray, .string b] w fun e w' => e = .returned (.agg (arr8i (Sha.comp s b.data.toList)).toArray) ∧ Below w.heap.size w w' := by
  have h2 : Blk (wtakei s w) w.heap.size 98 (arr8i s) := (Blk.new w _ _).alloc _
  have h4 : Blk (wtakei s w) (w.heap.size + 1) 98 z8i := by
    have := Blk.new (w.alloc (.cells (arr8i s).toArray 98)) 98 z8i
    unfold wtakei
    simpa using this
  have hB : Below w.heap.size w (wtakei s w) := ((Below.refl _ _).alloc (Nat.le_refl _) _).alloc (by simp) _
  have hz : (wtakei s w).heap.size = w.heap.size + 2 := by simp [wtakei]
  have HL := Lib.hid hb64; clear hb64
  go_enter Try.func70, Try.ntmps70
  go_wp2_with fail
  refine calls_world (w0 := wtakei s w) (by rfl) ?_
  generalize wtakei s w = w0 at h2 h4 hB hz ⊢
  refine (refWords_any b w0 HL.out).mono ?_
  rintro e w1 ⟨hb1, v, rfl, hv⟩
  obtain ⟨vA, vc, rfl⟩ := own_form hv
  obtain ⟨gw, rfl, hgw1, hgw2, hgw3⟩ := own_pos hv (by omega)
  replace h2 := h2.belowS hb1
  replace h4 := h4.belowS hb1
  have hz1 : w.heap.size + 2 ≤ w1.heap.size := by have := hb1.size; omega
  replace hB := then_ hB hb1
  clear hb1
  go_wp2_with fail
  refine (refConstants_any w1).mono ?_
  rintro e w2 ⟨rfl, hb2⟩
  replace h2 := h2.belowS hb2
  replace h4 := h4.belowS hb2
  replace hv := own_below hv hb2
  have hz2 : w1.heap.size ≤ w2.heap.size := hb2.size
  replace hB := then_ hB hb2
  clear hb2
  have n6 : Blk (zi1 w2) w2.heap.size 109 z64i := Blk.new w2 _ _
  have s6 := n6.store kListI kListI_len
  have t6 := Blk.there' n6 kListI_len
  have f2 := blk_setFar (b := w2.heap.size) (by omega) kListI 0 (zi1 w2) (zi1Old w2 h2)
  have f4 := blk_setFar (b := w2.heap.size) (by omega) kListI 0 (zi1 w2) (zi1Old w2 h4)
  have fv : Below w2.heap.size w2 ((zi1 w2).setCells w2.heap.size 0 kListI) := below_setCells (Nat.le_refl _) kListI 0 (zi1 w2) ((Below.refl _ _).alloc (Nat.le_refl _) _)
  have hv3 := own_below hv fv
  have fB := then_ hB fv
  have hz3 : w2.heap.size < ((zi1 w2).setCells w2.heap.size 0 kListI).heap.size := s6.lt
  have hi6 := info64i kListI kListI_64
  have HI6 := Lib.hid hi6; have T6 := Lib.hid t6; have S6 := Lib.hid s6; have F2 := Lib.hid f2; have F4 := Lib.hid f4; have FV := Lib.hid hv3; have FB := Lib.hid fB; have HZ3 := Lib.hid hz3
  clear hi6 t6 s6 n6 f2 f4 fv hv3 fB hv hB h2 h4 hz3
  go_upto_region 3 with (refine wpList_store_mid (by rfl) 109 (.tmp 6) (.tmp 16) (by rfl) w2.heap.size 0 kListI.toArray (by rfl) (by rfl) T6.out HI6.out kListI_one ?_)
  refine wp_world (w0 := (zi1 w2).setCells w2.heap.size 0 kListI) (by rfl) ?_
  generalize (zi1 w2).setCells w2.heap.size 0 kListI = w3 at S6 F2 F4 FV FB HZ3 ⊢
  clear T6 HI6
  have hz3 := HZ3.out
  generalize w2.heap.size = G6 at *
  have n7 : Blk (w3.alloc (.cells z8i.toArray 98)) w3.heap.size 98 z8i := Blk.new w3 _ _
  have hl8 : (arr8i s).length = 8 := rfl
  have s7 := n7.store (arr8i s) hl8
  have t7 := Blk.there' n7 (vs := arr8i s) hl8
  have f2 := blk_setFar (b := w3.heap.size) (by omega) (arr8i s) 0 _ (F2.out.alloc (.cells z8i.toArray 98))
  have f4 := blk_setFar (b := w3.heap.size) (by omega) (arr8i s) 0 _ (F4.out.alloc (.cells z8i.toArray 98))
  have f6 := blk_setFar (b := w3.heap.size) (by omega) (arr8i s) 0 _ (S6.out.alloc (.cells z8i.toArray 98))
  have fv : Below w3.heap.size w3 ((w3.alloc (.cells z8i.toArray 98)).setCells w3.heap.size 0 (arr8i s)) := below_setCells (Nat.le_refl _) (arr8i s) 0 _ ((Below.refl _ _).alloc (Nat.le_refl _) _)
  have hv4 := own_below FV.out fv
  have fB := then_ FB.out fv
  have hi7 := info8i (arr8i s) hl8
  have one7 := one_i64s s.list
  have hcomp : Sha.comp s b.data.toList = Sha.plus (Sha.rnds (Sha.wP b.data.toList 64) s 64) s := rfl
  have hwlt : ∀ k, (Sha.wP b.data.toList 64).getD k 0 < 4294967296 := Sha.wP_lt _ 64
  have hwl := Sha.wP_length b.data.toList 64
  have HCOMP := Lib.hid hcomp; clear hcomp
  generalize Sha.wP b.data.toList 64 = W at *
  have HWLT := Lib.hid hwlt; have HWL := Lib.hid hwl; clear hwlt hwl
  generalize hcs : arr8i s = cs at F2 f2 f4 f6 fv hv4 fB s7 t7 hi7 hl8
  have one7' : cs.toArray.all (·.oneCell') = true := by rw [← hcs]; exact one7
  have HCS := Lib.hid hcs; clear hcs one7
  have HI7 := Lib.hid hi7; have T7 := Lib.hid t7; have S7 := Lib.hid s7; have G2 := Lib.hid f2; have G4 := Lib.hid f4; have G6' := Lib.hid f6; have GV := Lib.hid hv4; have GB := Lib.hid fB; have ONE7 := Lib.hid one7'
  clear hi7 t7 s7 n7 f2 f4 f6 fv hv4 fB one7' hl8 FV FB F4 S6
  go_wp2_with (first
    | (refine wpList_load_row (by rfl) 98 (.tmp 2) (by rfl) w.heap.size (by rfl) 98 cs.toArray (0, 0) _ F2.out Try.underlying98 rfl HI7.out ?_)
    | (refine wpList_store_mid (by rfl) 98 (.tmp 7) (.tmp 17) (by rfl) w3.heap.size 0 cs.toArray (by rfl) (by rfl) T7.out HI7.out ONE7.out ?_))
  refine wp_world (w0 := (w3.alloc (.cells z8i.toArray 98)).setCells w3.heap.size 0 cs) (by rfl) ?_
  generalize (w3.alloc (.cells z8i.toArray 98)).setCells w3.heap.size 0 cs = w4 at S7 G2 G4 G6' GV GB ⊢
  clear T7 HI7 ONE7 F2
  generalize w3.heap.size = G7 at *
  have HRW : Hid (Rd w4 (some ⟨gw, 0, none⟩) (W.map i64v)) := Lib.hid (Rd.of_own GV.out)
  have hgw7 : gw < G7 := by omega
  clear GV
  go_loopw [8] (fun i wr => ∃ (k : Nat) (x : Sha.S8), k ≤ 64 ∧ i = .int .i64 k ∧ Hid (Sha.rnds W s k = x) ∧ Sha.Ok x ∧ Blk wr w.heap.size 98 cs ∧ Blk wr (w.heap.size + 1) 98 z8i ∧ Blk wr G6 109 kListI ∧ Blk wr G7 98 (arr8i x) ∧ Rd wr (some ⟨gw, 0, none⟩) (W.map i64v) ∧ Below w.heap.size w wr) (fun i _ => 64 - (intOf i).toNat)
  case atStart => exact ⟨0, s, by omega, rfl, Lib.hid rfl, hs, G2.out, G4.out, G6'.out, by rw [HCS.out]; exact S7.out, HRW.out, GB.out⟩
  case round =>
    clear S7 G2 G4 G6' HRW GB
    obtain ⟨k, x, hk, rfl, HX, hx, F2, F4, F6, F7, FW, FB⟩ := hrel
    by_cases hlt : k < 64
    · have hi0 : (0 : Int) ≤ (k : Int) := by omega
      have hi1 : (k : Int) < 64 := by omega
      have ck := F6.cell k _ (kListI_at k hlt)
      obtain ⟨bb, oo, hA, cw⟩ := FW.at_ k (by rw [List.length_map, HWL.out]; exact hlt)
      injection hA with hA
      injection hA with hA1 hA2
      subst hA1 hA2
      have hwk : (W.map i64v)[k]'(by rw [List.length_map, HWL.out]; exact hlt) = .int .i64 (W.getD k 0 : Nat) := by
        rw [List.getElem_map, List.getD_eq_getElem?_getD, List.getElem?_eq_getElem (by rw [HWL.out]; exact hlt)]
        rfl
      rw [hwk, Nat.zero_add] at cw
      clear hwk
      have hkl := Sha.K_lt k
      have hwl := HWLT.out k
      have hnext : Sha.rnds W s (k + 1) = Sha.step x (Sha.K.getD k 0) (W.getD k 0) := by rw [← HX.out]; rfl
      have HN := Lib.hid hnext; clear hnext
      generalize Sha.K.getD k 0 = Kk at *
      generalize W.getD k 0 = Wk at *
      have hxn := Sha.step_ok hx Kk Wk
      have xa := hx.a
      have xb := hx.b
      have xc := hx.c
      have xd := hx.d
      have xe := hx.e
      have xf := hx.f
      have xg := hx.g
      have xh := hx.h
      have c0 := F7.cell 0 _ rfl
      have c1 := F7.cell 1 _ rfl
      have c2 := F7.cell 2 _ rfl
      have c3 := F7.cell 3 _ rfl
      have c4 := F7.cell 4 _ rfl
      have c5 := F7.cell 5 _ rfl
      have c6 := F7.cell 6 _ rfl
      have c7 := F7.cell 7 _ rfl
      unfold i64v at c0 c1 c2 c3 c4 c5 c6 c7
      have HOK := Lib.hid hx; clear hx
      go_wp2
      go_quiet (fail)
      change Blk (wr.drewN nq) _ _ _ at F2 F4 F6 F7
      change Rd (wr.drewN nq) _ _ at FW
      change (wr.drewN nq).cell? _ = _ at c0 c1 c2 c3 c4 c5 c6 c7 ck cw
      replace FB := drewN_ FB nq
      generalize wr.drewN nq = wd at *
      go_wp2
      go_quiet ((first | (go_at_call 83; exact quiet_more (refTurnZ x.e _ _ xe (by decide) (by decide))) | (go_at_call 84; exact quiet_left (refLow_any _ _))))
      rw [Sha.t1_int HOK.out hkl hwl]
      have hT1 := Sha.T1_lt HOK.out hkl hwl
      have hT2 := Sha.T2_lt HOK.out
      have hstep := Sha.step_T x Kk Wk
      rw [hstep] at HN hxn
      clear hstep ck cw
      generalize Sha.T1 x Kk Wk = t1 at *
      change Blk (wd.drewN nq) _ _ _ at F2 F4 F6 F7
      change Rd (wd.drewN nq) _ _ at FW
      change (wd.drewN nq).cell? _ = _ at c0 c1 c2 c3 c4 c5 c6 c7
      replace FB := drewN_ FB nq
      generalize wd.drewN nq = wd2 at *
      go_wp2
      go_quiet ((go_at_call 83; exact quiet_more (refTurnZ x.a _ _ xa (by decide) (by decide))))
      rw [Sha.t2_int HOK.out]
      generalize Sha.T2 x = t2 at *
      have e1 : IntKind.i64.wrap ((t1 : Int) + (t2 : Int)) = (t1 : Int) + t2 := IntWalk.i64_in _ (by omega)
      have e2 : IntKind.i64.wrap ((x.d : Int) + (t1 : Int)) = (x.d : Int) + t1 := IntWalk.i64_in _ (by omega)
      change Blk (wd2.drewN nq) _ _ _ at F2 F4 F6 F7
      change Rd (wd2.drewN nq) _ _ at FW
      change (wd2.drewN nq).cell? _ = _ at c0 c1 c2 c3 c4 c5 c6 c7
      replace FB := drewN_ FB nq
      generalize wd2.drewN nq = wd3 at *
      go_wp2
      refine wp_region_still_tail 22 (by kernel_rfl) (by kernel_rfl) ?_
      simp only [List.take_succ_cons, List.take_zero, List.drop_succ_cons, List.drop_zero]
      repeat still_step
      still_call ((refLow_any _ _).mono fun e w' h => ⟨h.1, h.2.symm⟩)
      repeat still_step
      still_call ((refLow_any _ _).mono fun e w' h => ⟨h.1, h.2.symm⟩)
      repeat still_step
      refine wpStill_nil ?_
      change wpList _ _ _ _ _ wd3.drew
      rw [Sha.add32 t1 t2, Sha.add32 x.d t1]
      clear e1 e2 c0 c1 c2 c3 c4 c5 c6 c7
      generalize hxn' : (⟨(t1 + t2) % 4294967296, x.a, x.b, x.c, (x.d + t1) % 4294967296, x.e, x.f, x.g⟩ : Sha.S8) = xn at HN hxn
      obtain ⟨cn, hcn⟩ : ∃ cn, arr8i xn = cn := ⟨_, rfl⟩
      have hcl : #[Value.int .i64 ((t1 + t2) % 4294967296 : Nat), .int .i64 x.a, .int .i64 x.b, .int .i64 x.c, .int .i64 ((x.d + t1) % 4294967296 : Nat), .int .i64 x.e, .int .i64 x.f, .int .i64 x.g] = cn.toArray := by rw [← hcn, ← hxn']; rfl
      have hcl8 : cn.length = 8 := by rw [← hcn]; rfl
      have one9 : cn.toArray.all (·.oneCell') = true := by rw [← hcn]; exact one_i64s xn.list
      have g7 : Blk wd3.drew G7 98 (arr8i x) := F7
      have s9 := g7.store cn (by rw [hcl8]; rfl)
      have t9 := Blk.there' g7 (vs := cn) (by rw [hcl8]; rfl)
      have k2 := blk_setFar (b := G7) (by omega) cn 0 wd3.drew F2
      have k4 := blk_setFar (b := G7) (by omega) cn 0 wd3.drew F4
      have k6 := blk_setFar (b := G7) (by omega) cn 0 wd3.drew F6
      have hfar : Below G7 wd3.drew (wd3.drew.setCells G7 0 cn) := below_setCells (Nat.le_refl _) cn 0 wd3.drew (Below.refl _ _)
      have kw : Rd (wd3.drew.setCells G7 0 cn) (some ⟨gw, 0, none⟩) (W.map i64v) := rd_far (w := wd3.drew) FW hfar (fun ad h => by injection h with h; subst h; exact hgw7)
      have kB := below_setCells (B := w.heap.size) (b := G7) (by omega) cn 0 wd3.drew FB.drew
      have hi9 := info8i cn hcl8
      have s9' : Blk (wd3.drew.setCells G7 0 cn) G7 98 (arr8i xn) := by rw [hcn]; exact s9
      have HCL := Lib.hid hcl; have ONE9 := Lib.hid one9; have S9 := Lib.hid s9'; have T9 := Lib.hid t9; have K2 := Lib.hid k2; have K4 := Lib.hid k4; have K6 := Lib.hid k6; have KW := Lib.hid kw; have KB := Lib.hid kB; have HI9 := Lib.hid hi9
      clear hcl one9 s9 s9' t9 k2 k4 k6 kw kB hi9 hfar g7 hcl8 hcn hxn' F2 F4 F6 F7 FW FB xa xb xc xd xe xf xg xh HOK
      go_wp2_with (refine wpList_store_mid (by rfl) 98 (.tmp 7) (.tmp 109) (by rfl) G7 0 cn.toArray (by rfl) (by rw [← HCL.out]; rfl) T9.out HI9.out ONE9.out ?_)
      go_roundw
      case rel => exact ⟨k + 1, xn, by omega, by go_num, HN, hxn, K2.out, K4.out, K6.out, S9.out, KW.out, KB.out⟩
      case measure => simp [intOf]; omega
    · have HK : Hid (k = 64) := Lib.hid (by omega)
      have hi2 : (64 : Int) ≤ (k : Int) := by omega
      have hfin : Sha.comp s b.data.toList = Sha.plus x s := by rw [HCOMP.out, ← HX.out, HK.out]
      have HFIN := Lib.hid hfin; clear hfin HCOMP HX FW F6
      have h7 : Blk wr G7 98 (pl8i x s 0) := F7
      have hs2 : Blk wr w.heap.size 98 (arr8i s) := by rw [HCS.out]; exact F2
      go_wp2
      go_loopw [13] (fun i wr => ∃ k : Nat, k ≤ 8 ∧ i = .int .i64 k ∧ Blk wr w.heap.size 98 (arr8i s) ∧ Blk wr (w.heap.size + 1) 98 z8i ∧ Blk wr G7 98 (pl8i x s k) ∧ Below w.heap.size w wr) (fun i _ => 8 - (intOf i).toNat)
      case atStart => exact ⟨0, by omega, rfl, hs2, F4, h7, FB⟩
      case round =>
        clear hs2 h7 FB F2 F4 F7
        obtain ⟨j, hj, rfl, F2, F4, F7, FB⟩ := hrel
        by_cases hlt8 : j < 8
        · have hj0 : (0 : Int) ≤ (j : Int) := by omega
          have hj1 : (j : Int) < 8 := by omega
          have cx := F7.cell j _ (pl8i_at x s j hlt8)
          have cs' := F2.cell j _ (arr8i_at s j hlt8)
          have fx := F7.frozen j
          have hset := pl8i_set x s j hlt8
          have lx := list_lt hx j
          have ls := list_lt hs j
          generalize x.list.getD j 0 = p at *
          generalize s.list.getD j 0 = q at *
          have HSET := Lib.hid hset; clear hset
          have e1 : IntKind.i64.wrap ((p : Int) + (q : Int)) = (p : Int) + q := IntWalk.i64_in _ (by omega)
          go_wp2
          refine wp_region_still_tail 10 (by kernel_rfl) (by kernel_rfl) ?_
          simp only [List.take_succ_cons, List.take_zero, List.drop_succ_cons, List.drop_zero]
          repeat still_step
          still_call ((refLow_any _ _).mono fun e w' h => ⟨h.1, h.2.symm⟩)
          repeat still_step
          refine wpStill_nil ?_
          change wpList _ _ _ _ _ wr.drew
          rw [Sha.add32 p q]
          have k7 := Blk.set_ (w := wr.drew) F7 j (.int .i64 ((p + q) % 4294967296 : Nat))
          rw [HSET.out] at k7
          have k2 := Blk.far (w := wr.drew) F2 (p := ⟨G7, j, none⟩) (by simp; omega) (.int .i64 ((p + q) % 4294967296 : Nat))
          have k4 := Blk.far (w := wr.drew) F4 (p := ⟨G7, j, none⟩) (by simp; omega) (.int .i64 ((p + q) % 4294967296 : Nat))
          have kB := FB.drew.setCell (p := ⟨G7, j, none⟩) (by simp; omega) (.int .i64 ((p + q) % 4294967296 : Nat))
          have K7 := Lib.hid k7; have K2 := Lib.hid k2; have K4 := Lib.hid k4; have KB := Lib.hid kB
          clear k7 k2 k4 kB F7 F2 F4 FB e1 cs'
          generalize (p + q) % 4294967296 = z at *
          go_wp2
          go_roundw
          case rel => exact ⟨j + 1, by omega, by go_num, K2.out, K4.out, K7.out, KB.out⟩
          case measure => simp [intOf]; omega
        · have HJ : Hid (j = 8) := Lib.hid (by omega)
          have hj2 : (8 : Int) ≤ (j : Int) := by omega
          have hp : pl8i x s 8 = arr8i (Sha.comp s b.data.toList) := by rw [HFIN.out]; rfl
          rw [HJ.out, hp] at F7
          have one9 := one_i64s (Sha.comp s b.data.toList).list
          generalize hcs9 : arr8i (Sha.comp s b.data.toList) = c9 at F7
          have hcl : c9.length = 8 := by rw [← hcs9]; rfl
          have one9' : c9.toArray.all (·.oneCell') = true := by rw [← hcs9]; exact one9
          have HCS9 := Lib.hid hcs9
          have hst := F4.store c9 (by rw [hcl]; rfl)
          have hth := Blk.there' F4 (vs := c9) (by rw [hcl]; rfl)
          have hb9 := below_setCells (B := w.heap.size) (b := w.heap.size + 1) (by omega) c9 0 wr FB
          have hi9 := info8i c9 hcl
          have HF7 := Lib.hid F7; have HI9 := Lib.hid hi9; have HTH := Lib.hid hth; have HST := Lib.hid hst; have ONE := Lib.hid one9'; have HB9 := Lib.hid hb9
          clear F7 hi9 hth hst one9 one9' hb9 hcl hcs9 hp F2 F4 FB
          go_wp2_with (first
            | (refine wpList_load_row (by rfl) 98 (.tmp 7) (by rfl) G7 (by rfl) 98 c9.toArray (0, 0) _ HF7.out Try.underlying98 rfl HI9.out ?_)
            | (refine wpList_store_mid (by rfl) 98 (.tmp 4) (.tmp 124) (by rfl) (w.heap.size + 1) 0 c9.toArray (by rfl) (by rfl) HTH.out HI9.out ONE.out ?_))
          refine bodyPost_ret (results_cell_row rfl _ _ (w.heap.size + 1) _ c9.toArray (0, 0) _ rfl HST.out Try.underlying98 rfl HI9.out) rfl ⟨by rw [HCS9.out], HB9.out⟩
end Go.Proofs.Ytgmafnpkhmlnnaa
