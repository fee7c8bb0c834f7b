/- sha: a block taken in. -/
import Derived.Test.YtgmafnpkhmlnnaaShaC
attribute [local go_sem ↓] Go.wp_at_zero Go.wp_at_succ
namespace Go.Sha
structure Ok (s : S8) : Prop where
  a : s.a < 4294967296
  b : s.b < 4294967296
  c : s.c < 4294967296
  d : s.d < 4294967296
  e : s.e < 4294967296
  f : s.f < 4294967296
  g : s.g < 4294967296
  h : s.h < 4294967296
theorem mod32 (x : Nat) : x % 4294967296 < 4294967296 := Nat.mod_lt _ (by decide)
theorem step_ok {s : S8} (h : Ok s) (k w : Nat) : Ok (step s k w) := ⟨mod32 _, h.a, h.b, h.c, mod32 _, h.e, h.f, h.g⟩
theorem rnds_ok (W : List Nat) {s : S8} (h : Ok s) (t : Nat) : Ok (rnds W s t) := by
  induction t with
  | zero => exact h
  | succ t ih => exact step_ok ih _ _
theorem plus_ok (x s : S8) : Ok (plus x s) := ⟨mod32 _, mod32 _, mod32 _, mod32 _, mod32 _, mod32 _, mod32 _, mod32 _⟩
theorem comp_ok (s : S8) (b : List UInt8) : Ok (comp s b) := plus_ok _ _
theorem init_ok : Ok init := by constructor <;> decide
theorem K_lt (i : Nat) : K.getD i 0 < 4294967296 := by
  rw [List.getD_eq_getElem?_getD]
  rcases Nat.lt_or_ge i K.length with h | h
  · rw [List.getElem?_eq_getElem h]
    have : ∀ x ∈ K, x < 4294967296 := by decide
    exact this _ (List.getElem_mem h)
  · rw [List.getElem?_eq_none h]; decide
theorem not_u32 (e : Nat) (he : e < 4294967296) : bits .xor .u32 IntKind.u32.max (e : Int) = ((4294967295 - e : Nat) : Int) := by
  show IntKind.u32.wrap ((BitVec.ofInt 32 IntKind.u32.max ^^^ BitVec.ofInt 32 (e : Int)).toNat : Int) = _
  rw [show BitVec.ofInt 32 IntKind.u32.max = BitVec.allOnes 32 by decide, BitVec.allOnes_xor, BitVec.toNat_not, ofInt_u32 e he, IntKind.wrap_u32']
  have h : 2 ^ 32 - 1 - e = 4294967295 - e := by omega
  rw [h]
  omega
theorem one_int {x : S8} (hx : Ok x) (k w : Nat) : ((x.h : Int) + (big x.e 6 11 25 : Nat) + bits .xor .u32 (bits .and .u32 (x.e : Int) (x.f : Int)) (bits .and .u32 (bits .xor .u32 IntKind.u32.max (x.e : Int)) (x.g : Int)) + (k : Int) + (w : Int)) % 4294967296 = ((one x k w : Nat) : Int) := by
  rw [not_u32 x.e hx.e, u32_and_nat _ _ hx.e hx.f, u32_and_nat _ _ (by omega) hx.g, u32_xor_nat _ _ (and_lt hx.f) (and_lt hx.g)]
  unfold one
  omega
theorem two_int {x : S8} (hx : Ok x) : ((big x.a 2 13 22 : Nat) + bits .xor .u32 (bits .xor .u32 (bits .and .u32 (x.a : Int) (x.b : Int)) (bits .and .u32 (x.a : Int) (x.c : Int))) (bits .and .u32 (x.b : Int) (x.c : Int))) % 4294967296 = ((two x : Nat) : Int) := by
  rw [u32_and_nat _ _ hx.a hx.b, u32_and_nat _ _ hx.a hx.c, u32_and_nat _ _ hx.b hx.c, u32_xor_nat _ _ (and_lt hx.b) (and_lt hx.c), u32_xor_nat _ _ (xor_lt (and_lt hx.b) (and_lt hx.c)) (and_lt hx.c)]
  unfold two
  omega
theorem add32 (a b : Nat) : ((a : Int) + (b : Int)) % 4294967296 = (((a + b) % 4294967296 : Nat) : Int) := by omega
theorem add32' (a b : Nat) : ((a : Int) + (b : Int)) % 4294967296 = (((b + a) % 4294967296 : Nat) : Int) := by omega
end Go.Sha
namespace Go.Proofs.Ytgmafnpkhmlnnaa
open Go.RowKit Go.Mem Go.Num
set_option linter.unusedVariables false
def arr8 (s : Sha.S8) : List Value := s.list.map u32v
def z8 : List Value := List.replicate 8 (.int .u32 0)
def wtake (s : Sha.S8) (w : World) : World := (w.alloc (.cells (arr8 s).toArray 96)).alloc (.cells z8.toArray 96)
theorem arr8_cells (s : Sha.S8) : arr8 s = [.int .u32 s.a, .int .u32 s.b, .int .u32 s.c, .int .u32 s.d, .int .u32 s.e, .int .u32 s.f, .int .u32 s.g, .int .u32 s.h] := rfl

def zz (w : World) : World := (w.alloc (.cells z64.toArray 104)).alloc (.cells z64.toArray 104)
theorem zz5 (w : World) : Blk (zz w) w.heap.size 104 z64 := (Blk.new w _ _).alloc _
theorem zz6 (w : World) : Blk (zz w) (w.heap.size + 1) 104 z64 := by
  have := Blk.new (w.alloc (.cells z64.toArray 104)) 104 z64
  unfold zz
  simpa using this
theorem zzOld (w : World) {g : Nat} {t : TypeId} {cs : List Value} (h : Blk w g t cs) : Blk (zz w) g t cs := (h.alloc _).alloc _
theorem zzBelow {B : Nat} {a w : World} (h : Below B a w) (hB : B ≤ w.heap.size) : Below B a (zz w) := (h.alloc hB _).alloc (by simp; omega) _
def pl8 (x s : Sha.S8) (k : Nat) : List Value := (arr8 (Sha.plus x s)).take k ++ (arr8 s).drop k
theorem pl8_at (x s : Sha.S8) (k : Nat) (h : k < 8) : (pl8 x s k)[k]? = (arr8 s)[k]? := by
  unfold pl8
  have hl : (arr8 (Sha.plus x s)).length = 8 := rfl
  rw [List.getElem?_append_right (by rw [List.length_take]; omega), List.length_take, hl, List.getElem?_drop]
  congr 1
  omega
theorem lt8 (k : Nat) (h : k < 8) : k = 0 ∨ k = 1 ∨ k = 2 ∨ k = 3 ∨ k = 4 ∨ k = 5 ∨ k = 6 ∨ k = 7 := by omega
theorem ix8_0 (a b c d e f g h : Nat) (w : World) : (Instr.index 96 (.agg #[.int .u32 (a : Nat), .int .u32 (b : Nat), .int .u32 (c : Nat), .int .u32 (d : Nat), .int .u32 (e : Nat), .int .u32 (f : Nat), .int .u32 (g : Nat), .int .u32 (h : Nat)]) (.int .i64 0)).run Try.prog w = .ok (.int .u32 a) w := by kernel_rfl
theorem ix8_1 (a b c d e f g h : Nat) (w : World) : (Instr.index 96 (.agg #[.int .u32 (a : Nat), .int .u32 (b : Nat), .int .u32 (c : Nat), .int .u32 (d : Nat), .int .u32 (e : Nat), .int .u32 (f : Nat), .int .u32 (g : Nat), .int .u32 (h : Nat)]) (.int .i64 1)).run Try.prog w = .ok (.int .u32 b) w := by kernel_rfl
theorem ix8_2 (a b c d e f g h : Nat) (w : World) : (Instr.index 96 (.agg #[.int .u32 (a : Nat), .int .u32 (b : Nat), .int .u32 (c : Nat), .int .u32 (d : Nat), .int .u32 (e : Nat), .int .u32 (f : Nat), .int .u32 (g : Nat), .int .u32 (h : Nat)]) (.int .i64 2)).run Try.prog w = .ok (.int .u32 c) w := by kernel_rfl
theorem ix8_3 (a b c d e f g h : Nat) (w : World) : (Instr.index 96 (.agg #[.int .u32 (a : Nat), .int .u32 (b : Nat), .int .u32 (c : Nat), .int .u32 (d : Nat), .int .u32 (e : Nat), .int .u32 (f : Nat), .int .u32 (g : Nat), .int .u32 (h : Nat)]) (.int .i64 3)).run Try.prog w = .ok (.int .u32 d) w := by kernel_rfl
theorem ix8_4 (a b c d e f g h : Nat) (w : World) : (Instr.index 96 (.agg #[.int .u32 (a : Nat), .int .u32 (b : Nat), .int .u32 (c : Nat), .int .u32 (d : Nat), .int .u32 (e : Nat), .int .u32 (f : Nat), .int .u32 (g : Nat), .int .u32 (h : Nat)]) (.int .i64 4)).run Try.prog w = .ok (.int .u32 e) w := by kernel_rfl
theorem ix8_5 (a b c d e f g h : Nat) (w : World) : (Instr.index 96 (.agg #[.int .u32 (a : Nat), .int .u32 (b : Nat), .int .u32 (c : Nat), .int .u32 (d : Nat), .int .u32 (e : Nat), .int .u32 (f : Nat), .int .u32 (g : Nat), .int .u32 (h : Nat)]) (.int .i64 5)).run Try.prog w = .ok (.int .u32 f) w := by kernel_rfl
theorem ix8_6 (a b c d e f g h : Nat) (w : World) : (Instr.index 96 (.agg #[.int .u32 (a : Nat), .int .u32 (b : Nat), .int .u32 (c : Nat), .int .u32 (d : Nat), .int .u32 (e : Nat), .int .u32 (f : Nat), .int .u32 (g : Nat), .int .u32 (h : Nat)]) (.int .i64 6)).run Try.prog w = .ok (.int .u32 g) w := by kernel_rfl
theorem ix8_7 (a b c d e f g h : Nat) (w : World) : (Instr.index 96 (.agg #[.int .u32 (a : Nat), .int .u32 (b : Nat), .int .u32 (c : Nat), .int .u32 (d : Nat), .int .u32 (e : Nat), .int .u32 (f : Nat), .int .u32 (g : Nat), .int .u32 (h : Nat)]) (.int .i64 7)).run Try.prog w = .ok (.int .u32 h) w := by kernel_rfl
theorem calls_world {P : Program} {f : FuncId} {args : Array Value} {w w0 : World} {Q : Ending → World → Prop} (h : w = w0) (k : Calls P f args w0 Q) : Calls P f args w Q := h ▸ k
theorem kList_at (k : Nat) (h : k < 64) : kList[k]? = some (.int .u32 (Sha.K.getD k 0 : Nat)) := by
  have hl : Sha.K.length = 64 := rfl
  rw [kList_eq, List.getElem?_map, List.getElem?_eq_getElem (by omega)]
  simp [List.getD, hl, h, u32v]
set_option maxRecDepth 100000 in
set_option maxHeartbeats 2000000 in
theorem shaTake_any (s : Sha.S8) (hs : Sha.Ok s) (A : Option Addr) (c : Nat) (bl : List UInt8) (w : World) (hr : Rd w A (bl.map u8v)) (hl : bl.length = 64) :
    Calls Try.prog 67 #[.agg (arr8 s).toArray, .slice A 64 c] w fun e w' => e = .returned (.agg (arr8 (Sha.comp s bl)).toArray) ∧ Below w.heap.size w w' := by
  have h2 : Blk (wtake s w) w.heap.size 96 (arr8 s) := (Blk.new w _ _).alloc _
  have h4 : Blk (wtake s w) (w.heap.size + 1) 96 z8 := by
    have := Blk.new (w.alloc (.cells (arr8 s).toArray 96)) 96 z8
    unfold wtake
    simpa using this
  have hB : Below w.heap.size w (wtake s w) := ((Below.refl _ _).alloc (Nat.le_refl _) _).alloc (by simp) _
  have hz : (wtake s w).heap.size = w.heap.size + 2 := by simp [wtake]
  have HL := Lib.hid hl; clear hl
  have HWT : Hid (∀ w : World, (w.alloc (.cells (arr8 s).toArray 96)).alloc (.cells z8.toArray 96) = wtake s w) := Lib.hid (fun _ => rfl)
  go_enter Try.func67, Try.ntmps67
  go_wp2_with fail
  refine calls_world (w0 := wtake s w) (by rfl) ?_
  generalize wtake s w = w0 at h2 h4 hB hz ⊢
  have hr0 := hr.below hB
  refine (spread_any A c bl w0 hr0 HL.out).mono ?_
  rintro e w1 ⟨rfl, hb1⟩
  replace h2 := h2.belowS hb1
  replace h4 := h4.belowS hb1
  have hz1 : w.heap.size + 2 ≤ w1.heap.size := by have := hb1.size; omega
  replace hB := then_ hB hb1
  clear hz hb1 hr0
  go_wp2_with fail
  refine (rounds_any w1).mono ?_
  rintro e w2 ⟨rfl, hb2⟩
  replace h2 := h2.belowS hb2
  replace h4 := h4.belowS hb2
  have hz2 : w.heap.size + 2 ≤ w2.heap.size := by have := hb2.size; omega
  replace hB := then_ hB hb2
  clear hz1 hb2
  have hwl : ((Sha.wP bl 64).map u32v).length = 64 := by rw [List.length_map, Sha.wP_length]
  have one5 := one_u32 (Sha.wP bl 64)
  have hwat : ∀ k, k < 64 → ((Sha.wP bl 64).map u32v)[k]? = some (.int .u32 ((Sha.wP bl 64).getD k 0 : Nat)) := fun k hk => by
    have hlen := Sha.wP_length bl 64
    rw [List.getElem?_map, List.getElem?_eq_getElem (by omega)]
    simp [List.getD, hlen, hk, u32v]
  have hwlt : ∀ k, (Sha.wP bl 64).getD k 0 < 4294967296 := Sha.wP_lt bl 64
  have hcomp : Sha.comp s bl = Sha.plus (Sha.rnds (Sha.wP bl 64) s 64) s := rfl
  have HCOMP := Lib.hid hcomp; have HWAT := Lib.hid hwat; have HWLT := Lib.hid hwlt; clear hcomp hwat hwlt
  generalize Sha.wP bl 64 = W at *
  generalize hWv : W.map u32v = Wv at *
  have HWV := Lib.hid hWv; clear hWv
  have hi5 := info64 Wv hwl
  have hi6 := info64 kList kList_64
  have n5 : Blk (zz w2) w2.heap.size 104 z64 := zz5 w2
  have n6 : Blk (zz w2) (w2.heap.size + 1) 104 z64 := zz6 w2
  have s5 := n5.store Wv hwl
  have s6 := blk_setFar (b := w2.heap.size) (by omega) Wv 0 (zz w2) n6
  have t5 := Blk.there' n5 (vs := Wv) hwl
  have t6 := Blk.there' s6 (vs := kList) kList_len
  have f5 := blk_setFar (b := w2.heap.size + 1) (by omega) kList 0 _ s5
  have f6 := s6.store kList kList_len
  have f2 := blk_setFar (b := w2.heap.size + 1) (by omega) kList 0 _ (blk_setFar (b := w2.heap.size) (by omega) Wv 0 (zz w2) (zzOld w2 h2))
  have f4 := blk_setFar (b := w2.heap.size + 1) (by omega) kList 0 _ (blk_setFar (b := w2.heap.size) (by omega) Wv 0 (zz w2) (zzOld w2 h4))
  have fB := below_setCells (B := w.heap.size) (b := w2.heap.size + 1) (by omega) kList 0 _ (below_setCells (b := w2.heap.size) (by omega) Wv 0 (zz w2) (zzBelow hB (by omega)))
  have HI5 := Lib.hid hi5; have HI6 := Lib.hid hi6; have HT5 := Lib.hid t5; have HT6 := Lib.hid t6; have F5 := Lib.hid f5; have F6 := Lib.hid f6; have F2 := Lib.hid f2; have F4 := Lib.hid f4; have FB := Lib.hid fB; have HONE := Lib.hid one5
  clear hi5 hi6 n5 n6 s5 s6 t5 t6 f5 f6 f2 f4 fB one5 hwl h2 h4 hB hr
  go_wp2_with (first
    | (refine wpList_store_mid (by rfl) 104 (.tmp 5) (.tmp 21) (by rfl) w2.heap.size 0 Wv.toArray (by rfl) (by rfl) HT5.out HI5.out HONE.out ?_)
    | (refine wpList_store_mid (by rfl) 104 (.tmp 6) (.tmp 22) (by rfl) (w2.heap.size + 1) 0 kList.toArray (by rfl) (by rfl) HT6.out HI6.out kList_one ?_))
  refine wp_world (w0 := ((zz w2).setCells w2.heap.size 0 Wv).setCells (w2.heap.size + 1) 0 kList) (by rfl) ?_
  generalize ((zz w2).setCells w2.heap.size 0 Wv).setCells (w2.heap.size + 1) 0 kList = w3 at F5 F6 F2 F4 FB ⊢
  clear HI5 HI6 HT5 HT6 HONE
  generalize w2.heap.size = B5 at *
  have c0 := F2.out.cell 0 _ rfl
  have c1 := F2.out.cell 1 _ rfl
  have c2 := F2.out.cell 2 _ rfl
  have c3 := F2.out.cell 3 _ rfl
  have c4 := F2.out.cell 4 _ rfl
  have c5 := F2.out.cell 5 _ rfl
  have c6 := F2.out.cell 6 _ rfl
  have c7 := F2.out.cell 7 _ rfl
  unfold u32v at c0 c1 c2 c3 c4 c5 c6 c7
  go_quiet (fail)
  go_wp2
  go_quiet (fail)
  clear c0 c1 c2 c3 c4 c5 c6 c7
  go_wp2
  go_loopw [7, 8, 9, 10, 11, 12, 13, 14, 39] (fun a b c d e f g h i wr => ∃ (k : Nat) (x : Sha.S8), k ≤ 64 ∧ i = .int .i64 k ∧ Hid (Sha.rnds W s k = x) ∧ Sha.Ok x ∧ a = .int .u32 x.a ∧ b = .int .u32 x.b ∧ c = .int .u32 x.c ∧ d = .int .u32 x.d ∧ e = .int .u32 x.e ∧ f = .int .u32 x.f ∧ g = .int .u32 x.g ∧ h = .int .u32 x.h ∧
    Blk wr w.heap.size 96 (arr8 s) ∧ Blk wr (w.heap.size + 1) 96 z8 ∧ Blk wr B5 104 Wv ∧ Blk wr (B5 + 1) 104 kList ∧ Below w.heap.size w wr) (fun _ _ _ _ _ _ _ _ i _ => 64 - (intOf i).toNat)
  case atStart => exact ⟨0, s, by omega, rfl, Lib.hid rfl, hs, rfl, rfl, rfl, rfl, rfl, rfl, rfl, rfl, F2.out, F4.out, F5.out, F6.out, drewN_ (drewN_ FB.out _) _⟩
  case round =>
    clear F2 F4 F5 F6 FB
    obtain ⟨k, x, hk, rfl, HX, hx, rfl, rfl, rfl, rfl, rfl, rfl, rfl, rfl, F2, F4, F5, F6, FB⟩ := hrel
    by_cases hlt : k < 64
    · have hi0 : (0 : Int) ≤ (k : Int) := by omega
      have hi1 : (k : Int) < 64 := by omega
      have ck := F6.cell k _ (kList_at k hlt)
      have cw := F5.cell k _ (HWAT.out k hlt)
      have hkl := Sha.K_lt k
      have hwl := HWLT.out k
      have hnext : Sha.rnds W s (k + 1) = Sha.step x (Sha.K.getD k 0) (W.getD k 0) := by rw [← HX.out]; rfl
      have HN := Lib.hid hnext; clear hnext
      generalize Sha.K.getD k 0 = Kk at *
      generalize W.getD k 0 = Wk at *
      have hxn := Sha.step_ok hx Kk Wk
      have xa := hx.a
      have xb := hx.b
      have xc := hx.c
      have xd := hx.d
      have xe := hx.e
      have xf := hx.f
      have xg := hx.g
      have xh := hx.h
      have HOK := Lib.hid hx; clear hx
      go_wp2
      go_quiet ((go_at_call 80; exact quiet_left (turns_any x.e 6 11 25 _ xe (by omega) (by omega) (by omega) (by omega) (by omega) (by omega))))
      go_wp2_with fail
      refine (turns_any x.a 2 13 22 _ xa (by omega) (by omega) (by omega) (by omega) (by omega) (by omega)).mono ?_
      rintro e w4 ⟨rfl, rfl⟩
      go_wp2
      go_roundw
      case rel =>
        rw [Sha.one_int HOK.out, Sha.two_int HOK.out, Sha.add32, Sha.add32]
        exact ⟨k + 1, Sha.step x Kk Wk, by omega, by go_num, HN, hxn, rfl, rfl, rfl, rfl, rfl, rfl, rfl, rfl, F2, F4, F5, F6, drewN_ FB _⟩
      case measure => simp [intOf]; omega
    · obtain rfl : k = 64 := by omega
      have h2 : Blk wr w.heap.size 96 (pl8 x s 0) := F2
      go_wp2
      go_loopw [99] (fun i wr => ∃ k : Nat, k ≤ 8 ∧ i = .int .i64 k ∧ Blk wr w.heap.size 96 (pl8 x s k) ∧ Blk wr (w.heap.size + 1) 96 z8 ∧ Below w.heap.size w wr) (fun i _ => 8 - (intOf i).toNat)
      case atStart => exact ⟨0, by omega, rfl, h2, F4, FB⟩
      case round =>
        clear F2 F4 F5 F6 FB h2
        obtain ⟨k, hk, rfl, F2, F4, FB⟩ := hrel
        by_cases hlt : k < 8
        · rcases lt8 k hlt with rfl | rfl | rfl | rfl | rfl | rfl | rfl | rfl
          all_goals
            have ck := F2.cell _ _ (pl8_at x s _ hlt)
            have fk := F2.frozen
            have i0 := ix8_0 x.a x.b x.c x.d x.e x.f x.g x.h
            have i1 := ix8_1 x.a x.b x.c x.d x.e x.f x.g x.h
            have i2 := ix8_2 x.a x.b x.c x.d x.e x.f x.g x.h
            have i3 := ix8_3 x.a x.b x.c x.d x.e x.f x.g x.h
            have i4 := ix8_4 x.a x.b x.c x.d x.e x.f x.g x.h
            have i5 := ix8_5 x.a x.b x.c x.d x.e x.f x.g x.h
            have i6 := ix8_6 x.a x.b x.c x.d x.e x.f x.g x.h
            have i7 := ix8_7 x.a x.b x.c x.d x.e x.f x.g x.h
            unfold u32v at ck
            go_wp2
            go_roundw
            case rel =>
              rw [Sha.add32']
              exact ⟨_, by decide, rfl, Blk.set_ F2 _ _, F4.far (p := ⟨w.heap.size, _, none⟩) (by simp) _, FB.setCell (p := ⟨w.heap.size, _, none⟩) (Nat.le_refl _) _⟩
            case measure => simp [intOf]
        · obtain rfl : k = 8 := by omega
          have hp : pl8 x s 8 = arr8 (Sha.comp s bl) := by rw [HCOMP.out, HX.out]; rfl
          rw [hp] at F2
          have hcl : (arr8 (Sha.comp s bl)).length = 8 := rfl
          have h1 := one_u32 (Sha.comp s bl).list
          change (arr8 (Sha.comp s bl)).toArray.all (·.oneCell') = true at h1
          clear hp
          generalize hcs : arr8 (Sha.comp s bl) = cs at F2 hcl h1
          have HCS := Lib.hid hcs; clear hcs
          have hst := F4.store cs (by rw [hcl]; rfl)
          have hth := Blk.there' F4 (vs := cs) (by rw [hcl]; rfl)
          have hb := below_setCells (B := w.heap.size) (b := w.heap.size + 1) (by omega) cs 0 wr FB
          have hi : (Try.prog.info? 96).map (·.size) = some cs.toArray.size := by rw [List.size_toArray, hcl]; kernel_rfl
          have HF2 := Lib.hid F2; have HI := Lib.hid hi; have HTH := Lib.hid hth; have HST := Lib.hid hst; have H1 := Lib.hid h1; have HB := Lib.hid hb
          clear F2 hi hth hst h1 hb hcl
          go_wp2_with (first
            | (refine wpList_load_row (by rfl) 96 (.tmp 2) (by rfl) w.heap.size (by rfl) 96 cs.toArray (0, 0) _ HF2.out Try.underlying96 rfl HI.out ?_)
            | (refine wpList_store_mid (by rfl) 96 (.tmp 4) (.tmp 110) (by rfl) (w.heap.size + 1) 0 cs.toArray (by rfl) (by rfl) HTH.out HI.out H1.out ?_))
          refine bodyPost_ret (results_cell_row rfl _ _ (w.heap.size + 1) _ cs.toArray (0, 0) _ rfl HST.out Try.underlying96 rfl HI.out) rfl ⟨by rw [HCS.out], HB.out⟩
end Go.Proofs.Ytgmafnpkhmlnnaa
