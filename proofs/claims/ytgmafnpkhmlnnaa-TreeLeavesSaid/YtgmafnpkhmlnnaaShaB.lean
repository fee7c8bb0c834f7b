/- sha: the words of a block. -/
import Derived.Test.YtgmafnpkhmlnnaaShaA
import Derived.Laws.Rows
import Derived.Deep.MidRow
import Derived.Deep.RegionHeld3
import Derived.Deep.DrawnRows
attribute [local go_sem ↓] Go.wp_at_zero Go.wp_at_succ
namespace Go.Mem
set_option linter.unusedVariables false
open Go.RowKit
theorem wp_world {P : Program} {c : Code} {Q : Exit → Act → World → Prop} {a : Act} {w w0 : World} (h : w = w0) (k : Code.wp P c Q a w0) : Code.wp P c Q a w := h ▸ k
theorem cell_off (w : World) (g i j : Nat) (u : Value) (h : i ≠ j) : (w.setCell ⟨g, i, none⟩ u).cell? ⟨g, j, none⟩ = w.cell? ⟨g, j, none⟩ := World.cell?_setCell_other w _ _ u (fun e => h (by have h1 : _ = _ := congrArg Addr.off e; simp only at h1; omega))
/-- a block that is known whole -/
def Blk (w : World) (g : Nat) (t : TypeId) (cs : List Value) : Prop := w.heap[g]? = some (.cells cs.toArray t (0, 0))
section
variable {w w' : World} {g : Nat} {t : TypeId} {cs : List Value}
theorem Blk.lt (h : Blk w g t cs) : g < w.heap.size := (Array.getElem?_eq_some_iff.1 h).1
theorem Blk.cell (h : Blk w g t cs) (i : Nat) (u : Value) (hu : cs[i]? = some u) : w.cell? ⟨g, i, none⟩ = some u := by
  rw [cell_of_row w g i cs.toArray t (0, 0) h]
  simpa using hu
theorem Blk.frozen (h : Blk w g t cs) (i : Nat) : w.frozen? ⟨g, i, none⟩ = false := frozen_of_row w g i cs.toArray t h
theorem Blk.new (w : World) (t : TypeId) (cs : List Value) : Blk (w.alloc (.cells cs.toArray t)) w.heap.size t cs := heap_alloc_new w _
theorem Blk.drewN (h : Blk w g t cs) (n : Nat) : Blk (w.drewN n) g t cs := h
theorem Blk.alloc (h : Blk w g t cs) (o : Obj) : Blk (w.alloc o) g t cs := (Below.heap_alloc w o g h.lt).trans h
theorem Blk.set_ (h : Blk w g t cs) (i : Nat) (u : Value) : Blk (w.setCell ⟨g, i, none⟩ u) g t (cs.set i u) := by
  unfold Blk at h ⊢
  simp [World.setCell, Array.getElem?_modify, h]
theorem Blk.far (h : Blk w g t cs) {p : Addr} (hp : g ≠ p.block) (u : Value) : Blk (w.setCell p u) g t cs := (Below.heap_setCell w p u g hp).trans h
theorem Blk.below {B : Nat} (h : Blk w g t cs) (hb : Below B w w') (hg : g < B) : Blk w' g t cs := (hb.block g hg).trans h
theorem Blk.there (h : Blk w g t cs) : w.there g 0 cs.length := fun j hj => by
  refine ⟨?_, by rw [Nat.zero_add]; exact h.frozen j⟩
  rw [Nat.zero_add, h.cell j cs[j] (List.getElem?_eq_getElem hj)]
  rfl
theorem Blk.setCells : ∀ (vs : List Value) (o : Nat) (w : World) (cs : List Value), Blk w g t cs → o + vs.length ≤ cs.length → Blk (w.setCells g o vs) g t (cs.take o ++ vs ++ cs.drop (o + vs.length))
  | [], o, w, cs, h, _ => by simpa [World.setCells] using h
  | v :: vs, o, w, cs, h, hl => by
    simp only [List.length_cons] at hl
    have h1 := Blk.setCells vs (o + 1) _ _ (h.set_ o v) (by simp; omega)
    have e : (cs.set o v).take (o + 1) ++ vs ++ (cs.set o v).drop (o + 1 + vs.length) = cs.take o ++ v :: vs ++ cs.drop (o + (vs.length + 1)) := by
      rw [List.drop_set_of_lt (by omega), show o + 1 + vs.length = o + (vs.length + 1) by omega]
      rw [List.take_succ_eq_append_getElem (by simp; omega), List.take_set_of_le (by omega)]
      simp
    rw [e] at h1
    exact h1
theorem Blk.store (h : Blk w g t cs) (vs : List Value) (hl : vs.length = cs.length) : Blk (w.setCells g 0 vs) g t vs := by
  have := Blk.setCells vs 0 w cs h (by omega)
  simpa [hl] using this
theorem blk_setFar {g b : Nat} {t : TypeId} {cs : List Value} (hb : g ≠ b) : ∀ (vs : List Value) (o : Nat) (w : World), Blk w g t cs → Blk (w.setCells b o vs) g t cs
  | [], _, _, h => h
  | v :: vs, o, w, h => blk_setFar hb vs (o + 1) _ (h.far (p := ⟨b, o, none⟩) hb v)
theorem Blk.belowS (h : Blk w g t cs) (hb : Below w.heap.size w w') : Blk w' g t cs := (hb.block g h.lt).trans h
end
end Go.Mem
namespace Go.Sha
theorem wP_length (b : List UInt8) (t : Nat) : (wP b t).length = t := by
  induction t with
  | zero => rfl
  | succ t ih => simp [wP, ih]
theorem wP_all (b : List UInt8) (t : Nat) : ∀ x ∈ wP b t, x < 4294967296 := by
  induction t with
  | zero => simp [wP]
  | succ t ih =>
    intro x hx
    rw [show wP b (t + 1) = wP b t ++ [if t < 16 then word b t else nextW (wP b t) t] from rfl, List.mem_append, List.mem_singleton] at hx
    rcases hx with hx | rfl
    · exact ih x hx
    · split
      · unfold word
        have h : ∀ i, (b.getD i 0).toNat < 256 := fun i => UInt8.toNat_lt _
        have h0 := h (4 * t); have h1 := h (4 * t + 1); have h2 := h (4 * t + 2); have h3 := h (4 * t + 3)
        refine or_lt (or_lt (or_lt ?_ ?_) ?_) (by omega)
        all_goals (rw [Nat.shiftLeft_eq]; omega)
      · exact Nat.mod_lt _ (by decide)
theorem wP_lt (b : List UInt8) (t i : Nat) : (wP b t).getD i 0 < 4294967296 := by
  rw [List.getD_eq_getElem?_getD]
  rcases Nat.lt_or_ge i (wP b t).length with h | h
  · rw [List.getElem?_eq_getElem h]; exact wP_all b t _ (List.getElem_mem h)
  · rw [List.getElem?_eq_none h]; decide
theorem wP_getD (b : List UInt8) (t i : Nat) (h : i < t) : (wP b (t + 1)).getD i 0 = (wP b t).getD i 0 := by
  have hl := wP_length b t
  rw [show wP b (t + 1) = wP b t ++ [if t < 16 then word b t else nextW (wP b t) t] from rfl, List.getD_eq_getElem?_getD, List.getElem?_append_left (by omega), ← List.getD_eq_getElem?_getD]
theorem sum4 (a b c d : Nat) : IntKind.u32.wrap (IntKind.u32.wrap (IntKind.u32.wrap ((a : Int) + b) + c) + d) = (((a + b + c + d) % 4294967296 : Nat) : Int) := by
  rw [IntKind.wrap_u32, IntKind.wrap_u32, IntKind.wrap_u32]
  omega
theorem wrap_byte (a : Nat) (ha : a < 256) (m : Nat) (hm : m * 255 < 4294967296) : IntKind.u32.wrap (IntKind.u32.wrap (a : Int) * (m : Int)) = ((a * m : Nat) : Int) := by
  rw [IntKind.wrap_u32, IntKind.wrap_u32]
  have h1 : a * m ≤ 255 * m := Nat.mul_le_mul_right m (by omega)
  have h2 : (a : Int) % 4294967296 = a := by omega
  rw [h2, ← Int.natCast_mul]
  omega
theorem word_int (a b c d : Nat) (ha : a < 256) (hb : b < 256) (hc : c < 256) (hd : d < 256) :
    bits .or .u32 (bits .or .u32 (bits .or .u32 (IntKind.u32.wrap (IntKind.u32.wrap (a : Int) * 16777216)) (IntKind.u32.wrap (IntKind.u32.wrap (b : Int) * 65536))) (IntKind.u32.wrap (IntKind.u32.wrap (c : Int) * 256))) (IntKind.u32.wrap (d : Int)) = ((a <<< 24 ||| b <<< 16 ||| c <<< 8 ||| d : Nat) : Int) := by
  have e1 := wrap_byte a ha 16777216 (by decide)
  have e2 := wrap_byte b hb 65536 (by decide)
  have e3 := wrap_byte c hc 256 (by decide)
  have e4 : IntKind.u32.wrap (d : Int) = (d : Int) := by rw [IntKind.wrap_u32]; omega
  simp only [Int.cast_ofNat_Int] at e1 e2 e3
  rw [e1, e2, e3, e4]
  have s1 : a <<< 24 = a * 16777216 := by rw [Nat.shiftLeft_eq]
  have s2 : b <<< 16 = b * 65536 := by rw [Nat.shiftLeft_eq]
  have s3 : c <<< 8 = c * 256 := by rw [Nat.shiftLeft_eq]
  rw [s1, s2, s3, u32_or_nat _ _ (by omega) (by omega), u32_or_nat _ _ (or_lt (by omega) (by omega)) (by omega), u32_or_nat _ _ (or_lt (or_lt (by omega) (by omega)) (by omega)) (by omega)]
end Go.Sha
namespace Go.Proofs.Ytgmafnpkhmlnnaa
open Go.RowKit Go.Mem Go.Num
set_option linter.unusedVariables false
def u32v (x : Nat) : Value := .int .u32 x
def u8v (b : UInt8) : Value := .int .u8 b.toNat
def z64 : List Value := List.replicate 64 (.int .u32 0)
def spr (bl : List UInt8) (k : Nat) : List Value := (Sha.wP bl k).map u32v ++ List.replicate (64 - k) (.int .u32 0)
theorem spr_zero (bl : List UInt8) : spr bl 0 = z64 := rfl
theorem spr_set (bl : List UInt8) (k : Nat) (hk : k < 64) : (spr bl k).set k (u32v (if k < 16 then Sha.word bl k else Sha.nextW (Sha.wP bl k) k)) = spr bl (k + 1) := by
  have hl := Sha.wP_length bl k
  unfold spr
  rw [List.set_append_right _ _ (by simp [hl]), List.length_map, hl, Nat.sub_self]
  obtain ⟨r, hr⟩ : ∃ r, 64 - k = r + 1 := ⟨63 - k, by omega⟩
  rw [hr, List.replicate_succ, List.set_cons_zero, show 64 - (k + 1) = r by omega]
  rw [show Sha.wP bl (k + 1) = Sha.wP bl k ++ [if k < 16 then Sha.word bl k else Sha.nextW (Sha.wP bl k) k] from rfl]
  simp
theorem spr_at (bl : List UInt8) (k i : Nat) (hi : i < k) : (spr bl k)[i]? = some (u32v ((Sha.wP bl k).getD i 0)) := by
  have hl := Sha.wP_length bl k
  unfold spr
  rw [List.getElem?_append_left (by simp [hl]; omega), List.getElem?_map, List.getElem?_eq_getElem (by omega)]
  simp [List.getD, hl, hi]
theorem spr_new (bl : List UInt8) (k : Nat) (hk : k < 64) : (spr bl k)[k]? = some (.int .u32 0) := by
  have hl := Sha.wP_length bl k
  unfold spr
  rw [List.getElem?_append_right (by simp [hl]), List.length_map, hl, Nat.sub_self, List.getElem?_replicate]
  simp
  omega
theorem small_a (x : Nat) (w : World) (hx : x < 4294967296) : Calls Try.prog 91 #[.int .u32 x, .int .i64 17, .int .i64 19, .int .i64 10] w fun e w' => e = .returned (.int .u32 (Sha.small x 17 19 10 : Nat)) ∧ ∃ q, w' = w.drewN q := small_any x 17 19 10 w hx (by omega) (by omega) (by omega) (by omega) (by omega)
theorem small_b (x : Nat) (w : World) (hx : x < 4294967296) : Calls Try.prog 91 #[.int .u32 x, .int .i64 7, .int .i64 18, .int .i64 3] w fun e w' => e = .returned (.int .u32 (Sha.small x 7 18 3 : Nat)) ∧ ∃ q, w' = w.drewN q := small_any x 7 18 3 w hx (by omega) (by omega) (by omega) (by omega) (by omega)
def zw (w : World) : World := (w.alloc (.cells z64.toArray 104)).alloc (.cells z64.toArray 104)

set_option maxRecDepth 100000 in
set_option maxHeartbeats 1000000 in
theorem spread_any (A : Option Addr) (c : Nat) (bl : List UInt8) (w : World) (hr : Rd w A (bl.map u8v)) (hl : bl.length = 64) :
    Calls Try.prog 78 #[.slice A 64 c] w fun e w' => e = .returned (.agg ((Sha.wP bl 64).map u32v).toArray) ∧ Below w.heap.size w w' := by
  have h2 : Blk (zw w) w.heap.size 104 z64 := (Blk.new w _ _).alloc _
  have h3 : Blk (zw w) (w.heap.size + 1) 104 z64 := by
    have := Blk.new (w.alloc (.cells z64.toArray 104)) 104 z64
    unfold zw
    simpa using this
  have hB : Below w.heap.size w (zw w) := ((Below.refl _ _).alloc (Nat.le_refl _) _).alloc (by simp) _
  have HL := Lib.hid hl; clear hl
  go_enter Try.func78, Try.ntmps78
  go_wp2
  refine wp_world (w0 := zw w) (by rfl) ?_
  generalize zw w = w0 at h2 h3 hB ⊢
  go_loopw [5] (fun i wr => ∃ k : Nat, k ≤ 64 ∧ i = .int .i64 k ∧ Blk wr w.heap.size 104 z64 ∧ Blk wr (w.heap.size + 1) 104 (spr bl k) ∧ Below w.heap.size w wr) (fun i _ => 64 - (intOf i).toNat)
  case atStart => exact ⟨0, by omega, rfl, h2, h3, hB⟩
  case round =>
    obtain ⟨k, hk, rfl, h2, h3, hB⟩ := hrel
    by_cases hlt : k < 64
    · have hi0 : (0 : Int) ≤ (k : Int) := by omega
      have hi1 : (k : Int) < 64 := by omega
      by_cases h16 : k < 16
      · have h16' : (k : Int) < 16 := by omega
        have hbl := HL.out
        obtain ⟨b0, off, rfl, e0⟩ := (hr.below hB).at_ (4 * k) (by simp; omega)
        obtain ⟨b1, off1, hA1, e1⟩ := (hr.below hB).at_ (4 * k + 1) (by simp; omega)
        obtain ⟨b2, off2, hA2, e2⟩ := (hr.below hB).at_ (4 * k + 2) (by simp; omega)
        obtain ⟨b3, off3, hA3, e3⟩ := (hr.below hB).at_ (4 * k + 3) (by simp; omega)
        injection hA1 with hA1; injection hA1 with q1 q2; subst q1 q2
        injection hA2 with hA2; injection hA2 with q1 q2; subst q1 q2
        injection hA3 with hA3; injection hA3 with q1 q2; subst q1 q2
        simp only [List.getElem_map, u8v] at e0 e1 e2 e3
        have g0 : bl.getD (4 * k) 0 = bl[4 * k] := by rw [List.getD_eq_getElem?_getD, List.getElem?_eq_getElem (by omega)]; rfl
        have g1 : bl.getD (4 * k + 1) 0 = bl[4 * k + 1] := by rw [List.getD_eq_getElem?_getD, List.getElem?_eq_getElem (by omega)]; rfl
        have g2 : bl.getD (4 * k + 2) 0 = bl[4 * k + 2] := by rw [List.getD_eq_getElem?_getD, List.getElem?_eq_getElem (by omega)]; rfl
        have g3 : bl.getD (4 * k + 3) 0 = bl[4 * k + 3] := by rw [List.getD_eq_getElem?_getD, List.getElem?_eq_getElem (by omega)]; rfl
        have hword : Sha.word bl k = Sha.word bl k := rfl
        have hset := spr_set bl k hlt
        rw [if_pos h16] at hset
        unfold Sha.word at hset
        rw [g0, g1, g2, g3] at hset
        generalize bl[4 * k] = x0 at e0 hset
        generalize bl[4 * k + 1] = x1 at e1 hset
        generalize bl[4 * k + 2] = x2 at e2 hset
        generalize bl[4 * k + 3] = x3 at e3 hset
        have HSET := Lib.hid hset
        clear g0 g1 g2 g3 hword hset
        have y0 := UInt8.toNat_lt x0
        have y1 := UInt8.toNat_lt x1
        have y2 := UInt8.toNat_lt x2
        have y3 := UInt8.toNat_lt x3
        have m0 : IntKind.i64.wrap (4 * (k : Int)) = 4 * (k : Int) := IntWalk.i64_in _ (by omega)
        have m1 : IntKind.i64.wrap (4 * (k : Int) + 1) = 4 * (k : Int) + 1 := IntWalk.i64_in _ (by omega)
        have m2 : IntKind.i64.wrap (4 * (k : Int) + 2) = 4 * (k : Int) + 2 := IntWalk.i64_in _ (by omega)
        have m3 : IntKind.i64.wrap (4 * (k : Int) + 3) = 4 * (k : Int) + 3 := IntWalk.i64_in _ (by omega)
        have n0 : (0 : Int) ≤ 4 * (k : Int) := by omega
        have n1 : (0 : Int) ≤ 4 * (k : Int) + 1 := by omega
        have n2 : (0 : Int) ≤ 4 * (k : Int) + 2 := by omega
        have n3 : (0 : Int) ≤ 4 * (k : Int) + 3 := by omega
        have l0 : 4 * (k : Int) < 64 := by omega
        have l1 : 4 * (k : Int) + 1 < 64 := by omega
        have l2 : 4 * (k : Int) + 2 < 64 := by omega
        have l3 : 4 * (k : Int) + 3 < 64 := by omega
        have t0 : (4 * (k : Int)).toNat = 4 * k := by omega
        have t1 : (4 * (k : Int) + 1).toNat = 4 * k + 1 := by omega
        have t2 : (4 * (k : Int) + 2).toNat = 4 * k + 2 := by omega
        have t3 : (4 * (k : Int) + 3).toNat = 4 * k + 3 := by omega
        have hkc := h3.cell k _ (spr_new bl k hlt)
        have hkf := h3.frozen k
        clear hbl
        go_wp2
        go_still_tail 35, (by kernel_rfl)
        change wpList _ _ _ _ _ wr.drew
        rw [Sha.word_int _ _ _ _ y0 y1 y2 y3]
        generalize x0.toNat <<< 24 ||| x1.toNat <<< 16 ||| x2.toNat <<< 8 ||| x3.toNat = v at HSET ⊢
        clear m0 m1 m2 m3 n0 n1 n2 n3 l0 l1 l2 l3 t0 t1 t2 t3 e0 e1 e2 e3 y0 y1 y2 y3
        have k2 : Blk (wr.drew.setCell ⟨w.heap.size + 1, k, none⟩ (.int .u32 v)) w.heap.size 104 z64 := Blk.far (w := wr.drew) h2 (p := ⟨w.heap.size + 1, k, none⟩) (by simp) _
        have k3 := Blk.set_ (w := wr.drew) h3 k (.int .u32 v)
        have hB2 : Below w.heap.size w (wr.drew.setCell ⟨w.heap.size + 1, k, none⟩ (.int .u32 v)) := hB.drew.setCell (by simp) _
        have hs : (spr bl k).set k (.int .u32 v) = spr bl (k + 1) := HSET.out
        rw [hs] at k3
        have K2 := Lib.hid k2; have K3 := Lib.hid k3; clear k2 k3 hs HSET h2 h3
        go_wp2
        go_roundw
        case rel => exact ⟨k + 1, by omega, by go_num, K2.out, K3.out, hB2⟩
        case measure => simp [intOf]; omega
      · have h16' : ¬ (k : Int) < 16 := by omega
        have a2 := h3.cell (k - 2) _ (spr_at bl k (k - 2) (by omega))
        have a7 := h3.cell (k - 7) _ (spr_at bl k (k - 7) (by omega))
        have a15 := h3.cell (k - 15) _ (spr_at bl k (k - 15) (by omega))
        have a16 := h3.cell (k - 16) _ (spr_at bl k (k - 16) (by omega))
        have hkc := h3.cell k _ (spr_new bl k hlt)
        have hkf := h3.frozen k
        have hset := spr_set bl k hlt
        rw [if_neg h16] at hset
        unfold Sha.nextW at hset
        have b2 := Sha.wP_lt bl k (k - 2)
        have b7 := Sha.wP_lt bl k (k - 7)
        have b15 := Sha.wP_lt bl k (k - 15)
        have b16 := Sha.wP_lt bl k (k - 16)
        generalize (Sha.wP bl k).getD (k - 2) 0 = y2 at a2 b2 hset
        generalize (Sha.wP bl k).getD (k - 7) 0 = y7 at a7 b7 hset
        generalize (Sha.wP bl k).getD (k - 15) 0 = y15 at a15 b15 hset
        generalize (Sha.wP bl k).getD (k - 16) 0 = y16 at a16 b16 hset
        have HSET := Lib.hid hset; clear hset
        unfold u32v at a2 a7 a15 a16
        have m2 : IntKind.i64.wrap ((k : Int) - 2) = (k : Int) - 2 := IntWalk.i64_in _ (by omega)
        have m7 : IntKind.i64.wrap ((k : Int) - 7) = (k : Int) - 7 := IntWalk.i64_in _ (by omega)
        have m15 : IntKind.i64.wrap ((k : Int) - 15) = (k : Int) - 15 := IntWalk.i64_in _ (by omega)
        have m16 : IntKind.i64.wrap ((k : Int) - 16) = (k : Int) - 16 := IntWalk.i64_in _ (by omega)
        have n2 : (0 : Int) ≤ (k : Int) - 2 := by omega
        have n7 : (0 : Int) ≤ (k : Int) - 7 := by omega
        have n15 : (0 : Int) ≤ (k : Int) - 15 := by omega
        have n16 : (0 : Int) ≤ (k : Int) - 16 := by omega
        have l2 : (k : Int) - 2 < 64 := by omega
        have l7 : (k : Int) - 7 < 64 := by omega
        have l15 : (k : Int) - 15 < 64 := by omega
        have l16 : (k : Int) - 16 < 64 := by omega
        have p2 : (2 : Int) ≤ (k : Int) := by omega
        have qq2 : (k : Int) < 64 + 2 := by omega
        have r2 : (k : Int) < 66 := by omega
        have p7 : (7 : Int) ≤ (k : Int) := by omega
        have qq7 : (k : Int) < 64 + 7 := by omega
        have r7 : (k : Int) < 71 := by omega
        have p15 : (15 : Int) ≤ (k : Int) := by omega
        have qq15 : (k : Int) < 64 + 15 := by omega
        have r15 : (k : Int) < 79 := by omega
        have p16 : (16 : Int) ≤ (k : Int) := by omega
        have qq16 : (k : Int) < 64 + 16 := by omega
        have r16 : (k : Int) < 80 := by omega
        have t2 : ((k : Int) - 2).toNat = k - 2 := by omega
        have t7 : ((k : Int) - 7).toNat = k - 7 := by omega
        have t15 : ((k : Int) - 15).toNat = k - 15 := by omega
        have t16 : ((k : Int) - 16).toNat = k - 16 := by omega
        go_wp2
        go_region_held3 (fun W => W.cell? ⟨w.heap.size + 1, k - 2, none⟩ = some (.int .u32 (y2 : Nat)) ∧ W.cell? ⟨w.heap.size + 1, k - 7, none⟩ = some (.int .u32 (y7 : Nat)) ∧ W.cell? ⟨w.heap.size + 1, k - 15, none⟩ = some (.int .u32 (y15 : Nat)) ∧ W.cell? ⟨w.heap.size + 1, k - 16, none⟩ = some (.int .u32 (y16 : Nat))) (first | go_keep | (refine ⟨?_, ?_, ?_, ?_⟩ <;> (rw [cell_off _ _ _ _ _ (by omega)]; first | exact a2 | exact a7 | exact a15 | exact a16)))
          (first | (go_at_call 91; (with_reducible refine (small_a y2 _ b2).mono ?_); rintro e w1 ⟨rfl, q1, rfl⟩) | (go_at_call 91; (with_reducible refine (small_b y15 _ b15).mono ?_); rintro e w1 ⟨rfl, q2, rfl⟩))
        rw [Sha.sum4]
        generalize (Sha.small y2 17 19 10 + y7 + Sha.small y15 7 18 3 + y16) % 4294967296 = v at HSET ⊢
        clear m2 m7 m15 m16 n2 n7 n15 n16 l2 l7 l15 l16 t2 t7 t15 t16 a2 a7 a15 a16 b2 b7 b15 b16 p2 p7 p15 p16 qq2 qq7 qq15 qq16 r2 r7 r15 r16
        have k2 : ∀ q, Blk ((wr.drewN q).setCell ⟨w.heap.size + 1, k, none⟩ (.int .u32 v)) w.heap.size 104 z64 := fun q => Blk.far (w := wr.drewN q) h2 (p := ⟨w.heap.size + 1, k, none⟩) (by simp) _
        have hs : (spr bl k).set k (.int .u32 v) = spr bl (k + 1) := HSET.out
        have k3 : ∀ q, Blk ((wr.drewN q).setCell ⟨w.heap.size + 1, k, none⟩ (.int .u32 v)) (w.heap.size + 1) 104 (spr bl (k + 1)) := fun q => by rw [← hs]; exact Blk.set_ (w := wr.drewN q) h3 k (.int .u32 v)
        have hB2 : ∀ q, Below w.heap.size w ((wr.drewN q).setCell ⟨w.heap.size + 1, k, none⟩ (.int .u32 v)) := fun q => (drewN_ hB q).setCell (by simp) _
        have K2 := Lib.hid k2; have K3 := Lib.hid k3; have HB2 := Lib.hid hB2; clear k2 k3 hs HSET h2 h3 hB2
        go_wp2
        go_roundw
        case rel => exact ⟨k + 1, by omega, by go_num, K2.out _, K3.out _, HB2.out _⟩
        case measure => simp [intOf]; omega
    · obtain rfl : k = 64 := by omega
      have hsp : spr bl 64 = (Sha.wP bl 64).map u32v := by unfold spr; simp
      rw [hsp] at h3
      have hwl : ((Sha.wP bl 64).map u32v).length = 64 := by rw [List.length_map, Sha.wP_length]
      have h1 : ((Sha.wP bl 64).map u32v).toArray.all (·.oneCell') = true := all_oneCell_toArray (fun v hv => by obtain ⟨x, _, rfl⟩ := List.mem_map.1 hv; rfl)
      have hst := h2.store ((Sha.wP bl 64).map u32v) (by rw [hwl]; rfl)
      have hth := h2.there
      have hb5 := below_setCells (Nat.le_refl w.heap.size) ((Sha.wP bl 64).map u32v) 0 wr hB
      generalize hcs : (Sha.wP bl 64).map u32v = cs at h3 hwl h1 hst hb5 hsp
      have HCS := Lib.hid hcs; clear hcs
      have hi : (Try.prog.info? 104).map (·.size) = some cs.toArray.size := by rw [List.size_toArray, hwl]; kernel_rfl
      have hth' : wr.there w.heap.size 0 cs.toArray.size := by
        have e : cs.toArray.size = z64.length := by rw [List.size_toArray, hwl]; rfl
        rw [e]; exact hth
      have H3 := Lib.hid h3; have HI := Lib.hid hi; have HTH := Lib.hid hth'; have HST := Lib.hid hst; have H1 := Lib.hid h1; clear h3 hi hth' hth hst h1 hsp hwl h2
      go_wp2_with (first
        | (refine wpList_load_row (by rfl) 104 (.tmp 3) (by rfl) (w.heap.size + 1) (by rfl) 104 cs.toArray (0, 0) _ H3.out Try.underlying104 rfl HI.out ?_)
        | (refine wpList_store_mid (by rfl) 104 (.tmp 2) (.tmp 69) (by rfl) w.heap.size 0 cs.toArray (by rfl) (by rfl) HTH.out HI.out H1.out ?_))
      refine bodyPost_ret (results_cell_row rfl _ _ w.heap.size _ cs.toArray (0, 0) _ rfl HST.out Try.underlying104 rfl HI.out) rfl ⟨by rw [HCS.out], hb5⟩
end Go.Proofs.Ytgmafnpkhmlnnaa
