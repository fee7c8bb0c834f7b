/- What must come of the tree, whatever the arguments are. -/
import Derived.Test.YtgmafnpkhmlnnaaTreeE
import Derived.Test.YtgmafnpkhmlnnaaTreeF
import Derived.Test.YtgmafnpkhmlnnaaOctW
attribute [local go_sem ↓] Go.wp_at_zero Go.wp_at_succ
namespace Go.Proofs.Ytgmafnpkhmlnnaa
open Go.RowKit Go.Mem Go.Num
set_option linter.unusedVariables false
set_option linter.unusedSimpArgs false

def bk : ByteArray := ⟨#[98, 47, 107]⟩
def lX : Leaf := ⟨⟨#[98, 47, 107]⟩, ⟨#[120]⟩⟩
def lY : Leaf := ⟨⟨#[98, 47, 107]⟩, ⟨#[121]⟩⟩
def e32 : ByteArray := ⟨#[223, 63, 97, 152, 4, 169, 47, 219, 64, 87, 25, 45, 196, 61, 215, 72, 234, 119, 138, 220, 82, 188, 73, 140, 232, 5, 36, 192, 20, 184, 17, 25]⟩
def x32 : ByteArray := ⟨#[169, 239, 148, 201, 61, 45, 27, 126, 86, 213, 36, 89, 172, 195, 117, 41, 155, 122, 20, 89, 253, 66, 99, 206, 141, 145, 155, 206, 21, 237, 61, 117]⟩
def y32 : ByteArray := ⟨#[205, 12, 95, 59, 117, 116, 88, 205, 201, 250, 231, 240, 124, 86, 217, 101, 11, 34, 241, 190, 108, 102, 249, 110, 129, 251, 177, 29, 254, 165, 138, 67]⟩
theorem seg_bk : segOf ⟨#[98, 47, 107]⟩ = 7 := by decide +kernel
theorem hash_e : hashT [] = e32 := by decide +kernel
theorem hash_x : hashT [⟨#[98, 47, 107]⟩, ⟨#[120]⟩] = x32 := by decide +kernel
theorem hash_y : hashT [⟨#[98, 47, 107]⟩, ⟨#[121]⟩] = y32 := by decide +kernel
def lst (m : ByteArray) : List ByteArray := (List.range 16).map fun i => if i = 7 then m else e32
theorem tree_one (d h : ByteArray) (hh : hashT [⟨#[98, 47, 107]⟩, d] = h) : treeL [⟨⟨#[98, 47, 107]⟩, d⟩] = lst h := by
  unfold treeL treeK lst
  apply List.map_congr_left
  intro i hi
  have : texP (segB (i : Int)) [⟨⟨#[98, 47, 107]⟩, d⟩] = if i = 7 then [⟨#[98, 47, 107]⟩, d] else [] := by
    unfold texP segB
    simp only [List.flatMap_cons, List.flatMap_nil, List.append_nil, seg_bk]
    by_cases h7 : i = 7
    · subst h7; rfl
    · have : (((7 : Nat) : Int) == (i : Int)) = false := by simp; omega
      rw [this, if_neg h7]; rfl
  rw [this]
  by_cases h7 : i = 7
  · rw [if_pos h7, if_pos h7, hh]
  · rw [if_neg h7, if_neg h7, hash_e]
theorem tree_x : treeL [lX] = lst x32 := tree_one _ _ hash_x
theorem tree_y : treeL [lY] = lst y32 := tree_one _ _ hash_y
theorem root_lst : Sha.sum (textsB (lst x32)) ≠ Sha.sum (textsB (lst y32)) := by decide +kernel
theorem root_ne : ¬ rootL [lX] = rootL [lY] := by
  unfold rootL; rw [tree_x, tree_y]; unfold hashT
  exact fun h => root_lst (bs_inj h)
theorem un_xy : unL (treeL [lX]) (treeL [lY]) = [7] := by rw [tree_x, tree_y]; decide +kernel
theorem in_7 : inL (segIn [((7 : Nat) : Int)]) [lX] = [lX] := by unfold inL segIn lX; simp [seg_bk]
theorem in_8 : inL (segIn [15 - ((7 : Nat) : Int)]) [lX] = [] := by unfold inL segIn lX; simp [seg_bk]
theorem lX_ok : ∀ m ∈ [lX], smallL m := fun m hm => by rw [List.mem_singleton] at hm; subst hm; exact ⟨by decide, by decide⟩
theorem lY_ok : ∀ m ∈ [lY], smallL m := fun m hm => by rw [List.mem_singleton] at hm; subst hm; exact ⟨by decide, by decide⟩
theorem rootL_size (l : List Leaf) : (rootL l).size = 32 := hashT_size _
def TrueW (w : World) (e : Ending) (w' : World) : Prop := e = .returned (.bool true) ∧ Below w.heap.size w w'
set_option maxRecDepth 100000 in
set_option maxHeartbeats 8000000 in
theorem awake28_any (w : World) : Calls Try.prog 12 #[] w (TrueW w) := by
  have HA := Lib.hid (Rd.new w #[.string ⟨#[98, 47, 107]⟩, .string ⟨#[120]⟩] 48)
  have HB := Lib.hid (Rd.new (w.alloc (.cells #[.string ⟨#[98, 47, 107]⟩, .string ⟨#[120]⟩] 48)) #[.string ⟨#[98, 47, 107]⟩, .string ⟨#[121]⟩] 48)
  have HA := Lib.hid (HA.out.alloc (.cells #[.string ⟨#[98, 47, 107]⟩, .string ⟨#[121]⟩] 48))
  have HW := Lib.hid (((Below.refl w.heap.size w).alloc (Nat.le_refl _) (.cells #[.string ⟨#[98, 47, 107]⟩, .string ⟨#[120]⟩] 48)).alloc (by simp) (.cells #[.string ⟨#[98, 47, 107]⟩, .string ⟨#[121]⟩] 48))
  have hbz : (w.alloc (.cells #[.string ⟨#[98, 47, 107]⟩, .string ⟨#[120]⟩] 48)).heap.size = w.heap.size + 1 := by simp
  have HB : Hid (Rd ((w.alloc (.cells #[.string ⟨#[98, 47, 107]⟩, .string ⟨#[120]⟩] 48)).alloc (.cells #[.string ⟨#[98, 47, 107]⟩, .string ⟨#[121]⟩] 48)) (some ⟨w.heap.size + 1, 0, none⟩) (leafc [lY])) := Lib.hid (by have := HB.out; rw [hbz] at this; exact this)
  have HA : Hid (Rd ((w.alloc (.cells #[.string ⟨#[98, 47, 107]⟩, .string ⟨#[120]⟩] 48)).alloc (.cells #[.string ⟨#[98, 47, 107]⟩, .string ⟨#[121]⟩] 48)) (some ⟨w.heap.size, 0, none⟩) (leafc [lX])) := Lib.hid (by have := HA.out; exact this)
  clear hbz
  go_enter Try.func12, Try.ntmps12
  go_wp2_with fail
  refine (rsegment_any ⟨#[98, 47, 107]⟩ _ (by decide)).mono ?_
  rintro e w1 ⟨rfl, hb1⟩
  rw [seg_bk]
  have HA := Lib.hid (HA.out.below hb1); have HB := Lib.hid (HB.out.below hb1); have HW := Lib.hid (then_ HW.out hb1)
  generalize some (⟨w.heap.size, 0, none⟩ : Addr) = pa at HA ⊢
  generalize some (⟨w.heap.size + 1, 0, none⟩ : Addr) = pb at HB ⊢
  clear hb1
  go_wp2_with fail
  refine (segment_any ⟨#[98, 47, 107]⟩ _ (by decide)).mono ?_
  rintro e w2 ⟨rfl, hb1⟩
  rw [seg_bk]
  have HA := Lib.hid (HA.out.below hb1); have HB := Lib.hid (HB.out.below hb1); have HW := Lib.hid (then_ HW.out hb1)
  clear hb1
  go_wp2_with fail
  refine (of_any none 0 0 [] w2 Rd.nil rfl (by decide) (fun _ h => absurd h List.not_mem_nil)).mono ?_
  rintro e w3 ⟨v3, rfl, hown, hb1⟩
  rw [treeL_len] at hown
  obtain ⟨A3, c3, rfl⟩ := own_form hown
  have HA := Lib.hid (HA.out.below hb1); have HB := Lib.hid (HB.out.below hb1); have HW := Lib.hid (then_ HW.out hb1)
  clear hb1 hown
  go_wp2_with fail
  refine (root_any none 0 0 [] w3 Rd.nil rfl (by decide) (fun _ h => absurd h List.not_mem_nil)).mono ?_
  rintro e w4 ⟨rfl, hb1⟩
  have hsz := rootL_size []
  generalize rootL [] = r0 at hsz ⊢
  have HA := Lib.hid (HA.out.below hb1); have HB := Lib.hid (HB.out.below hb1); have HW := Lib.hid (then_ HW.out hb1)
  clear hb1
  have hsz2 : ((r0.size : Int) == 32) = true := by rw [hsz]; rfl
  clear hsz
  go_wp2_with fail
  refine (root_any pa 1 1 [lX] w4 HA.out rfl (by decide) lX_ok).mono ?_
  rintro e w5 ⟨rfl, hb1⟩
  have HA := Lib.hid (HA.out.below hb1); have HB := Lib.hid (HB.out.below hb1); have HW := Lib.hid (then_ HW.out hb1)
  have HRT := Lib.hid root_ne
  generalize rootL [lX] = rx at HRT ⊢
  clear hb1 hsz2
  go_wp2_with fail
  refine (root_any pb 1 1 [lY] w5 HB.out rfl (by decide) lY_ok).mono ?_
  rintro e w6 ⟨rfl, hb1⟩
  have HA := Lib.hid (HA.out.below hb1); have HB := Lib.hid (HB.out.below hb1); have HW := Lib.hid (then_ HW.out hb1)
  generalize rootL [lY] = ry at HRT ⊢
  have hrr : (rx.toList == ry.toList) = false := by rw [str_beq]; simpa using HRT.out
  clear hb1
  go_wp2_with fail
  refine (of_any pa 1 1 [lX] w6 HA.out rfl (by decide) lX_ok).mono ?_
  rintro e w7 ⟨v7, rfl, hown, hb1⟩
  have HT1 := Lib.hid (treeL_len [lX]); have HU := Lib.hid un_xy
  generalize treeL [lX] = tx at hown HT1 HU
  obtain ⟨A7, c7, rfl⟩ := own_form hown
  have HX := Lib.hid (Rd.of_own hown)
  have HA := Lib.hid (HA.out.below hb1); have HB := Lib.hid (HB.out.below hb1); have HW := Lib.hid (then_ HW.out hb1)
  clear hb1 hown hrr
  have ht1 := HT1.out
  generalize hn1 : tx.length = n1 at ht1 ⊢
  subst ht1
  have HN1 := Lib.hid hn1
  clear hn1
  go_wp2_with fail
  refine (of_any pb 1 1 [lY] w7 HB.out rfl (by decide) lY_ok).mono ?_
  rintro e w8 ⟨v8, rfl, hown, hb1⟩
  have HT2 := Lib.hid (treeL_len [lY])
  generalize treeL [lY] = ty at hown HT2 HU
  have hl := HT2.out
  rw [hl] at hown
  obtain ⟨A8, c8, rfl⟩ := own_form hown
  have HY := Lib.hid (Rd.of_own hown); have HX := Lib.hid (HX.out.below hb1)
  have HA := Lib.hid (HA.out.below hb1); have HB := Lib.hid (HB.out.below hb1); have HW := Lib.hid (then_ HW.out hb1)
  clear hb1 hown hl
  go_wp2_with fail
  refine (unlike_any A7 16 c7 tx A8 16 c8 ty w8 HX.out HN1.out (by decide) HY.out HT2.out (by decide)).mono ?_
  rintro e w9 ⟨v9, rfl, hown, hb1⟩
  rw [HU.out] at hown
  obtain ⟨A9, c9, rfl⟩ := own_form hown
  have HX := Lib.hid (Rd.of_own hown)
  have HA := Lib.hid (HA.out.below hb1); have HW := Lib.hid (then_ HW.out hb1)
  clear hb1 hown HB HY HU HT1 HT2 HN1 HRT
  go_wp2_with fail
  have hal := (Below.refl w9.heap.size w9).alloc (Nat.le_refl _) (.cells #[.int .i64 7] 3)
  refine (sameInts_any A9 1 c9 [7] (some ⟨w9.heap.size, 0, none⟩) 1 1 [7] _ (HX.out.below hal) rfl (by decide) (by exact Rd.new w9 #[.int .i64 7] _) rfl (by decide)).mono ?_
  rintro e w10 ⟨rfl, hb1⟩
  have hb1 := then_ hal hb1
  have HA := Lib.hid (HA.out.below hb1); have HW := Lib.hid (then_ HW.out hb1)
  clear hb1 hal HX
  go_wp2_with fail
  have hal := (Below.refl w10.heap.size w10).alloc (Nat.le_refl _) (.cells #[.int .i64 7] 3)
  refine (in_any pa 1 1 [lX] (some ⟨w10.heap.size, 0, none⟩) 1 1 [((7 : Nat) : Int)] _ (HA.out.below hal) rfl (by decide) lX_ok (by exact Rd.new w10 #[.int .i64 7] _) rfl (by decide)).mono ?_
  rintro e w11 ⟨v11, rfl, hown, hb1⟩
  rw [in_7] at hown
  obtain ⟨A11, c11, rfl⟩ := own_form hown
  have hb1 := then_ hal hb1
  have HA := Lib.hid (HA.out.below hb1); have HW := Lib.hid (then_ HW.out hb1)
  clear hb1 hown hal
  go_wp2_with fail
  have hal := (Below.refl w11.heap.size w11).alloc (Nat.le_refl _) (.cells #[.int .i64 8] 3)
  refine (in_any pa 1 1 [lX] (some ⟨w11.heap.size, 0, none⟩) 1 1 [15 - ((7 : Nat) : Int)] _ (HA.out.below hal) rfl (by decide) lX_ok (by exact Rd.new w11 #[.int .i64 8] _) rfl (by decide)).mono ?_
  rintro e w12 ⟨v12, rfl, hown, hb1⟩
  rw [in_8] at hown
  obtain ⟨A12, c12, rfl⟩ := own_form hown
  have hb1 := then_ hal hb1
  have HW := Lib.hid (then_ HW.out hb1)
  clear hb1 hown hal
  go_wp2
  go_ret
  exact ⟨rfl, HW.out⟩
theorem fin28 (w W : World) (h : Below w.heap.size w W) : Calls Try.prog 12 #[] W fun e w' => e = .returned (.bool true) ∧ Below w.heap.size w w' := (awake28_any W).mono fun _ _ ⟨h1, h2⟩ => ⟨h1, then_ h h2⟩
end Go.Proofs.Ytgmafnpkhmlnnaa
