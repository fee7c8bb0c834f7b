/- What must come, whatever the arguments are. -/
import Derived.Test.YtpiinfjcjpdofaaPreG
import Derived.Deep.Cut
import Derived.Says
attribute [local go_sem ↓] Go.wp_at_zero Go.wp_at_succ
namespace Go.Proofs.Ytpiinfjcjpdofaa
open Go.RowKit Go.Mem Go.Cov
set_option linter.unusedVariables false
set_option linter.unusedSimpArgs false

def tA : ByteArray := ⟨#[97]⟩
def tB : ByteArray := ⟨#[98]⟩
def tC : ByteArray := ⟨#[99]⟩
def tR : ByteArray := ⟨#[114]⟩
def tS : ByteArray := ⟨#[115]⟩
def tZ : ByteArray := ⟨#[122]⟩
def msA (q : Bool) : List Mb := [⟨tA, tR, tZ, true⟩, ⟨tB, tR, tZ, true⟩, ⟨tC, tS, tZ, q⟩]
def arA (q : Bool) : Array Value := #[.string tA, .string tR, .string tZ, .bool true, .string tB, .string tR, .string tZ, .bool true, .string tC, .string tS, .string tZ, .bool q]
theorem arA_cells (q : Bool) : (arA q).toList = (msA q).flatMap Mb.cells := rfl
theorem list_a : listF [tA, tB, tC] (msA true) 0 2 = [⟨tA, true⟩, ⟨tC, true⟩] := by decide +kernel
theorem list_b : listF [tA, tB, tC] (msA false) 0 2 = [⟨tA, true⟩, ⟨tB, false⟩] := by decide +kernel
theorem claimed_a : claimedF [tA] (msA false) 0 1 = [tA] := by decide +kernel
theorem okM_a (q : Bool) : okM (msA q) := by
  intro x hx
  simp only [msA, List.mem_cons, List.not_mem_nil, or_false] at hx
  cases q <;> (rcases hx with rfl | rfl | rfl <;> exact ⟨by decide, by decide, by decide⟩)
theorem okS_a : ∀ s ∈ [tA, tB, tC], s.size ≤ maxLen := by
  intro s hs
  simp only [List.mem_cons, List.not_mem_nil, or_false] at hs
  rcases hs with rfl | rfl | rfl <;> decide
theorem rd_block {W : World} {g : Nat} {cs : Array Value} {t : TypeId} (h : W.heap[g]? = some (.cells cs t (0, 0))) : Rd W (some ⟨g, 0, none⟩) cs.toList := fun j v hj => ⟨g, 0, rfl, by rw [Nat.zero_add, cell_of_row _ _ _ _ _ _ h]; simpa using hj⟩
set_option maxRecDepth 100000 in
set_option maxHeartbeats 16000000 in
theorem awake18_any (w : World) : Calls Try.prog 31 #[] w fun e w' => e = .returned (.bool true) ∧ Below w.heap.size w w' := by
  have hal1 : Below w.heap.size w (w.alloc (.cells (arA true) 34)) := (Below.refl _ _).alloc (Nat.le_refl _) _
  have hbk1 : (w.alloc (.cells (arA true) 34)).heap[w.heap.size]? = some (.cells (arA true) 34 (0, 0)) := heap_alloc_new w _
  have hal2 : Below (w.alloc (.cells (arA true) 34)).heap.size (w.alloc (.cells (arA true) 34)) ((w.alloc (.cells (arA true) 34)).alloc (.cells #[.string tA, .string tB, .string tC] 9)) := (Below.refl _ _).alloc (Nat.le_refl _) _
  have hz1 : (w.alloc (.cells (arA true) 34)).heap.size = w.heap.size + 1 := by simp
  have HRS := Lib.hid (show Rd ((w.alloc (.cells (arA true) 34)).alloc (.cells #[.string tA, .string tB, .string tC] 9)) (some ⟨w.heap.size + 1, 0, none⟩) ([tA, tB, tC].map Value.string) from by rw [← hz1]; exact Rd.new (w.alloc (.cells (arA true) 34)) #[.string tA, .string tB, .string tC] 9)
  have HBK := Lib.hid ((hal2.block w.heap.size (by omega)).trans hbk1)
  have HB2 := Lib.hid (then_ hal1 hal2)
  have HZ2 := Lib.hid (show ((w.alloc (.cells (arA true) 34)).alloc (.cells #[.string tA, .string tB, .string tC] 9)).heap.size = w.heap.size + 1 + 1 by simp)
  clear hal1 hbk1 hal2 hz1
  unfold arA tA tB tC tR tS tZ at HRS HBK HB2 HZ2
  go_enter Try.func31, Try.ntmps31
  go_wp2_with fail
  generalize (w.alloc _).alloc _ = w2 at HRS HBK HB2 HZ2 ⊢
  have HRM := Lib.hid (show Rd w2 (some ⟨w.heap.size, 0, none⟩) ((msA true).flatMap Mb.cells) from rd_block HBK.out)
  have HX := Lib.hid (list_any (some ⟨w.heap.size + 1, 0, none⟩) 3 3 [tA, tB, tC] (some ⟨w.heap.size, 0, none⟩) 3 3 (msA true) 0 2 w2 HRS.out rfl (by omega) HRM.out rfl (by omega) (by decide) okS_a (okM_a true))
  rw [list_a] at HX
  refine HX.out.mono ?_
  rintro e w3 ⟨v3, rfl, hown, hb3⟩
  have HZ3 := Lib.hid (show w.heap.size + 1 + 1 ≤ w3.heap.size by have := hb3.size; have := HZ2.out; omega)
  have HBK3 := Lib.hid ((hb3.block w.heap.size (by have := HZ2.out; omega)).trans HBK.out)
  have HOP := Lib.hid (show w3.ownsRow (w.heap.size + 1) 61 2 v3 2 (choc [⟨tA, true⟩, ⟨tC, true⟩]) from own_mono hown (by have := HZ2.out; omega))
  have HB3 := Lib.hid (then_ HB2.out hb3)
  have hcs : w3.cell? ⟨w.heap.size, 11, none⟩ = some (.bool true) := by rw [cell_of_row _ _ _ _ _ _ HBK3.out]; rfl
  have hfz : w3.frozen? ⟨w.heap.size, 11, none⟩ = false := by simp [World.frozen?, HBK3.out]
  clear hown hb3 HX HRM HRS HBK HB2
  go_wp2_with fail
  have hset : (w3.setCell ⟨w.heap.size, 11, none⟩ (.bool false)).heap[w.heap.size]? = some (.cells (arA false) 34 (0, 0)) := by
    simp [World.setCell, Array.getElem?_modify, HBK3.out]; rfl
  have hsz : w3.heap.size = (w3.setCell ⟨w.heap.size, 11, none⟩ (.bool false)).heap.size := by simp [World.setCell]
  have HB4 := Lib.hid (HB3.out.setCell (p := ⟨w.heap.size, 11, none⟩) (Nat.le_refl _) (.bool false))
  have HOP4 := Lib.hid (ownsRow_setCell_below HOP.out (a := ⟨w.heap.size, 11, none⟩) (Nat.lt_succ_self _) (.bool false))
  have HBK4 := Lib.hid hset
  have HZ4 := Lib.hid hsz
  rw [hsz]
  clear hset hsz HBK3 HOP HB3 hcs hfz
  have HZ5 : Hid (w.heap.size + 1 + 1 ≤ (w3.setCell ⟨w.heap.size, 11, none⟩ (.bool false)).heap.size) := Lib.hid (by rw [← HZ4.out]; exact HZ3.out)
  clear HZ3 HZ4
  generalize w3.setCell ⟨w.heap.size, 11, none⟩ (.bool false) = w4 at HB4 HOP4 HBK4 HZ5 ⊢
  have hal : Below w4.heap.size w4 (w4.alloc (.cells #[.string tA, .string tB, .string tC] 9)) := (Below.refl _ _).alloc (Nat.le_refl _) _
  have HRS := Lib.hid (Rd.new w4 #[.string tA, .string tB, .string tC] 9)
  have HRM := Lib.hid ((show Rd w4 (some ⟨w.heap.size, 0, none⟩) ((msA false).flatMap Mb.cells) from rd_block HBK4.out).below hal)
  have HX := Lib.hid (list_any (some ⟨w4.heap.size, 0, none⟩) 3 3 [tA, tB, tC] (some ⟨w.heap.size, 0, none⟩) 3 3 (msA false) 0 2 (w4.alloc (.cells #[.string tA, .string tB, .string tC] 9)) HRS.out rfl (by omega) HRM.out rfl (by omega) (by decide) okS_a (okM_a false))
  rw [list_b] at HX
  have HB5 := Lib.hid (then_ HB4.out hal); have HOP5 := Lib.hid (own_below HOP4.out hal)
  have HZ6 : Hid (w.heap.size + 1 ≤ (w4.alloc (.cells #[.string tA, .string tB, .string tC] 9)).heap.size) := Lib.hid (by have := HZ5.out; simp; omega)
  clear hal HB4 HOP4 HBK4 HZ5 HRS
  unfold tA tB tC at HX HB5 HRM HOP5 HZ6
  generalize w4.alloc _ = w5 at HX HB5 HRM HOP5 HZ6 ⊢
  generalize w4.heap.size = z5 at HX ⊢
  refine HX.out.mono ?_
  rintro e w6 ⟨v6, rfl, hown, hb6⟩
  obtain ⟨A3, c3, rfl⟩ := own_form HOP5.out
  obtain ⟨A6, c6, rfl⟩ := own_form hown
  have HRP := Lib.hid (Rd.of_own (own_below HOP5.out hb6)); have HRQ := Lib.hid (Rd.of_own hown); have HRM6 := Lib.hid (HRM.out.below hb6); have HB6 := Lib.hid (then_ HB5.out hb6)
  clear hown hb6 HX HRM HOP5 HB5 HZ6 HZ2
  generalize w.heap.size = g at HRM6 ⊢
  have hal : Below w6.heap.size w6 (w6.alloc (.cells #[.string ⟨#[97]⟩, .bool true, .string ⟨#[99]⟩, .bool true] 61)) := (Below.refl _ _).alloc (Nat.le_refl _) _
  have HRL := Lib.hid (Rd.new w6 #[.string ⟨#[97]⟩, .bool true, .string ⟨#[99]⟩, .bool true] 61)
  have HRP := Lib.hid (HRP.out.below hal); have HRQ := Lib.hid (HRQ.out.below hal); have HRM6 := Lib.hid (HRM6.out.below hal); have HB6 := Lib.hid (then_ HB6.out hal)
  go_wp2_with fail
  refine (sameCho_any A3 2 c3 [⟨tA, true⟩, ⟨tC, true⟩] (some ⟨w6.heap.size, 0, none⟩) 2 (w6.alloc (.cells #[.string ⟨#[97]⟩, .bool true, .string ⟨#[99]⟩, .bool true] 61)) HRP.out HRL.out rfl (by omega)).mono ?_
  rintro e w7 ⟨rfl, hb⟩
  have HRP := Lib.hid (HRP.out.below hb); have HRQ := Lib.hid (HRQ.out.below hb); have HRM6 := Lib.hid (HRM6.out.below hb); have HB7 := Lib.hid (then_ HB6.out hb)
  clear hb
  clear HRL hal
  have hal : Below w7.heap.size w7 (w7.alloc (.cells #[.string ⟨#[97]⟩, .bool true, .string ⟨#[98]⟩, .bool false] 61)) := (Below.refl _ _).alloc (Nat.le_refl _) _
  have HRL := Lib.hid (Rd.new w7 #[.string ⟨#[97]⟩, .bool true, .string ⟨#[98]⟩, .bool false] 61)
  have HRP := Lib.hid (HRP.out.below hal); have HRQ := Lib.hid (HRQ.out.below hal); have HRM6 := Lib.hid (HRM6.out.below hal); have HB7 := Lib.hid (then_ HB7.out hal)
  go_wp2_with fail
  refine (sameCho_any A6 2 c6 [⟨tA, true⟩, ⟨tB, false⟩] (some ⟨w7.heap.size, 0, none⟩) 2 (w7.alloc (.cells #[.string ⟨#[97]⟩, .bool true, .string ⟨#[98]⟩, .bool false] 61)) HRQ.out HRL.out rfl (by omega)).mono ?_
  rintro e w8 ⟨rfl, hb⟩
  have HRP := Lib.hid (HRP.out.below hb); have HRQ := Lib.hid (HRQ.out.below hb); have HRM6 := Lib.hid (HRM6.out.below hb); have HB8 := Lib.hid (then_ HB7.out hb)
  clear hb
  clear HRL hal
  have hal : Below w8.heap.size w8 (w8.alloc (.cells #[.string ⟨#[97]⟩] 9)) := (Below.refl _ _).alloc (Nat.le_refl _) _
  have HRL := Lib.hid (Rd.new w8 #[.string ⟨#[97]⟩] 9)
  have HRP := Lib.hid (HRP.out.below hal); have HRQ := Lib.hid (HRQ.out.below hal); have HRM6 := Lib.hid (HRM6.out.below hal); have HB8 := Lib.hid (then_ HB8.out hal)
  have HX := Lib.hid (claimed_any (some ⟨w8.heap.size, 0, none⟩) 1 1 [tA] (some ⟨g, 0, none⟩) 3 3 (msA false) 0 1 (w8.alloc (.cells #[.string ⟨#[97]⟩] 9)) HRL.out rfl (by omega) HRM6.out rfl (by omega) (by decide) (fun s hs => okS_a s (by simp at hs; simp [hs])) (okM_a false))
  rw [claimed_a] at HX
  go_wp2_with fail
  refine HX.out.mono ?_
  rintro e w9 ⟨v9, rfl, hown, hb⟩
  obtain ⟨A9, c9, rfl⟩ := own_form hown
  have HR9 := Lib.hid (Rd.of_own hown)
  clear hown HX
  have HRP := Lib.hid (HRP.out.below hb); have HRQ := Lib.hid (HRQ.out.below hb); have HRM6 := Lib.hid (HRM6.out.below hb); have HB9 := Lib.hid (then_ HB8.out hb)
  clear hb
  clear HRL hal
  have hal : Below w9.heap.size w9 (w9.alloc (.cells #[.string ⟨#[97]⟩] 9)) := (Below.refl _ _).alloc (Nat.le_refl _) _
  have HRL := Lib.hid (Rd.new w9 #[.string ⟨#[97]⟩] 9)
  have HRP := Lib.hid (HRP.out.below hal); have HRQ := Lib.hid (HRQ.out.below hal); have HRM6 := Lib.hid (HRM6.out.below hal); have HB9 := Lib.hid (then_ HB9.out hal)
  have HR9 := Lib.hid (HR9.out.below hal)
  have HS := Lib.hid (sameTexts_any A9 1 c9 [tA] (some ⟨w9.heap.size, 0, none⟩) 1 1 [tA] (w9.alloc (.cells #[.string ⟨#[97]⟩] 9)) HR9.out rfl (by unfold maxLen; omega) HRL.out rfl (by unfold maxLen; omega))
  rw [decide_eq_true rfl] at HS
  go_wp2_with fail
  refine HS.out.mono ?_
  rintro e w10 ⟨rfl, hb⟩
  have HRP := Lib.hid (HRP.out.below hb); have HRQ := Lib.hid (HRQ.out.below hb); have HRM6 := Lib.hid (HRM6.out.below hb); have HB10 := Lib.hid (then_ HB9.out hb)
  clear hb
  clear HRL hal HS HR9
  go_wp2_with fail
  refine (primaries_any A6 2 c6 [⟨tA, true⟩, ⟨tB, false⟩] w10 HRQ.out rfl (by omega)).mono ?_
  rintro e w11 ⟨v11, rfl, hown, hb⟩
  obtain ⟨A11, c11, rfl⟩ := own_form hown
  have HR11 := Lib.hid (Rd.of_own hown)
  clear hown
  have HRP := Lib.hid (HRP.out.below hb); have HRQ := Lib.hid (HRQ.out.below hb); have HRM6 := Lib.hid (HRM6.out.below hb); have HB11 := Lib.hid (then_ HB10.out hb)
  clear hb
  have hal : Below w11.heap.size w11 (w11.alloc (.cells #[.string ⟨#[97]⟩] 9)) := (Below.refl _ _).alloc (Nat.le_refl _) _
  have HRL := Lib.hid (Rd.new w11 #[.string ⟨#[97]⟩] 9)
  have HRP := Lib.hid (HRP.out.below hal); have HRQ := Lib.hid (HRQ.out.below hal); have HRM6 := Lib.hid (HRM6.out.below hal); have HB11 := Lib.hid (then_ HB11.out hal)
  have HR11 := Lib.hid (HR11.out.below hal)
  have HS := Lib.hid (sameTexts_any A11 1 c11 [tA] (some ⟨w11.heap.size, 0, none⟩) 1 1 [tA] (w11.alloc (.cells #[.string ⟨#[97]⟩] 9)) HR11.out rfl (by unfold maxLen; omega) HRL.out rfl (by unfold maxLen; omega))
  rw [decide_eq_true rfl] at HS
  go_wp2_with fail
  refine HS.out.mono ?_
  rintro e w12 ⟨rfl, hb⟩
  have HRP := Lib.hid (HRP.out.below hb); have HRQ := Lib.hid (HRQ.out.below hb); have HRM6 := Lib.hid (HRM6.out.below hb); have HB12 := Lib.hid (then_ HB11.out hb)
  clear hb
  clear HRL hal HS HR11
  go_wp2_with fail
  refine (nodes_any A6 2 c6 [⟨tA, true⟩, ⟨tB, false⟩] w12 HRQ.out rfl (by omega)).mono ?_
  rintro e w13 ⟨v13, rfl, hown, hb⟩
  obtain ⟨A13, c13, rfl⟩ := own_form hown
  have HR13 := Lib.hid (Rd.of_own hown)
  clear hown
  have HRP := Lib.hid (HRP.out.below hb); have HRQ := Lib.hid (HRQ.out.below hb); have HRM6 := Lib.hid (HRM6.out.below hb); have HB13 := Lib.hid (then_ HB12.out hb)
  clear hb
  have hal : Below w13.heap.size w13 (w13.alloc (.cells #[.string ⟨#[97]⟩, .string ⟨#[98]⟩] 9)) := (Below.refl _ _).alloc (Nat.le_refl _) _
  have HRL := Lib.hid (Rd.new w13 #[.string ⟨#[97]⟩, .string ⟨#[98]⟩] 9)
  have HRP := Lib.hid (HRP.out.below hal); have HRQ := Lib.hid (HRQ.out.below hal); have HRM6 := Lib.hid (HRM6.out.below hal); have HB13 := Lib.hid (then_ HB13.out hal)
  have HR13 := Lib.hid (HR13.out.below hal)
  have HS := Lib.hid (sameTexts_any A13 2 c13 [tA, tB] (some ⟨w13.heap.size, 0, none⟩) 2 2 [tA, tB] (w13.alloc (.cells #[.string ⟨#[97]⟩, .string ⟨#[98]⟩] 9)) HR13.out rfl (by unfold maxLen; omega) HRL.out rfl (by unfold maxLen; omega))
  rw [decide_eq_true rfl] at HS
  go_wp2_with fail
  refine HS.out.mono ?_
  rintro e w14 ⟨rfl, hb⟩
  have HRP := Lib.hid (HRP.out.below hb); have HRQ := Lib.hid (HRQ.out.below hb); have HRM6 := Lib.hid (HRM6.out.below hb); have HB14 := Lib.hid (then_ HB13.out hb)
  clear hb
  go_wp2
  go_ret
  exact ⟨rfl, HB14.out⟩
end Go.Proofs.Ytpiinfjcjpdofaa
