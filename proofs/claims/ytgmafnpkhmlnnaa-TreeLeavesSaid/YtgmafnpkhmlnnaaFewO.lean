/- Few parts of an object: where the document says so it is so. -/
import Derived.Test.YtgmafnpkhmlnnaaFewC
import Derived.Test.YtgmafnpkhmlnnaaObjD
attribute [local go_sem ↓] Go.wp_at_zero Go.wp_at_succ
namespace Go.Proofs.Ytgmafnpkhmlnnaa
open Go.RowKit Go.Mem Go.Num
set_option linter.unusedVariables false
set_option linter.unusedSimpArgs false

def smallB (m : Sib) : Prop := m.value.size ≤ 300 ∧ m.dot.node.size ≤ 100
def fewO (o : Ob) : Prop := fewCx o.ctx ∧ o.sibs.l.length ≤ 12 ∧ ∀ m ∈ o.sibs.l, smallB m
def FewO (o : Ob) (w : World) (e : Ending) (w' : World) : Prop := ∃ b : Bool, (b = true → fewO o) ∧ e = .returned (.bool b) ∧ Below w.heap.size w w'
set_option maxRecDepth 100000 in
set_option maxHeartbeats 2000000 in
theorem few07_any (o : Ob) (w : World) (hok : o.ok w) : Calls Try.prog 47 #[.agg o.arr] w (FewO o w) := by
  have hb0 := (Below.refl w.heap.size w).alloc (Nat.le_refl _) (.cells #[o.ctx.v, o.sibs.v] 63)
  have hx := range_new w #[o.ctx.v, o.sibs.v] 63
  have C0 := Lib.hid (rangeAt_cell hx 0 rfl); have C1 := Lib.hid (rangeAt_cell hx 1 rfl)
  simp only [Nat.zero_add] at C0 C1
  obtain ⟨cx, ⟨A, n, cap, l⟩⟩ := o
  have HN := Lib.hid hok.2.len; have HR := Lib.hid (hok.2.rd.below hb0); have HOK := Lib.hid hok.2.all; have hm := hok.2.le
  have HC := Lib.hid (fun (W : World) (h : Below w.heap.size w W) => few06_any cx W (hok.1.below h))
  clear hok hx
  simp only at HN HR HOK hm HC
  unfold maxLen at hm
  simp only [Ob.arr, Sibs.v] at C0 C1 HR hb0 ⊢
  have HF : Hid (∀ b : Bool, (b = true → fewCx cx ∧ l.length ≤ 12 ∧ ∀ m ∈ l, smallB m) → (b = true → fewO ⟨cx, ⟨A, n, cap, l⟩⟩)) := Lib.hid (fun b h => h)
  unfold FewCx at HC
  have hcv : ∃ A n k, cx.v = .slice A n k := ⟨_, _, _, rfl⟩
  generalize cx.v = cv at hcv C0 C1 HR hb0 HC ⊢
  obtain ⟨cA, cn, ck, rfl⟩ := hcv
  have HB0 := Lib.hid hb0
  clear hb0
  have c1 := C1.out
  go_enter Try.func47, Try.ntmps47
  go_wp2
  generalize hW0 : w.alloc (.cells #[.slice cA cn ck, .slice A n cap] 63) = W0 at *
  clear c1
  go_loopw [3] (fun i wr => ∃ k : Nat, k ≤ n ∧ i = .int .i64 k ∧ Below W0.heap.size W0 wr ∧ Hid (∀ s ∈ l.take k, smallB s)) (fun i _ => n - (intOf i).toNat)
  case atStart => exact ⟨0, Nat.zero_le _, rfl, Below.refl _ _, Lib.hid (by simp)⟩
  case round =>
    obtain ⟨k, hk, rfl, hbel, HA⟩ := hrel
    have c1 := cell_below hbel C1.out
    by_cases hend : k < n ∧ k < 12
    · obtain ⟨hlt, hlq⟩ := hend
      have hx : k < l.length := by have := HN.out; omega
      obtain ⟨b, off, rfl, hrg⟩ := row_sib.at_ (HR.out.below hbel) k hx
      have hs := HOK.out l[k] (List.getElem_mem hx)
      have HT := Lib.hid (fun s => mem_take_succC l k hx s)
      generalize l[k] = s at hrg hs HT
      obtain ⟨⟨sp, sd⟩, sv, sg, st⟩ := s
      have d0 : wr.cell? ⟨b, off + k * 5, none⟩ = some (.string sp) := rangeAt_cell hrg 0 rfl
      have d1 : wr.cell? ⟨b, off + k * 5 + 2, none⟩ = some (.string sv) := rangeAt_cell hrg 2 rfl
      clear hrg
      have hk1 := hs.1.1
      have hk2 := hs.2.1
      clear hs
      simp only at hk1 hk2
      unfold maxLen at hk1 hk2
      by_cases g1 : 300 < sv.size
      · go_wp2
        go_ret
        exact ⟨false, by simp, rfl, HB0.out.trans (hbel.mono HB0.out.size)⟩
      by_cases g2 : 100 < sp.size
      · go_wp2
        go_ret
        exact ⟨false, by simp, rfl, HB0.out.trans (hbel.mono HB0.out.size)⟩
      go_wp2
      go_roundw
      case rel => exact ⟨k + 1, by omega, by go_num, hbel, Lib.hid fun s hs => by
        rcases (HT.out s).1 hs with h | rfl
        · exact HA.out s h
        · exact ⟨by simp only; omega, by simp only; omega⟩⟩
      case measure => simp [intOf]; omega
    · have HE : Hid (k = n ∨ 12 ≤ k) := Lib.hid (by omega)
      have HL : Hid ((n : Int) ≤ 12 → l.length ≤ 12 ∧ ∀ m ∈ l, smallB m) := Lib.hid fun h => ⟨by rw [HN.out]; omega, by
        have hkn : k = n := by rcases HE.out with h1 | h1 <;> omega
        have := HA.out
        rwa [List.take_of_length_le (by rw [HN.out]; omega)] at this⟩
      have c0 := cell_below hbel C0.out
      have HB := Lib.hid (HB0.out.trans (hbel.mono HB0.out.size))
      by_cases hlt : k < n
      · have hq : ¬ k < 12 := fun h => hend ⟨hlt, h⟩
        clear hend
        go_wp2_with fail
        refine (HC.out _ HB.out).mono ?_
        rintro e w2 ⟨b, hb, rfl, hb2⟩
        have c1 := cell_below hb2 c1
        have HX := Lib.hid hb
        clear hb c0
        cases b
        · go_wp2
          all_goals (go_ret; exact ⟨_, by simp, rfl, then_ HB.out hb2⟩)
        · go_wp2
          all_goals (go_ret; exact ⟨_, fun h => ⟨HX.out (by simp), HL.out (by simpa using h)⟩, rfl, then_ HB.out hb2⟩)
      · obtain rfl : k = n := by omega
        clear hend
        go_wp2_with fail
        refine (HC.out _ HB.out).mono ?_
        rintro e w2 ⟨b, hb, rfl, hb2⟩
        have c1 := cell_below hb2 c1
        have HX := Lib.hid hb
        clear hb c0
        cases b
        · go_wp2
          all_goals (go_ret; exact ⟨_, by simp, rfl, then_ HB.out hb2⟩)
        · go_wp2
          all_goals (go_ret; exact ⟨_, fun h => ⟨HX.out (by simp), HL.out (by simpa using h)⟩, rfl, then_ HB.out hb2⟩)
end Go.Proofs.Ytgmafnpkhmlnnaa
