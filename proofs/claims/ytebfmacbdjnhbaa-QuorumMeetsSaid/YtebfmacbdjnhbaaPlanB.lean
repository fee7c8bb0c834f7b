/- plan.Orders: what it returns, for every argument. -/
import Derived.Test.YtebfmacbdjnhbaaPlan
namespace Go.Proofs.Ytebfmacbdjnhbaa
open Go.RowKit Go.Mem
set_option linter.unusedVariables false

theorem far1 {w w1 w2 : World} {P E : Obj} (hb1 : Below (w.alloc P).drew.heap.size (w.alloc P).drew w1) (hb2 : Below (w.heap.size + 1) (w1.alloc E) w2) : Below (w.heap.size + 1) (w.alloc P) w2 := by
  have h1 : Below (w.heap.size + 1) (w.alloc P) w1 := ((Below.refl _ _).drew).trans (hb1.mono (by simp))
  exact (h1.alloc (by have := h1.size; simpa using this) E).trans hb2
theorem far2 {w w1 w2 : World} {P E : Obj} (hb1 : Below ((w.alloc P).alloc E).drew.heap.size ((w.alloc P).alloc E).drew w1) (hb2 : Below (w.heap.size + 1) w1 w2) : Below (w.heap.size + 1) (w.alloc P) w2 := by
  have h1 : Below (w.heap.size + 1) (w.alloc P) w1 := (((Below.refl _ _).alloc (by simp) E).drew).trans (hb1.mono (by simp))
  exact h1.trans hb2
theorem head_cell {w : World} {base g n c : Nat} {e : TypeId} {l : List ByteArray} {s : ByteArray} (h : w.ownsRow base e 1 (.slice (some ⟨g, 0, none⟩) n c) n (l.map Value.string ++ [.string s])) :
    w.cell? ⟨g, 0, none⟩ = some (.string (l.head?.getD s)) := by
  have hl := h.1
  simp at hl
  obtain ⟨⟨u, hu, hc⟩, _⟩ := own_cells h 0 (by omega)
  rw [hc, ← hu]
  cases l <;> rfl

theorem far_nil (A : Option Addr) : Far (.slice none 0 0) A := fun _ _ _ h => by cases h
theorem far_own {w : World} {base e sz n c : Nat} {cs : List Value} {A : Option Addr} {v : Value} (h : w.ownsRow base e sz (.slice A n c) n cs) (hv : ∀ k, v.ownBlock = some k → k < base) : Far v A := fun b off e hb => by
  have h1 := (h.lt b (by rw [e]; rfl)).1
  have h2 := hv b hb
  omega

set_option maxRecDepth 100000 in
set_option maxHeartbeats 4000000 in
theorem orders_any (place : ByteArray) (A : Option Addr) (n c : Nat) (ss : List ByteArray) (B : Option Addr) (m d : Nat) (ts : List ByteArray) (w : World) (hr : Rd w A (ss.map Value.string)) (hn : ss.length = n) (hm : n ≤ 50000)
    (hr' : Rd w B (ts.map Value.string)) (hn' : ts.length = m) (hm' : m ≤ 50000) (hn0 : 0 < n) (hm0 : 0 < m) :
    Calls Try.prog 54 #[.string place, .slice A n c, .slice B m d] w (Makes 77 3 (ordersL place ss ts).length ((ordersL place ss ts).flatMap Ord.cells) w) := by
  have HN := Lib.hid hn; have HN' := Lib.hid hn'; clear hn hn'
  have hd1 : ((n : Int) == 0) = false := by simp; omega
  have hd2 : ((m : Int) == 0) = false := by simp; omega
  have hx : 0 < ss.length := by have := HN.out; omega
  obtain ⟨b, off, rfl, hcell⟩ := hr.at_ 0 (by simp; exact hx)
  simp only [List.getElem_map, Nat.add_zero] at hcell
  have hhd : ss.headD ByteArray.empty = ss[0] := by cases ss with | nil => simp at hx | cons a l => rfl
  have hfl : fromL ss ts = (restsL ts ss).head?.getD ss[0] := by unfold fromL; rw [hhd]
  generalize hs0 : ss[0] = s0 at hcell hfl
  have HFL := Lib.hid hfl; clear hfl hhd hs0
  have hb0 : b < w.heap.size := World.block_lt_of_cell? _ _ hcell
  go_enter Try.func54, Try.ntmps54
  go_wp2
  have hcA : Hid ((w.alloc (.cells #[.string place] 9)).cell? ⟨b, off, none⟩ = some (.string s0)) := (World.cell?_alloc_lt _ _ _ hb0).trans hcell
  have hcB : Hid (∀ o, ((w.alloc (.cells #[.string place] 9)).alloc o).cell? ⟨b, off, none⟩ = some (.string s0)) := fun o => (World.cell?_alloc_lt _ _ _ (by simp; omega)).trans hcA.out
  have hrl : (restsL ts ss).length ≤ 50000 := Nat.le_trans (List.length_filter_le _ _) (by have := HN.out; omega)
  go_region_law (first | (refine step_app el_string rfl (.tmp 20) (.tmp 24) rfl (w.heap.size + 1) v1 _ _ (by simp [Act.eval]) (by exact own_mono (ho1.alloc _) (by simp)) (some ⟨w1.heap.size, 0, none⟩) 1 1 [.string s0] (by simp [Act.eval]) rfl (Rd.new w1 #[.string s0] _) (by intro u hu; simp at hu; subst hu; rfl) (by unfold maxLen; omega) (by omega) (by have := hb1.size; simp at this ⊢; omega) ?_; intro v2 w2 ho2 hb2 _ _; have hbX := far1 hb1 hb2; obtain ⟨G2, c2, rfl⟩ := own_form ho2; obtain ⟨g2, rfl, hg2, hg2', hc2⟩ := own_pos ho2 (by omega); have hfr := head_cell ho2) | (refine step_app el_string rfl (.tmp 20) (.tmp 24) rfl (w.heap.size + 1) v1 _ _ (by simp [Act.eval]) (by exact own_mono ho1 (by simp)) (some ⟨w.heap.size + 1, 0, none⟩) 1 1 [.string s0] (by simp [Act.eval]) rfl (by exact Rd.below (Rd.drew (rd_new (w.alloc _) #[.string s0] _ _ (by simp) rfl)) hb1) (by intro u hu; simp at hu; subst hu; rfl) (by unfold maxLen; omega) (by omega) (by have := hb1.size; simp at this ⊢; omega) ?_; intro v2 w2 ho2 hb2 _ _; have hbX := far2 hb1 hb2; obtain ⟨G2, c2, rfl⟩ := own_form ho2; obtain ⟨g2, rfl, hg2, hg2', hc2⟩ := own_pos ho2 (by omega); have hfr := head_cell ho2) | ((go_simp; go_at_call 36; refine (rests_any B m d ts _ n c ss _ (by first | exact (hr'.alloc _).drew | exact ((hr'.alloc _).alloc _).drew) HN'.out (by omega) (by first | exact (hr.alloc _).drew | exact ((hr.alloc _).alloc _).drew) HN.out (by omega)).mono ?_; rintro e w1 ⟨v1, rfl, ho1, hb1⟩; have hc1 := cell_below hb1 (p := ⟨b, off, none⟩) (by first | exact hcA.out | exact hcB.out _))))
  all_goals
    have hbw2 : Below w.heap.size w w2 := ((Below.refl _ _).alloc (Nat.le_refl _) (.cells #[.string place] 9)).trans (hbX.mono (by omega))
    have hpl2 : w2.cell? ⟨w.heap.size, 0, none⟩ = some (.string place) := (hbX.cell (by simp)).trans (by simp)
    have hlt2 : w.heap.size < w2.heap.size := by have := hbX.size; simp at this; omega
    clear hb1 hb2 ho1 ho2 hg2 hg2' hc2 hc1 hbX hcA hcB hcell hfr
    go_wp2_with fail
    refine (gains_any (some ⟨b, off, none⟩) n c ss B m d ts _ (by exact (hr.below hbw2).alloc _) HN.out (by omega) (by exact (hr'.below hbw2).alloc _) HN'.out (by omega)).mono ?_
    rintro e w4 ⟨v4, rfl, ho4, hb4⟩
    obtain ⟨G4, c4, rfl⟩ := own_form ho4
    have hbw4 := then_ hbw2 (ba hb4)
    have hpl4 := cell_below (ba hb4) hpl2
    have ho4c : w4.cell? ⟨w2.heap.size, 0, none⟩ = some (.slice none 0 0) := cell_below hb4 (by simp)
    have ho4f : w4.frozen? ⟨w2.heap.size, 0, none⟩ = false := (hb4.frozen (by simp)).trans (by simp)
    have hsz4 : w2.heap.size + 1 ≤ w4.heap.size := by have := hb4.size; simpa using this
    have hgl : (gainsL ss ts).length ≤ 50000 := Nat.le_trans (List.length_filter_le _ _) (by have := HN'.out; omega)
    have hgl' : (gainsL ts ss).length ≤ 50000 := Nat.le_trans (List.length_filter_le _ _) (by have := HN.out; omega)
    have hF4 : Far (.slice (some ⟨w2.heap.size, 0, none⟩) 0 0) G4 := far_own ho4 (fun k hk => by simp [Value.ownBlock] at hk; subst hk; simp)
    have HO4 := Lib.hid ho4
    clear hb4 ho4 hpl2 hbw2
    go_wp2_with fail
    refine (orders1_any _ place G4 _ c4 (gainsL ss ts) w2.heap.size w.heap.size 0 (.slice none 0 0) [] w4 (Rd.of_own HO4.out) rfl (by omega) (by omega) rfl hpl4 hlt2 (by omega) ho4c ho4f (World.ownsRow_nil _ _ _ _) (far_nil _) hF4).mono ?_
    rintro e w5 ⟨rfl, hb5, v5, hv5, hf5, ho5⟩
    rw [Nat.zero_add, List.nil_append] at ho5
    obtain ⟨G5, c5, rfl⟩ := own_form ho5
    have hbw5 := hbw4.trans (hb5.mono (by omega))
    have hpl5 := (hb5.cell (p := ⟨w.heap.size, 0, none⟩) hlt2).trans hpl4
    have hsz5 : w2.heap.size < w5.heap.size := by have := hb5.size; omega
    have HO5 := Lib.hid ho5
    clear hb5 ho5 HO4 hF4 ho4c ho4f hpl4 hbw4
    go_wp2_with fail
    refine (gains_any B m d ts (some ⟨b, off, none⟩) n c ss w5 (hr'.below hbw5) HN'.out (by omega) (hr.below hbw5) HN.out (by omega)).mono ?_
    rintro e w6 ⟨v6, rfl, ho6, hb6⟩
    obtain ⟨G6, c6, rfl⟩ := own_form ho6
    have hbw6 := then_ hbw5 hb6
    have hpl6 := cell_below hb6 hpl5
    have hv6 := cell_below hb6 hv5
    have hf6 : w6.frozen? ⟨w2.heap.size, 0, none⟩ = false := (hb6.frozen hsz5).trans hf5
    have HO5' := Lib.hid (own_below HO5.out hb6)
    have hF6 : Far (.slice (some ⟨w2.heap.size, 0, none⟩) 0 0) G6 := far_own ho6 (fun k hk => by simp [Value.ownBlock] at hk; subst hk; exact hsz5)
    have hF6' : Far (.slice G5 (gainsL ss ts).length c5) G6 := far_own ho6 (fun k hk => (HO5.out.lt k hk).2)
    have hsz6 : w2.heap.size < w6.heap.size := by have := hb6.size; omega
    have HO6 := Lib.hid ho6
    clear hb6 ho6 HO5 hv5 hf5 hpl5 hbw5
    go_wp2_with fail
    refine (orders1_any _ place G6 _ c6 (gainsL ts ss) w2.heap.size w.heap.size (gainsL ss ts).length (.slice G5 (gainsL ss ts).length c5) ((gainsL ss ts).map (Ord.mk place ((restsL ts ss).head?.getD s0))) w6 (Rd.of_own HO6.out) rfl (by omega) (by omega) (by simp) hpl6 hlt2 hsz6 hv6 hf6 (by simpa using HO5'.out) hF6' hF6).mono ?_
    rintro e w7 ⟨rfl, hb7, v7, hv7, hf7, ho7⟩
    obtain ⟨G7, c7, rfl⟩ := own_form ho7
    have HO7 := Lib.hid ho7
    have hbw7 := hbw6.trans (hb7.mono (by omega))
    clear hb7 ho7 HO5' HO6 hF6 hF6' hv6 hf6 hpl6 hbw6
    go_wp2
    go_ret
    refine ⟨_, rfl, ?_, hbw7⟩
    have h7 := own_mono HO7.out (base' := w.heap.size) (by omega)
    unfold ordersL
    rw [HFL.out, List.length_append, List.length_map, List.length_map]
    exact h7
end Go.Proofs.Ytebfmacbdjnhbaa
