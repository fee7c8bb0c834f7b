/- The document's choices: rows of places, the walk of Choices, Covers, Sides. -/
import Derived.Test.YtpiinfjcjpdofaaCovF
import Derived.Test.YtpiinfjcjpdofaaCovR
import Derived.Deep.Cut
import Derived.Says
attribute [local go_sem ↓] Go.wp_at_zero Go.wp_at_succ
namespace Go.Proofs.Ytpiinfjcjpdofaa
open Go.RowKit Go.Mem Go.Cov
set_option linter.unusedVariables false
set_option linter.unusedSimpArgs false

/-- numbers that lie apart from a block -/
structure RowC (W : World) (base : Nat) (g : Option Nat) (A : Option Addr) (cs : List Value) : Prop where
  rd : Rd W A cs
  ap : cs = [] ∨ ∃ b o, A = some ⟨b, o, none⟩ ∧ base ≤ b ∧ b < W.heap.size ∧ g ≠ some b
section
variable {W W' : World} {base : Nat} {g g' : Option Nat} {A : Option Addr} {cs : List Value}
theorem RowC.nil : RowC W base g A [] := ⟨Rd.nil, .inl rfl⟩
theorem RowC.below (h : RowC W base g A cs) (hb : Below W.heap.size W W') : RowC W' base g A cs :=
  ⟨h.rd.below hb, h.ap.imp id fun ⟨b, o, h1, h2, h3, h4⟩ => ⟨b, o, h1, h2, Nat.lt_of_lt_of_le h3 hb.size, h4⟩⟩
theorem RowC.grown (h : RowC W base g A cs) (hg : W.grownBy W' g) : Rd W' A cs := by
  rcases h.ap with rfl | ⟨b, o, rfl, h2, h3, h4⟩
  · exact Rd.nil
  · intro j u hj
    obtain ⟨b', o', e, hc⟩ := h.rd j u hj
    injection e with e; injection e with e1 e2; subst e1 e2
    exact ⟨b, o, rfl, (World.cell?_of_block (a := ⟨b, o + j, none⟩) (hg.block b h3 (fun e => h4 e.symm))).trans hc⟩
theorem RowC.other (h : RowC W base g A cs) (hg : W.grownBy W' g') (hl : ∀ b, g' = some b → b < base) : Rd W' A cs := by
  rcases h.ap with rfl | ⟨b, o, rfl, h2, h3, h4⟩
  · exact Rd.nil
  · intro j u hj
    obtain ⟨b', o', e, hc⟩ := h.rd j u hj
    injection e with e; injection e with e1 e2; subst e1 e2
    exact ⟨b, o, rfl, (World.cell?_of_block (a := ⟨b, o + j, none⟩) (hg.block b h3 (fun e => by have := hl b e.symm; omega))).trans hc⟩
theorem RowC.app (h : RowC W base g A cs) (hg : W.grownBy W' g) (hat : g' = g ∨ g' = some W.heap.size) : RowC W' base g' A cs := by
  refine ⟨h.grown hg, h.ap.imp id fun ⟨b, o, h1, h2, h3, h4⟩ => ⟨b, o, h1, h2, Nat.lt_of_lt_of_le h3 hg.size, ?_⟩⟩
  rcases hat with rfl | rfl
  · exact h4
  · intro e; injection e with e; omega
end
/-- rows of numbers, apart from a block -/
structure RowsC (W : World) (base : Nat) (g : Option Nat) (cells : List Value) (C : List (List Nat)) : Prop where
  len : cells.length = C.length
  at_ : ∀ (j : Nat) (c : List Nat), C[j]? = some c → ∃ A cap, cells[j]? = some (.slice A c.length cap) ∧ RowC W base g A (ints (natI c))
section
variable {W W' : World} {base : Nat} {g g' : Option Nat} {cells : List Value} {C : List (List Nat)}
theorem RowsC.nil : RowsC W base g [] [] := ⟨rfl, fun j c h => by simp at h⟩
theorem RowsC.below (h : RowsC W base g cells C) (hb : Below W.heap.size W W') : RowsC W' base g cells C :=
  ⟨h.len, fun j c hj => by obtain ⟨A, cap, h1, h2⟩ := h.at_ j c hj; exact ⟨A, cap, h1, h2.below hb⟩⟩
theorem RowsC.app (h : RowsC W base g cells C) (hg : W.grownBy W' g) (hat : g' = g ∨ g' = some W.heap.size) {A : Option Addr} {cap : Nat} {c : List Nat} (hc : RowC W base g A (ints (natI c))) : RowsC W' base g' (cells ++ [.slice A c.length cap]) (C ++ [c]) := by
  refine ⟨by simp [h.len], fun j d hj => ?_⟩
  by_cases hlt : j < C.length
  · rw [List.getElem?_append_left hlt] at hj
    obtain ⟨A', cap', h1, h2⟩ := h.at_ j d hj
    exact ⟨A', cap', by rw [List.getElem?_append_left (by rw [h.len]; exact hlt)]; exact h1, h2.app hg hat⟩
  · rw [List.getElem?_append_right (by omega)] at hj
    obtain ⟨h1, h2⟩ := List.getElem?_eq_some_iff.1 hj
    have h3 : j = C.length := by simp at h1; omega
    subst h3
    simp at h2
    subst h2
    exact ⟨A, cap, by rw [← h.len]; simp, hc.app hg hat⟩
end
/-- choices of its own are handed back -/
def MakesC (C : List (List Nat)) (w : World) (r : Ending) (w' : World) : Prop := ∃ A cap cells, r = .returned (.slice A C.length cap) ∧ w'.ownsRow w.heap.size 28 1 (.slice A C.length cap) C.length cells ∧ RowsC w' w.heap.size (Value.slice A C.length cap).ownBlock cells C ∧ Below w.heap.size w w'

/-- two slices do not share a block -/
def Apt (u v : Value) : Prop := ∀ b, u.ownBlock = some b → v.ownBlock = some b → False
theorem Apt.symm {u v : Value} (h : Apt u v) : Apt v u := fun b h1 h2 => h b h2 h1
theorem Apt.app {u u' v : Value} (h : Apt u v) {s : Nat} (hat : u'.ownBlock = u.ownBlock ∨ u'.ownBlock = some s) (hv : ∀ b, v.ownBlock = some b → b < s) : Apt u' v := fun b h1 h2 => by
  rcases hat with e | e
  · exact h b (e ▸ h1) h2
  · rw [e] at h1; injection h1 with h1; have := hv b h2; omega
theorem Apt.kept {W W' : World} {base : Nat} {e : TypeId} {sz n : Nat} {u v : Value} {cs : List Value} (h : Apt u v) (ho : W.ownsRow base e sz v n cs) (hg : W.grownBy W' u.ownBlock) : W'.ownsRow base e sz v n cs :=
  ho.kept hg (by
    cases hv : v.ownBlock with
    | none => exact .inl rfl
    | some b => exact .inr fun e => h b e.symm hv)
theorem ints_len (l : List Int) : (ints l).length = l.length := by simp [ints]
theorem ints_snoc (l : List Int) (x : Int) : ints (l ++ [x]) = ints l ++ [.int .i64 x] := by simp [ints]

theorem cin_any (A : Option Addr) (n c : Nat) (l : List Int) (x : Int) (w : World) (hr : Rd w A (ints l)) (hn : l.length = n) (hm : n ≤ 1000000) :
    Calls Try.prog 53 #[.slice A n c, .int .i64 x] w fun e w' => e = .returned (.bool (decide (x ∈ l))) ∧ Below w.heap.size w w' := by
  have HN := Lib.hid hn; have HR := Lib.hid hr; clear hn hr
  go_enter Try.func53, Try.ntmps53
  go_wp2
  go_loopw [5] (fun i wr => ∃ k : Nat, k ≤ n ∧ i = .int .i64 k ∧ Hid (x ∉ l.take k) ∧ Hid (Below w.heap.size w wr)) (fun i _ => n - (intOf i).toNat)
  case atStart => exact ⟨0, Nat.zero_le _, rfl, Lib.hid (by simp), Lib.hid (Below.refl _ _)⟩
  case round =>
    obtain ⟨k, hk, rfl, HX, HB⟩ := hrel
    by_cases hlt : k < n
    · have hx : k < l.length := by have := HN.out; omega
      obtain ⟨b, off, rfl, hcell⟩ := (HR.out.below HB.out).at_ k (by simp [ints]; exact hx)
      simp only [ints, List.getElem_map] at hcell
      have HT := Lib.hid (List.take_succ_eq_append_getElem hx)
      have HM := Lib.hid (List.getElem_mem hx)
      generalize l[k] = y at hcell HT HM
      have hd : (k : Int) < (n : Int) := by omega
      have hk0 : (0 : Int) ≤ (k : Int) := by omega
      by_cases hy : y = x
      · have he : (y == x) = true := by simp [hy]
        have HY := Lib.hid hy; clear hy
        go_wp2
        go_ret
        exact ⟨ret_bool (decide_eq_true (by rw [← HY.out]; exact HM.out)).symm, HB.out⟩
      · have he : (y == x) = false := by simp [hy]
        have HY := Lib.hid hy; clear hy
        go_wp2
        go_roundw
        case rel => exact ⟨k + 1, by omega, by go_num, Lib.hid (by rw [HT.out, List.mem_append, List.mem_singleton]; exact fun h => h.elim HX.out (fun e => HY.out e.symm)), HB⟩
        case measure => simp [intOf]; omega
    · have hkn : (n : Int) ≤ (k : Int) := by omega
      have hfull : l.take k = l := List.take_of_length_le (by have := HN.out; omega)
      rw [hfull] at HX
      go_wp2
      go_ret
      exact ⟨ret_bool (decide_eq_false HX.out).symm, HB.out⟩

/-- the left numbers of a choice's first places, and the right ones -/
def lefts (l : List Pair) (cs : List Nat) : List Int := (sel l cs).map (·.1)
def rights (l : List Pair) (cs : List Nat) : List Int := (sel l cs).map (·.2)
theorem sel_len (l : List Pair) (cs : List Nat) : (sel l cs).length ≤ cs.length := List.length_filterMap_le _ _
theorem lefts_snoc {l : List Pair} {cs : List Nat} {i : Nat} (h : i < l.length) : lefts l (cs ++ [i]) = lefts l cs ++ [l[i].1] := by unfold lefts; rw [sel_snoc l cs i h]; simp
theorem rights_snoc {l : List Pair} {cs : List Nat} {i : Nat} (h : i < l.length) : rights l (cs ++ [i]) = rights l cs ++ [l[i].2] := by unfold rights; rw [sel_snoc l cs i h]; simp
theorem el_int' : Elem Try.prog 28 3 1 8 := el_int
set_option maxRecDepth 100000 in
set_option maxHeartbeats 8000000 in
theorem covers_any (A : Option Addr) (n c : Nat) (l : List Pair) (B : Option Addr) (m d : Nat) (cs : List Nat) (hn : l.length = n) (hm : n ≤ 1000) (hn2 : cs.length = m) (hm2 : m ≤ 1000) (hin : ∀ i ∈ cs, i < n) (w : World) (hr : Rd w A (prc l)) (hr2 : Rd w B (ints (natI cs))) :
    Calls Try.prog 29 #[.slice A n c, .slice B m d] w fun e w' => e = .returned (.tuple #[.int .i64 (nl [] (sel l cs) : Nat), .int .i64 (nr [] (sel l cs) : Nat)]) ∧ Below w.heap.size w w' := by
  have HN := Lib.hid hn; have HN2 := Lib.hid hn2; have HIN := Lib.hid hin; have HR := Lib.hid hr; have HR2 := Lib.hid hr2
  clear hn hn2 hin hr hr2
  go_enter Try.func29, Try.ntmps29
  go_wp2_with fail
  go_loopw [6, 7, 8] (fun u v i wr => ∃ k : Nat, k ≤ m ∧ i = .int .i64 k ∧ Hid (wr.ownsRow w.heap.size 3 1 u (uniq (lefts l (cs.take k))).length (ints (uniq (lefts l (cs.take k))))) ∧ Hid (wr.ownsRow w.heap.size 3 1 v (uniq (rights l (cs.take k))).length (ints (uniq (rights l (cs.take k))))) ∧ Hid (Apt u v) ∧ Hid (Below w.heap.size w wr)) (fun _ _ i _ => m - (intOf i).toNat)
  case atStart => exact ⟨0, Nat.zero_le _, rfl, Lib.hid (World.ownsRow_nil _ _ _ _), Lib.hid (World.ownsRow_nil _ _ _ _), Lib.hid (fun b h => by cases h), Lib.hid (Below.refl _ _)⟩
  case round =>
    obtain ⟨k, hk, rfl, HU, HV, HAP, HB⟩ := hrel
    by_cases hlt : k < m
    · have hx : k < cs.length := by have := HN2.out; omega
      have HT := Lib.hid (List.take_succ_eq_append_getElem hx)
      have hci : cs[k] < n := HIN.out _ (List.getElem_mem hx)
      obtain ⟨b2, off2, rfl, hcell2⟩ := (HR2.out.below HB.out).at_ k (by simp [ints, natI]; exact hx)
      simp only [ints, natI, List.map_map, List.getElem_map, Function.comp_apply] at hcell2
      generalize cs[k] = i at hcell2 HT hci
      have hxi : i < l.length := by have := HN.out; omega
      obtain ⟨b, off, rfl, hc0, hc1⟩ := prc_at (HR.out.below HB.out) hxi
      have HTL := Lib.hid (show lefts l (cs.take (k + 1)) = _ by rw [HT.out, lefts_snoc hxi])
      have HTR := Lib.hid (show rights l (cs.take (k + 1)) = _ by rw [HT.out, rights_snoc hxi])
      have hll : (uniq (lefts l (cs.take k))).length ≤ 1000 := by
        have h1 := uniq_le (lefts l (cs.take k)); have h2 := sel_len l (cs.take k)
        unfold lefts at h1; rw [List.length_map] at h1; have h3 := List.length_take_le k cs; unfold lefts; omega
      have hrl : (uniq (rights l (cs.take k))).length ≤ 1000 := by
        have h1 := uniq_le (rights l (cs.take k)); have h2 := sel_len l (cs.take k)
        unfold rights at h1; rw [List.length_map] at h1; have h3 := List.length_take_le k cs; unfold rights; omega
      generalize l[i] = pq at hc0 hc1 HTL HTR
      obtain ⟨p, q⟩ := pq
      simp only at hc0 hc1 HTL HTR
      have HUI := Lib.hid (fun h => uniq_in (xs := lefts l (cs.take k)) (x := p) h)
      have HUO := Lib.hid (fun h => uniq_out (xs := lefts l (cs.take k)) (x := p) h)
      have HVI := Lib.hid (fun h => uniq_in (xs := rights l (cs.take k)) (x := q) h)
      have HVO := Lib.hid (fun h => uniq_out (xs := rights l (cs.take k)) (x := q) h)
      rw [← HTL.out] at HUI HUO
      rw [← HTR.out] at HVI HVO
      generalize uniq (lefts l (cs.take k)) = U at HU HUI HUO hll
      generalize uniq (rights l (cs.take k)) = V at HV HVI HVO hrl
      obtain ⟨Au, cu, rfl⟩ := own_form HU.out
      obtain ⟨Av, cv, rfl⟩ := own_form HV.out
      have hkm : (k : Int) < (m : Int) := by omega
      have hk0 : (0 : Int) ≤ (k : Int) := by omega
      have hin2 : (i : Int) < (n : Int) := by omega
      have hi0 : (0 : Int) ≤ (i : Int) := by omega
      have hal : Below wr.heap.size wr (wr.alloc (.cells #[.int .i64 p, .int .i64 q] 50)) := (Below.refl _ _).alloc (Nat.le_refl _) _
      have HU1 := Lib.hid (own_below HU.out hal); have HV1 := Lib.hid (own_below HV.out hal); have HB1 := Lib.hid (then_ HB.out hal)
      have hxc0 : (wr.alloc (.cells #[.int .i64 p, .int .i64 q] 50)).cell? ⟨wr.heap.size, 0, none⟩ = some (.int .i64 p) := by rw [World.cell?_alloc_at _ _ _ _ rfl]; rfl
      have HX0 := Lib.hid hxc0
      have HX1 := Lib.hid (show (wr.alloc (.cells #[.int .i64 p, .int .i64 q] 50)).cell? ⟨wr.heap.size, 1, none⟩ = some (.int .i64 q) by rw [World.cell?_alloc_at _ _ _ _ rfl]; rfl)
      have HXU := Lib.hid (fun e => by have := (HU.out.lt _ e).2; omega : (Value.slice Au U.length cu).ownBlock ≠ some wr.heap.size)
      have HXV := Lib.hid (fun e => by have := (HV.out.lt _ e).2; omega : (Value.slice Av V.length cv).ownBlock ≠ some wr.heap.size)
      have HXB := Lib.hid (show wr.heap.size < (wr.alloc (.cells #[.int .i64 p, .int .i64 q] 50)).heap.size by simp)
      have HX := Lib.hid (fun W (h : Below (wr.alloc (.cells #[.int .i64 p, .int .i64 q] 50)).heap.size (wr.alloc (.cells #[.int .i64 p, .int .i64 q] 50)) W) => cin_any Au U.length cu U p W (Rd.of_own (own_below HU1.out h)) rfl (by omega))
      clear hal HU HV HB HTL HTR HT
      go_wp2_with fail
      generalize wr.alloc (.cells #[.int .i64 p, .int .i64 q] 50) = w1 at HU1 HV1 HB1 HX0 HX1 HXB HX hxc0 ⊢
      generalize wr.heap.size = xb at HX0 HX1 HXB HXU HXV hxc0 ⊢
      refine (HX.out w1 (Below.refl _ _)).mono ?_
      rintro e w2 ⟨rfl, hb2⟩
      have HU2 := Lib.hid (own_below HU1.out hb2); have HV2 := Lib.hid (own_below HV1.out hb2); have HB2 := Lib.hid (then_ HB1.out hb2)
      have HX2 := Lib.hid (cell_below hb2 HX0.out); have HX3 := Lib.hid (cell_below hb2 HX1.out)
      have HXB2 := Lib.hid (Nat.lt_of_lt_of_le HXB.out hb2.size)
      clear hb2 HX hxc0 HU1 HV1 HB1 HX0 HX1 HXB
      by_cases hp : p ∈ U
      · have hdp : decide (p ∈ U) = true := by simp [hp]
        have HFU := Lib.hid (HUI.out hp); clear hp
        have HU4 : Hid (w2.ownsRow w.heap.size 3 1 _ (uniq (lefts l (cs.take (k + 1)))).length (ints (uniq (lefts l (cs.take (k + 1)))))) := Lib.hid (by rw [HFU.out]; exact HU2.out); have HV4 := HV2; have HB4 := HB2; have HX4 := HX3; have HAP4 := HAP
        clear HU2 HV2 HB2 HX2 HX3
        rename World => w4
        have hx4 := HX4.out
        have HY := Lib.hid (cin_any Av V.length cv V q w4 (Rd.of_own HV4.out) rfl (by omega))
        go_wp2_with fail
        refine HY.out.mono ?_
        rintro e w5 ⟨rfl, hb5⟩
        have HU5 := Lib.hid (own_below HU4.out hb5); have HV5 := Lib.hid (own_below HV4.out hb5); have HB5 := Lib.hid (then_ HB4.out hb5); have HX5 := Lib.hid (cell_below hb5 HX4.out)
        have HZ5 := Lib.hid HB5.out.size
        clear hb5 HY hx4 HU4 HV4 HB4 HX4
        by_cases hq : q ∈ V
        · have hdq : decide (q ∈ V) = true := by simp [hq]
          have HFV := Lib.hid (HVI.out hq); clear hq
          go_wp2_with fail
          exact ⟨⟨k + 1, by omega, by go_num, HU5, Lib.hid (by rw [HFV.out]; exact HV5.out), HAP4, HB5⟩, by simp [intOf]; omega⟩
        · have hdq : decide (q ∈ V) = false := by simp [hq]
          have HFV := Lib.hid (HVO.out hq); clear hq
          have hx5 := HX5.out
          go_wp2_with (at_builtin; (refine wpList_app el_int (by rfl) (.tmp 38) (.tmp 41) (by rfl) w.heap.size _ V.length _ (by rfl) (HV5.out.alloc _) (some ⟨w5.heap.size, 0, none⟩) 1 1 [.int .i64 q] (by rfl) rfl (Rd.new w5 #[.int .i64 q] _) (by intro u hu; simp at hu; subst hu; rfl) (by unfold maxLen; omega) (by omega) (by have := HZ5.out; simp; omega) ?_; intro v2 w6 hown2 hbel2 hg2 hat2))
          have HV6 := Lib.hid hown2; have HU6 := Lib.hid (HAP4.out.symm.kept (HU5.out.alloc _) hg2); have HAP6 := Lib.hid ((HAP4.out.symm.app hat2 (fun b e => ((HU5.out.alloc _).lt b e).2)).symm); have HB6 := Lib.hid ((HB5.out.alloc HZ5.out _).trans hbel2)
          clear hown2 hbel2 hg2 hat2 HU5 HV5 HB5
          try go_wp2_with fail
          exact ⟨⟨k + 1, by omega, by go_num, HU6, Lib.hid (by rw [HFV.out, List.length_append, ints_snoc]; exact HV6.out), HAP6, HB6⟩, by simp [intOf]; omega⟩
      · have hdp : decide (p ∈ U) = false := by simp [hp]
        have HFU := Lib.hid (HUO.out hp); clear hp
        have hx2 := HX2.out
        have HZ2 := Lib.hid HB2.out.size
        go_wp2_with (at_builtin; (refine wpList_app el_int (by rfl) (.tmp 28) (.tmp 31) (by rfl) w.heap.size _ U.length _ (by rfl) (HU2.out.alloc _) (some ⟨w2.heap.size, 0, none⟩) 1 1 [.int .i64 p] (by rfl) rfl (Rd.new w2 #[.int .i64 p] _) (by intro u hu; simp at hu; subst hu; rfl) (by unfold maxLen; omega) (by omega) (by have := HZ2.out; simp; omega) ?_; intro v1 w4 hown1 hbel1 hg1 hat1; have hx4 : w4.cell? ⟨xb, 1, none⟩ = some (.int .i64 q) := (World.cell?_of_block (a := ⟨xb, 1, none⟩) (hg1.block xb (by have := HXB2.out; simp; omega) (fun e => HXU.out e.symm))).trans (cell_below ((Below.refl _ _).alloc (Nat.le_refl _) _) HX3.out)))
        have HU4 : Hid (w4.ownsRow w.heap.size 3 1 v1 (uniq (lefts l (cs.take (k + 1)))).length (ints (uniq (lefts l (cs.take (k + 1)))))) := Lib.hid (by rw [HFU.out, List.length_append, ints_snoc]; exact hown1); have HV4 := Lib.hid (HAP.out.kept (HV2.out.alloc _) hg1); have HAP4 := Lib.hid (HAP.out.app hat1 (fun b e => ((HV2.out.alloc _).lt b e).2)); have HB4 := Lib.hid ((HB2.out.alloc HZ2.out _).trans hbel1)
        have HX4 := Lib.hid hx4
        clear hown1 hbel1 hg1 hat1 HU2 HV2 HB2 HX2 HX3 hx2 HAP
        have HY := Lib.hid (cin_any Av V.length cv V q w4 (Rd.of_own HV4.out) rfl (by omega))
        refine HY.out.mono ?_
        rintro e w5 ⟨rfl, hb5⟩
        have HU5 := Lib.hid (own_below HU4.out hb5); have HV5 := Lib.hid (own_below HV4.out hb5); have HB5 := Lib.hid (then_ HB4.out hb5); have HX5 := Lib.hid (cell_below hb5 HX4.out)
        have HZ5 := Lib.hid HB5.out.size
        clear hb5 HY hx4 HU4 HV4 HB4 HX4
        by_cases hq : q ∈ V
        · have hdq : decide (q ∈ V) = true := by simp [hq]
          have HFV := Lib.hid (HVI.out hq); clear hq
          go_wp2_with fail
          exact ⟨⟨k + 1, by omega, by go_num, HU5, Lib.hid (by rw [HFV.out]; exact HV5.out), HAP4, HB5⟩, by simp [intOf]; omega⟩
        · have hdq : decide (q ∈ V) = false := by simp [hq]
          have HFV := Lib.hid (HVO.out hq); clear hq
          have hx5 := HX5.out
          go_wp2_with (at_builtin; (refine wpList_app el_int (by rfl) (.tmp 38) (.tmp 41) (by rfl) w.heap.size _ V.length _ (by rfl) (HV5.out.alloc _) (some ⟨w5.heap.size, 0, none⟩) 1 1 [.int .i64 q] (by rfl) rfl (Rd.new w5 #[.int .i64 q] _) (by intro u hu; simp at hu; subst hu; rfl) (by unfold maxLen; omega) (by omega) (by have := HZ5.out; simp; omega) ?_; intro v2 w6 hown2 hbel2 hg2 hat2))
          have HV6 := Lib.hid hown2; have HU6 := Lib.hid (HAP4.out.symm.kept (HU5.out.alloc _) hg2); have HAP6 := Lib.hid ((HAP4.out.symm.app hat2 (fun b e => ((HU5.out.alloc _).lt b e).2)).symm); have HB6 := Lib.hid ((HB5.out.alloc HZ5.out _).trans hbel2)
          clear hown2 hbel2 hg2 hat2 HU5 HV5 HB5
          try go_wp2_with fail
          exact ⟨⟨k + 1, by omega, by go_num, HU6, Lib.hid (by rw [HFV.out, List.length_append, ints_snoc]; exact HV6.out), HAP6, HB6⟩, by simp [intOf]; omega⟩
    · have hkn : (m : Int) ≤ (k : Int) := by omega
      have hfull : cs.take k = cs := List.take_of_length_le (by have := HN2.out; omega)
      rw [hfull, uniq_len] at HU HV
      obtain ⟨Au, cu, rfl⟩ := own_form HU.out
      obtain ⟨Av, cv, rfl⟩ := own_form HV.out
      go_wp2_with fail
      go_ret2
      exact ⟨rfl, HB.out⟩
end Go.Proofs.Ytpiinfjcjpdofaa
