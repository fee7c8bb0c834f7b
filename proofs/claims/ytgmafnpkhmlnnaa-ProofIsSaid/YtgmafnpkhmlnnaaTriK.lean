/- The hashes of all levels, by the document. -/
import Derived.Test.YtgmafnpkhmlnnaaTriJ
attribute [local go_sem ↓] Go.wp_at_zero Go.wp_at_succ
namespace Go.Proofs.Ytgmafnpkhmlnnaa
open Go.RowKit Go.Mem Go.Num Go.Tri
set_option linter.unusedVariables false
set_option linter.unusedSimpArgs false

theorem only_thenB {a b w : World} {row : Option Nat} (h : a.grownBy b row) (k : Below a.heap.size b w) : a.grownBy w row :=
  ⟨k.os.trans h.os, k.tape.trans h.tape, k.output.trans h.output, Nat.le_trans h.size k.size, fun i hi hn => (k.block i hi).trans (h.block i hi hn)⟩
theorem only_set {a w : World} {g : Nat} (h : a.grownBy w (some g)) (o : Nat) (v : Value) : a.grownBy (w.setCell ⟨g, o, none⟩ v) (some g) := only_setCells g [v] o h
theorem below_only {a b w : World} {g B : Nat} (h : Below B a b) (k : b.grownBy w (some g)) (hB : B ≤ g) (hb : B ≤ b.heap.size) : Below B a w :=
  ⟨k.os.trans h.os, k.tape.trans h.tape, k.output.trans h.output, Nat.le_trans h.size k.size, fun i hi => (k.block i (Nat.lt_of_lt_of_le hi hb) (fun e => by injection e with e; omega)).trans (h.block i hi)⟩
/-- levels in a block, their rows from base on -/
def ArrG (W : World) (ob base : Nat) (vs : Nat → Value) (g : Nat → List ByteArray) : Prop :=
  ArrS W ob base 44 9 1 7 vs (fun j => (g j).length) (fun j => (g j).map Value.string)
theorem ArrG.below {W W' : World} {tb base : Nat} {vs : Nat → Value} {g : Nat → List ByteArray} (h : ArrG W tb base vs g) (hb : Below W.heap.size W W') : ArrG W' tb base vs g := ArrS.below h hb
theorem ArrG.grow {W W' : World} {tb base : Nat} {vs : Nat → Value} {g : Nat → List ByteArray} (h : ArrG W tb base vs g) {k : Nat} (hk : k < 7) {v' : Value} {s : ByteArray} (hown : W'.ownsRow base 9 1 v' ((g k).length + 1) ((g k).map Value.string ++ [.string s])) (hg : W.grownBy W' (vs k).ownBlock) (hat : v'.ownBlock = (vs k).ownBlock ∨ v'.ownBlock = some W.heap.size) :
    ArrG (W'.setCell ⟨tb, k, none⟩ v') tb base (upd vs k v') (upd g k (g k ++ [s])) := by
  have := ArrS.grow h hk hown hg hat
  have e1 : upd (fun j => (g j).length) k ((g k).length + 1) = fun j => (upd g k (g k ++ [s]) j).length := by
    funext j; by_cases e : j = k
    · subst e; rw [upd_at, upd_at, List.length_append]; rfl
    · rw [upd_ne _ _ e, upd_ne _ _ e]
  have e2 : upd (fun j => (g j).map Value.string) k ((g k).map Value.string ++ [.string s]) = fun j => (upd g k (g k ++ [s]) j).map Value.string := by
    funext j; by_cases e : j = k
    · subst e; rw [upd_at, upd_at, List.map_append]; rfl
    · rw [upd_ne _ _ e, upd_ne _ _ e]
  rw [e1, e2] at this
  exact this
def levN (j : Nat) : Nat := 2 ^ j
def levV (l : List Leaf) (j : Nat) : List Value := (levL l j).map Value.string
def LevelsR (l : List Leaf) (w : World) (e : Ending) (w' : World) : Prop := ∃ cs, e = .returned (.agg cs) ∧ AgS w' w.heap.size 9 7 cs levN (levV l) ∧ Below w.heap.size w w'
def nil7 : Array Value := #[.slice none 0 0, .slice none 0 0, .slice none 0 0, .slice none 0 0, .slice none 0 0, .slice none 0 0, .slice none 0 0]
/-- the blocks at the start: the result's, the levels', the shares' -/
structure Lv (w W3 : World) (l : List Leaf) (sb : Nat) (vsh : Nat → Value) : Prop where
  bel : Below w.heap.size w W3
  rb : W3.heap[w.heap.size]? = some (.cells nil7 44 (0, 0))
  out : ArrG W3 (w.heap.size + 1) W3.heap.size (fun _ => .slice none 0 0) (gS l 6 0)
  o1 : w.heap.size + 1 < sb
  o2 : sb < W3.heap.size
  sc : ∀ j, j < 64 → W3.cell? ⟨sb, j, none⟩ = some (vsh j)
  sr : ∀ j, j < 64 → W3.ownsRow (w.heap.size + 1 + 1) 9 1 (vsh j) (texBN l j) (texBV l j)
section
variable {w W3 W : World} {l : List Leaf} {sb : Nat} {vsh : Nat → Value}
theorem Lv.share (h : Lv w W3 l sb vsh) (k : W3.grownBy W (some (w.heap.size + 1))) (j : Nat) (hj : j < 64) : W.cell? ⟨sb, j, none⟩ = some (vsh j) ∧ W.ownsRow (w.heap.size + 1 + 1) 9 1 (vsh j) (texBN l j) (texBV l j) :=
  ⟨(World.cell?_of_block (a := ⟨sb, j, none⟩) (k.block sb h.o2 (fun e => by injection e with e; have := h.o1; omega))).trans (h.sc j hj), (h.sr j hj).kept k (.inr (fun e => by have := ((h.sr j hj).lt _ e).1; omega))⟩
theorem Lv.below (h : Lv w W3 l sb vsh) (k : W3.grownBy W (some (w.heap.size + 1))) : Below w.heap.size w W := below_only h.bel k (Nat.le_succ _) h.bel.size
theorem Lv.res (h : Lv w W3 l sb vsh) (k : W3.grownBy W (some (w.heap.size + 1))) : W.heap[w.heap.size]? = some (.cells nil7 44 (0, 0)) :=
  (k.block w.heap.size (by have := h.o1; have := h.o2; omega) (fun e => by injection e with e; omega)).trans h.rb
end
set_option maxRecDepth 100000 in
set_option maxHeartbeats 8000000 in
theorem levels_any (A : Option Addr) (n c : Nat) (l : List Leaf) (w : World) (hr : Rd w A (leafc l)) (hn : l.length = n) (hm : n ≤ 1000) (hok : ∀ m ∈ l, smallL m) :
    Calls Try.prog 32 #[.slice A n c] w (LevelsR l w) := by
  have hbA := (Below.refl w.heap.size w).alloc (Nat.le_refl _) (.cells nil7 44)
  have hbB := hbA.alloc (by simp) (.cells nil7 44)
  have HSH := Lib.hid (shares_any A n c l _ (hr.below hbB) hn hm hok)
  have HBB := Lib.hid hbB
  have hzB : ((w.alloc (.cells nil7 44)).alloc (.cells nil7 44)).heap.size = w.heap.size + 1 + 1 := by simp
  have hrA : ((w.alloc (.cells nil7 44)).alloc (.cells nil7 44)).heap[w.heap.size]? = some (.cells nil7 44 (0, 0)) :=
    (((Below.refl (w.heap.size + 1) (w.alloc (.cells nil7 44))).alloc (by simp) (.cells nil7 44)).block w.heap.size (by omega)).trans (heap_alloc_new w _)
  have hrB : ((w.alloc (.cells nil7 44)).alloc (.cells nil7 44)).heap[w.heap.size + 1]? = some (.cells nil7 44 (0, 0)) := by
    have := heap_alloc_new (w.alloc (.cells nil7 44)) (.cells nil7 44); simpa using this
  have HZB := Lib.hid hzB; have HRA := Lib.hid hrA; have HRB := Lib.hid hrB
  have HNK := Lib.hid (show l.length ≤ 1000 by omega); have HOK := Lib.hid hok
  clear hr hn hok hbA hbB hzB hrA hrB
  unfold nil7 at HSH
  go_enter Try.func32, Try.ntmps32
  go_wp2_with fail
  refine HSH.out.mono ?_
  rintro e w2 ⟨cs, rfl, hAg, hb2⟩
  obtain ⟨hcs, vsh, hcv, hown⟩ := hAg
  have H1 := Lib.hid (one_ags hcs hcv hown)
  have H1' := Lib.hid (show ∀ u ∈ cs.toList, u.oneCell' = true by have := H1.out; rw [Array.all_eq_true] at this; intro u hu; obtain ⟨j, hj, rfl⟩ := List.mem_iff_getElem.1 hu; exact this j (by simpa using hj))
  have HI := Lib.hid (show (Try.prog.info? 41).map (·.size) = some cs.size by rw [hcs]; kernel_rfl)
  have HZ := Lib.hid hcs
  have hb3 := (Below.refl w2.heap.size w2).alloc (Nat.le_refl _) (.cells cs 41)
  have HLV : Hid (Lv w (w2.alloc (.cells cs 41)) l w2.heap.size vsh) := Lib.hid (by
    have hz := HZB.out
    have hs2 := hb2.size
    have hbk := fun i (hi : i < w.heap.size + 1 + 1) => (hb3.block i (by unfold nil7 at hz; omega)).trans (hb2.block i (by unfold nil7 at hz; omega))
    unfold nil7 at hz
    refine ⟨then_ (then_ HBB.out hb2) hb3, (hbk _ (by omega)).trans HRA.out, ⟨by simp; omega, ⟨nil7, (hbk _ (by omega)).trans HRB.out, rfl, fun j hj => ?_⟩, fun j hj => ?_, fun i j _ _ _ => .inl rfl⟩, by omega, by simp, fun j hj => ?_, fun j hj => ?_⟩
    · match j, hj with
      | 0, _ => rfl
      | 1, _ => rfl
      | 2, _ => rfl
      | 3, _ => rfl
      | 4, _ => rfl
      | 5, _ => rfl
      | 6, _ => rfl
    · rw [gS_none]; exact World.ownsRow_nil _ _ _ _
    · rw [cell_of_row _ _ _ _ _ _ (heap_alloc_new w2 _)]; exact hcv j hj
    · have := own_below (hown j hj) hb3
      rw [hz] at this; exact this)
  clear hb3 hb2 hown hcv hcs HSH HRA HRB HZB
  go_wp2_with (refine wpList_store_new (by rfl) (.tmp 4) (.tmp 9) (by rfl) w2 _ _ (by rfl) cs (by rfl) (by rfl) (by rw [HZ.out]; rfl) HI.out H1'.out ?_)
  generalize w2.alloc (.cells cs 41) = W3 at HLV ⊢
  generalize w2.heap.size = sb at HLV ⊢
  have hob : w.heap.size + 1 < W3.heap.size := by have := HLV.out.o1; have := HLV.out.o2; omega
  go_loopw [5] (fun i wy => ∃ (j : Nat) (ws : Nat → Value), j ≤ 64 ∧ i = .int .i64 j ∧ Hid (ArrG wy (w.heap.size + 1) W3.heap.size ws (gS l 6 j)) ∧ W3.grownBy wy (some (w.heap.size + 1))) (fun i _ => 64 - (intOf i).toNat)
  case atStart => exact ⟨0, _, Nat.zero_le _, rfl, Lib.hid HLV.out.out, only_of (Below.refl _ _) _⟩
  case round =>
    obtain ⟨j, ws, hj, rfl, HT, hgb⟩ := hrel
    by_cases hlt : j < 64
    · obtain ⟨hcj, hownj⟩ := HLV.out.share hgb j hlt
      obtain ⟨Aj, cj, hvj⟩ := own_form hownj
      have HSHR := Lib.hid (fun W (h : W3.grownBy W (some (w.heap.size + 1))) => HLV.out.share h j hlt)
      rw [hvj] at hcj hownj HSHR
      have HX := Lib.hid (fun W (h : Below wr.heap.size wr W) => shaRef Aj (texBN l j) cj (shareL l j) W ((Rd.of_own hownj).below h) rfl (tex_bound (l := l) (bktB j) HNK.out HOK.out))
      rw [show hashT (shareL l j) = nodeL l (6 - 6) j from (nodeL_zero l j).symm] at HX
      have HG := Lib.hid (gS_succ l 6 j)
      have HLN : Hid ((gS l 6 j 6).length ≤ 64) := Lib.hid (by rw [gS_at, levK_len]; omega)
      generalize nodeL l (6 - 6) j = s at HX HG
      generalize texBN l j = nj at HX hcj HSHR
      have hb : Below wr.heap.size wr wr.drew := (Below.refl _ _).drew
      have hv : wr.drew.cell? ⟨w.heap.size + 1, 6, none⟩ = some (ws 6) := ArrS.cell HT.out (by decide)
      have hcj : wr.drew.cell? ⟨sb, j, none⟩ = some (.slice Aj nj cj) := hcj
      have HGB := Lib.hid hgb
      have hj64 : (j : Int) < 64 := by omega
      clear hownj hvj hgb
      go_wp2_with fail
      refine wp_region_held_drew (S := (fun W => W.cell? ⟨sb, j, none⟩ = some (.slice Aj nj cj))) (by kernel_rfl) hcj (fun hHeld => ?_)
      refine wpAnyH_take (i := 0) (oi := _) (v := ?vq1) rfl (by kernel_rfl) (by kernel_rfl) (by kernel_rfl) (fun _ _ _ h => h) (Or.inl ⟨by rfl, ?hq1⟩) (by assumption) ?rq1
      case hq1 => (intro w hSw; go_simp; try with_reducible rfl)
      try dsimp only [Act.put, List.getElem_toArray, List.getElem_cons_zero, List.getElem_cons_succ]; try simp only [List.setIfInBounds_toArray, List.set_cons_zero, List.set_cons_succ]
      refine wpAnyH_take (i := 2) (oi := _) (v := ?vq2) rfl (by kernel_rfl) (by kernel_rfl) (by kernel_rfl) (fun _ _ _ h => h) (Or.inl ⟨by rfl, ?hq2⟩) (by assumption) ?rq2
      case hq2 => (intro w hSw; go_simp; try with_reducible rfl)
      try dsimp only [Act.put, List.getElem_toArray, List.getElem_cons_zero, List.getElem_cons_succ]; try simp only [List.setIfInBounds_toArray, List.set_cons_zero, List.set_cons_succ]
      refine wpAnyH_take (i := 3) (oi := _) (v := ?vq3) rfl (by kernel_rfl) (by kernel_rfl) (by kernel_rfl) (fun _ _ _ h => h) (Or.inl ⟨by rfl, ?hq3⟩) (by assumption) ?rq3
      case hq3 => (intro w hSw; go_simp; try with_reducible rfl)
      try dsimp only [Act.put, List.getElem_toArray, List.getElem_cons_zero, List.getElem_cons_succ]; try simp only [List.setIfInBounds_toArray, List.set_cons_zero, List.set_cons_succ]
      refine wpAnyH_take (i := 4) (oi := _) (v := ?vq4) rfl (by kernel_rfl) (by kernel_rfl) (by kernel_rfl) (fun _ _ _ h => h) (Or.inl ⟨by rfl, ?hq4⟩) (by assumption) ?rq4
      case hq4 => (intro w hSw; go_simp; try with_reducible rfl)
      try dsimp only [Act.put, List.getElem_toArray, List.getElem_cons_zero, List.getElem_cons_succ]; try simp only [List.setIfInBounds_toArray, List.set_cons_zero, List.set_cons_succ]
      refine wpAnyH_ready (rs := [1, 5]) (by kernel_rfl) (by simp) ?_
      refine AllReadyH.cons (o := _) rfl (fun K hK => ?_) ?_
      · rw [if_pos (by rfl)]
        go_simp
        refine hK.out _ _ hcj (fun hHeld => ?_)
        clear hK K
        try dsimp only [Act.put, List.getElem_toArray, List.getElem_cons_zero, List.getElem_cons_succ]; try simp only [List.setIfInBounds_toArray, List.set_cons_zero, List.set_cons_succ]
        refine wpAnyH_ready (rs := [5]) (by kernel_rfl) (by simp) ?_
        refine AllReadyH.cons (o := _) rfl (fun K hK => ?_) ?_
        · rw [if_pos (by rfl)]
          go_simp
          refine (HX.out _ hb).mono ?_
          rintro e wx ⟨rfl, hbx⟩
          have hv := cell_below hbx hv
          have hcj := cell_below hbx hcj
          have hb := then_ hb hbx
          clear hbx
          go_wp2_with fail
          refine hK.out _ _ hcj (fun hHeld => ?_)
          clear hK K
          try dsimp only [Act.put, List.getElem_toArray, List.getElem_cons_zero, List.getElem_cons_succ]; try simp only [List.setIfInBounds_toArray, List.set_cons_zero, List.set_cons_succ]
          refine wpAnyH_ready (rs := [6]) (by kernel_rfl) (by simp) ?_
          refine AllReadyH.cons (o := _) rfl (fun K hK => ?_) ?_
          · rw [if_pos (by rfl)]
            go_simp
            have hA := (Below.refl wx.heap.size wx).alloc (Nat.le_refl _) (.cells #[.string s] 9)
            have hv := cell_below hA hv
            have hcj := cell_below hA hcj
            have hb := then_ hb hA
            clear hA
            refine hK.out _ _ hcj (fun hHeld => ?_)
            clear hK K
            try dsimp only [Act.put, List.getElem_toArray, List.getElem_cons_zero, List.getElem_cons_succ]; try simp only [List.setIfInBounds_toArray, List.set_cons_zero, List.set_cons_succ]
            refine wpAnyH_ready (rs := [7]) (by kernel_rfl) (by simp) ?_
            refine AllReadyH.cons (o := _) rfl (fun K hK => ?_) ?_
            · have HA := Lib.hid (HT.out.below hb)
              refine step_app elStr (by rfl) (.tmp 15) (.tmp 20) (by rfl) W3.heap.size (ws 6) (gS l 6 j 6).length ((gS l 6 j 6).map Value.string) (by rfl) (by exact ArrS.own HA.out 6 (by omega)) (some ⟨wx.heap.size, 0, none⟩) 1 1 [.string s] (by rfl) rfl (Rd.new wx #[.string s] _) (by intro u hu; simp at hu; subst hu; rfl) (by have := HLN.out; unfold maxLen; omega) (by have := HLN.out; omega) (by have h8 := HGB.out.size; have h9 := hb.size; simp at h9 ⊢; omega) ?_
              intro v2 w3 hown2 hbel2 hgrow2 hat2
              obtain ⟨A2, c2, rfl⟩ := own_form hown2
              have hbk := hgrow2.block (w.heap.size + 1) (ArrS.blt HA.out) (fun e => by have := ((ArrS.own HA.out 6 (by omega)).lt _ e.symm).1; omega)
              have hv := (World.cell?_of_block (a := ⟨w.heap.size + 1, 6, none⟩) hbk).trans hv
              have hfr := (World.frozen?_of_block (a := ⟨w.heap.size + 1, 6, none⟩) hbk).trans (ArrS.free HA.out 6)
              have HFIN := Lib.hid (ArrG.grow HA.out (k := 6) (by omega) hown2 hgrow2 hat2)
              have hg3 := only_thenB (only_then HGB.out hb) hbel2
              have hgf := only_set hg3 6 (.slice A2 ((gS l 6 j 6).length + 1) c2)
              have hcj := (HSHR.out w3 hg3).1
              clear hbk hown2 hbel2 hgrow2 hat2
              refine hK.out _ _ hcj (fun hHeld => ?_)
              clear hK K
              try dsimp only [Act.put, List.getElem_toArray, List.getElem_cons_zero, List.getElem_cons_succ]; try simp only [List.setIfInBounds_toArray, List.set_cons_zero, List.set_cons_succ]
              refine wpAnyH_take (i := 8) (oi := _) (v := ?vq5) rfl (by kernel_rfl) (by kernel_rfl) (by kernel_rfl) (fun _ _ _ h => h) (Or.inl ⟨by rfl, ?hq5⟩) (by assumption) ?rq5
              case hq5 => (intro w hSw; go_simp; try with_reducible rfl)
              try dsimp only [Act.put, List.getElem_toArray, List.getElem_cons_zero, List.getElem_cons_succ]; try simp only [List.setIfInBounds_toArray, List.set_cons_zero, List.set_cons_succ]
              refine wpAnyH_ready (rs := [9]) (by kernel_rfl) (by simp) ?_
              refine AllReadyH.cons (o := _) rfl (fun K hK => ?_) ?_
              · rw [if_pos (by rfl)]
                go_simp
                have hcj := (HSHR.out _ hgf).1
                refine hK.out _ _ hcj (fun hHeld => ?_)
                clear hK K
                try dsimp only [Act.put, List.getElem_toArray, List.getElem_cons_zero, List.getElem_cons_succ]; try simp only [List.setIfInBounds_toArray, List.set_cons_zero, List.set_cons_succ]
                refine wpAnyH_done (by kernel_rfl) ?_ _
                go_wp2
                go_roundw
                case rel => exact ⟨j + 1, _, by omega, by go_num, Lib.hid (by have := HFIN.out; rwa [HG.out] at this), hgf⟩
                case measure => simp [intOf]; omega
              exact AllReadyH.nil
            exact AllReadyH.nil
          exact AllReadyH.nil
        exact AllReadyH.nil
      refine AllReadyH.cons (o := _) rfl (fun K hK => ?_) ?_
      · rw [if_pos (by rfl)]
        go_simp
        refine (HX.out _ hb).mono ?_
        rintro e wx ⟨rfl, hbx⟩
        have hv := cell_below hbx hv
        have hcj := cell_below hbx hcj
        have hb := then_ hb hbx
        clear hbx
        go_wp2_with fail
        refine hK.out _ _ hcj (fun hHeld => ?_)
        clear hK K
        try dsimp only [Act.put, List.getElem_toArray, List.getElem_cons_zero, List.getElem_cons_succ]; try simp only [List.setIfInBounds_toArray, List.set_cons_zero, List.set_cons_succ]
        refine wpAnyH_ready (rs := [1, 6]) (by kernel_rfl) (by simp) ?_
        refine AllReadyH.cons (o := _) rfl (fun K hK => ?_) ?_
        · rw [if_pos (by rfl)]
          go_simp
          refine hK.out _ _ hcj (fun hHeld => ?_)
          clear hK K
          try dsimp only [Act.put, List.getElem_toArray, List.getElem_cons_zero, List.getElem_cons_succ]; try simp only [List.setIfInBounds_toArray, List.set_cons_zero, List.set_cons_succ]
          refine wpAnyH_ready (rs := [6]) (by kernel_rfl) (by simp) ?_
          refine AllReadyH.cons (o := _) rfl (fun K hK => ?_) ?_
          · rw [if_pos (by rfl)]
            go_simp
            have hA := (Below.refl wx.heap.size wx).alloc (Nat.le_refl _) (.cells #[.string s] 9)
            have hv := cell_below hA hv
            have hcj := cell_below hA hcj
            have hb := then_ hb hA
            clear hA
            refine hK.out _ _ hcj (fun hHeld => ?_)
            clear hK K
            try dsimp only [Act.put, List.getElem_toArray, List.getElem_cons_zero, List.getElem_cons_succ]; try simp only [List.setIfInBounds_toArray, List.set_cons_zero, List.set_cons_succ]
            refine wpAnyH_ready (rs := [7]) (by kernel_rfl) (by simp) ?_
            refine AllReadyH.cons (o := _) rfl (fun K hK => ?_) ?_
            · have HA := Lib.hid (HT.out.below hb)
              refine step_app elStr (by rfl) (.tmp 15) (.tmp 20) (by rfl) W3.heap.size (ws 6) (gS l 6 j 6).length ((gS l 6 j 6).map Value.string) (by rfl) (by exact ArrS.own HA.out 6 (by omega)) (some ⟨wx.heap.size, 0, none⟩) 1 1 [.string s] (by rfl) rfl (Rd.new wx #[.string s] _) (by intro u hu; simp at hu; subst hu; rfl) (by have := HLN.out; unfold maxLen; omega) (by have := HLN.out; omega) (by have h8 := HGB.out.size; have h9 := hb.size; simp at h9 ⊢; omega) ?_
              intro v2 w3 hown2 hbel2 hgrow2 hat2
              obtain ⟨A2, c2, rfl⟩ := own_form hown2
              have hbk := hgrow2.block (w.heap.size + 1) (ArrS.blt HA.out) (fun e => by have := ((ArrS.own HA.out 6 (by omega)).lt _ e.symm).1; omega)
              have hv := (World.cell?_of_block (a := ⟨w.heap.size + 1, 6, none⟩) hbk).trans hv
              have hfr := (World.frozen?_of_block (a := ⟨w.heap.size + 1, 6, none⟩) hbk).trans (ArrS.free HA.out 6)
              have HFIN := Lib.hid (ArrG.grow HA.out (k := 6) (by omega) hown2 hgrow2 hat2)
              have hg3 := only_thenB (only_then HGB.out hb) hbel2
              have hgf := only_set hg3 6 (.slice A2 ((gS l 6 j 6).length + 1) c2)
              have hcj := (HSHR.out w3 hg3).1
              clear hbk hown2 hbel2 hgrow2 hat2
              refine hK.out _ _ hcj (fun hHeld => ?_)
              clear hK K
              try dsimp only [Act.put, List.getElem_toArray, List.getElem_cons_zero, List.getElem_cons_succ]; try simp only [List.setIfInBounds_toArray, List.set_cons_zero, List.set_cons_succ]
              refine wpAnyH_take (i := 8) (oi := _) (v := ?vq6) rfl (by kernel_rfl) (by kernel_rfl) (by kernel_rfl) (fun _ _ _ h => h) (Or.inl ⟨by rfl, ?hq6⟩) (by assumption) ?rq6
              case hq6 => (intro w hSw; go_simp; try with_reducible rfl)
              try dsimp only [Act.put, List.getElem_toArray, List.getElem_cons_zero, List.getElem_cons_succ]; try simp only [List.setIfInBounds_toArray, List.set_cons_zero, List.set_cons_succ]
              refine wpAnyH_ready (rs := [9]) (by kernel_rfl) (by simp) ?_
              refine AllReadyH.cons (o := _) rfl (fun K hK => ?_) ?_
              · rw [if_pos (by rfl)]
                go_simp
                have hcj := (HSHR.out _ hgf).1
                refine hK.out _ _ hcj (fun hHeld => ?_)
                clear hK K
                try dsimp only [Act.put, List.getElem_toArray, List.getElem_cons_zero, List.getElem_cons_succ]; try simp only [List.setIfInBounds_toArray, List.set_cons_zero, List.set_cons_succ]
                refine wpAnyH_done (by kernel_rfl) ?_ _
                go_wp2
                go_roundw
                case rel => exact ⟨j + 1, _, by omega, by go_num, Lib.hid (by have := HFIN.out; rwa [HG.out] at this), hgf⟩
                case measure => simp [intOf]; omega
              exact AllReadyH.nil
            exact AllReadyH.nil
          exact AllReadyH.nil
        refine AllReadyH.cons (o := _) rfl (fun K hK => ?_) ?_
        · rw [if_pos (by rfl)]
          go_simp
          have hA := (Below.refl wx.heap.size wx).alloc (Nat.le_refl _) (.cells #[.string s] 9)
          have hv := cell_below hA hv
          have hcj := cell_below hA hcj
          have hb := then_ hb hA
          clear hA
          refine hK.out _ _ hcj (fun hHeld => ?_)
          clear hK K
          try dsimp only [Act.put, List.getElem_toArray, List.getElem_cons_zero, List.getElem_cons_succ]; try simp only [List.setIfInBounds_toArray, List.set_cons_zero, List.set_cons_succ]
          refine wpAnyH_ready (rs := [1]) (by kernel_rfl) (by simp) ?_
          refine AllReadyH.cons (o := _) rfl (fun K hK => ?_) ?_
          · rw [if_pos (by rfl)]
            go_simp
            refine hK.out _ _ hcj (fun hHeld => ?_)
            clear hK K
            try dsimp only [Act.put, List.getElem_toArray, List.getElem_cons_zero, List.getElem_cons_succ]; try simp only [List.setIfInBounds_toArray, List.set_cons_zero, List.set_cons_succ]
            refine wpAnyH_ready (rs := [7]) (by kernel_rfl) (by simp) ?_
            refine AllReadyH.cons (o := _) rfl (fun K hK => ?_) ?_
            · have HA := Lib.hid (HT.out.below hb)
              refine step_app elStr (by rfl) (.tmp 15) (.tmp 20) (by rfl) W3.heap.size (ws 6) (gS l 6 j 6).length ((gS l 6 j 6).map Value.string) (by rfl) (by exact ArrS.own HA.out 6 (by omega)) (some ⟨wx.heap.size, 0, none⟩) 1 1 [.string s] (by rfl) rfl (Rd.new wx #[.string s] _) (by intro u hu; simp at hu; subst hu; rfl) (by have := HLN.out; unfold maxLen; omega) (by have := HLN.out; omega) (by have h8 := HGB.out.size; have h9 := hb.size; simp at h9 ⊢; omega) ?_
              intro v2 w3 hown2 hbel2 hgrow2 hat2
              obtain ⟨A2, c2, rfl⟩ := own_form hown2
              have hbk := hgrow2.block (w.heap.size + 1) (ArrS.blt HA.out) (fun e => by have := ((ArrS.own HA.out 6 (by omega)).lt _ e.symm).1; omega)
              have hv := (World.cell?_of_block (a := ⟨w.heap.size + 1, 6, none⟩) hbk).trans hv
              have hfr := (World.frozen?_of_block (a := ⟨w.heap.size + 1, 6, none⟩) hbk).trans (ArrS.free HA.out 6)
              have HFIN := Lib.hid (ArrG.grow HA.out (k := 6) (by omega) hown2 hgrow2 hat2)
              have hg3 := only_thenB (only_then HGB.out hb) hbel2
              have hgf := only_set hg3 6 (.slice A2 ((gS l 6 j 6).length + 1) c2)
              have hcj := (HSHR.out w3 hg3).1
              clear hbk hown2 hbel2 hgrow2 hat2
              refine hK.out _ _ hcj (fun hHeld => ?_)
              clear hK K
              try dsimp only [Act.put, List.getElem_toArray, List.getElem_cons_zero, List.getElem_cons_succ]; try simp only [List.setIfInBounds_toArray, List.set_cons_zero, List.set_cons_succ]
              refine wpAnyH_take (i := 8) (oi := _) (v := ?vq7) rfl (by kernel_rfl) (by kernel_rfl) (by kernel_rfl) (fun _ _ _ h => h) (Or.inl ⟨by rfl, ?hq7⟩) (by assumption) ?rq7
              case hq7 => (intro w hSw; go_simp; try with_reducible rfl)
              try dsimp only [Act.put, List.getElem_toArray, List.getElem_cons_zero, List.getElem_cons_succ]; try simp only [List.setIfInBounds_toArray, List.set_cons_zero, List.set_cons_succ]
              refine wpAnyH_ready (rs := [9]) (by kernel_rfl) (by simp) ?_
              refine AllReadyH.cons (o := _) rfl (fun K hK => ?_) ?_
              · rw [if_pos (by rfl)]
                go_simp
                have hcj := (HSHR.out _ hgf).1
                refine hK.out _ _ hcj (fun hHeld => ?_)
                clear hK K
                try dsimp only [Act.put, List.getElem_toArray, List.getElem_cons_zero, List.getElem_cons_succ]; try simp only [List.setIfInBounds_toArray, List.set_cons_zero, List.set_cons_succ]
                refine wpAnyH_done (by kernel_rfl) ?_ _
                go_wp2
                go_roundw
                case rel => exact ⟨j + 1, _, by omega, by go_num, Lib.hid (by have := HFIN.out; rwa [HG.out] at this), hgf⟩
                case measure => simp [intOf]; omega
              exact AllReadyH.nil
            exact AllReadyH.nil
          exact AllReadyH.nil
        exact AllReadyH.nil
      exact AllReadyH.nil
    · have hjj : j = 64 := by omega
      have HTX : Hid (ArrG wr (w.heap.size + 1) W3.heap.size ws (gS l 6 64)) := Lib.hid (by rw [← hjj]; exact HT.out)
      have hj1 : (64 : Int) ≤ (j : Int) := by omega
      have HQ0 := Lib.hid hgb
      clear hjj HT hgb hlt
      rename World => wq
      go_wp2
      go_loopw [6] (fun i wy => ∃ (m : Nat) (z : Int) (ws : Nat → Value), m ≤ 6 ∧ i = .int .i64 z ∧ z + 1 = m ∧ Hid (ArrG wy (w.heap.size + 1) W3.heap.size ws (gS l m (2 ^ m))) ∧ W3.grownBy wy (some (w.heap.size + 1))) (fun i _ => (intOf i + 1).toNat)
      case atStart => exact ⟨6, 5, ws, Nat.le_refl _, rfl, rfl, HTX, HQ0.out⟩
      case round =>
        obtain ⟨m, z, ws, hm6, rfl, hz, HT, hgb⟩ := hrel
        rcases Nat.eq_zero_or_pos m with hm0 | hmp
        · subst hm0
          have hz0 : z = -1 := by omega
          subst hz0
          have HRS := Lib.hid (HLV.out.res hgb)
          have HT0 : Hid (ArrG wr (w.heap.size + 1) W3.heap.size ws (gS l 0 1)) := HT
          obtain ⟨cs2, hblk, hcs, hcv⟩ := ArrS.blk HT0.out
          have HI2 := Lib.hid (show (Try.prog.info? 44).map (·.size) = some cs2.size by rw [hcs]; kernel_rfl)
          have HF := Lib.hid hblk
          have HO1 := Lib.hid (show cs2.all (·.oneCell') = true from one_ags hcs hcv (ArrS.own HT0.out))
          have HTH := Lib.hid (blk_there (cs := cs2) HRS.out (by rw [hcs]; rfl))
          have HST := Lib.hid (blk_store (cs := cs2) HRS.out (by rw [hcs]; rfl))
          have HBF := Lib.hid (below_setCells (B := w.heap.size) (b := w.heap.size) (Nat.le_refl _) cs2.toList 0 wr (HLV.out.below hgb))
          have HFIN : Hid (LevelsR l w (.returned (.agg cs2)) (wr.setCells w.heap.size 0 cs2.toList)) := Lib.hid (by
            refine ⟨cs2, rfl, ⟨hcs, ws, hcv, fun j hj => ?_⟩, HBF.out⟩
            have ho := ArrS.own HT0.out j hj
            rw [gS_full l hj, show (levL l j).length = levN j from levK_len _ _ _] at ho
            exact own_mono (own_setCells w.heap.size (by omega) cs2.toList 0 wr ho) (by omega))
          clear hblk hcs hcv hgb HT HT0 HRS
          go_wp2_with (first
            | (refine wpList_load_row (by rfl) 44 (.tmp 3) (by rfl) (w.heap.size + 1) (by rfl) 44 cs2 (0, 0) _ HF.out Try.underlying44 rfl HI2.out ?_)
            | (refine wpList_store_mid (by rfl) 44 (.tmp 2) (.tmp 61) (by rfl) w.heap.size 0 cs2 (by rfl) (by rfl) HTH.out HI2.out HO1.out ?_))
          refine bodyPost_ret (results_cell_row rfl _ _ w.heap.size _ cs2 (0, 0) _ rfl HST.out Try.underlying44 rfl HI2.out) rfl ?_
          exact HFIN.out
        obtain ⟨p, rfl⟩ : ∃ p, m = p + 1 := ⟨m - 1, by omega⟩
        obtain rfl : z = (p : Int) := by omega
        have hp6 : p < 6 := by omega
        obtain ⟨q, hq, hq2, hq1, hq32⟩ := two_pow p hp6
        obtain ⟨q2, hqq⟩ : ∃ q2, q2 = 2 * q := ⟨_, rfl⟩
        rw [← hqq] at hq2
        have HQQ := Lib.hid hqq
        have hown := ArrS.own HT.out (p + 1) (by omega)
        have hlen : (gS l (p + 1) (2 ^ (p + 1)) (p + 1)).length = q2 := by rw [gS_at, levK_len, hq2]
        rw [hlen] at hown
        obtain ⟨Am, cm, hvm⟩ := own_form hown
        have HT0 := Lib.hid HT.out
        rw [gS_next l p hp6] at HT0
        have HV := Lib.hid hvm
        have HQB := Lib.hid hgb
        have hi1 : (0 : Int) ≤ (p : Int) + 1 := by omega
        have hi2 : (p : Int) + 1 < 7 := by omega
        have hpz : (0 : Int) ≤ (p : Int) := by omega
        have HQ := Lib.hid hq; have HQ2 := Lib.hid hq2
        clear hown hlen hvm HT hz hgb hq hq2 hqq
        rename World => wv
        go_wp2
        go_loopw [7] (fun i wy => ∃ (h e : Nat) (us : Nat → Value), h ≤ q ∧ i = .int .i64 (e : Int) ∧ Hid (e = 2 * h) ∧ us (p + 1) = .slice Am q2 cm ∧ Hid (ArrG wy (w.heap.size + 1) W3.heap.size us (gS l p h)) ∧ W3.grownBy wy (some (w.heap.size + 1))) (fun i _ => q2 - (intOf i).toNat)
        case atStart => exact ⟨0, 0, ws, Nat.zero_le _, rfl, Lib.hid rfl, HV.out, HT0, HQB.out⟩
        case round =>
          obtain ⟨h, e, us, hh, rfl, HE, hum, HT, hgb⟩ := hrel
          have hown := ArrS.own HT.out (p + 1) (by omega)
          rw [gS_above l h (Nat.lt_succ_self p) (by omega), hum] at hown
          have hcp : wr.cell? ⟨w.heap.size + 1, p + 1, none⟩ = some (.slice Am q2 cm) := by rw [← hum]; exact ArrS.cell HT.out (by omega)
          by_cases hlt : h < q
          · have hrd : Rd wr Am ((levL l (p + 1)).map Value.string) := by
              have : (levL l (p + 1)).length = q2 := by unfold levL; rw [levK_len, HQ2.out]
              rw [this] at hown
              exact Rd.of_own hown
            have hl1 : (List.map Value.string (levL l (p + 1)))[e]? = some (.string (nodeL l (6 - (p + 1)) e)) := by rw [List.getElem?_map]; unfold levL; rw [levK_at l (p + 1) (by rw [HQ2.out, HQQ.out]; have := HE.out; omega)]; rfl
            have hl2 : (List.map Value.string (levL l (p + 1)))[e + 1]? = some (.string (nodeL l (6 - (p + 1)) (e + 1))) := by rw [List.getElem?_map]; unfold levL; rw [levK_at l (p + 1) (by rw [HQ2.out, HQQ.out]; have := HE.out; omega)]; rfl
            obtain ⟨b, off, rfl, hc1⟩ := hrd e _ hl1
            have hc2 := rd_cell hrd hl2
            have HKC : Hid (∀ W : World, W.ownsRow W3.heap.size 9 1 (us (p + 1)) (gS l p h (p + 1)).length ((gS l p h (p + 1)).map Value.string) → W.cell? ⟨b, off + e, none⟩ = some (.string (nodeL l (6 - (p + 1)) e)) ∧ W.cell? ⟨b, off + (e + 1), none⟩ = some (.string (nodeL l (6 - (p + 1)) (e + 1)))) := Lib.hid (fun W hW => by
              rw [gS_above l h (Nat.lt_succ_self p) (by omega), hum] at hW
              have e1 : (levL l (p + 1)).length = q2 := by unfold levL; rw [levK_len, HQ2.out]
              rw [e1] at hW
              have hW2 := Rd.of_own hW
              exact ⟨rd_cell hW2 hl1, rd_cell hW2 hl2⟩)
            have HG := Lib.hid (gS_succ l p h)
            rw [show 6 - p = 6 - (p + 1) + 1 by omega, nodeL_succ, ← HE.out] at HG
            have hz1 := nodeL_size l (6 - (p + 1)) e; have hz2 := nodeL_size l (6 - (p + 1)) (e + 1)
            generalize nodeL l (6 - (p + 1)) e = s at hz1 hc1 HG HKC
            generalize nodeL l (6 - (p + 1)) (e + 1) = t at hz2 hc2 HG HKC
            have HX := Lib.hid (fun (g : Nat) W (hrd : Rd W (some ⟨g, 0, none⟩) [.string s, .string t]) => shaRef (some ⟨g, 0, none⟩) 2 2 [s, t] W hrd rfl (by simp [sumSize]; omega))
            generalize hashT [s, t] = st at HX HG
            have HLN : Hid ((gS l p h p).length ≤ 64) := Lib.hid (by rw [gS_at, levK_len]; omega)
            have hc1 : wr.drew.cell? ⟨b, off + e, none⟩ = some (.string s) := hc1
            have hc2 : wr.drew.cell? ⟨b, off + (e + 1), none⟩ = some (.string t) := hc2
            have hb : Below wr.heap.size wr wr.drew := (Below.refl _ _).drew
            have hv : wr.drew.cell? ⟨w.heap.size + 1, p, none⟩ = some (us p) := ArrS.cell HT.out (by omega)
            have HGB := Lib.hid hgb
            have hh1 : (e : Int) < (q2 : Int) := by have := HE.out; have := HQQ.out; omega
            have hh2 : (e : Int) + 1 < (q2 : Int) := by have := HE.out; have := HQQ.out; omega
            have hpz7 : (p : Int) < 7 := by omega
            have hem : e < 64 := by have := HE.out; omega
            have hez : (0 : Int) ≤ (e : Int) + 1 := by omega
            have hwr : IntKind.i64.wrap ((e : Int) + 1) = (e : Int) + 1 := IntWalk.i64_in _ (by omega)
            have htn : ((e : Int) + 1).toNat = e + 1 := by omega
            have hwp : IntKind.i64.wrap ((p : Int) + 1) = (p : Int) + 1 := IntWalk.i64_in _ (by omega)
            have htp : ((p : Int) + 1).toNat = p + 1 := by omega
            have HUM := Lib.hid hum
            clear hown hrd hl1 hl2 hz1 hz2 hum hgb
            go_wp2_with fail
            have hcp : wr.drew.cell? ⟨w.heap.size + 1, p + 1, none⟩ = some (.slice (some ⟨b, off, none⟩) q2 cm) := hcp
            refine wp_region_held_drew (S := (fun W => W.cell? ⟨b, off + e, none⟩ = some (.string s) ∧ W.cell? ⟨b, off + (e + 1), none⟩ = some (.string t) ∧ W.cell? ⟨w.heap.size + 1, p + 1, none⟩ = some (.slice (some ⟨b, off, none⟩) q2 cm))) (by kernel_rfl) ⟨hc1, hc2, hcp⟩ (fun hHeld => ?_)
            refine wpAnyH_take (i := 0) (oi := _) (v := ?vq8) rfl (by kernel_rfl) (by kernel_rfl) (by kernel_rfl) (fun _ _ _ h => h) (Or.inl ⟨by rfl, ?hq8⟩) (by assumption) ?rq8
            case hq8 => (intro w hSw; go_simp; try with_reducible rfl)
            try dsimp only [Act.put, List.getElem_toArray, List.getElem_cons_zero, List.getElem_cons_succ]; try simp only [List.setIfInBounds_toArray, List.set_cons_zero, List.set_cons_succ]
            refine wpAnyH_take (i := 1) (oi := _) (v := ?vq9) rfl (by kernel_rfl) (by kernel_rfl) (by kernel_rfl) (fun _ _ _ h => h) (Or.inl ⟨by rfl, ?hq9⟩) (by assumption) ?rq9
            case hq9 => (intro w hSw; go_simp; try with_reducible rfl)
            try dsimp only [Act.put, List.getElem_toArray, List.getElem_cons_zero, List.getElem_cons_succ]; try simp only [List.setIfInBounds_toArray, List.set_cons_zero, List.set_cons_succ]
            refine wpAnyH_take (i := 2) (oi := _) (v := ?vq10) rfl (by kernel_rfl) (by kernel_rfl) (by kernel_rfl) (fun _ _ _ h => h) (Or.inl ⟨by rfl, ?hq10⟩) (by assumption) ?rq10
            case hq10 => (intro w hSw; go_simp; try with_reducible rfl)
            try dsimp only [Act.put, List.getElem_toArray, List.getElem_cons_zero, List.getElem_cons_succ]; try simp only [List.setIfInBounds_toArray, List.set_cons_zero, List.set_cons_succ]
            refine wpAnyH_take (i := 4) (oi := _) (v := ?vq11) rfl (by kernel_rfl) (by kernel_rfl) (by kernel_rfl) (fun _ _ _ h => h) (Or.inl ⟨by rfl, ?hq11⟩) (by assumption) ?rq11
            case hq11 => (intro w hSw; go_simp; try with_reducible rfl)
            try dsimp only [Act.put, List.getElem_toArray, List.getElem_cons_zero, List.getElem_cons_succ]; try simp only [List.setIfInBounds_toArray, List.set_cons_zero, List.set_cons_succ]
            refine wpAnyH_take (i := 5) (oi := _) (v := ?vq12) rfl (by kernel_rfl) (by kernel_rfl) (by kernel_rfl) (fun _ _ _ h => h) (Or.inl ⟨by rfl, ?hq12⟩) (by assumption) ?rq12
            case hq12 => (intro w hSw; go_simp; try with_reducible rfl)
            try dsimp only [Act.put, List.getElem_toArray, List.getElem_cons_zero, List.getElem_cons_succ]; try simp only [List.setIfInBounds_toArray, List.set_cons_zero, List.set_cons_succ]
            refine wpAnyH_take (i := 6) (oi := _) (v := ?vq13) rfl (by kernel_rfl) (by kernel_rfl) (by kernel_rfl) (fun _ _ _ h => h) (Or.inl ⟨by rfl, ?hq13⟩) (by assumption) ?rq13
            case hq13 => (intro w hSw; go_simp; try with_reducible rfl)
            try dsimp only [Act.put, List.getElem_toArray, List.getElem_cons_zero, List.getElem_cons_succ]; try simp only [List.setIfInBounds_toArray, List.set_cons_zero, List.set_cons_succ]
            refine wpAnyH_take (i := 7) (oi := _) (v := ?vq14) rfl (by kernel_rfl) (by kernel_rfl) (by kernel_rfl) (fun _ _ _ h => h) (Or.inl ⟨by rfl, ?hq14⟩) (by assumption) ?rq14
            case hq14 => (intro w hSw; go_simp; try with_reducible rfl)
            try dsimp only [Act.put, List.getElem_toArray, List.getElem_cons_zero, List.getElem_cons_succ]; try simp only [List.setIfInBounds_toArray, List.set_cons_zero, List.set_cons_succ]
            refine wpAnyH_take (i := 8) (oi := _) (v := ?vq15) rfl (by kernel_rfl) (by kernel_rfl) (by kernel_rfl) (fun _ _ _ h => h) (Or.inl ⟨by rfl, ?hq15⟩) (by assumption) ?rq15
            case hq15 => (intro w hSw; go_simp; try with_reducible rfl)
            try dsimp only [Act.put, List.getElem_toArray, List.getElem_cons_zero, List.getElem_cons_succ]; try simp only [List.setIfInBounds_toArray, List.set_cons_zero, List.set_cons_succ]
            refine wpAnyH_take (i := 9) (oi := _) (v := ?vq16) rfl (by kernel_rfl) (by kernel_rfl) (by kernel_rfl) (fun _ _ _ h => h) (Or.inl ⟨by rfl, ?hq16⟩) (by assumption) ?rq16
            case hq16 => (intro w hSw; go_simp; try with_reducible rfl)
            try dsimp only [Act.put, List.getElem_toArray, List.getElem_cons_zero, List.getElem_cons_succ]; try simp only [List.setIfInBounds_toArray, List.set_cons_zero, List.set_cons_succ]
            refine wpAnyH_take (i := 10) (oi := _) (v := ?vq17) rfl (by kernel_rfl) (by kernel_rfl) (by kernel_rfl) (fun _ _ _ h => h) (Or.inl ⟨by rfl, ?hq17⟩) (by assumption) ?rq17
            case hq17 => (intro w hSw; go_simp; try with_reducible rfl)
            try dsimp only [Act.put, List.getElem_toArray, List.getElem_cons_zero, List.getElem_cons_succ]; try simp only [List.setIfInBounds_toArray, List.set_cons_zero, List.set_cons_succ]
            refine wpAnyH_take (i := 11) (oi := _) (v := ?vq18) rfl (by kernel_rfl) (by kernel_rfl) (by kernel_rfl) (fun _ _ _ h => h) (Or.inl ⟨by rfl, ?hq18⟩) (by assumption) ?rq18
            case hq18 => (intro w hSw; go_simp; try with_reducible rfl)
            try dsimp only [Act.put, List.getElem_toArray, List.getElem_cons_zero, List.getElem_cons_succ]; try simp only [List.setIfInBounds_toArray, List.set_cons_zero, List.set_cons_succ]
            refine wpAnyH_take (i := 12) (oi := _) (v := ?vq19) rfl (by kernel_rfl) (by kernel_rfl) (by kernel_rfl) (fun _ _ _ h => h) (Or.inl ⟨by rfl, ?hq19⟩) (by assumption) ?rq19
            case hq19 => (intro w hSw; go_simp; try with_reducible rfl)
            try dsimp only [Act.put, List.getElem_toArray, List.getElem_cons_zero, List.getElem_cons_succ]; try simp only [List.setIfInBounds_toArray, List.set_cons_zero, List.set_cons_succ]
            refine wpAnyH_take (i := 13) (oi := _) (v := ?vq20) rfl (by kernel_rfl) (by kernel_rfl) (by kernel_rfl) (fun _ _ _ h => h) (Or.inl ⟨by rfl, ?hq20⟩) (by assumption) ?rq20
            case hq20 => (intro w hSw; go_simp; try with_reducible rfl)
            try dsimp only [Act.put, List.getElem_toArray, List.getElem_cons_zero, List.getElem_cons_succ]; try simp only [List.setIfInBounds_toArray, List.set_cons_zero, List.set_cons_succ]
            refine wpAnyH_take (i := 14) (oi := _) (v := ?vq21) rfl (by kernel_rfl) (by kernel_rfl) (by kernel_rfl) (fun _ _ _ h => h) (Or.inl ⟨by rfl, ?hq21⟩) (by assumption) ?rq21
            case hq21 => (intro w hSw; go_simp; try with_reducible rfl)
            try dsimp only [Act.put, List.getElem_toArray, List.getElem_cons_zero, List.getElem_cons_succ]; try simp only [List.setIfInBounds_toArray, List.set_cons_zero, List.set_cons_succ]
            refine wpAnyH_take (i := 15) (oi := _) (v := ?vq22) rfl (by kernel_rfl) (by kernel_rfl) (by kernel_rfl) (fun _ _ _ h => h) (Or.inl ⟨by rfl, ?hq22⟩) (by assumption) ?rq22
            case hq22 => (intro w hSw; go_simp; try with_reducible rfl)
            try dsimp only [Act.put, List.getElem_toArray, List.getElem_cons_zero, List.getElem_cons_succ]; try simp only [List.setIfInBounds_toArray, List.set_cons_zero, List.set_cons_succ]
            refine wpAnyH_take (i := 16) (oi := _) (v := ?vq23) rfl (by kernel_rfl) (by kernel_rfl) (by kernel_rfl) (fun _ _ _ h => h) (Or.inl ⟨by rfl, ?hq23⟩) (by assumption) ?rq23
            case hq23 => (intro w hSw; go_simp; try with_reducible rfl)
            try dsimp only [Act.put, List.getElem_toArray, List.getElem_cons_zero, List.getElem_cons_succ]; try simp only [List.setIfInBounds_toArray, List.set_cons_zero, List.set_cons_succ]
            refine wpAnyH_take (i := 17) (oi := _) (v := ?vq24) rfl (by kernel_rfl) (by kernel_rfl) (by kernel_rfl) (fun _ _ _ h => h) (Or.inl ⟨by rfl, ?hq24⟩) (by assumption) ?rq24
            case hq24 => (intro w hSw; go_simp; try with_reducible rfl)
            try dsimp only [Act.put, List.getElem_toArray, List.getElem_cons_zero, List.getElem_cons_succ]; try simp only [List.setIfInBounds_toArray, List.set_cons_zero, List.set_cons_succ]
            refine wpAnyH_take (i := 18) (oi := _) (v := ?vq25) rfl (by kernel_rfl) (by kernel_rfl) (by kernel_rfl) (fun _ _ _ h => h) (Or.inl ⟨by rfl, ?hq25⟩) (by assumption) ?rq25
            case hq25 => (intro w hSw; go_simp; try with_reducible rfl)
            try dsimp only [Act.put, List.getElem_toArray, List.getElem_cons_zero, List.getElem_cons_succ]; try simp only [List.setIfInBounds_toArray, List.set_cons_zero, List.set_cons_succ]
            refine wpAnyH_ready (rs := [3, 19]) (by kernel_rfl) (by simp) ?_
            refine AllReadyH.cons (o := _) rfl (fun K hK => ?_) ?_
            · rw [if_pos (by rfl)]
              go_simp
              refine hK.out _ _ ⟨hc1, hc2, hcp⟩ (fun hHeld => ?_)
              clear hK K
              try dsimp only [Act.put, List.getElem_toArray, List.getElem_cons_zero, List.getElem_cons_succ]; try simp only [List.setIfInBounds_toArray, List.set_cons_zero, List.set_cons_succ]
              refine wpAnyH_ready (rs := [19]) (by kernel_rfl) (by simp) ?_
              refine AllReadyH.cons (o := _) rfl (fun K hK => ?_) ?_
              · rw [if_pos (by rfl)]
                go_simp
                have hA := (Below.refl wr.drew.heap.size wr.drew).alloc (Nat.le_refl _) (.cells #[.string s, .string t] 9)
                have HRD := Lib.hid (Rd.new wr.drew #[.string s, .string t] 9)
                have hv : ((wr.alloc (.cells #[.string s, .string t] 9)).drew).cell? ⟨w.heap.size + 1, p, none⟩ = some (us p) := cell_below hA hv
                have hc1 : ((wr.alloc (.cells #[.string s, .string t] 9)).drew).cell? ⟨b, off + e, none⟩ = some (.string s) := cell_below hA hc1
                have hc2 : ((wr.alloc (.cells #[.string s, .string t] 9)).drew).cell? ⟨b, off + (e + 1), none⟩ = some (.string t) := cell_below hA hc2
                have hcp : ((wr.alloc (.cells #[.string s, .string t] 9)).drew).cell? ⟨w.heap.size + 1, p + 1, none⟩ = some (.slice (some ⟨b, off, none⟩) q2 cm) := cell_below hA hcp
                have hb : Below wr.heap.size wr ((wr.alloc (.cells #[.string s, .string t] 9)).drew) := then_ hb hA
                clear hA
                refine hK.out _ _ ⟨hc1, hc2, hcp⟩ (fun hHeld => ?_)
                clear hK K
                try dsimp only [Act.put, List.getElem_toArray, List.getElem_cons_zero, List.getElem_cons_succ]; try simp only [List.setIfInBounds_toArray, List.set_cons_zero, List.set_cons_succ]
                refine wpAnyH_ready (rs := [20]) (by kernel_rfl) (by simp) ?_
                refine AllReadyH.cons (o := _) rfl (fun K hK => ?_) ?_
                · rw [if_pos (by rfl)]
                  go_simp
                  refine (HX.out _ _ (by exact HRD.out)).mono ?_
                  rintro e9 wx ⟨rfl, hbx⟩
                  have hv := cell_below hbx hv
                  have hc1 := cell_below hbx hc1
                  have hc2 := cell_below hbx hc2
                  have hcp := cell_below hbx hcp
                  have hb := then_ hb hbx
                  clear hbx
                  go_wp2_with fail
                  refine hK.out _ _ ⟨hc1, hc2, hcp⟩ (fun hHeld => ?_)
                  clear hK K
                  try dsimp only [Act.put, List.getElem_toArray, List.getElem_cons_zero, List.getElem_cons_succ]; try simp only [List.setIfInBounds_toArray, List.set_cons_zero, List.set_cons_succ]
                  refine wpAnyH_ready (rs := [21]) (by kernel_rfl) (by simp) ?_
                  refine AllReadyH.cons (o := _) rfl (fun K hK => ?_) ?_
                  · rw [if_pos (by rfl)]
                    go_simp
                    have hA := (Below.refl wx.heap.size wx).alloc (Nat.le_refl _) (.cells #[.string st] 9)
                    have hv := cell_below hA hv
                    have hc1 := cell_below hA hc1
                    have hc2 := cell_below hA hc2
                    have hcp := cell_below hA hcp
                    have hb := then_ hb hA
                    clear hA
                    refine hK.out _ _ ⟨hc1, hc2, hcp⟩ (fun hHeld => ?_)
                    clear hK K
                    try dsimp only [Act.put, List.getElem_toArray, List.getElem_cons_zero, List.getElem_cons_succ]; try simp only [List.setIfInBounds_toArray, List.set_cons_zero, List.set_cons_succ]
                    refine wpAnyH_ready (rs := [22]) (by kernel_rfl) (by simp) ?_
                    refine AllReadyH.cons (o := _) rfl (fun K hK => ?_) ?_
                    · have HA := Lib.hid (HT.out.below hb)
                      refine step_app elStr (by rfl) (.tmp 40) (.tmp 58) (by rfl) W3.heap.size (us p) (gS l p h p).length ((gS l p h p).map Value.string) (by rfl) (by exact ArrS.own HA.out p (by omega)) (some ⟨wx.heap.size, 0, none⟩) 1 1 [.string st] (by rfl) rfl (Rd.new wx #[.string st] _) (by intro u hu; simp at hu; subst hu; rfl) (by have := HLN.out; unfold maxLen; omega) (by have := HLN.out; omega) (by have h8 := HGB.out.size; have h9 := hb.size; simp at h9 ⊢; omega) ?_
                      intro v2 w3 hown2 hbel2 hgrow2 hat2
                      obtain ⟨A2, c2, rfl⟩ := own_form hown2
                      have hbk := hgrow2.block (w.heap.size + 1) (ArrS.blt HA.out) (fun e => by have := ((ArrS.own HA.out p (by omega)).lt _ e.symm).1; omega)
                      have hv := (World.cell?_of_block (a := ⟨w.heap.size + 1, p, none⟩) hbk).trans hv
                      have hfr := (World.frozen?_of_block (a := ⟨w.heap.size + 1, p, none⟩) hbk).trans (ArrS.free HA.out p)
                      have HFIN := Lib.hid (ArrG.grow HA.out (k := p) (by omega) hown2 hgrow2 hat2)
                      have hg3 := only_thenB (only_then HGB.out hb) hbel2
                      have hgf := only_set hg3 p (.slice A2 ((gS l p h p).length + 1) c2)
                      have hck := HKC.out w3 ((ArrS.own HA.out (p + 1) (by omega)).kept hgrow2 (ArrS.apart HA.out (p + 1) p (by omega) (by omega) (by omega)))
                      have hc1 := hck.1
                      have hc2 := hck.2
                      have hcp := (World.cell?_of_block (a := ⟨w.heap.size + 1, p + 1, none⟩) hbk).trans hcp
                      clear hbk hown2 hbel2 hgrow2 hat2 hck
                      refine hK.out _ _ ⟨hc1, hc2, hcp⟩ (fun hHeld => ?_)
                      clear hK K
                      try dsimp only [Act.put, List.getElem_toArray, List.getElem_cons_zero, List.getElem_cons_succ]; try simp only [List.setIfInBounds_toArray, List.set_cons_zero, List.set_cons_succ]
                      refine wpAnyH_take (i := 23) (oi := _) (v := ?vq26) rfl (by kernel_rfl) (by kernel_rfl) (by kernel_rfl) (fun _ _ _ h => h) (Or.inl ⟨by rfl, ?hq26⟩) (by assumption) ?rq26
                      case hq26 => (intro w hSw; go_simp; try with_reducible rfl)
                      try dsimp only [Act.put, List.getElem_toArray, List.getElem_cons_zero, List.getElem_cons_succ]; try simp only [List.setIfInBounds_toArray, List.set_cons_zero, List.set_cons_succ]
                      refine wpAnyH_ready (rs := [24]) (by kernel_rfl) (by simp) ?_
                      refine AllReadyH.cons (o := _) rfl (fun K hK => ?_) ?_
                      · rw [if_pos (by rfl)]
                        go_simp
                        have hz := HKC.out _ (by have hf := ArrS.own HFIN.out (p + 1) (by omega); simp only [upd_ne _ _ (Nat.succ_ne_self p)] at hf; exact hf)
                        have hzp := ArrS.cell HFIN.out (j := p + 1) (by omega)
                        rw [upd_ne _ _ (Nat.succ_ne_self p), HUM.out] at hzp
                        refine hK.out _ _ ⟨hz.1, hz.2, hzp⟩ (fun hHeld => ?_)
                        clear hK K
                        try dsimp only [Act.put, List.getElem_toArray, List.getElem_cons_zero, List.getElem_cons_succ]; try simp only [List.setIfInBounds_toArray, List.set_cons_zero, List.set_cons_succ]
                        refine wpAnyH_done (by kernel_rfl) ?_ _
                        go_wp2
                        go_roundw
                        case rel => exact ⟨h + 1, e + 2, upd us p (.slice A2 ((gS l p h p).length + 1) c2), by omega, by go_num, Lib.hid (by have := HE.out; omega), by rw [upd_ne _ _ (Nat.succ_ne_self p)]; exact HUM.out, Lib.hid (by have := HFIN.out; rwa [HG.out] at this), hgf⟩
                        case measure => simp [intOf]; omega
                      exact AllReadyH.nil
                    exact AllReadyH.nil
                  exact AllReadyH.nil
                exact AllReadyH.nil
              exact AllReadyH.nil
            refine AllReadyH.cons (o := _) rfl (fun K hK => ?_) ?_
            · rw [if_pos (by rfl)]
              go_simp
              have hA := (Below.refl wr.drew.heap.size wr.drew).alloc (Nat.le_refl _) (.cells #[.string s, .string t] 9)
              have HRD := Lib.hid (Rd.new wr.drew #[.string s, .string t] 9)
              have hv : ((wr.alloc (.cells #[.string s, .string t] 9)).drew).cell? ⟨w.heap.size + 1, p, none⟩ = some (us p) := cell_below hA hv
              have hc1 : ((wr.alloc (.cells #[.string s, .string t] 9)).drew).cell? ⟨b, off + e, none⟩ = some (.string s) := cell_below hA hc1
              have hc2 : ((wr.alloc (.cells #[.string s, .string t] 9)).drew).cell? ⟨b, off + (e + 1), none⟩ = some (.string t) := cell_below hA hc2
              have hcp : ((wr.alloc (.cells #[.string s, .string t] 9)).drew).cell? ⟨w.heap.size + 1, p + 1, none⟩ = some (.slice (some ⟨b, off, none⟩) q2 cm) := cell_below hA hcp
              have hb : Below wr.heap.size wr ((wr.alloc (.cells #[.string s, .string t] 9)).drew) := then_ hb hA
              clear hA
              refine hK.out _ _ ⟨hc1, hc2, hcp⟩ (fun hHeld => ?_)
              clear hK K
              try dsimp only [Act.put, List.getElem_toArray, List.getElem_cons_zero, List.getElem_cons_succ]; try simp only [List.setIfInBounds_toArray, List.set_cons_zero, List.set_cons_succ]
              refine wpAnyH_ready (rs := [3, 20]) (by kernel_rfl) (by simp) ?_
              refine AllReadyH.cons (o := _) rfl (fun K hK => ?_) ?_
              · rw [if_pos (by rfl)]
                go_simp
                refine hK.out _ _ ⟨hc1, hc2, hcp⟩ (fun hHeld => ?_)
                clear hK K
                try dsimp only [Act.put, List.getElem_toArray, List.getElem_cons_zero, List.getElem_cons_succ]; try simp only [List.setIfInBounds_toArray, List.set_cons_zero, List.set_cons_succ]
                refine wpAnyH_ready (rs := [20]) (by kernel_rfl) (by simp) ?_
                refine AllReadyH.cons (o := _) rfl (fun K hK => ?_) ?_
                · rw [if_pos (by rfl)]
                  go_simp
                  refine (HX.out _ _ (by exact HRD.out)).mono ?_
                  rintro e9 wx ⟨rfl, hbx⟩
                  have hv := cell_below hbx hv
                  have hc1 := cell_below hbx hc1
                  have hc2 := cell_below hbx hc2
                  have hcp := cell_below hbx hcp
                  have hb := then_ hb hbx
                  clear hbx
                  go_wp2_with fail
                  refine hK.out _ _ ⟨hc1, hc2, hcp⟩ (fun hHeld => ?_)
                  clear hK K
                  try dsimp only [Act.put, List.getElem_toArray, List.getElem_cons_zero, List.getElem_cons_succ]; try simp only [List.setIfInBounds_toArray, List.set_cons_zero, List.set_cons_succ]
                  refine wpAnyH_ready (rs := [21]) (by kernel_rfl) (by simp) ?_
                  refine AllReadyH.cons (o := _) rfl (fun K hK => ?_) ?_
                  · rw [if_pos (by rfl)]
                    go_simp
                    have hA := (Below.refl wx.heap.size wx).alloc (Nat.le_refl _) (.cells #[.string st] 9)
                    have hv := cell_below hA hv
                    have hc1 := cell_below hA hc1
                    have hc2 := cell_below hA hc2
                    have hcp := cell_below hA hcp
                    have hb := then_ hb hA
                    clear hA
                    refine hK.out _ _ ⟨hc1, hc2, hcp⟩ (fun hHeld => ?_)
                    clear hK K
                    try dsimp only [Act.put, List.getElem_toArray, List.getElem_cons_zero, List.getElem_cons_succ]; try simp only [List.setIfInBounds_toArray, List.set_cons_zero, List.set_cons_succ]
                    refine wpAnyH_ready (rs := [22]) (by kernel_rfl) (by simp) ?_
                    refine AllReadyH.cons (o := _) rfl (fun K hK => ?_) ?_
                    · have HA := Lib.hid (HT.out.below hb)
                      refine step_app elStr (by rfl) (.tmp 40) (.tmp 58) (by rfl) W3.heap.size (us p) (gS l p h p).length ((gS l p h p).map Value.string) (by rfl) (by exact ArrS.own HA.out p (by omega)) (some ⟨wx.heap.size, 0, none⟩) 1 1 [.string st] (by rfl) rfl (Rd.new wx #[.string st] _) (by intro u hu; simp at hu; subst hu; rfl) (by have := HLN.out; unfold maxLen; omega) (by have := HLN.out; omega) (by have h8 := HGB.out.size; have h9 := hb.size; simp at h9 ⊢; omega) ?_
                      intro v2 w3 hown2 hbel2 hgrow2 hat2
                      obtain ⟨A2, c2, rfl⟩ := own_form hown2
                      have hbk := hgrow2.block (w.heap.size + 1) (ArrS.blt HA.out) (fun e => by have := ((ArrS.own HA.out p (by omega)).lt _ e.symm).1; omega)
                      have hv := (World.cell?_of_block (a := ⟨w.heap.size + 1, p, none⟩) hbk).trans hv
                      have hfr := (World.frozen?_of_block (a := ⟨w.heap.size + 1, p, none⟩) hbk).trans (ArrS.free HA.out p)
                      have HFIN := Lib.hid (ArrG.grow HA.out (k := p) (by omega) hown2 hgrow2 hat2)
                      have hg3 := only_thenB (only_then HGB.out hb) hbel2
                      have hgf := only_set hg3 p (.slice A2 ((gS l p h p).length + 1) c2)
                      have hck := HKC.out w3 ((ArrS.own HA.out (p + 1) (by omega)).kept hgrow2 (ArrS.apart HA.out (p + 1) p (by omega) (by omega) (by omega)))
                      have hc1 := hck.1
                      have hc2 := hck.2
                      have hcp := (World.cell?_of_block (a := ⟨w.heap.size + 1, p + 1, none⟩) hbk).trans hcp
                      clear hbk hown2 hbel2 hgrow2 hat2 hck
                      refine hK.out _ _ ⟨hc1, hc2, hcp⟩ (fun hHeld => ?_)
                      clear hK K
                      try dsimp only [Act.put, List.getElem_toArray, List.getElem_cons_zero, List.getElem_cons_succ]; try simp only [List.setIfInBounds_toArray, List.set_cons_zero, List.set_cons_succ]
                      refine wpAnyH_take (i := 23) (oi := _) (v := ?vq27) rfl (by kernel_rfl) (by kernel_rfl) (by kernel_rfl) (fun _ _ _ h => h) (Or.inl ⟨by rfl, ?hq27⟩) (by assumption) ?rq27
                      case hq27 => (intro w hSw; go_simp; try with_reducible rfl)
                      try dsimp only [Act.put, List.getElem_toArray, List.getElem_cons_zero, List.getElem_cons_succ]; try simp only [List.setIfInBounds_toArray, List.set_cons_zero, List.set_cons_succ]
                      refine wpAnyH_ready (rs := [24]) (by kernel_rfl) (by simp) ?_
                      refine AllReadyH.cons (o := _) rfl (fun K hK => ?_) ?_
                      · rw [if_pos (by rfl)]
                        go_simp
                        have hz := HKC.out _ (by have hf := ArrS.own HFIN.out (p + 1) (by omega); simp only [upd_ne _ _ (Nat.succ_ne_self p)] at hf; exact hf)
                        have hzp := ArrS.cell HFIN.out (j := p + 1) (by omega)
                        rw [upd_ne _ _ (Nat.succ_ne_self p), HUM.out] at hzp
                        refine hK.out _ _ ⟨hz.1, hz.2, hzp⟩ (fun hHeld => ?_)
                        clear hK K
                        try dsimp only [Act.put, List.getElem_toArray, List.getElem_cons_zero, List.getElem_cons_succ]; try simp only [List.setIfInBounds_toArray, List.set_cons_zero, List.set_cons_succ]
                        refine wpAnyH_done (by kernel_rfl) ?_ _
                        go_wp2
                        go_roundw
                        case rel => exact ⟨h + 1, e + 2, upd us p (.slice A2 ((gS l p h p).length + 1) c2), by omega, by go_num, Lib.hid (by have := HE.out; omega), by rw [upd_ne _ _ (Nat.succ_ne_self p)]; exact HUM.out, Lib.hid (by have := HFIN.out; rwa [HG.out] at this), hgf⟩
                        case measure => simp [intOf]; omega
                      exact AllReadyH.nil
                    exact AllReadyH.nil
                  exact AllReadyH.nil
                exact AllReadyH.nil
              refine AllReadyH.cons (o := _) rfl (fun K hK => ?_) ?_
              · rw [if_pos (by rfl)]
                go_simp
                refine (HX.out _ _ (by exact HRD.out)).mono ?_
                rintro e9 wx ⟨rfl, hbx⟩
                have hv := cell_below hbx hv
                have hc1 := cell_below hbx hc1
                have hc2 := cell_below hbx hc2
                have hcp := cell_below hbx hcp
                have hb := then_ hb hbx
                clear hbx
                go_wp2_with fail
                refine hK.out _ _ ⟨hc1, hc2, hcp⟩ (fun hHeld => ?_)
                clear hK K
                try dsimp only [Act.put, List.getElem_toArray, List.getElem_cons_zero, List.getElem_cons_succ]; try simp only [List.setIfInBounds_toArray, List.set_cons_zero, List.set_cons_succ]
                refine wpAnyH_ready (rs := [3, 21]) (by kernel_rfl) (by simp) ?_
                refine AllReadyH.cons (o := _) rfl (fun K hK => ?_) ?_
                · rw [if_pos (by rfl)]
                  go_simp
                  refine hK.out _ _ ⟨hc1, hc2, hcp⟩ (fun hHeld => ?_)
                  clear hK K
                  try dsimp only [Act.put, List.getElem_toArray, List.getElem_cons_zero, List.getElem_cons_succ]; try simp only [List.setIfInBounds_toArray, List.set_cons_zero, List.set_cons_succ]
                  refine wpAnyH_ready (rs := [21]) (by kernel_rfl) (by simp) ?_
                  refine AllReadyH.cons (o := _) rfl (fun K hK => ?_) ?_
                  · rw [if_pos (by rfl)]
                    go_simp
                    have hA := (Below.refl wx.heap.size wx).alloc (Nat.le_refl _) (.cells #[.string st] 9)
                    have hv := cell_below hA hv
                    have hc1 := cell_below hA hc1
                    have hc2 := cell_below hA hc2
                    have hcp := cell_below hA hcp
                    have hb := then_ hb hA
                    clear hA
                    refine hK.out _ _ ⟨hc1, hc2, hcp⟩ (fun hHeld => ?_)
                    clear hK K
                    try dsimp only [Act.put, List.getElem_toArray, List.getElem_cons_zero, List.getElem_cons_succ]; try simp only [List.setIfInBounds_toArray, List.set_cons_zero, List.set_cons_succ]
                    refine wpAnyH_ready (rs := [22]) (by kernel_rfl) (by simp) ?_
                    refine AllReadyH.cons (o := _) rfl (fun K hK => ?_) ?_
                    · have HA := Lib.hid (HT.out.below hb)
                      refine step_app elStr (by rfl) (.tmp 40) (.tmp 58) (by rfl) W3.heap.size (us p) (gS l p h p).length ((gS l p h p).map Value.string) (by rfl) (by exact ArrS.own HA.out p (by omega)) (some ⟨wx.heap.size, 0, none⟩) 1 1 [.string st] (by rfl) rfl (Rd.new wx #[.string st] _) (by intro u hu; simp at hu; subst hu; rfl) (by have := HLN.out; unfold maxLen; omega) (by have := HLN.out; omega) (by have h8 := HGB.out.size; have h9 := hb.size; simp at h9 ⊢; omega) ?_
                      intro v2 w3 hown2 hbel2 hgrow2 hat2
                      obtain ⟨A2, c2, rfl⟩ := own_form hown2
                      have hbk := hgrow2.block (w.heap.size + 1) (ArrS.blt HA.out) (fun e => by have := ((ArrS.own HA.out p (by omega)).lt _ e.symm).1; omega)
                      have hv := (World.cell?_of_block (a := ⟨w.heap.size + 1, p, none⟩) hbk).trans hv
                      have hfr := (World.frozen?_of_block (a := ⟨w.heap.size + 1, p, none⟩) hbk).trans (ArrS.free HA.out p)
                      have HFIN := Lib.hid (ArrG.grow HA.out (k := p) (by omega) hown2 hgrow2 hat2)
                      have hg3 := only_thenB (only_then HGB.out hb) hbel2
                      have hgf := only_set hg3 p (.slice A2 ((gS l p h p).length + 1) c2)
                      have hck := HKC.out w3 ((ArrS.own HA.out (p + 1) (by omega)).kept hgrow2 (ArrS.apart HA.out (p + 1) p (by omega) (by omega) (by omega)))
                      have hc1 := hck.1
                      have hc2 := hck.2
                      have hcp := (World.cell?_of_block (a := ⟨w.heap.size + 1, p + 1, none⟩) hbk).trans hcp
                      clear hbk hown2 hbel2 hgrow2 hat2 hck
                      refine hK.out _ _ ⟨hc1, hc2, hcp⟩ (fun hHeld => ?_)
                      clear hK K
                      try dsimp only [Act.put, List.getElem_toArray, List.getElem_cons_zero, List.getElem_cons_succ]; try simp only [List.setIfInBounds_toArray, List.set_cons_zero, List.set_cons_succ]
                      refine wpAnyH_take (i := 23) (oi := _) (v := ?vq28) rfl (by kernel_rfl) (by kernel_rfl) (by kernel_rfl) (fun _ _ _ h => h) (Or.inl ⟨by rfl, ?hq28⟩) (by assumption) ?rq28
                      case hq28 => (intro w hSw; go_simp; try with_reducible rfl)
                      try dsimp only [Act.put, List.getElem_toArray, List.getElem_cons_zero, List.getElem_cons_succ]; try simp only [List.setIfInBounds_toArray, List.set_cons_zero, List.set_cons_succ]
                      refine wpAnyH_ready (rs := [24]) (by kernel_rfl) (by simp) ?_
                      refine AllReadyH.cons (o := _) rfl (fun K hK => ?_) ?_
                      · rw [if_pos (by rfl)]
                        go_simp
                        have hz := HKC.out _ (by have hf := ArrS.own HFIN.out (p + 1) (by omega); simp only [upd_ne _ _ (Nat.succ_ne_self p)] at hf; exact hf)
                        have hzp := ArrS.cell HFIN.out (j := p + 1) (by omega)
                        rw [upd_ne _ _ (Nat.succ_ne_self p), HUM.out] at hzp
                        refine hK.out _ _ ⟨hz.1, hz.2, hzp⟩ (fun hHeld => ?_)
                        clear hK K
                        try dsimp only [Act.put, List.getElem_toArray, List.getElem_cons_zero, List.getElem_cons_succ]; try simp only [List.setIfInBounds_toArray, List.set_cons_zero, List.set_cons_succ]
                        refine wpAnyH_done (by kernel_rfl) ?_ _
                        go_wp2
                        go_roundw
                        case rel => exact ⟨h + 1, e + 2, upd us p (.slice A2 ((gS l p h p).length + 1) c2), by omega, by go_num, Lib.hid (by have := HE.out; omega), by rw [upd_ne _ _ (Nat.succ_ne_self p)]; exact HUM.out, Lib.hid (by have := HFIN.out; rwa [HG.out] at this), hgf⟩
                        case measure => simp [intOf]; omega
                      exact AllReadyH.nil
                    exact AllReadyH.nil
                  exact AllReadyH.nil
                refine AllReadyH.cons (o := _) rfl (fun K hK => ?_) ?_
                · rw [if_pos (by rfl)]
                  go_simp
                  have hA := (Below.refl wx.heap.size wx).alloc (Nat.le_refl _) (.cells #[.string st] 9)
                  have hv := cell_below hA hv
                  have hc1 := cell_below hA hc1
                  have hc2 := cell_below hA hc2
                  have hcp := cell_below hA hcp
                  have hb := then_ hb hA
                  clear hA
                  refine hK.out _ _ ⟨hc1, hc2, hcp⟩ (fun hHeld => ?_)
                  clear hK K
                  try dsimp only [Act.put, List.getElem_toArray, List.getElem_cons_zero, List.getElem_cons_succ]; try simp only [List.setIfInBounds_toArray, List.set_cons_zero, List.set_cons_succ]
                  refine wpAnyH_ready (rs := [3]) (by kernel_rfl) (by simp) ?_
                  refine AllReadyH.cons (o := _) rfl (fun K hK => ?_) ?_
                  · rw [if_pos (by rfl)]
                    go_simp
                    refine hK.out _ _ ⟨hc1, hc2, hcp⟩ (fun hHeld => ?_)
                    clear hK K
                    try dsimp only [Act.put, List.getElem_toArray, List.getElem_cons_zero, List.getElem_cons_succ]; try simp only [List.setIfInBounds_toArray, List.set_cons_zero, List.set_cons_succ]
                    refine wpAnyH_ready (rs := [22]) (by kernel_rfl) (by simp) ?_
                    refine AllReadyH.cons (o := _) rfl (fun K hK => ?_) ?_
                    · have HA := Lib.hid (HT.out.below hb)
                      refine step_app elStr (by rfl) (.tmp 40) (.tmp 58) (by rfl) W3.heap.size (us p) (gS l p h p).length ((gS l p h p).map Value.string) (by rfl) (by exact ArrS.own HA.out p (by omega)) (some ⟨wx.heap.size, 0, none⟩) 1 1 [.string st] (by rfl) rfl (Rd.new wx #[.string st] _) (by intro u hu; simp at hu; subst hu; rfl) (by have := HLN.out; unfold maxLen; omega) (by have := HLN.out; omega) (by have h8 := HGB.out.size; have h9 := hb.size; simp at h9 ⊢; omega) ?_
                      intro v2 w3 hown2 hbel2 hgrow2 hat2
                      obtain ⟨A2, c2, rfl⟩ := own_form hown2
                      have hbk := hgrow2.block (w.heap.size + 1) (ArrS.blt HA.out) (fun e => by have := ((ArrS.own HA.out p (by omega)).lt _ e.symm).1; omega)
                      have hv := (World.cell?_of_block (a := ⟨w.heap.size + 1, p, none⟩) hbk).trans hv
                      have hfr := (World.frozen?_of_block (a := ⟨w.heap.size + 1, p, none⟩) hbk).trans (ArrS.free HA.out p)
                      have HFIN := Lib.hid (ArrG.grow HA.out (k := p) (by omega) hown2 hgrow2 hat2)
                      have hg3 := only_thenB (only_then HGB.out hb) hbel2
                      have hgf := only_set hg3 p (.slice A2 ((gS l p h p).length + 1) c2)
                      have hck := HKC.out w3 ((ArrS.own HA.out (p + 1) (by omega)).kept hgrow2 (ArrS.apart HA.out (p + 1) p (by omega) (by omega) (by omega)))
                      have hc1 := hck.1
                      have hc2 := hck.2
                      have hcp := (World.cell?_of_block (a := ⟨w.heap.size + 1, p + 1, none⟩) hbk).trans hcp
                      clear hbk hown2 hbel2 hgrow2 hat2 hck
                      refine hK.out _ _ ⟨hc1, hc2, hcp⟩ (fun hHeld => ?_)
                      clear hK K
                      try dsimp only [Act.put, List.getElem_toArray, List.getElem_cons_zero, List.getElem_cons_succ]; try simp only [List.setIfInBounds_toArray, List.set_cons_zero, List.set_cons_succ]
                      refine wpAnyH_take (i := 23) (oi := _) (v := ?vq29) rfl (by kernel_rfl) (by kernel_rfl) (by kernel_rfl) (fun _ _ _ h => h) (Or.inl ⟨by rfl, ?hq29⟩) (by assumption) ?rq29
                      case hq29 => (intro w hSw; go_simp; try with_reducible rfl)
                      try dsimp only [Act.put, List.getElem_toArray, List.getElem_cons_zero, List.getElem_cons_succ]; try simp only [List.setIfInBounds_toArray, List.set_cons_zero, List.set_cons_succ]
                      refine wpAnyH_ready (rs := [24]) (by kernel_rfl) (by simp) ?_
                      refine AllReadyH.cons (o := _) rfl (fun K hK => ?_) ?_
                      · rw [if_pos (by rfl)]
                        go_simp
                        have hz := HKC.out _ (by have hf := ArrS.own HFIN.out (p + 1) (by omega); simp only [upd_ne _ _ (Nat.succ_ne_self p)] at hf; exact hf)
                        have hzp := ArrS.cell HFIN.out (j := p + 1) (by omega)
                        rw [upd_ne _ _ (Nat.succ_ne_self p), HUM.out] at hzp
                        refine hK.out _ _ ⟨hz.1, hz.2, hzp⟩ (fun hHeld => ?_)
                        clear hK K
                        try dsimp only [Act.put, List.getElem_toArray, List.getElem_cons_zero, List.getElem_cons_succ]; try simp only [List.setIfInBounds_toArray, List.set_cons_zero, List.set_cons_succ]
                        refine wpAnyH_done (by kernel_rfl) ?_ _
                        go_wp2
                        go_roundw
                        case rel => exact ⟨h + 1, e + 2, upd us p (.slice A2 ((gS l p h p).length + 1) c2), by omega, by go_num, Lib.hid (by have := HE.out; omega), by rw [upd_ne _ _ (Nat.succ_ne_self p)]; exact HUM.out, Lib.hid (by have := HFIN.out; rwa [HG.out] at this), hgf⟩
                        case measure => simp [intOf]; omega
                      exact AllReadyH.nil
                    exact AllReadyH.nil
                  exact AllReadyH.nil
                exact AllReadyH.nil
              exact AllReadyH.nil
            exact AllReadyH.nil
          · obtain rfl : h = q := by omega
            have hee : ¬ (e : Int) + 1 < (q2 : Int) := by have := HE.out; have := HQQ.out; omega
            have HT2 : Hid (ArrG wr (w.heap.size + 1) W3.heap.size us (gS l p (2 ^ p))) := Lib.hid (by rw [HQ.out]; exact HT.out)
            have hem : e ≤ 64 := by have := HE.out; omega
            have HGB := Lib.hid hgb
            clear hown hum hgb
            go_wp2
            go_roundw
            case rel => exact ⟨p, (p : Int) - 1, us, by omega, rfl, by omega, HT2, HGB.out⟩
            case measure => simp [intOf] <;> omega
end Go.Proofs.Ytgmafnpkhmlnnaa
