/- What is summed of each bucket, by the document. -/
import Derived.Test.YtgmafnpkhmlnnaaTriI
attribute [local go_sem ↓] Go.wp_at_zero Go.wp_at_succ
namespace Go.Proofs.Ytgmafnpkhmlnnaa
open Go.RowKit Go.Mem Go.Num Go.Tri
set_option linter.unusedVariables false
set_option linter.unusedSimpArgs false

def texBN (l : List Leaf) (j : Nat) : Nat := (shareL l j).length
def texBV (l : List Leaf) (j : Nat) : List Value := (shareL l j).map Value.string
/-- an array of slices by value -/
def AgS (W : World) (base : Nat) (e : TypeId) (N : Nat) (cs : Array Value) (num : Nat → Nat) (f : Nat → List Value) : Prop :=
  cs.size = N ∧ ∃ vs : Nat → Value, (∀ j, j < N → cs[j]? = some (vs j)) ∧ ∀ j, j < N → W.ownsRow base e 1 (vs j) (num j) (f j)
theorem AgS.below {W W' : World} {base N : Nat} {e : TypeId} {cs : Array Value} {num : Nat → Nat} {f : Nat → List Value} (h : AgS W base e N cs num f) (hb : Below W.heap.size W W') : AgS W' base e N cs num f := by
  obtain ⟨h1, vs, h2, h3⟩ := h; exact ⟨h1, vs, h2, fun j hj => own_below (h3 j hj) hb⟩
def SharesR (l : List Leaf) (w : World) (e : Ending) (w' : World) : Prop := ∃ cs, e = .returned (.agg cs) ∧ AgS w' w.heap.size 9 64 cs (texBN l) (texBV l) ∧ Below w.heap.size w w'
theorem blk_store {W : World} {g : Nat} {t : TypeId} {Z cs : Array Value} (h : W.heap[g]? = some (.cells Z t (0, 0))) (hs : Z.size = cs.size) : (W.setCells g 0 cs.toList).heap[g]? = some (.cells cs t (0, 0)) := by
  have h1 : Blk W g t Z.toList := by unfold Blk; rw [Array.toArray_toList]; exact h
  have := h1.store cs.toList (by simp [hs])
  unfold Blk at this; rw [Array.toArray_toList] at this; exact this
theorem blk_there {W : World} {g : Nat} {t : TypeId} {Z cs : Array Value} (h : W.heap[g]? = some (.cells Z t (0, 0))) (hs : Z.size = cs.size) : W.there g 0 cs.size := by
  have h1 : Blk W g t Z.toList := by unfold Blk; rw [Array.toArray_toList]; exact h
  have := Blk.there' (vs := cs.toList) h1 (by simp [hs])
  rwa [Array.toArray_toList] at this
theorem own_setCells {base : Nat} {e : TypeId} {v : Value} {n : Nat} {xs : List Value} (g : Nat) (hg : g < base) : ∀ (us : List Value) (o : Nat) (W : World), W.ownsRow base e 1 v n xs → (W.setCells g o us).ownsRow base e 1 v n xs
  | [], _, _, h => h
  | u :: us, o, W, h => own_setCells g hg us (o + 1) _ (ownsRow_setCell_other (a := ⟨g, o, none⟩) h (fun e2 => by have h9 := (h.lt _ e2).1; change base ≤ g at h9; omega) u)
theorem one_ags {W : World} {base N : Nat} {e : TypeId} {cs : Array Value} {vs : Nat → Value} {num : Nat → Nat} {f : Nat → List Value} (hcs : cs.size = N) (hcv : ∀ j, j < N → cs[j]? = some (vs j)) (ho : ∀ j, j < N → W.ownsRow base e 1 (vs j) (num j) (f j)) : cs.all (·.oneCell') = true := by
  rw [Array.all_eq_true]
  intro j hj
  have h1 := hcv j (by omega)
  rw [Array.getElem?_eq_getElem hj] at h1
  obtain ⟨A', c', he⟩ := own_form (ho j (by omega))
  rw [he] at h1
  injection h1 with h1
  rw [h1]; rfl
set_option maxRecDepth 100000 in
set_option maxHeartbeats 8000000 in
theorem shares_any (A : Option Addr) (n c : Nat) (l : List Leaf) (w : World) (hr : Rd w A (leafc l)) (hn : l.length = n) (hm : n ≤ 1000) (hok : ∀ m ∈ l, smallL m) :
    Calls Try.prog 29 #[.slice A n c] w (SharesR l w) := by
  have HR := Lib.hid hr; have HN := Lib.hid hn; have HOK := Lib.hid hok
  clear hr hn hok
  have hAz : (w.alloc (.cells (Array.replicate 64 (.slice none 0 0)) 41)).heap.size = w.heap.size + 1 := by simp
  have HR0 := Lib.hid (ArrS.nil (w.alloc (.cells (Array.replicate 64 (.slice none 0 0)) 41)) 41 9 1 64)
  rw [hAz] at HR0
  have HB0 := Lib.hid ((Below.refl (w.heap.size + 1) (w.alloc (.cells (Array.replicate 64 (.slice none 0 0)) 41))).alloc (by simp) (.cells (Array.replicate 64 (.slice none 0 0)) 41))
  have HRB := Lib.hid (show (w.alloc (.cells (Array.replicate 64 (.slice none 0 0)) 41)).heap[w.heap.size]? = some (.cells (Array.replicate 64 (.slice none 0 0)) 41 (0, 0)) from heap_alloc_new w _)
  have HWA := Lib.hid ((Below.refl w.heap.size w).alloc (Nat.le_refl _) (.cells (Array.replicate 64 (.slice none 0 0)) 41))
  clear hAz
  go_enter Try.func29, Try.ntmps29
  go_wp2
  go_loopw [4] (fun i wr => ∃ (k : Nat) (vs : Nat → Value), k ≤ n ∧ i = .int .i64 k ∧ Hid (ArrS wr (w.heap.size + 1) (w.heap.size + 1 + 1) 41 9 1 64 vs (texBN (l.take k)) (texBV (l.take k))) ∧ Below (w.heap.size + 1) (w.alloc (.cells (Array.replicate 64 (.slice none 0 0)) 41)) wr) (fun i _ => n - (intOf i).toNat)
  case atStart => exact ⟨0, _, Nat.zero_le _, rfl, Lib.hid HR0.out, HB0.out⟩
  case round =>
    obtain ⟨k, vs, hk, rfl, HO, hbl⟩ := hrel
    have hbel : Below w.heap.size w wr := HWA.out.trans (hbl.mono (Nat.le_succ _))
    have HRS := Lib.hid ((hbl.block w.heap.size (Nat.lt_succ_self _)).trans HRB.out)
    by_cases hlt : k < n
    · have hx : k < l.length := by have := HN.out; omega
      obtain ⟨b, off, rfl, hrg⟩ := row_leaf.at_ HR.out k hx
      have hs := HOK.out l[k] (List.getElem_mem hx)
      generalize hsq : l[k] = s at hrg hs
      obtain ⟨sp, sd⟩ := s
      have W0 := Lib.hid (show w.cell? ⟨b, off + k * 2, none⟩ = some (.string sp) from rangeAt_cell hrg 0 rfl)
      have W1 := Lib.hid (show w.cell? ⟨b, off + k * 2 + 1, none⟩ = some (.string sd) from rangeAt_cell hrg 1 rfl)
      have c0 := cell_below hbel W0.out
      have HX := Lib.hid (fun W => rbucket_any sp W (by have := hs.1; simp only at this; omega))
      have hsl := bktOf_lt sp
      generalize hsg : bktOf sp = g at HX hsl
      have HSG := Lib.hid hsg
      have HG := Lib.hid (fun j => texP_succ (bktB j) hx)
      rw [hsq] at HG
      clear hs hsg hrg
      go_wp2_with fail
      refine (HX.out _).mono ?_
      rintro e w1 ⟨rfl, hb2⟩
      have HO1 := Lib.hid (HO.out.below hb2)
      have hv := HO1.out.cell hsl
      have hbw : Below (w.heap.size + 1) (w.alloc (.cells (Array.replicate 64 (.slice none 0 0)) 41)) w1 := hbl.trans (hb2.mono (by have := hbl.size; simp at this; exact this))
      have HWZ := Lib.hid (show w.heap.size + 1 ≤ w1.heap.size from Nat.le_trans (by simp) hbw.size)
      have HLN : Hid (texBN (l.take k) g ≤ 2000) := Lib.hid (by
        have h1 := texP_len (bktB g) (l.take k)
        have h2 : (l.take k).length ≤ 1000 := by rw [List.length_take]; omega
        unfold texBN shareL; omega)
      have HNX : Hid (∀ (nB : Nat → Nat) (fB : Nat → List Value), upd (texBN (l.take k)) g (texBN (l.take k) g + 1) = nB → upd (texBV (l.take k)) g (texBV (l.take k) g ++ [.string sp]) = fB → upd nB g (nB g + 1) = texBN (l.take (k + 1)) ∧ upd fB g (fB g ++ [.string sd]) = texBV (l.take (k + 1))) := Lib.hid (by
        rintro nB fB rfl rfl
        have key : ∀ j : Nat, shareL (l.take (k + 1)) j = if j = g then shareL (l.take k) j ++ [sp, sd] else shareL (l.take k) j := fun j => by
          unfold shareL
          rw [HG.out j]
          by_cases e : j = g
          · rw [if_pos e, if_pos (by unfold bktB; rw [HSG.out, e]; simp)]; rfl
          · rw [if_neg e, if_neg (by unfold bktB; rw [HSG.out]; simp; omega), List.append_nil]
        constructor
        · funext j
          unfold upd texBN
          rw [key j]
          by_cases e : j = g
          · subst e; simp
          · simp [e]
        · funext j
          unfold upd texBV
          rw [key j]
          by_cases e : j = g
          · subst e; simp
          · simp [e])
      generalize texBN (l.take k) = nA at HO1 HLN HNX
      generalize texBV (l.take k) = fA at HO1 HNX
      have HNXX := HNX
      clear c0 hb2 hbel HO HX HG HSG hbl HRS
      go_wp2_with fail
      have hbw : Below (w.heap.size + 1) (w.alloc (.cells (Array.replicate 64 (.slice none 0 0)) 41)) w1.drew := hbw.drew
      have hv : w1.drew.cell? ⟨w.heap.size + 1, g, none⟩ = some (vs g) := hv
      have HOd := Lib.hid (HO1.out.below (Below.refl _ _).drew)
      have hg64 : (g : Int) < 64 := by omega
      have hc0 : w1.drew.cell? ⟨b, off + k * 2, none⟩ = some (.string sp) := cell_below (HWA.out.trans (hbw.mono (Nat.le_succ _))) W0.out
      have hlen2 : nA g ≤ 2000 := HLN.out
      clear HO1
      refine wp_region_held_drew (S := (fun W => W.cell? ⟨b, off + k * 2, none⟩ = some (.string sp))) (by kernel_rfl) hc0 (fun hHeld => ?_)
      refine wpAnyH_take (i := 0) (oi := _) (v := ?vq1) rfl (by kernel_rfl) (by kernel_rfl) (by kernel_rfl) (fun _ _ _ h => h) (Or.inl ⟨by rfl, ?hq1⟩) (by assumption) ?rq1
      case hq1 => (intro w hSw; go_simp; try with_reducible rfl)
      try dsimp only [Act.put, List.getElem_toArray, List.getElem_cons_zero, List.getElem_cons_succ]; try simp only [List.setIfInBounds_toArray, List.set_cons_zero, List.set_cons_succ]
      refine wpAnyH_take (i := 1) (oi := _) (v := ?vq2) rfl (by kernel_rfl) (by kernel_rfl) (by kernel_rfl) (fun _ _ _ h => h) (Or.inl ⟨by rfl, ?hq2⟩) (by assumption) ?rq2
      case hq2 => (intro w hSw; go_simp; try with_reducible rfl)
      try dsimp only [Act.put, List.getElem_toArray, List.getElem_cons_zero, List.getElem_cons_succ]; try simp only [List.setIfInBounds_toArray, List.set_cons_zero, List.set_cons_succ]
      refine wpAnyH_take (i := 2) (oi := _) (v := ?vq3) rfl (by kernel_rfl) (by kernel_rfl) (by kernel_rfl) (fun _ _ _ h => h) (Or.inl ⟨by rfl, ?hq3⟩) (by assumption) ?rq3
      case hq3 => (intro w hSw; go_simp; try with_reducible rfl)
      try dsimp only [Act.put, List.getElem_toArray, List.getElem_cons_zero, List.getElem_cons_succ]; try simp only [List.setIfInBounds_toArray, List.set_cons_zero, List.set_cons_succ]
      refine wpAnyH_take (i := 4) (oi := _) (v := ?vq4) rfl (by kernel_rfl) (by kernel_rfl) (by kernel_rfl) (fun _ _ _ h => h) (Or.inl ⟨by rfl, ?hq4⟩) (by assumption) ?rq4
      case hq4 => (intro w hSw; go_simp; try with_reducible rfl)
      try dsimp only [Act.put, List.getElem_toArray, List.getElem_cons_zero, List.getElem_cons_succ]; try simp only [List.setIfInBounds_toArray, List.set_cons_zero, List.set_cons_succ]
      refine wpAnyH_take (i := 5) (oi := _) (v := ?vq5) rfl (by kernel_rfl) (by kernel_rfl) (by kernel_rfl) (fun _ _ _ h => h) (Or.inl ⟨by rfl, ?hq5⟩) (by assumption) ?rq5
      case hq5 => (intro w hSw; go_simp; try with_reducible rfl)
      try dsimp only [Act.put, List.getElem_toArray, List.getElem_cons_zero, List.getElem_cons_succ]; try simp only [List.setIfInBounds_toArray, List.set_cons_zero, List.set_cons_succ]
      refine wpAnyH_take (i := 6) (oi := _) (v := ?vq6) rfl (by kernel_rfl) (by kernel_rfl) (by kernel_rfl) (fun _ _ _ h => h) (Or.inl ⟨by rfl, ?hq6⟩) (by assumption) ?rq6
      case hq6 => (intro w hSw; go_simp; try with_reducible rfl)
      try dsimp only [Act.put, List.getElem_toArray, List.getElem_cons_zero, List.getElem_cons_succ]; try simp only [List.setIfInBounds_toArray, List.set_cons_zero, List.set_cons_succ]
      refine wpAnyH_take (i := 7) (oi := _) (v := ?vq7) rfl (by kernel_rfl) (by kernel_rfl) (by kernel_rfl) (fun _ _ _ h => h) (Or.inl ⟨by rfl, ?hq7⟩) (by assumption) ?rq7
      case hq7 => (intro w hSw; go_simp; try with_reducible rfl)
      try dsimp only [Act.put, List.getElem_toArray, List.getElem_cons_zero, List.getElem_cons_succ]; try simp only [List.setIfInBounds_toArray, List.set_cons_zero, List.set_cons_succ]
      refine wpAnyH_take (i := 8) (oi := _) (v := ?vq8) rfl (by kernel_rfl) (by kernel_rfl) (by kernel_rfl) (fun _ _ _ h => h) (Or.inl ⟨by rfl, ?hq8⟩) (by assumption) ?rq8
      case hq8 => (intro w hSw; go_simp; try with_reducible rfl)
      try dsimp only [Act.put, List.getElem_toArray, List.getElem_cons_zero, List.getElem_cons_succ]; try simp only [List.setIfInBounds_toArray, List.set_cons_zero, List.set_cons_succ]
      refine wpAnyH_ready (rs := [3, 9]) (by kernel_rfl) (by simp) ?_
      refine AllReadyH.cons (o := _) rfl (fun K hK => ?_) ?_
      · rw [if_pos (by rfl)]
        go_simp
        refine hK.out _ _ (cell_below (HWA.out.trans (hbw.mono (Nat.le_succ _))) W0.out) (fun hHeld => ?_)
        clear hK K
        try dsimp only [Act.put, List.getElem_toArray, List.getElem_cons_zero, List.getElem_cons_succ]; try simp only [List.setIfInBounds_toArray, List.set_cons_zero, List.set_cons_succ]
        refine wpAnyH_ready (rs := [9]) (by kernel_rfl) (by simp) ?_
        refine AllReadyH.cons (o := _) rfl (fun K hK => ?_) ?_
        · rw [if_pos (by rfl)]
          go_simp
          have hA := (Below.refl w1.drew.heap.size w1.drew).alloc (Nat.le_refl _) (.cells #[.string sp] 9)
          have hv : ((w1.alloc (.cells #[.string sp] 9)).drew).cell? ⟨w.heap.size + 1, g, none⟩ = some (vs g) := cell_below hA hv
          have hbw : Below (w.heap.size + 1) (w.alloc (.cells (Array.replicate 64 (.slice none 0 0)) 41)) ((w1.alloc (.cells #[.string sp] 9)).drew) := hbw.alloc (by have := hbw.size; simp at this; exact this) (.cells #[.string sp] 9)
          have HA := Lib.hid hA
          clear hA
          refine hK.out _ _ (cell_below (HWA.out.trans (hbw.mono (Nat.le_succ _))) W0.out) (fun hHeld => ?_)
          clear hK K
          try dsimp only [Act.put, List.getElem_toArray, List.getElem_cons_zero, List.getElem_cons_succ]; try simp only [List.setIfInBounds_toArray, List.set_cons_zero, List.set_cons_succ]
          refine wpAnyH_ready (rs := [10]) (by kernel_rfl) (by simp) ?_
          refine AllReadyH.cons (o := _) rfl (fun K hK => ?_) ?_
          · have HAR := Lib.hid (HOd.out.below HA.out)
            refine step_app elStr (by rfl) (.tmp 21) (.tmp 27) (by rfl) (w.heap.size + 1 + 1) (vs g) (nA g) (fA g) (by rfl) (HAR.out.own g hsl) (some ⟨w1.drew.heap.size, 0, none⟩) 1 1 [.string sp] (by rfl) rfl (Rd.new w1.drew #[.string sp] _) (by intro u hu; simp at hu; subst hu; rfl) (by unfold maxLen; omega) (by omega) (by have := HOd.out.blt; have e9 : w1.drew.heap.size = w1.heap.size := rfl; simp; omega) ?_
            intro v2 w3 hown2 hbel2 hgrow2 hat2
            obtain ⟨A2, c2, rfl⟩ := own_form hown2
            have hbk := hgrow2.block (w.heap.size + 1) HAR.out.blt (fun e => by have := ((HAR.out.own g hsl).lt _ e.symm).1; omega)
            have hv := (World.cell?_of_block (a := ⟨w.heap.size + 1, g, none⟩) hbk).trans hv
            have hfr := (World.frozen?_of_block (a := ⟨w.heap.size + 1, g, none⟩) hbk).trans (HAR.out.free g)
            have HFIN := Lib.hid (HAR.out.grow hsl hown2 hgrow2 hat2)
            have hbw := hbw.trans (hbel2.mono (Nat.le_succ _))
            clear hbk hown2 hbel2 hgrow2 hat2 HAR
            refine hK.out _ _ (cell_below (HWA.out.trans (hbw.mono (Nat.le_succ _))) W0.out) (fun hHeld => ?_)
            clear hK K
            try dsimp only [Act.put, List.getElem_toArray, List.getElem_cons_zero, List.getElem_cons_succ]; try simp only [List.setIfInBounds_toArray, List.set_cons_zero, List.set_cons_succ]
            refine wpAnyH_take (i := 11) (oi := _) (v := ?vq9) rfl (by kernel_rfl) (by kernel_rfl) (by kernel_rfl) (fun _ _ _ h => h) (Or.inl ⟨by rfl, ?hq9⟩) (by assumption) ?rq9
            case hq9 => (intro w hSw; go_simp; try with_reducible rfl)
            try dsimp only [Act.put, List.getElem_toArray, List.getElem_cons_zero, List.getElem_cons_succ]; try simp only [List.setIfInBounds_toArray, List.set_cons_zero, List.set_cons_succ]
            refine wpAnyH_ready (rs := [12]) (by kernel_rfl) (by simp) ?_
            refine AllReadyH.cons (o := _) rfl (fun K hK => ?_) ?_
            · rw [if_pos (by rfl)]
              go_simp
              have hbw := hbw.setCell (p := ⟨w.heap.size + 1, g, none⟩) (Nat.le_refl _) (.slice A2 (nA g + 1) c2)
              refine hK.out _ _ (cell_below (HWA.out.trans (hbw.mono (Nat.le_succ _))) W0.out) (fun hHeld => ?_)
              clear hK K
              try dsimp only [Act.put, List.getElem_toArray, List.getElem_cons_zero, List.getElem_cons_succ]; try simp only [List.setIfInBounds_toArray, List.set_cons_zero, List.set_cons_succ]
              refine wpAnyH_done (by kernel_rfl) ?_ _
              go_wp2_with fail
              generalize w3.setCell ⟨w.heap.size + 1, g, none⟩ (.slice A2 (nA g + 1) c2) = wB at HFIN hbw ⊢
              generalize hnB : upd nA g (nA g + 1) = nB at HFIN
              generalize hfB : upd fA g (fA g ++ [.string sp]) = fB at HFIN
              generalize upd vs g (.slice A2 (nA g + 1) c2) = vsB at HFIN
              have HNX2 := Lib.hid (HNX.out nB fB hnB hfB)
              have hlen3 : nB g ≤ 2001 := by rw [← hnB, upd_at]; omega
              clear hnB hfB hv hfr hc0
              have hbw : Below (w.heap.size + 1) (w.alloc (.cells (Array.replicate 64 (.slice none 0 0)) 41)) wB.drew := hbw.drew
              have HOB := Lib.hid (HFIN.out.below (Below.refl _ _).drew)
              clear HFIN
              have hv : wB.drew.cell? ⟨w.heap.size + 1, g, none⟩ = some (vsB g) := HOB.out.cell hsl
              have hc1 : wB.drew.cell? ⟨b, off + k * 2 + 1, none⟩ = some (.string sd) := cell_below (HWA.out.trans (hbw.mono (Nat.le_succ _))) W1.out
              refine wp_region_held_drew (S := (fun W => W.cell? ⟨b, off + k * 2 + 1, none⟩ = some (.string sd))) (by kernel_rfl) hc1 (fun hHeld => ?_)
              refine wpAnyH_take (i := 0) (oi := _) (v := ?vq10) rfl (by kernel_rfl) (by kernel_rfl) (by kernel_rfl) (fun _ _ _ h => h) (Or.inl ⟨by rfl, ?hq10⟩) (by assumption) ?rq10
              case hq10 => (intro w hSw; go_simp; try with_reducible rfl)
              try dsimp only [Act.put, List.getElem_toArray, List.getElem_cons_zero, List.getElem_cons_succ]; try simp only [List.setIfInBounds_toArray, List.set_cons_zero, List.set_cons_succ]
              refine wpAnyH_take (i := 1) (oi := _) (v := ?vq11) rfl (by kernel_rfl) (by kernel_rfl) (by kernel_rfl) (fun _ _ _ h => h) (Or.inl ⟨by rfl, ?hq11⟩) (by assumption) ?rq11
              case hq11 => (intro w hSw; go_simp; try with_reducible rfl)
              try dsimp only [Act.put, List.getElem_toArray, List.getElem_cons_zero, List.getElem_cons_succ]; try simp only [List.setIfInBounds_toArray, List.set_cons_zero, List.set_cons_succ]
              refine wpAnyH_take (i := 2) (oi := _) (v := ?vq12) rfl (by kernel_rfl) (by kernel_rfl) (by kernel_rfl) (fun _ _ _ h => h) (Or.inl ⟨by rfl, ?hq12⟩) (by assumption) ?rq12
              case hq12 => (intro w hSw; go_simp; try with_reducible rfl)
              try dsimp only [Act.put, List.getElem_toArray, List.getElem_cons_zero, List.getElem_cons_succ]; try simp only [List.setIfInBounds_toArray, List.set_cons_zero, List.set_cons_succ]
              refine wpAnyH_take (i := 4) (oi := _) (v := ?vq13) rfl (by kernel_rfl) (by kernel_rfl) (by kernel_rfl) (fun _ _ _ h => h) (Or.inl ⟨by rfl, ?hq13⟩) (by assumption) ?rq13
              case hq13 => (intro w hSw; go_simp; try with_reducible rfl)
              try dsimp only [Act.put, List.getElem_toArray, List.getElem_cons_zero, List.getElem_cons_succ]; try simp only [List.setIfInBounds_toArray, List.set_cons_zero, List.set_cons_succ]
              refine wpAnyH_take (i := 5) (oi := _) (v := ?vq14) rfl (by kernel_rfl) (by kernel_rfl) (by kernel_rfl) (fun _ _ _ h => h) (Or.inl ⟨by rfl, ?hq14⟩) (by assumption) ?rq14
              case hq14 => (intro w hSw; go_simp; try with_reducible rfl)
              try dsimp only [Act.put, List.getElem_toArray, List.getElem_cons_zero, List.getElem_cons_succ]; try simp only [List.setIfInBounds_toArray, List.set_cons_zero, List.set_cons_succ]
              refine wpAnyH_take (i := 6) (oi := _) (v := ?vq15) rfl (by kernel_rfl) (by kernel_rfl) (by kernel_rfl) (fun _ _ _ h => h) (Or.inl ⟨by rfl, ?hq15⟩) (by assumption) ?rq15
              case hq15 => (intro w hSw; go_simp; try with_reducible rfl)
              try dsimp only [Act.put, List.getElem_toArray, List.getElem_cons_zero, List.getElem_cons_succ]; try simp only [List.setIfInBounds_toArray, List.set_cons_zero, List.set_cons_succ]
              refine wpAnyH_take (i := 7) (oi := _) (v := ?vq16) rfl (by kernel_rfl) (by kernel_rfl) (by kernel_rfl) (fun _ _ _ h => h) (Or.inl ⟨by rfl, ?hq16⟩) (by assumption) ?rq16
              case hq16 => (intro w hSw; go_simp; try with_reducible rfl)
              try dsimp only [Act.put, List.getElem_toArray, List.getElem_cons_zero, List.getElem_cons_succ]; try simp only [List.setIfInBounds_toArray, List.set_cons_zero, List.set_cons_succ]
              refine wpAnyH_take (i := 8) (oi := _) (v := ?vq17) rfl (by kernel_rfl) (by kernel_rfl) (by kernel_rfl) (fun _ _ _ h => h) (Or.inl ⟨by rfl, ?hq17⟩) (by assumption) ?rq17
              case hq17 => (intro w hSw; go_simp; try with_reducible rfl)
              try dsimp only [Act.put, List.getElem_toArray, List.getElem_cons_zero, List.getElem_cons_succ]; try simp only [List.setIfInBounds_toArray, List.set_cons_zero, List.set_cons_succ]
              refine wpAnyH_ready (rs := [3, 9]) (by kernel_rfl) (by simp) ?_
              refine AllReadyH.cons (o := _) rfl (fun K hK => ?_) ?_
              · rw [if_pos (by rfl)]
                go_simp
                refine hK.out _ _ (cell_below (HWA.out.trans (hbw.mono (Nat.le_succ _))) W1.out) (fun hHeld => ?_)
                clear hK K
                try dsimp only [Act.put, List.getElem_toArray, List.getElem_cons_zero, List.getElem_cons_succ]; try simp only [List.setIfInBounds_toArray, List.set_cons_zero, List.set_cons_succ]
                refine wpAnyH_ready (rs := [9]) (by kernel_rfl) (by simp) ?_
                refine AllReadyH.cons (o := _) rfl (fun K hK => ?_) ?_
                · rw [if_pos (by rfl)]
                  go_simp
                  have hA := (Below.refl wB.drew.heap.size wB.drew).alloc (Nat.le_refl _) (.cells #[.string sd] 9)
                  have hv : ((wB.alloc (.cells #[.string sd] 9)).drew).cell? ⟨w.heap.size + 1, g, none⟩ = some (vsB g) := cell_below hA hv
                  have hbw : Below (w.heap.size + 1) (w.alloc (.cells (Array.replicate 64 (.slice none 0 0)) 41)) ((wB.alloc (.cells #[.string sd] 9)).drew) := hbw.alloc (by have := hbw.size; simp at this; exact this) (.cells #[.string sd] 9)
                  have HA := Lib.hid hA
                  clear hA
                  refine hK.out _ _ (cell_below (HWA.out.trans (hbw.mono (Nat.le_succ _))) W1.out) (fun hHeld => ?_)
                  clear hK K
                  try dsimp only [Act.put, List.getElem_toArray, List.getElem_cons_zero, List.getElem_cons_succ]; try simp only [List.setIfInBounds_toArray, List.set_cons_zero, List.set_cons_succ]
                  refine wpAnyH_ready (rs := [10]) (by kernel_rfl) (by simp) ?_
                  refine AllReadyH.cons (o := _) rfl (fun K hK => ?_) ?_
                  · have HAR := Lib.hid (HOB.out.below HA.out)
                    refine step_app elStr (by rfl) (.tmp 33) (.tmp 39) (by rfl) (w.heap.size + 1 + 1) (vsB g) (nB g) (fB g) (by rfl) (HAR.out.own g hsl) (some ⟨wB.drew.heap.size, 0, none⟩) 1 1 [.string sd] (by rfl) rfl (Rd.new wB.drew #[.string sd] _) (by intro u hu; simp at hu; subst hu; rfl) (by unfold maxLen; omega) (by omega) (by have := HOB.out.blt; have e9 : wB.drew.heap.size = wB.heap.size := rfl; simp; omega) ?_
                    intro v2 w3 hown2 hbel2 hgrow2 hat2
                    obtain ⟨A2, c2, rfl⟩ := own_form hown2
                    have hbk := hgrow2.block (w.heap.size + 1) HAR.out.blt (fun e => by have := ((HAR.out.own g hsl).lt _ e.symm).1; omega)
                    have hv := (World.cell?_of_block (a := ⟨w.heap.size + 1, g, none⟩) hbk).trans hv
                    have hfr := (World.frozen?_of_block (a := ⟨w.heap.size + 1, g, none⟩) hbk).trans (HAR.out.free g)
                    have HFIN := Lib.hid (HAR.out.grow hsl hown2 hgrow2 hat2)
                    have hbw := hbw.trans (hbel2.mono (Nat.le_succ _))
                    clear hbk hown2 hbel2 hgrow2 hat2 HAR
                    refine hK.out _ _ (cell_below (HWA.out.trans (hbw.mono (Nat.le_succ _))) W1.out) (fun hHeld => ?_)
                    clear hK K
                    try dsimp only [Act.put, List.getElem_toArray, List.getElem_cons_zero, List.getElem_cons_succ]; try simp only [List.setIfInBounds_toArray, List.set_cons_zero, List.set_cons_succ]
                    refine wpAnyH_take (i := 11) (oi := _) (v := ?vq18) rfl (by kernel_rfl) (by kernel_rfl) (by kernel_rfl) (fun _ _ _ h => h) (Or.inl ⟨by rfl, ?hq18⟩) (by assumption) ?rq18
                    case hq18 => (intro w hSw; go_simp; try with_reducible rfl)
                    try dsimp only [Act.put, List.getElem_toArray, List.getElem_cons_zero, List.getElem_cons_succ]; try simp only [List.setIfInBounds_toArray, List.set_cons_zero, List.set_cons_succ]
                    refine wpAnyH_ready (rs := [12]) (by kernel_rfl) (by simp) ?_
                    refine AllReadyH.cons (o := _) rfl (fun K hK => ?_) ?_
                    · rw [if_pos (by rfl)]
                      go_simp
                      have hbw := hbw.setCell (p := ⟨w.heap.size + 1, g, none⟩) (Nat.le_refl _) (.slice A2 (nB g + 1) c2)
                      refine hK.out _ _ (cell_below (HWA.out.trans (hbw.mono (Nat.le_succ _))) W1.out) (fun hHeld => ?_)
                      clear hK K
                      try dsimp only [Act.put, List.getElem_toArray, List.getElem_cons_zero, List.getElem_cons_succ]; try simp only [List.setIfInBounds_toArray, List.set_cons_zero, List.set_cons_succ]
                      refine wpAnyH_done (by kernel_rfl) ?_ _
                      go_wp2
                      go_roundw
                      case rel => exact ⟨k + 1, _, by omega, by go_num, Lib.hid (by have := HFIN.out; rwa [(HNX2.out).1, (HNX2.out).2] at this), hbw⟩
                      case measure => simp [intOf]; omega
                    exact AllReadyH.nil
                  exact AllReadyH.nil
                exact AllReadyH.nil
              refine AllReadyH.cons (o := _) rfl (fun K hK => ?_) ?_
              · rw [if_pos (by rfl)]
                go_simp
                have hA := (Below.refl wB.drew.heap.size wB.drew).alloc (Nat.le_refl _) (.cells #[.string sd] 9)
                have hv : ((wB.alloc (.cells #[.string sd] 9)).drew).cell? ⟨w.heap.size + 1, g, none⟩ = some (vsB g) := cell_below hA hv
                have hbw : Below (w.heap.size + 1) (w.alloc (.cells (Array.replicate 64 (.slice none 0 0)) 41)) ((wB.alloc (.cells #[.string sd] 9)).drew) := hbw.alloc (by have := hbw.size; simp at this; exact this) (.cells #[.string sd] 9)
                have HA := Lib.hid hA
                clear hA
                refine hK.out _ _ (cell_below (HWA.out.trans (hbw.mono (Nat.le_succ _))) W1.out) (fun hHeld => ?_)
                clear hK K
                try dsimp only [Act.put, List.getElem_toArray, List.getElem_cons_zero, List.getElem_cons_succ]; try simp only [List.setIfInBounds_toArray, List.set_cons_zero, List.set_cons_succ]
                refine wpAnyH_ready (rs := [3]) (by kernel_rfl) (by simp) ?_
                refine AllReadyH.cons (o := _) rfl (fun K hK => ?_) ?_
                · rw [if_pos (by rfl)]
                  go_simp
                  refine hK.out _ _ (cell_below (HWA.out.trans (hbw.mono (Nat.le_succ _))) W1.out) (fun hHeld => ?_)
                  clear hK K
                  try dsimp only [Act.put, List.getElem_toArray, List.getElem_cons_zero, List.getElem_cons_succ]; try simp only [List.setIfInBounds_toArray, List.set_cons_zero, List.set_cons_succ]
                  refine wpAnyH_ready (rs := [10]) (by kernel_rfl) (by simp) ?_
                  refine AllReadyH.cons (o := _) rfl (fun K hK => ?_) ?_
                  · have HAR := Lib.hid (HOB.out.below HA.out)
                    refine step_app elStr (by rfl) (.tmp 33) (.tmp 39) (by rfl) (w.heap.size + 1 + 1) (vsB g) (nB g) (fB g) (by rfl) (HAR.out.own g hsl) (some ⟨wB.drew.heap.size, 0, none⟩) 1 1 [.string sd] (by rfl) rfl (Rd.new wB.drew #[.string sd] _) (by intro u hu; simp at hu; subst hu; rfl) (by unfold maxLen; omega) (by omega) (by have := HOB.out.blt; have e9 : wB.drew.heap.size = wB.heap.size := rfl; simp; omega) ?_
                    intro v2 w3 hown2 hbel2 hgrow2 hat2
                    obtain ⟨A2, c2, rfl⟩ := own_form hown2
                    have hbk := hgrow2.block (w.heap.size + 1) HAR.out.blt (fun e => by have := ((HAR.out.own g hsl).lt _ e.symm).1; omega)
                    have hv := (World.cell?_of_block (a := ⟨w.heap.size + 1, g, none⟩) hbk).trans hv
                    have hfr := (World.frozen?_of_block (a := ⟨w.heap.size + 1, g, none⟩) hbk).trans (HAR.out.free g)
                    have HFIN := Lib.hid (HAR.out.grow hsl hown2 hgrow2 hat2)
                    have hbw := hbw.trans (hbel2.mono (Nat.le_succ _))
                    clear hbk hown2 hbel2 hgrow2 hat2 HAR
                    refine hK.out _ _ (cell_below (HWA.out.trans (hbw.mono (Nat.le_succ _))) W1.out) (fun hHeld => ?_)
                    clear hK K
                    try dsimp only [Act.put, List.getElem_toArray, List.getElem_cons_zero, List.getElem_cons_succ]; try simp only [List.setIfInBounds_toArray, List.set_cons_zero, List.set_cons_succ]
                    refine wpAnyH_take (i := 11) (oi := _) (v := ?vq19) rfl (by kernel_rfl) (by kernel_rfl) (by kernel_rfl) (fun _ _ _ h => h) (Or.inl ⟨by rfl, ?hq19⟩) (by assumption) ?rq19
                    case hq19 => (intro w hSw; go_simp; try with_reducible rfl)
                    try dsimp only [Act.put, List.getElem_toArray, List.getElem_cons_zero, List.getElem_cons_succ]; try simp only [List.setIfInBounds_toArray, List.set_cons_zero, List.set_cons_succ]
                    refine wpAnyH_ready (rs := [12]) (by kernel_rfl) (by simp) ?_
                    refine AllReadyH.cons (o := _) rfl (fun K hK => ?_) ?_
                    · rw [if_pos (by rfl)]
                      go_simp
                      have hbw := hbw.setCell (p := ⟨w.heap.size + 1, g, none⟩) (Nat.le_refl _) (.slice A2 (nB g + 1) c2)
                      refine hK.out _ _ (cell_below (HWA.out.trans (hbw.mono (Nat.le_succ _))) W1.out) (fun hHeld => ?_)
                      clear hK K
                      try dsimp only [Act.put, List.getElem_toArray, List.getElem_cons_zero, List.getElem_cons_succ]; try simp only [List.setIfInBounds_toArray, List.set_cons_zero, List.set_cons_succ]
                      refine wpAnyH_done (by kernel_rfl) ?_ _
                      go_wp2
                      go_roundw
                      case rel => exact ⟨k + 1, _, by omega, by go_num, Lib.hid (by have := HFIN.out; rwa [(HNX2.out).1, (HNX2.out).2] at this), hbw⟩
                      case measure => simp [intOf]; omega
                    exact AllReadyH.nil
                  exact AllReadyH.nil
                exact AllReadyH.nil
              exact AllReadyH.nil
            exact AllReadyH.nil
          exact AllReadyH.nil
        exact AllReadyH.nil
      refine AllReadyH.cons (o := _) rfl (fun K hK => ?_) ?_
      · rw [if_pos (by rfl)]
        go_simp
        have hA := (Below.refl w1.drew.heap.size w1.drew).alloc (Nat.le_refl _) (.cells #[.string sp] 9)
        have hv : ((w1.alloc (.cells #[.string sp] 9)).drew).cell? ⟨w.heap.size + 1, g, none⟩ = some (vs g) := cell_below hA hv
        have hbw : Below (w.heap.size + 1) (w.alloc (.cells (Array.replicate 64 (.slice none 0 0)) 41)) ((w1.alloc (.cells #[.string sp] 9)).drew) := hbw.alloc (by have := hbw.size; simp at this; exact this) (.cells #[.string sp] 9)
        have HA := Lib.hid hA
        clear hA
        refine hK.out _ _ (cell_below (HWA.out.trans (hbw.mono (Nat.le_succ _))) W0.out) (fun hHeld => ?_)
        clear hK K
        try dsimp only [Act.put, List.getElem_toArray, List.getElem_cons_zero, List.getElem_cons_succ]; try simp only [List.setIfInBounds_toArray, List.set_cons_zero, List.set_cons_succ]
        refine wpAnyH_ready (rs := [3]) (by kernel_rfl) (by simp) ?_
        refine AllReadyH.cons (o := _) rfl (fun K hK => ?_) ?_
        · rw [if_pos (by rfl)]
          go_simp
          refine hK.out _ _ (cell_below (HWA.out.trans (hbw.mono (Nat.le_succ _))) W0.out) (fun hHeld => ?_)
          clear hK K
          try dsimp only [Act.put, List.getElem_toArray, List.getElem_cons_zero, List.getElem_cons_succ]; try simp only [List.setIfInBounds_toArray, List.set_cons_zero, List.set_cons_succ]
          refine wpAnyH_ready (rs := [10]) (by kernel_rfl) (by simp) ?_
          refine AllReadyH.cons (o := _) rfl (fun K hK => ?_) ?_
          · have HAR := Lib.hid (HOd.out.below HA.out)
            refine step_app elStr (by rfl) (.tmp 21) (.tmp 27) (by rfl) (w.heap.size + 1 + 1) (vs g) (nA g) (fA g) (by rfl) (HAR.out.own g hsl) (some ⟨w1.drew.heap.size, 0, none⟩) 1 1 [.string sp] (by rfl) rfl (Rd.new w1.drew #[.string sp] _) (by intro u hu; simp at hu; subst hu; rfl) (by unfold maxLen; omega) (by omega) (by have := HOd.out.blt; have e9 : w1.drew.heap.size = w1.heap.size := rfl; simp; omega) ?_
            intro v2 w3 hown2 hbel2 hgrow2 hat2
            obtain ⟨A2, c2, rfl⟩ := own_form hown2
            have hbk := hgrow2.block (w.heap.size + 1) HAR.out.blt (fun e => by have := ((HAR.out.own g hsl).lt _ e.symm).1; omega)
            have hv := (World.cell?_of_block (a := ⟨w.heap.size + 1, g, none⟩) hbk).trans hv
            have hfr := (World.frozen?_of_block (a := ⟨w.heap.size + 1, g, none⟩) hbk).trans (HAR.out.free g)
            have HFIN := Lib.hid (HAR.out.grow hsl hown2 hgrow2 hat2)
            have hbw := hbw.trans (hbel2.mono (Nat.le_succ _))
            clear hbk hown2 hbel2 hgrow2 hat2 HAR
            refine hK.out _ _ (cell_below (HWA.out.trans (hbw.mono (Nat.le_succ _))) W0.out) (fun hHeld => ?_)
            clear hK K
            try dsimp only [Act.put, List.getElem_toArray, List.getElem_cons_zero, List.getElem_cons_succ]; try simp only [List.setIfInBounds_toArray, List.set_cons_zero, List.set_cons_succ]
            refine wpAnyH_take (i := 11) (oi := _) (v := ?vq20) rfl (by kernel_rfl) (by kernel_rfl) (by kernel_rfl) (fun _ _ _ h => h) (Or.inl ⟨by rfl, ?hq20⟩) (by assumption) ?rq20
            case hq20 => (intro w hSw; go_simp; try with_reducible rfl)
            try dsimp only [Act.put, List.getElem_toArray, List.getElem_cons_zero, List.getElem_cons_succ]; try simp only [List.setIfInBounds_toArray, List.set_cons_zero, List.set_cons_succ]
            refine wpAnyH_ready (rs := [12]) (by kernel_rfl) (by simp) ?_
            refine AllReadyH.cons (o := _) rfl (fun K hK => ?_) ?_
            · rw [if_pos (by rfl)]
              go_simp
              have hbw := hbw.setCell (p := ⟨w.heap.size + 1, g, none⟩) (Nat.le_refl _) (.slice A2 (nA g + 1) c2)
              refine hK.out _ _ (cell_below (HWA.out.trans (hbw.mono (Nat.le_succ _))) W0.out) (fun hHeld => ?_)
              clear hK K
              try dsimp only [Act.put, List.getElem_toArray, List.getElem_cons_zero, List.getElem_cons_succ]; try simp only [List.setIfInBounds_toArray, List.set_cons_zero, List.set_cons_succ]
              refine wpAnyH_done (by kernel_rfl) ?_ _
              go_wp2_with fail
              generalize w3.setCell ⟨w.heap.size + 1, g, none⟩ (.slice A2 (nA g + 1) c2) = wB at HFIN hbw ⊢
              generalize hnB : upd nA g (nA g + 1) = nB at HFIN
              generalize hfB : upd fA g (fA g ++ [.string sp]) = fB at HFIN
              generalize upd vs g (.slice A2 (nA g + 1) c2) = vsB at HFIN
              have HNX2 := Lib.hid (HNX.out nB fB hnB hfB)
              have hlen3 : nB g ≤ 2001 := by rw [← hnB, upd_at]; omega
              clear hnB hfB hv hfr hc0
              have hbw : Below (w.heap.size + 1) (w.alloc (.cells (Array.replicate 64 (.slice none 0 0)) 41)) wB.drew := hbw.drew
              have HOB := Lib.hid (HFIN.out.below (Below.refl _ _).drew)
              clear HFIN
              have hv : wB.drew.cell? ⟨w.heap.size + 1, g, none⟩ = some (vsB g) := HOB.out.cell hsl
              have hc1 : wB.drew.cell? ⟨b, off + k * 2 + 1, none⟩ = some (.string sd) := cell_below (HWA.out.trans (hbw.mono (Nat.le_succ _))) W1.out
              refine wp_region_held_drew (S := (fun W => W.cell? ⟨b, off + k * 2 + 1, none⟩ = some (.string sd))) (by kernel_rfl) hc1 (fun hHeld => ?_)
              refine wpAnyH_take (i := 0) (oi := _) (v := ?vq21) rfl (by kernel_rfl) (by kernel_rfl) (by kernel_rfl) (fun _ _ _ h => h) (Or.inl ⟨by rfl, ?hq21⟩) (by assumption) ?rq21
              case hq21 => (intro w hSw; go_simp; try with_reducible rfl)
              try dsimp only [Act.put, List.getElem_toArray, List.getElem_cons_zero, List.getElem_cons_succ]; try simp only [List.setIfInBounds_toArray, List.set_cons_zero, List.set_cons_succ]
              refine wpAnyH_take (i := 1) (oi := _) (v := ?vq22) rfl (by kernel_rfl) (by kernel_rfl) (by kernel_rfl) (fun _ _ _ h => h) (Or.inl ⟨by rfl, ?hq22⟩) (by assumption) ?rq22
              case hq22 => (intro w hSw; go_simp; try with_reducible rfl)
              try dsimp only [Act.put, List.getElem_toArray, List.getElem_cons_zero, List.getElem_cons_succ]; try simp only [List.setIfInBounds_toArray, List.set_cons_zero, List.set_cons_succ]
              refine wpAnyH_take (i := 2) (oi := _) (v := ?vq23) rfl (by kernel_rfl) (by kernel_rfl) (by kernel_rfl) (fun _ _ _ h => h) (Or.inl ⟨by rfl, ?hq23⟩) (by assumption) ?rq23
              case hq23 => (intro w hSw; go_simp; try with_reducible rfl)
              try dsimp only [Act.put, List.getElem_toArray, List.getElem_cons_zero, List.getElem_cons_succ]; try simp only [List.setIfInBounds_toArray, List.set_cons_zero, List.set_cons_succ]
              refine wpAnyH_take (i := 4) (oi := _) (v := ?vq24) rfl (by kernel_rfl) (by kernel_rfl) (by kernel_rfl) (fun _ _ _ h => h) (Or.inl ⟨by rfl, ?hq24⟩) (by assumption) ?rq24
              case hq24 => (intro w hSw; go_simp; try with_reducible rfl)
              try dsimp only [Act.put, List.getElem_toArray, List.getElem_cons_zero, List.getElem_cons_succ]; try simp only [List.setIfInBounds_toArray, List.set_cons_zero, List.set_cons_succ]
              refine wpAnyH_take (i := 5) (oi := _) (v := ?vq25) rfl (by kernel_rfl) (by kernel_rfl) (by kernel_rfl) (fun _ _ _ h => h) (Or.inl ⟨by rfl, ?hq25⟩) (by assumption) ?rq25
              case hq25 => (intro w hSw; go_simp; try with_reducible rfl)
              try dsimp only [Act.put, List.getElem_toArray, List.getElem_cons_zero, List.getElem_cons_succ]; try simp only [List.setIfInBounds_toArray, List.set_cons_zero, List.set_cons_succ]
              refine wpAnyH_take (i := 6) (oi := _) (v := ?vq26) rfl (by kernel_rfl) (by kernel_rfl) (by kernel_rfl) (fun _ _ _ h => h) (Or.inl ⟨by rfl, ?hq26⟩) (by assumption) ?rq26
              case hq26 => (intro w hSw; go_simp; try with_reducible rfl)
              try dsimp only [Act.put, List.getElem_toArray, List.getElem_cons_zero, List.getElem_cons_succ]; try simp only [List.setIfInBounds_toArray, List.set_cons_zero, List.set_cons_succ]
              refine wpAnyH_take (i := 7) (oi := _) (v := ?vq27) rfl (by kernel_rfl) (by kernel_rfl) (by kernel_rfl) (fun _ _ _ h => h) (Or.inl ⟨by rfl, ?hq27⟩) (by assumption) ?rq27
              case hq27 => (intro w hSw; go_simp; try with_reducible rfl)
              try dsimp only [Act.put, List.getElem_toArray, List.getElem_cons_zero, List.getElem_cons_succ]; try simp only [List.setIfInBounds_toArray, List.set_cons_zero, List.set_cons_succ]
              refine wpAnyH_take (i := 8) (oi := _) (v := ?vq28) rfl (by kernel_rfl) (by kernel_rfl) (by kernel_rfl) (fun _ _ _ h => h) (Or.inl ⟨by rfl, ?hq28⟩) (by assumption) ?rq28
              case hq28 => (intro w hSw; go_simp; try with_reducible rfl)
              try dsimp only [Act.put, List.getElem_toArray, List.getElem_cons_zero, List.getElem_cons_succ]; try simp only [List.setIfInBounds_toArray, List.set_cons_zero, List.set_cons_succ]
              refine wpAnyH_ready (rs := [3, 9]) (by kernel_rfl) (by simp) ?_
              refine AllReadyH.cons (o := _) rfl (fun K hK => ?_) ?_
              · rw [if_pos (by rfl)]
                go_simp
                refine hK.out _ _ (cell_below (HWA.out.trans (hbw.mono (Nat.le_succ _))) W1.out) (fun hHeld => ?_)
                clear hK K
                try dsimp only [Act.put, List.getElem_toArray, List.getElem_cons_zero, List.getElem_cons_succ]; try simp only [List.setIfInBounds_toArray, List.set_cons_zero, List.set_cons_succ]
                refine wpAnyH_ready (rs := [9]) (by kernel_rfl) (by simp) ?_
                refine AllReadyH.cons (o := _) rfl (fun K hK => ?_) ?_
                · rw [if_pos (by rfl)]
                  go_simp
                  have hA := (Below.refl wB.drew.heap.size wB.drew).alloc (Nat.le_refl _) (.cells #[.string sd] 9)
                  have hv : ((wB.alloc (.cells #[.string sd] 9)).drew).cell? ⟨w.heap.size + 1, g, none⟩ = some (vsB g) := cell_below hA hv
                  have hbw : Below (w.heap.size + 1) (w.alloc (.cells (Array.replicate 64 (.slice none 0 0)) 41)) ((wB.alloc (.cells #[.string sd] 9)).drew) := hbw.alloc (by have := hbw.size; simp at this; exact this) (.cells #[.string sd] 9)
                  have HA := Lib.hid hA
                  clear hA
                  refine hK.out _ _ (cell_below (HWA.out.trans (hbw.mono (Nat.le_succ _))) W1.out) (fun hHeld => ?_)
                  clear hK K
                  try dsimp only [Act.put, List.getElem_toArray, List.getElem_cons_zero, List.getElem_cons_succ]; try simp only [List.setIfInBounds_toArray, List.set_cons_zero, List.set_cons_succ]
                  refine wpAnyH_ready (rs := [10]) (by kernel_rfl) (by simp) ?_
                  refine AllReadyH.cons (o := _) rfl (fun K hK => ?_) ?_
                  · have HAR := Lib.hid (HOB.out.below HA.out)
                    refine step_app elStr (by rfl) (.tmp 33) (.tmp 39) (by rfl) (w.heap.size + 1 + 1) (vsB g) (nB g) (fB g) (by rfl) (HAR.out.own g hsl) (some ⟨wB.drew.heap.size, 0, none⟩) 1 1 [.string sd] (by rfl) rfl (Rd.new wB.drew #[.string sd] _) (by intro u hu; simp at hu; subst hu; rfl) (by unfold maxLen; omega) (by omega) (by have := HOB.out.blt; have e9 : wB.drew.heap.size = wB.heap.size := rfl; simp; omega) ?_
                    intro v2 w3 hown2 hbel2 hgrow2 hat2
                    obtain ⟨A2, c2, rfl⟩ := own_form hown2
                    have hbk := hgrow2.block (w.heap.size + 1) HAR.out.blt (fun e => by have := ((HAR.out.own g hsl).lt _ e.symm).1; omega)
                    have hv := (World.cell?_of_block (a := ⟨w.heap.size + 1, g, none⟩) hbk).trans hv
                    have hfr := (World.frozen?_of_block (a := ⟨w.heap.size + 1, g, none⟩) hbk).trans (HAR.out.free g)
                    have HFIN := Lib.hid (HAR.out.grow hsl hown2 hgrow2 hat2)
                    have hbw := hbw.trans (hbel2.mono (Nat.le_succ _))
                    clear hbk hown2 hbel2 hgrow2 hat2 HAR
                    refine hK.out _ _ (cell_below (HWA.out.trans (hbw.mono (Nat.le_succ _))) W1.out) (fun hHeld => ?_)
                    clear hK K
                    try dsimp only [Act.put, List.getElem_toArray, List.getElem_cons_zero, List.getElem_cons_succ]; try simp only [List.setIfInBounds_toArray, List.set_cons_zero, List.set_cons_succ]
                    refine wpAnyH_take (i := 11) (oi := _) (v := ?vq29) rfl (by kernel_rfl) (by kernel_rfl) (by kernel_rfl) (fun _ _ _ h => h) (Or.inl ⟨by rfl, ?hq29⟩) (by assumption) ?rq29
                    case hq29 => (intro w hSw; go_simp; try with_reducible rfl)
                    try dsimp only [Act.put, List.getElem_toArray, List.getElem_cons_zero, List.getElem_cons_succ]; try simp only [List.setIfInBounds_toArray, List.set_cons_zero, List.set_cons_succ]
                    refine wpAnyH_ready (rs := [12]) (by kernel_rfl) (by simp) ?_
                    refine AllReadyH.cons (o := _) rfl (fun K hK => ?_) ?_
                    · rw [if_pos (by rfl)]
                      go_simp
                      have hbw := hbw.setCell (p := ⟨w.heap.size + 1, g, none⟩) (Nat.le_refl _) (.slice A2 (nB g + 1) c2)
                      refine hK.out _ _ (cell_below (HWA.out.trans (hbw.mono (Nat.le_succ _))) W1.out) (fun hHeld => ?_)
                      clear hK K
                      try dsimp only [Act.put, List.getElem_toArray, List.getElem_cons_zero, List.getElem_cons_succ]; try simp only [List.setIfInBounds_toArray, List.set_cons_zero, List.set_cons_succ]
                      refine wpAnyH_done (by kernel_rfl) ?_ _
                      go_wp2
                      go_roundw
                      case rel => exact ⟨k + 1, _, by omega, by go_num, Lib.hid (by have := HFIN.out; rwa [(HNX2.out).1, (HNX2.out).2] at this), hbw⟩
                      case measure => simp [intOf]; omega
                    exact AllReadyH.nil
                  exact AllReadyH.nil
                exact AllReadyH.nil
              refine AllReadyH.cons (o := _) rfl (fun K hK => ?_) ?_
              · rw [if_pos (by rfl)]
                go_simp
                have hA := (Below.refl wB.drew.heap.size wB.drew).alloc (Nat.le_refl _) (.cells #[.string sd] 9)
                have hv : ((wB.alloc (.cells #[.string sd] 9)).drew).cell? ⟨w.heap.size + 1, g, none⟩ = some (vsB g) := cell_below hA hv
                have hbw : Below (w.heap.size + 1) (w.alloc (.cells (Array.replicate 64 (.slice none 0 0)) 41)) ((wB.alloc (.cells #[.string sd] 9)).drew) := hbw.alloc (by have := hbw.size; simp at this; exact this) (.cells #[.string sd] 9)
                have HA := Lib.hid hA
                clear hA
                refine hK.out _ _ (cell_below (HWA.out.trans (hbw.mono (Nat.le_succ _))) W1.out) (fun hHeld => ?_)
                clear hK K
                try dsimp only [Act.put, List.getElem_toArray, List.getElem_cons_zero, List.getElem_cons_succ]; try simp only [List.setIfInBounds_toArray, List.set_cons_zero, List.set_cons_succ]
                refine wpAnyH_ready (rs := [3]) (by kernel_rfl) (by simp) ?_
                refine AllReadyH.cons (o := _) rfl (fun K hK => ?_) ?_
                · rw [if_pos (by rfl)]
                  go_simp
                  refine hK.out _ _ (cell_below (HWA.out.trans (hbw.mono (Nat.le_succ _))) W1.out) (fun hHeld => ?_)
                  clear hK K
                  try dsimp only [Act.put, List.getElem_toArray, List.getElem_cons_zero, List.getElem_cons_succ]; try simp only [List.setIfInBounds_toArray, List.set_cons_zero, List.set_cons_succ]
                  refine wpAnyH_ready (rs := [10]) (by kernel_rfl) (by simp) ?_
                  refine AllReadyH.cons (o := _) rfl (fun K hK => ?_) ?_
                  · have HAR := Lib.hid (HOB.out.below HA.out)
                    refine step_app elStr (by rfl) (.tmp 33) (.tmp 39) (by rfl) (w.heap.size + 1 + 1) (vsB g) (nB g) (fB g) (by rfl) (HAR.out.own g hsl) (some ⟨wB.drew.heap.size, 0, none⟩) 1 1 [.string sd] (by rfl) rfl (Rd.new wB.drew #[.string sd] _) (by intro u hu; simp at hu; subst hu; rfl) (by unfold maxLen; omega) (by omega) (by have := HOB.out.blt; have e9 : wB.drew.heap.size = wB.heap.size := rfl; simp; omega) ?_
                    intro v2 w3 hown2 hbel2 hgrow2 hat2
                    obtain ⟨A2, c2, rfl⟩ := own_form hown2
                    have hbk := hgrow2.block (w.heap.size + 1) HAR.out.blt (fun e => by have := ((HAR.out.own g hsl).lt _ e.symm).1; omega)
                    have hv := (World.cell?_of_block (a := ⟨w.heap.size + 1, g, none⟩) hbk).trans hv
                    have hfr := (World.frozen?_of_block (a := ⟨w.heap.size + 1, g, none⟩) hbk).trans (HAR.out.free g)
                    have HFIN := Lib.hid (HAR.out.grow hsl hown2 hgrow2 hat2)
                    have hbw := hbw.trans (hbel2.mono (Nat.le_succ _))
                    clear hbk hown2 hbel2 hgrow2 hat2 HAR
                    refine hK.out _ _ (cell_below (HWA.out.trans (hbw.mono (Nat.le_succ _))) W1.out) (fun hHeld => ?_)
                    clear hK K
                    try dsimp only [Act.put, List.getElem_toArray, List.getElem_cons_zero, List.getElem_cons_succ]; try simp only [List.setIfInBounds_toArray, List.set_cons_zero, List.set_cons_succ]
                    refine wpAnyH_take (i := 11) (oi := _) (v := ?vq30) rfl (by kernel_rfl) (by kernel_rfl) (by kernel_rfl) (fun _ _ _ h => h) (Or.inl ⟨by rfl, ?hq30⟩) (by assumption) ?rq30
                    case hq30 => (intro w hSw; go_simp; try with_reducible rfl)
                    try dsimp only [Act.put, List.getElem_toArray, List.getElem_cons_zero, List.getElem_cons_succ]; try simp only [List.setIfInBounds_toArray, List.set_cons_zero, List.set_cons_succ]
                    refine wpAnyH_ready (rs := [12]) (by kernel_rfl) (by simp) ?_
                    refine AllReadyH.cons (o := _) rfl (fun K hK => ?_) ?_
                    · rw [if_pos (by rfl)]
                      go_simp
                      have hbw := hbw.setCell (p := ⟨w.heap.size + 1, g, none⟩) (Nat.le_refl _) (.slice A2 (nB g + 1) c2)
                      refine hK.out _ _ (cell_below (HWA.out.trans (hbw.mono (Nat.le_succ _))) W1.out) (fun hHeld => ?_)
                      clear hK K
                      try dsimp only [Act.put, List.getElem_toArray, List.getElem_cons_zero, List.getElem_cons_succ]; try simp only [List.setIfInBounds_toArray, List.set_cons_zero, List.set_cons_succ]
                      refine wpAnyH_done (by kernel_rfl) ?_ _
                      go_wp2
                      go_roundw
                      case rel => exact ⟨k + 1, _, by omega, by go_num, Lib.hid (by have := HFIN.out; rwa [(HNX2.out).1, (HNX2.out).2] at this), hbw⟩
                      case measure => simp [intOf]; omega
                    exact AllReadyH.nil
                  exact AllReadyH.nil
                exact AllReadyH.nil
              exact AllReadyH.nil
            exact AllReadyH.nil
          exact AllReadyH.nil
        exact AllReadyH.nil
      exact AllReadyH.nil
    · have hfull : l.take k = l := List.take_of_length_le (by rw [HN.out]; omega)
      have hkn : (n : Int) ≤ (k : Int) := by omega
      rw [hfull] at HO
      obtain ⟨cs, hblk, hcs, hcv⟩ := HO.out.blk
      have HI := Lib.hid (show (Try.prog.info? 41).map (·.size) = some cs.size by rw [hcs]; kernel_rfl)
      have HF := Lib.hid hblk
      have H1 := Lib.hid (show cs.all (·.oneCell') = true from one_ags hcs hcv HO.out.own)
      have HTH := Lib.hid (blk_there (cs := cs) HRS.out (by simp [hcs]))
      have HST := Lib.hid (blk_store (cs := cs) HRS.out (by simp [hcs]))
      have HBF := Lib.hid (below_setCells (B := w.heap.size) (b := w.heap.size) (Nat.le_refl _) cs.toList 0 wr hbel)
      have HFIN : Hid (SharesR l w (.returned (.agg cs)) (wr.setCells w.heap.size 0 cs.toList)) := Lib.hid (by
        refine ⟨cs, rfl, ⟨hcs, vs, hcv, fun j hj => ?_⟩, HBF.out⟩
        exact own_mono (own_setCells w.heap.size (Nat.lt_succ_of_lt (Nat.lt_succ_self _)) cs.toList 0 wr (HO.out.own j hj)) (by omega))
      clear hblk hcs hcv hbel hfull HO HRS
      go_wp2_with (first
        | (refine wpList_load_row (by rfl) 41 (.tmp 3) (by rfl) (w.heap.size + 1) (by rfl) 41 cs (0, 0) _ HF.out Try.underlying41 rfl HI.out ?_)
        | (refine wpList_store_mid (by rfl) 41 (.tmp 2) (.tmp 42) (by rfl) w.heap.size 0 cs (by rfl) (by rfl) HTH.out HI.out H1.out ?_))
      refine bodyPost_ret (results_cell_row rfl _ _ w.heap.size _ cs (0, 0) _ rfl HST.out Try.underlying41 rfl HI.out) rfl ?_
      exact HFIN.out
end Go.Proofs.Ytgmafnpkhmlnnaa
