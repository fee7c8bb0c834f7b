/- The hashes of leaves, and that of all, by the code. -/
import Derived.Test.YtgmafnpkhmlnnaaTreeC
import Derived.Test.YtgmafnpkhmlnnaaArr
attribute [local go_sem ↓] Go.wp_at_zero Go.wp_at_succ
namespace Go.Proofs.Ytgmafnpkhmlnnaa
open Go.RowKit Go.Mem Go.Num
set_option linter.unusedVariables false
set_option linter.unusedSimpArgs false

theorem shaCode (A : Option Addr) (n c : Nat) (ss : List ByteArray) (w : World) (hr : Rd w A (ss.map Value.string)) (hn : ss.length = n) (hlen : 4 * ss.length + sumSize ss + 16 ≤ 1099511627776) :
    Calls Try.prog 54 #[.slice A n c] w fun e w' => e = .returned (.string (hashT ss)) ∧ Below w.heap.size w w' := shaOf_any A n c ss w hr hn hlen
def texN (l : List Leaf) (j : Nat) : Nat := (texP (segB j) l).length
def texV (l : List Leaf) (j : Nat) : List Value := (texP (segB j) l).map Value.string
set_option maxRecDepth 100000 in
set_option maxHeartbeats 4000000 in
theorem of_any (A : Option Addr) (n c : Nat) (l : List Leaf) (w : World) (hr : Rd w A (leafc l)) (hn : l.length = n) (hm : n ≤ 1000) (hok : ∀ m ∈ l, smallL m) :
    Calls Try.prog 16 #[.slice A n c] w (MakesS (treeL l) w) := by
  have HR := Lib.hid hr; have HN := Lib.hid hn; have HOK := Lib.hid hok
  have HB := Lib.hid (fun p => tex_bound (l := l) p (by omega) hok)
  clear hr hn hok
  have HR0 := Lib.hid (ArrS.nil w 72 9 1 16)
  have hb0 := (Below.refl w.heap.size w).alloc (Nat.le_refl _) (.cells (Array.replicate 16 (.slice none 0 0)) 72)
  go_enter Try.func16, Try.ntmps16
  go_wp2
  go_loopw [11] (fun i wr => ∃ (k : Nat) (vs : Nat → Value), k ≤ n ∧ i = .int .i64 k ∧ Hid (ArrS wr w.heap.size (w.heap.size + 1) 72 9 1 16 vs (texN (l.take k)) (texV (l.take k))) ∧ Below w.heap.size w wr) (fun i _ => n - (intOf i).toNat)
  case atStart => exact ⟨0, _, Nat.zero_le _, rfl, Lib.hid HR0.out, hb0⟩
  case round =>
    obtain ⟨k, vs, hk, rfl, HO, hbel⟩ := hrel
    by_cases hlt : k < n
    · have hx : k < l.length := by have := HN.out; omega
      obtain ⟨b, off, rfl, hrg⟩ := row_leaf.at_ HR.out k hx
      have hs := HOK.out l[k] (List.getElem_mem hx)
      generalize hsq : l[k] = s at hrg hs
      obtain ⟨sp, sd⟩ := s
      have W0 := Lib.hid (show w.cell? ⟨b, off + k * 2, none⟩ = some (.string sp) from rangeAt_cell hrg 0 rfl)
      have W1 := Lib.hid (show w.cell? ⟨b, off + k * 2 + 1, none⟩ = some (.string sd) from rangeAt_cell hrg 1 rfl)
      have c0 := cell_below hbel W0.out; have c1 := cell_below hbel W1.out
      have HX := Lib.hid (fun W => segment_any sp W (by have := hs.1; simp only at this; omega))
      have hsl := segOf_lt sp
      generalize hsg : segOf sp = g at HX hsl
      have HSG := Lib.hid hsg
      have HG := Lib.hid (fun j => texP_succ (segB j) hx)
      rw [hsq] at HG
      have HSM := Lib.hid hs
      clear hs hsg hrg
      go_wp2_with fail
      have hb1 := (Below.refl wr.heap.size wr).alloc (Nat.le_refl _) (.cells #[.string sp, .string sd] 48)
      have hx0 : (wr.alloc (.cells #[.string sp, .string sd] 48)).cell? ⟨wr.heap.size, 0, none⟩ = some (.string sp) := by rw [World.cell?_alloc_at _ _ _ _ rfl]; rfl
      have hx1 : (wr.alloc (.cells #[.string sp, .string sd] 48)).cell? ⟨wr.heap.size, 1, none⟩ = some (.string sd) := by rw [World.cell?_alloc_at _ _ _ _ rfl]; rfl
      refine (HX.out _).mono ?_
      rintro e w1 ⟨rfl, hb2⟩
      have hy0 := cell_below hb2 hx0; have hy1 := cell_below hb2 hx1
      have hb3 := then_ hb1 hb2
      have HO1 := Lib.hid (HO.out.below hb3)
      have hb4 := then_ hbel hb3
      have hv := HO1.out.cell hsl
      have hwz : w.heap.size ≤ w1.heap.size := hb4.size
      have hlx : wr.heap.size < w1.heap.size := by have := hb2.size; simp at this; omega
      have hne : some wr.heap.size ≠ (vs g).ownBlock := fun e => absurd ((HO.out.own g hsl).lt _ e.symm).2 (Nat.lt_irrefl _)
      have hbz : w.heap.size < wr.heap.size := HO.out.blt
      have HNX : Hid (upd (texN (l.take k)) g (texN (l.take k) g + 2) = texN (l.take (k + 1)) ∧ upd (texV (l.take k)) g (texV (l.take k) g ++ [.string sp, .string sd]) = texV (l.take (k + 1))) := Lib.hid (by
        have key : ∀ j : Nat, texP (segB j) (l.take (k + 1)) = if j = g then texP (segB j) (l.take k) ++ [sp, sd] else texP (segB j) (l.take k) := fun j => by
          rw [HG.out j]
          by_cases e : j = g
          · rw [if_pos e, if_pos (by unfold segB; rw [HSG.out, e]; simp)]; rfl
          · rw [if_neg e, if_neg (by unfold segB; rw [HSG.out]; simp; omega), List.append_nil]
        constructor
        · funext j
          unfold upd texN
          rw [key j]
          by_cases e : j = g
          · subst e; simp
          · simp [e]
        · funext j
          unfold upd texV
          rw [key j]
          by_cases e : j = g
          · subst e; simp
          · simp [e])
      have HLN : Hid (texN (l.take k) g ≤ 2000) := Lib.hid (by
        have h1 := texP_len (segB g) (l.take k)
        have h2 : (l.take k).length ≤ 1000 := by rw [List.length_take]; omega
        unfold texN; omega)
      have HNE := Lib.hid hne; have HBZ := Lib.hid hbz
      clear c0 c1 hb1 hb2 hb3 hbel HO HX hne hbz hx0 hx1 HG HSG HSM
      generalize wr.heap.size = z at hy0 hy1 hlx HNE HBZ
      have HZ := Lib.hid hlx; have HW := Lib.hid hwz; have HB4 := Lib.hid hb4
      clear hlx hwz hb4
      go_wp2_with fail
      have hx0 : w1.drew.cell? ⟨z, 0, none⟩ = some (.string sp) := hy0
      have hx1 : w1.drew.cell? ⟨z, 1, none⟩ = some (.string sd) := hy1
      have hv : w1.drew.cell? ⟨w.heap.size, g, none⟩ = some (vs g) := hv
      have HO1d := Lib.hid (HO1.out.below (Below.refl _ _).drew)
      have hAl : w1.drew.heap.size = w1.heap.size := rfl
      have HAL := Lib.hid hAl; clear hAl hy0 hy1 HO1
      have hg16 : (g : Int) < 16 := by omega
      refine wp_region_held_drew (S := (fun W => W.cell? ⟨z, 0, none⟩ = some (.string sp) ∧ W.cell? ⟨z, 1, none⟩ = some (.string sd))) (by kernel_rfl) ⟨hx0, hx1⟩ (fun hHeld => ?_)
      refine wpAnyH_take (i := 0) (oi := _) (v := ?vq1) rfl (by kernel_rfl) (by kernel_rfl) (by kernel_rfl) (fun _ _ _ h => h) (Or.inl ⟨by rfl, ?hq1⟩) (by assumption) ?rq1
      case hq1 => (intro w hSw; go_simp; try with_reducible rfl)
      try dsimp only [Act.put, List.getElem_toArray, List.getElem_cons_zero, List.getElem_cons_succ]; try simp only [List.setIfInBounds_toArray, List.set_cons_zero, List.set_cons_succ]
      refine wpAnyH_take (i := 1) (oi := _) (v := ?vq2) rfl (by kernel_rfl) (by kernel_rfl) (by kernel_rfl) (fun _ _ _ h => h) (Or.inl ⟨by rfl, ?hq2⟩) (by assumption) ?rq2
      case hq2 => (intro w hSw; go_simp; try with_reducible rfl)
      try dsimp only [Act.put, List.getElem_toArray, List.getElem_cons_zero, List.getElem_cons_succ]; try simp only [List.setIfInBounds_toArray, List.set_cons_zero, List.set_cons_succ]
      refine wpAnyH_take (i := 2) (oi := _) (v := ?vq3) rfl (by kernel_rfl) (by kernel_rfl) (by kernel_rfl) (fun _ _ _ h => h) (Or.inl ⟨by rfl, ?hq3⟩) (by assumption) ?rq3
      case hq3 => (intro w hSw; go_simp; try with_reducible rfl)
      try dsimp only [Act.put, List.getElem_toArray, List.getElem_cons_zero, List.getElem_cons_succ]; try simp only [List.setIfInBounds_toArray, List.set_cons_zero, List.set_cons_succ]
      refine wpAnyH_take (i := 4) (oi := _) (v := ?vq4) rfl (by kernel_rfl) (by kernel_rfl) (by kernel_rfl) (fun _ _ _ h => h) (Or.inl ⟨by rfl, ?hq4⟩) (by assumption) ?rq4
      case hq4 => (intro w hSw; go_simp; try with_reducible rfl)
      try dsimp only [Act.put, List.getElem_toArray, List.getElem_cons_zero, List.getElem_cons_succ]; try simp only [List.setIfInBounds_toArray, List.set_cons_zero, List.set_cons_succ]
      refine wpAnyH_take (i := 5) (oi := _) (v := ?vq5) rfl (by kernel_rfl) (by kernel_rfl) (by kernel_rfl) (fun _ _ _ h => h) (Or.inl ⟨by rfl, ?hq5⟩) (by assumption) ?rq5
      case hq5 => (intro w hSw; go_simp; try with_reducible rfl)
      try dsimp only [Act.put, List.getElem_toArray, List.getElem_cons_zero, List.getElem_cons_succ]; try simp only [List.setIfInBounds_toArray, List.set_cons_zero, List.set_cons_succ]
      refine wpAnyH_take (i := 6) (oi := _) (v := ?vq6) rfl (by kernel_rfl) (by kernel_rfl) (by kernel_rfl) (fun _ _ _ h => h) (Or.inl ⟨by rfl, ?hq6⟩) (by assumption) ?rq6
      case hq6 => (intro w hSw; go_simp; try with_reducible rfl)
      try dsimp only [Act.put, List.getElem_toArray, List.getElem_cons_zero, List.getElem_cons_succ]; try simp only [List.setIfInBounds_toArray, List.set_cons_zero, List.set_cons_succ]
      refine wpAnyH_take (i := 7) (oi := _) (v := ?vq7) rfl (by kernel_rfl) (by kernel_rfl) (by kernel_rfl) (fun _ _ _ h => h) (Or.inl ⟨by rfl, ?hq7⟩) (by assumption) ?rq7
      case hq7 => (intro w hSw; go_simp; try with_reducible rfl)
      try dsimp only [Act.put, List.getElem_toArray, List.getElem_cons_zero, List.getElem_cons_succ]; try simp only [List.setIfInBounds_toArray, List.set_cons_zero, List.set_cons_succ]
      refine wpAnyH_ready (rs := [3, 8]) (by kernel_rfl) (by simp) ?_
      refine AllReadyH.cons (o := _) rfl (fun K hK => ?_) ?_
      · rw [if_pos (by rfl)]
        go_simp
        refine hK.out _ _ (by first | exact ⟨hy0, hy1⟩ | exact ⟨hx0, hx1⟩) (fun hHeld => ?_)
        clear hK K
        try dsimp only [Act.put, List.getElem_toArray, List.getElem_cons_zero, List.getElem_cons_succ]; try simp only [List.setIfInBounds_toArray, List.set_cons_zero, List.set_cons_succ]
        refine wpAnyH_ready (rs := [8]) (by kernel_rfl) (by simp) ?_
        refine AllReadyH.cons (o := _) rfl (fun K hK => ?_) ?_
        · rw [if_pos (by rfl)]
          go_simp
          have hA := (Below.refl w1.drew.heap.size w1.drew).alloc (Nat.le_refl _) (.cells #[.string sp, .string sd] 9)
          have hv : (w1.alloc (.cells #[.string sp, .string sd] 9)).drew.cell? ⟨w.heap.size, g, none⟩ = some (vs g) := cell_below hA hv
          have hy0 := cell_below hA hx0
          have hy1 := cell_below hA hx1
          have HA := Lib.hid hA
          clear hA
          refine hK.out _ _ ⟨hy0, hy1⟩ (fun hHeld => ?_)
          clear hK K
          try dsimp only [Act.put, List.getElem_toArray, List.getElem_cons_zero, List.getElem_cons_succ]; try simp only [List.setIfInBounds_toArray, List.set_cons_zero, List.set_cons_succ]
          refine wpAnyH_ready (rs := [9]) (by kernel_rfl) (by simp) ?_
          refine AllReadyH.cons (o := _) rfl (fun K hK => ?_) ?_
          · refine step_app elStr (by rfl) (.tmp 21) (.tmp 26) (by rfl) (w.heap.size + 1) (vs g) (texN (l.take k) g) (texV (l.take k) g) (by rfl) ((HO1d.out.below HA.out).own g hsl) (some ⟨w1.drew.heap.size, 0, none⟩) 2 2 [.string sp, .string sd] (by rfl) rfl (Rd.new w1.drew #[.string sp, .string sd] _) (by intro u hu; simp at hu; rcases hu with rfl | rfl <;> rfl) (by have := HLN.out; unfold maxLen; omega) (by have := HLN.out; omega) (by have := HBZ.out; have := HZ.out; have := HAL.out; simp; omega) ?_
            intro v2 w3 hown2 hbel2 hgrow2 hat2
            obtain ⟨A2, c2, rfl⟩ := own_form hown2
            have hzl : z < (w1.drew.alloc (.cells #[.string sp, .string sd] 9)).heap.size := by have := HZ.out; have := HAL.out; simp; omega
            have hy0 := (World.cell?_of_block (a := ⟨z, 0, none⟩) (hgrow2.block z hzl HNE.out)).trans hy0
            have hy1 := (World.cell?_of_block (a := ⟨z, 1, none⟩) (hgrow2.block z hzl HNE.out)).trans hy1
            have HAR := HO1d.out.below HA.out
            have hbk := hgrow2.block w.heap.size HAR.blt (fun e => by have := (HAR.own g hsl).lt _ e.symm; omega)
            have hv := (World.cell?_of_block (a := ⟨w.heap.size, g, none⟩) hbk).trans hv
            have hfr := (World.frozen?_of_block (a := ⟨w.heap.size, g, none⟩) hbk).trans (HAR.free g)
            have HFIN := Lib.hid (HAR.grow hsl hown2 hgrow2 hat2)
            have HBF := Lib.hid (((HB4.out.drew.alloc HW.out (.cells #[.string sp, .string sd] 9)).trans (hbel2.mono (Nat.le_succ _))).setCell (p := ⟨w.heap.size, g, none⟩) (Nat.le_refl _) (.slice A2 (texN (l.take k) g + 2) c2))
            clear HAR hbk hown2 hbel2 hgrow2 hat2 hzl
            refine hK.out _ _ ⟨hy0, hy1⟩ (fun hHeld => ?_)
            clear hK K
            try dsimp only [Act.put, List.getElem_toArray, List.getElem_cons_zero, List.getElem_cons_succ]; try simp only [List.setIfInBounds_toArray, List.set_cons_zero, List.set_cons_succ]
            refine wpAnyH_take (i := 10) (oi := _) (v := ?vq8) rfl (by kernel_rfl) (by kernel_rfl) (by kernel_rfl) (fun _ _ _ h => h) (Or.inl ⟨by rfl, ?hq8⟩) (by assumption) ?rq8
            case hq8 => (intro w hSw; go_simp; try with_reducible rfl)
            try dsimp only [Act.put, List.getElem_toArray, List.getElem_cons_zero, List.getElem_cons_succ]; try simp only [List.setIfInBounds_toArray, List.set_cons_zero, List.set_cons_succ]
            refine wpAnyH_ready (rs := [11]) (by kernel_rfl) (by simp) ?_
            refine AllReadyH.cons (o := _) rfl (fun K hK => ?_) ?_
            · rw [if_pos (by rfl)]
              go_simp
              have hz0 := (World.cell?_of_block (a := ⟨z, 0, none⟩) (Below.heap_setCell w3 ⟨w.heap.size, g, none⟩ (.slice A2 (texN (l.take k) g + 2) c2) z (Nat.ne_of_gt HBZ.out))).trans hy0
              have hz1 := (World.cell?_of_block (a := ⟨z, 1, none⟩) (Below.heap_setCell w3 ⟨w.heap.size, g, none⟩ (.slice A2 (texN (l.take k) g + 2) c2) z (Nat.ne_of_gt HBZ.out))).trans hy1
              refine hK.out _ _ ⟨hz0, hz1⟩ (fun hHeld => ?_)
              clear hK K
              try dsimp only [Act.put, List.getElem_toArray, List.getElem_cons_zero, List.getElem_cons_succ]; try simp only [List.setIfInBounds_toArray, List.set_cons_zero, List.set_cons_succ]
              refine wpAnyH_done (by kernel_rfl) ?_ _
              go_wp2
              go_roundw
              case rel => exact ⟨k + 1, _, by omega, by go_num, Lib.hid (by have := HFIN.out; rwa [HNX.out.1, HNX.out.2] at this), HBF.out⟩
              case measure => simp [intOf]; omega
            exact AllReadyH.nil
          exact AllReadyH.nil
        exact AllReadyH.nil
      refine AllReadyH.cons (o := _) rfl (fun K hK => ?_) ?_
      · rw [if_pos (by rfl)]
        go_simp
        have hA := (Below.refl w1.drew.heap.size w1.drew).alloc (Nat.le_refl _) (.cells #[.string sp, .string sd] 9)
        have hv : (w1.alloc (.cells #[.string sp, .string sd] 9)).drew.cell? ⟨w.heap.size, g, none⟩ = some (vs g) := cell_below hA hv
        have hy0 := cell_below hA hx0
        have hy1 := cell_below hA hx1
        have HA := Lib.hid hA
        clear hA
        refine hK.out _ _ ⟨hy0, hy1⟩ (fun hHeld => ?_)
        clear hK K
        try dsimp only [Act.put, List.getElem_toArray, List.getElem_cons_zero, List.getElem_cons_succ]; try simp only [List.setIfInBounds_toArray, List.set_cons_zero, List.set_cons_succ]
        refine wpAnyH_ready (rs := [3]) (by kernel_rfl) (by simp) ?_
        refine AllReadyH.cons (o := _) rfl (fun K hK => ?_) ?_
        · rw [if_pos (by rfl)]
          go_simp
          refine hK.out _ _ (by first | exact ⟨hy0, hy1⟩ | exact ⟨hx0, hx1⟩) (fun hHeld => ?_)
          clear hK K
          try dsimp only [Act.put, List.getElem_toArray, List.getElem_cons_zero, List.getElem_cons_succ]; try simp only [List.setIfInBounds_toArray, List.set_cons_zero, List.set_cons_succ]
          refine wpAnyH_ready (rs := [9]) (by kernel_rfl) (by simp) ?_
          refine AllReadyH.cons (o := _) rfl (fun K hK => ?_) ?_
          · refine step_app elStr (by rfl) (.tmp 21) (.tmp 26) (by rfl) (w.heap.size + 1) (vs g) (texN (l.take k) g) (texV (l.take k) g) (by rfl) ((HO1d.out.below HA.out).own g hsl) (some ⟨w1.drew.heap.size, 0, none⟩) 2 2 [.string sp, .string sd] (by rfl) rfl (Rd.new w1.drew #[.string sp, .string sd] _) (by intro u hu; simp at hu; rcases hu with rfl | rfl <;> rfl) (by have := HLN.out; unfold maxLen; omega) (by have := HLN.out; omega) (by have := HBZ.out; have := HZ.out; have := HAL.out; simp; omega) ?_
            intro v2 w3 hown2 hbel2 hgrow2 hat2
            obtain ⟨A2, c2, rfl⟩ := own_form hown2
            have hzl : z < (w1.drew.alloc (.cells #[.string sp, .string sd] 9)).heap.size := by have := HZ.out; have := HAL.out; simp; omega
            have hy0 := (World.cell?_of_block (a := ⟨z, 0, none⟩) (hgrow2.block z hzl HNE.out)).trans hy0
            have hy1 := (World.cell?_of_block (a := ⟨z, 1, none⟩) (hgrow2.block z hzl HNE.out)).trans hy1
            have HAR := HO1d.out.below HA.out
            have hbk := hgrow2.block w.heap.size HAR.blt (fun e => by have := (HAR.own g hsl).lt _ e.symm; omega)
            have hv := (World.cell?_of_block (a := ⟨w.heap.size, g, none⟩) hbk).trans hv
            have hfr := (World.frozen?_of_block (a := ⟨w.heap.size, g, none⟩) hbk).trans (HAR.free g)
            have HFIN := Lib.hid (HAR.grow hsl hown2 hgrow2 hat2)
            have HBF := Lib.hid (((HB4.out.drew.alloc HW.out (.cells #[.string sp, .string sd] 9)).trans (hbel2.mono (Nat.le_succ _))).setCell (p := ⟨w.heap.size, g, none⟩) (Nat.le_refl _) (.slice A2 (texN (l.take k) g + 2) c2))
            clear HAR hbk hown2 hbel2 hgrow2 hat2 hzl
            refine hK.out _ _ ⟨hy0, hy1⟩ (fun hHeld => ?_)
            clear hK K
            try dsimp only [Act.put, List.getElem_toArray, List.getElem_cons_zero, List.getElem_cons_succ]; try simp only [List.setIfInBounds_toArray, List.set_cons_zero, List.set_cons_succ]
            refine wpAnyH_take (i := 10) (oi := _) (v := ?vq9) rfl (by kernel_rfl) (by kernel_rfl) (by kernel_rfl) (fun _ _ _ h => h) (Or.inl ⟨by rfl, ?hq9⟩) (by assumption) ?rq9
            case hq9 => (intro w hSw; go_simp; try with_reducible rfl)
            try dsimp only [Act.put, List.getElem_toArray, List.getElem_cons_zero, List.getElem_cons_succ]; try simp only [List.setIfInBounds_toArray, List.set_cons_zero, List.set_cons_succ]
            refine wpAnyH_ready (rs := [11]) (by kernel_rfl) (by simp) ?_
            refine AllReadyH.cons (o := _) rfl (fun K hK => ?_) ?_
            · rw [if_pos (by rfl)]
              go_simp
              have hz0 := (World.cell?_of_block (a := ⟨z, 0, none⟩) (Below.heap_setCell w3 ⟨w.heap.size, g, none⟩ (.slice A2 (texN (l.take k) g + 2) c2) z (Nat.ne_of_gt HBZ.out))).trans hy0
              have hz1 := (World.cell?_of_block (a := ⟨z, 1, none⟩) (Below.heap_setCell w3 ⟨w.heap.size, g, none⟩ (.slice A2 (texN (l.take k) g + 2) c2) z (Nat.ne_of_gt HBZ.out))).trans hy1
              refine hK.out _ _ ⟨hz0, hz1⟩ (fun hHeld => ?_)
              clear hK K
              try dsimp only [Act.put, List.getElem_toArray, List.getElem_cons_zero, List.getElem_cons_succ]; try simp only [List.setIfInBounds_toArray, List.set_cons_zero, List.set_cons_succ]
              refine wpAnyH_done (by kernel_rfl) ?_ _
              go_wp2
              go_roundw
              case rel => exact ⟨k + 1, _, by omega, by go_num, Lib.hid (by have := HFIN.out; rwa [HNX.out.1, HNX.out.2] at this), HBF.out⟩
              case measure => simp [intOf]; omega
            exact AllReadyH.nil
          exact AllReadyH.nil
        exact AllReadyH.nil
      exact AllReadyH.nil
    · obtain rfl : k = n := by omega
      have hfull : l.take k = l := List.take_of_length_le (by rw [HN.out]; omega)
      rw [hfull] at HO
      have HFL := Lib.hid hbel
      clear hfull hbel hb0 HR0 HR HOK hlt hk
      rename World => wz
      go_wp2
      go_loopw [7, 30] (fun v i wr' => ∃ k : Nat, k ≤ 16 ∧ i = .int .i64 k ∧ Hid (wr'.ownsRow wz.heap.size 9 1 v k ((treeK l k).map Value.string)) ∧ Below wz.heap.size wz wr') (fun _ i _ => 16 - (intOf i).toNat)
      case atStart => exact ⟨0, Nat.zero_le _, rfl, Lib.hid (World.ownsRow_nil _ _ _ _), Below.refl _ _⟩
      case round =>
        obtain ⟨k, hk, rfl, HV, hbel⟩ := hrel
        by_cases hlt : k < 16
        · have hg16 : (k : Int) < 16 := by omega
          have HA := HO.out.below hbel
          have hown := HA.own k hlt
          obtain ⟨Ak, ck, hvk⟩ := own_form hown
          have hc := HA.cell hlt
          rw [hvk] at hown hc
          have hrd : Rd wr Ak ((texP (segB k) l).map Value.string) := Rd.of_own hown
          have HX := Lib.hid (shaCode Ak (texN l k) ck (texP (segB k) l) wr hrd rfl (HB.out _))
          have HS := Lib.hid (treeK_succ l k)
          generalize hashT (texP (segB k) l) = h at HS HX
          have HBL := Lib.hid hbel
          generalize texN l k = nk at hc HX
          clear hown hrd hvk HA hbel
          go_wp2_with fail
          refine HX.out.mono ?_
          rintro e w2 ⟨rfl, hb3⟩
          have HO2 := Lib.hid (own_below HV.out hb3); have hb4 := then_ HBL.out hb3
          have HZ := Lib.hid hb4.size
          clear HV hb3 HX HBL
          go_wp2_with (at_builtin; refine wpList_app elStr (by rfl) (.tmp 33) (.tmp 38) (by rfl) wz.heap.size _ k _ (by rfl) (HO2.out.alloc _) (some ⟨w2.heap.size, 0, none⟩) 1 1 [.string h] rfl rfl (Rd.new w2 #[.string h] _) (by intro u hu; simp at hu; subst hu; rfl) (by unfold maxLen; omega) (by omega) (by have := HZ.out; simp; omega) ?_; intro v1 w3 hown1 hbel1 _ _)
          go_roundw
          case rel => exact ⟨k + 1, by omega, by go_num, Lib.hid (by rw [HS.out, List.map_append]; exact hown1), (hb4.alloc HZ.out _).trans hbel1⟩
          case measure => simp [intOf]; omega
        · obtain rfl : k = 16 := by omega
          have HM := Lib.hid (own_mono HV.out HFL.out.size)
          have HBF := Lib.hid (HFL.out.trans (hbel.mono HFL.out.size))
          go_wp2
          go_ret
          exact ⟨_, rfl, by rw [treeL_len]; exact HM.out, HBF.out⟩
set_option maxRecDepth 100000 in
theorem root_any (A : Option Addr) (n c : Nat) (l : List Leaf) (w : World) (hr : Rd w A (leafc l)) (hn : l.length = n) (hm : n ≤ 1000) (hok : ∀ m ∈ l, smallL m) :
    Calls Try.prog 18 #[.slice A n c] w fun e w' => e = .returned (.string (rootL l)) ∧ Below w.heap.size w w' := by
  have HX := Lib.hid (of_any A n c l w hr hn hm hok)
  have HL := Lib.hid (treeL_len l); have HS := Lib.hid (treeL_sum l)
  unfold rootL
  generalize treeL l = t at HX HL HS
  clear hr hn hm hok
  go_enter Try.func18, Try.ntmps18
  go_wp2_with fail
  refine HX.out.mono ?_
  rintro e w1 ⟨v1, rfl, hown1, hb1⟩
  obtain ⟨A1, c1, rfl⟩ := own_form hown1
  have hrd := Rd.of_own hown1
  go_wp2_with fail
  refine (shaCode A1 t.length c1 t w1 hrd rfl (by have := HL.out; have := HS.out; omega)).mono ?_
  rintro e w2 ⟨rfl, hb2⟩
  go_wp2
  go_ret
  exact ⟨rfl, then_ hb1 hb2⟩
end Go.Proofs.Ytgmafnpkhmlnnaa
