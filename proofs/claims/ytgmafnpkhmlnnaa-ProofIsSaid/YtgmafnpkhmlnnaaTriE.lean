/- A trie of hashes is built: the code's. -/
import Derived.Test.YtgmafnpkhmlnnaaTriD
import Derived.Test.YtgmafnpkhmlnnaaArr
import Derived.AtR
import Derived.BigRegion
import Derived.BigQuiet
attribute [local go_sem ↓] Go.wp_at_zero Go.wp_at_succ
namespace Go.Proofs.Ytgmafnpkhmlnnaa
open Go.RowKit Go.Mem Go.Num Go.Tri
set_option linter.unusedVariables false
set_option linter.unusedSimpArgs false

theorem wp_load_arr {P : Program} {ty : TypeId} {op : Oper} {a : Act} {w : World} {ops : Array Oper} {S : World → Prop} (hw : Region.wanted op (yielded ops a.tmps) = true) (x : Operand) (ho : op.op = .load ty x)
    (b o : Nat) (hx : a.eval x = .pointer (some ⟨b, o, none⟩)) (c : Array Value) (hS : ∀ w, S w → w.rangeAt b o c.toList) (hd : ∃ d, P.underlying ty = some d ∧ d.isRow = true) (hi : (P.info? ty).map (·.size) = some c.size) : YieldsIf P ops S op (.agg c) a := by
  obtain ⟨d, hu, hd⟩ := hd
  exact yieldsIf_load_mid hw ty x ho b o hx c.toList d hS hu hd (by simpa using hi)
theorem rd_cell {w : World} {b off : Nat} {cs : List Value} (h : Rd w (some ⟨b, off, none⟩) cs) {j : Nat} {u : Value} (hj : cs[j]? = some u) : w.cell? ⟨b, off + j, none⟩ = some u := by
  obtain ⟨b', o', e, hc⟩ := h j u hj; cases e; exact hc
theorem size_sl (W : World) : (sizeOf 22).run Try.prog W = .ok 1 W := by kernel_rfl
theorem agg_sl (W : World) : (isAgg 22).run Try.prog W = .ok false W := by kernel_rfl
theorem ix_share (cs : Array Value) (k : Nat) (v : Value) (hk : k < 64) (hc : cs[k]? = some v) (W : World) : (Instr.index 74 (.agg cs) (.int .i64 (k : Int))).run Try.prog W = .ok v W := by
  have h1 : (0 : Int) ≤ (k : Int) ∧ (k : Int) < ((64 : Nat) : Int) := ⟨by omega, by omega⟩
  have h2 : (0 : Int) ≤ (k : Int) ∧ (k : Int) < (64 : Int) := ⟨by omega, by omega⟩
  simp [Instr.index, run_underlying Try.underlying74, asIntOf, h1, h2, part, size_sl, agg_sl, hc, go_sem]
  exact fun h => absurd h (by omega)
def shaN (l : List Leaf) (j : Nat) : Nat := (inL (bktB j) l).length
def shaV (l : List Leaf) (j : Nat) : List Value := leafc (inL (bktB j) l)
theorem shareT (l : List Leaf) (k : Nat) : leavesT (inL (bktB k) l) = shareL l k := by
  unfold leavesT inL shareL texP
  induction l with
  | nil => rfl
  | cons m t ih => rw [List.flatMap_cons, List.filter_cons]; cases h : bktB (k : Int) m.place <;> simp [h, ih]
theorem share_hash (l : List Leaf) (k : Nat) : hashT (leavesT (inL (bktB k) l)) = nodeL l (6 - 6) k := by rw [shareT]; exact (nodeL_zero l k).symm
def BuildR (l : List Leaf) (w : World) (e : Ending) (w' : World) : Prop := ∃ tb, e = .returned (.pointer (some ⟨tb, 0, none⟩)) ∧ TrieAt w' tb l ∧ Below w.heap.size w w'
theorem two_pow (m : Nat) (h : m < 6) : ∃ q : Nat, 2 ^ m = q ∧ 2 ^ (m + 1) = 2 * q ∧ 1 ≤ q ∧ q ≤ 32 := ⟨2 ^ m, rfl, by rw [Nat.pow_succ]; omega, Nat.one_le_two_pow, by
  have : 2 ^ m ≤ 2 ^ 5 := Nat.pow_le_pow_right (by decide) (by omega)
  simpa using this⟩
set_option maxRecDepth 100000 in
set_option maxHeartbeats 8000000 in
theorem build_any (A : Option Addr) (n c : Nat) (l : List Leaf) (w : World) (hr : Rd w A (leafc l)) (hn : l.length = n) (hm : n ≤ 1000) (hok : ∀ m ∈ l, smallL m) :
    Calls Try.prog 28 #[.slice A n c] w (BuildR l w) := by
  have HR := Lib.hid hr; have HN := Lib.hid hn; have HOK := Lib.hid hok
  clear hr hn hok
  have HR0 := Lib.hid (ArrS.nil w 74 48 2 64)
  have hb0 := (Below.refl w.heap.size w).alloc (Nat.le_refl _) (.cells (Array.replicate 64 (.slice none 0 0)) 74)
  go_enter Try.func28, Try.ntmps28
  go_wp2
  go_loopw [15] (fun i wr => ∃ (k : Nat) (vs : Nat → Value), k ≤ n ∧ i = .int .i64 k ∧ Hid (ArrS wr w.heap.size (w.heap.size + 1) 74 48 2 64 vs (shaN (l.take k)) (shaV (l.take k))) ∧ Below w.heap.size w wr) (fun i _ => n - (intOf i).toNat)
  case atStart => exact ⟨0, _, Nat.zero_le _, rfl, Lib.hid HR0.out, hb0⟩
  case round =>
    obtain ⟨k, vs, hk, rfl, HO, hbel⟩ := hrel
    by_cases hlt : k < n
    · have hx : k < l.length := by have := HN.out; omega
      obtain ⟨b, off, rfl, hrg⟩ := row_leaf.at_ HR.out k hx
      have hs := HOK.out l[k] (List.getElem_mem hx)
      generalize hsq : l[k] = s at hrg hs
      obtain ⟨sp, sd⟩ := s
      have W0 := Lib.hid (show w.cell? ⟨b, off + k * 2, none⟩ = some (.string sp) from rangeAt_cell hrg 0 rfl)
      have W1 := Lib.hid (show w.cell? ⟨b, off + k * 2 + 1, none⟩ = some (.string sd) from rangeAt_cell hrg 1 rfl)
      have c0 := cell_below hbel W0.out; have c1 := cell_below hbel W1.out
      have HX := Lib.hid (fun W => bucket_any sp W (by have := hs.1; simp only at this; omega))
      have hsl := bktOf_lt sp
      generalize hsg : bktOf sp = g at HX hsl
      have HSG := Lib.hid hsg
      have HG := Lib.hid (fun j => inL_succ (bktB j) hx)
      rw [hsq] at HG
      clear hs hsg hrg
      go_wp2_with fail
      have hb1 := (Below.refl wr.heap.size wr).alloc (Nat.le_refl _) (.cells #[.string sp, .string sd] 48)
      have hx0 : (wr.alloc (.cells #[.string sp, .string sd] 48)).rangeAt wr.heap.size 0 [.string sp, .string sd] := range_new wr #[.string sp, .string sd] _
      refine (HX.out _).mono ?_
      rintro e w1 ⟨rfl, hb2⟩
      have hy0 := rangeAt_below hx0 hb2
      have hb3 := then_ hb1 hb2
      have HO1 := Lib.hid (HO.out.below hb3)
      have hb4 := then_ hbel hb3
      have hv := HO1.out.cell hsl
      have hwz : w.heap.size ≤ w1.heap.size := hb4.size
      have hlx : wr.heap.size < w1.heap.size := by have := hb2.size; simp at this; omega
      have hne : some wr.heap.size ≠ (vs g).ownBlock := fun e => absurd ((HO.out.own g hsl).lt _ e.symm).2 (Nat.lt_irrefl _)
      have hbz : w.heap.size < wr.heap.size := HO.out.blt
      have HNX : Hid (upd (shaN (l.take k)) g (shaN (l.take k) g + 1) = shaN (l.take (k + 1)) ∧ upd (shaV (l.take k)) g (shaV (l.take k) g ++ [.string sp, .string sd]) = shaV (l.take (k + 1))) := Lib.hid (by
        have key : ∀ j : Nat, inL (bktB j) (l.take (k + 1)) = if j = g then inL (bktB j) (l.take k) ++ [⟨sp, sd⟩] else inL (bktB j) (l.take k) := fun j => by
          rw [HG.out j]
          by_cases e : j = g
          · rw [if_pos e, if_pos (by unfold bktB; rw [HSG.out, e]; simp)]
          · rw [if_neg e, if_neg (by unfold bktB; rw [HSG.out]; simp; omega), List.append_nil]
        constructor
        · funext j
          unfold upd shaN
          rw [key j]
          by_cases e : j = g
          · subst e; simp
          · simp [e]
        · funext j
          unfold upd shaV
          rw [key j]
          by_cases e : j = g
          · subst e; simp [leafc_app]; rfl
          · simp [e])
      have HLN : Hid (shaN (l.take k) g ≤ 1000) := Lib.hid (by
        have h1 := inL_len (bktB g) (l.take k)
        have h2 : (l.take k).length ≤ 1000 := by rw [List.length_take]; omega
        unfold shaN; omega)
      have HNE := Lib.hid hne; have HBZ := Lib.hid hbz
      clear c0 c1 hb1 hb2 hb3 hbel HO HX hne hbz hx0 HG HSG
      generalize wr.heap.size = z at hy0 hlx HNE HBZ
      have HZ := Lib.hid hlx; have HW := Lib.hid hwz; have HB4 := Lib.hid hb4
      clear hlx hwz hb4
      go_wp2_with fail
      have hx0 : w1.drew.rangeAt z 0 [.string sp, .string sd] := hy0
      have hv : w1.drew.cell? ⟨w.heap.size, g, none⟩ = some (vs g) := hv
      have HO1d := Lib.hid (HO1.out.below (Below.refl _ _).drew)
      have hAl : w1.drew.heap.size = w1.heap.size := rfl
      have HAL := Lib.hid hAl; clear hAl hy0 HO1
      have hg16 : (g : Int) < 64 := by omega
      refine wp_region_held_drew (S := (fun W => W.rangeAt z 0 [.string sp, .string sd])) (by kernel_rfl) hx0 (fun hHeld => ?_)
      refine wpAnyH_take (i := 0) (oi := _) (v := ?vq1) rfl (by kernel_rfl) (by kernel_rfl) (by kernel_rfl) (fun _ _ _ h => h) (Or.inl ⟨by rfl, ?hq1⟩) (by assumption) ?rq1
      case hq1 => (intro w hSw; go_simp; try with_reducible rfl)
      try dsimp only [Act.put, List.getElem_toArray, List.getElem_cons_zero, List.getElem_cons_succ]; try simp only [List.setIfInBounds_toArray, List.set_cons_zero, List.set_cons_succ]
      refine wpAnyH_take (i := 1) (oi := _) (v := ?vq2) rfl (by kernel_rfl) (by kernel_rfl) (by kernel_rfl) (fun _ _ _ h => h) (Or.inl ⟨by rfl, ?hq2⟩) (by assumption) ?rq2
      case hq2 => (intro w hSw; go_simp; try with_reducible rfl)
      try dsimp only [Act.put, List.getElem_toArray, List.getElem_cons_zero, List.getElem_cons_succ]; try simp only [List.setIfInBounds_toArray, List.set_cons_zero, List.set_cons_succ]
      refine wpAnyH_take (i := 2) (oi := _) (v := ?vq3) rfl (by kernel_rfl) (by kernel_rfl) (by kernel_rfl) (fun _ _ _ h => h) (Or.inl ⟨by rfl, ?hq3⟩) (by assumption) ?rq3
      case hq3 => (intro w hSw; go_simp; try with_reducible rfl)
      try dsimp only [Act.put, List.getElem_toArray, List.getElem_cons_zero, List.getElem_cons_succ]; try simp only [List.setIfInBounds_toArray, List.set_cons_zero, List.set_cons_succ]
      refine wpAnyH_take (i := 4) (oi := _) (v := _) rfl (by kernel_rfl) (by kernel_rfl) (by kernel_rfl) (fun _ _ _ h => h) (wp_load_arr (w := w1) (by rfl) _ rfl z 0 rfl #[.string sp, .string sd] (fun w hSw => hSw) row_leaf.d (by kernel_rfl)) (by assumption) ?_
      try dsimp only [Act.put, List.getElem_toArray, List.getElem_cons_zero, List.getElem_cons_succ]; try simp only [List.setIfInBounds_toArray, List.set_cons_zero, List.set_cons_succ]
      refine wpAnyH_ready (rs := [3, 5]) (by kernel_rfl) (by simp) ?_
      refine AllReadyH.cons (o := _) rfl (fun K hK => ?_) ?_
      · rw [if_pos (by rfl)]
        go_simp
        refine hK.out _ _ (by first | exact hy0 | exact hx0) (fun hHeld => ?_)
        clear hK K
        try dsimp only [Act.put, List.getElem_toArray, List.getElem_cons_zero, List.getElem_cons_succ]; try simp only [List.setIfInBounds_toArray, List.set_cons_zero, List.set_cons_succ]
        refine wpAnyH_ready (rs := [5]) (by kernel_rfl) (by simp) ?_
        refine AllReadyH.cons (o := _) rfl (fun K hK => ?_) ?_
        · rw [if_pos (by rfl)]
          go_simp
          have hA := (Below.refl w1.drew.heap.size w1.drew).alloc (Nat.le_refl _) (.cells #[.string sp, .string sd] 48)
          have hv : (w1.alloc (.cells #[.string sp, .string sd] 48)).drew.cell? ⟨w.heap.size, g, none⟩ = some (vs g) := cell_below hA hv
          have hy0 := rangeAt_below hx0 hA
          have HA := Lib.hid hA
          clear hA
          refine hK.out _ _ hy0 (fun hHeld => ?_)
          clear hK K
          try dsimp only [Act.put, List.getElem_toArray, List.getElem_cons_zero, List.getElem_cons_succ]; try simp only [List.setIfInBounds_toArray, List.set_cons_zero, List.set_cons_succ]
          refine wpAnyH_ready (rs := [6]) (by kernel_rfl) (by simp) ?_
          refine AllReadyH.cons (o := _) rfl (fun K hK => ?_) ?_
          · refine step_app el_leaf (by rfl) (.tmp 25) (.tmp 27) (by rfl) (w.heap.size + 1) (vs g) (shaN (l.take k) g) (shaV (l.take k) g) (by rfl) ((HO1d.out.below HA.out).own g hsl) (some ⟨w1.drew.heap.size, 0, none⟩) 1 1 [.string sp, .string sd] (by rfl) rfl (Rd.new w1.drew #[.string sp, .string sd] _) (by intro u hu; simp at hu; rcases hu with rfl | rfl <;> rfl) (by have := HLN.out; unfold maxLen; omega) (by have := HLN.out; omega) (by have := HBZ.out; have := HZ.out; have := HAL.out; simp; omega) ?_
            intro v2 w3 hown2 hbel2 hgrow2 hat2
            obtain ⟨A2, c2, rfl⟩ := own_form hown2
            have hzl : z < (w1.drew.alloc (.cells #[.string sp, .string sd] 48)).heap.size := by have := HZ.out; have := HAL.out; simp; omega
            have hy0 : w3.rangeAt z 0 [.string sp, .string sd] := fun j v hj => (World.cell?_of_block (a := ⟨z, 0 + j, none⟩) (hgrow2.block z hzl HNE.out)).trans (hy0 j v hj)
            have HAR := HO1d.out.below HA.out
            have hbk := hgrow2.block w.heap.size HAR.blt (fun e => by have := (HAR.own g hsl).lt _ e.symm; omega)
            have hv := (World.cell?_of_block (a := ⟨w.heap.size, g, none⟩) hbk).trans hv
            have hfr := (World.frozen?_of_block (a := ⟨w.heap.size, g, none⟩) hbk).trans (HAR.free g)
            have HFIN := Lib.hid (HAR.grow hsl hown2 hgrow2 hat2)
            have HBF := Lib.hid (((HB4.out.drew.alloc HW.out (.cells #[.string sp, .string sd] 48)).trans (hbel2.mono (Nat.le_succ _))).setCell (p := ⟨w.heap.size, g, none⟩) (Nat.le_refl _) (.slice A2 (shaN (l.take k) g + 1) c2))
            clear HAR hbk hown2 hbel2 hgrow2 hat2 hzl
            refine hK.out _ _ hy0 (fun hHeld => ?_)
            clear hK K
            try dsimp only [Act.put, List.getElem_toArray, List.getElem_cons_zero, List.getElem_cons_succ]; try simp only [List.setIfInBounds_toArray, List.set_cons_zero, List.set_cons_succ]
            refine wpAnyH_take (i := 7) (oi := _) (v := ?vq5) rfl (by kernel_rfl) (by kernel_rfl) (by kernel_rfl) (fun _ _ _ h => h) (Or.inl ⟨by rfl, ?hq5⟩) (by assumption) ?rq5
            case hq5 => (intro w hSw; go_simp; try with_reducible rfl)
            try dsimp only [Act.put, List.getElem_toArray, List.getElem_cons_zero, List.getElem_cons_succ]; try simp only [List.setIfInBounds_toArray, List.set_cons_zero, List.set_cons_succ]
            refine wpAnyH_ready (rs := [8]) (by kernel_rfl) (by simp) ?_
            refine AllReadyH.cons (o := _) rfl (fun K hK => ?_) ?_
            · rw [if_pos (by rfl)]
              go_simp
              have hz0 : (w3.setCell ⟨w.heap.size, g, none⟩ (.slice A2 (shaN (l.take k) g + 1) c2)).rangeAt z 0 [.string sp, .string sd] := fun j v hj => (World.cell?_of_block (a := ⟨z, 0 + j, none⟩) (Below.heap_setCell w3 ⟨w.heap.size, g, none⟩ (.slice A2 (shaN (l.take k) g + 1) c2) z (Nat.ne_of_gt HBZ.out))).trans (hy0 j v hj)
              refine hK.out _ _ hz0 (fun hHeld => ?_)
              clear hK K
              try dsimp only [Act.put, List.getElem_toArray, List.getElem_cons_zero, List.getElem_cons_succ]; try simp only [List.setIfInBounds_toArray, List.set_cons_zero, List.set_cons_succ]
              refine wpAnyH_done (by kernel_rfl) ?_ _
              go_wp2
              go_roundw
              case rel => exact ⟨k + 1, _, by omega, by go_num, Lib.hid (by have := HFIN.out; rwa [HNX.out.1, HNX.out.2] at this), HBF.out⟩
              case measure => simp [intOf]; omega
            exact AllReadyH.nil
          exact AllReadyH.nil
        exact AllReadyH.nil
      refine AllReadyH.cons (o := _) rfl (fun K hK => ?_) ?_
      · rw [if_pos (by rfl)]
        go_simp
        have hA := (Below.refl w1.drew.heap.size w1.drew).alloc (Nat.le_refl _) (.cells #[.string sp, .string sd] 48)
        have hv : (w1.alloc (.cells #[.string sp, .string sd] 48)).drew.cell? ⟨w.heap.size, g, none⟩ = some (vs g) := cell_below hA hv
        have hy0 := rangeAt_below hx0 hA
        have HA := Lib.hid hA
        clear hA
        refine hK.out _ _ hy0 (fun hHeld => ?_)
        clear hK K
        try dsimp only [Act.put, List.getElem_toArray, List.getElem_cons_zero, List.getElem_cons_succ]; try simp only [List.setIfInBounds_toArray, List.set_cons_zero, List.set_cons_succ]
        refine wpAnyH_ready (rs := [3]) (by kernel_rfl) (by simp) ?_
        refine AllReadyH.cons (o := _) rfl (fun K hK => ?_) ?_
        · rw [if_pos (by rfl)]
          go_simp
          refine hK.out _ _ (by first | exact hy0 | exact hx0) (fun hHeld => ?_)
          clear hK K
          try dsimp only [Act.put, List.getElem_toArray, List.getElem_cons_zero, List.getElem_cons_succ]; try simp only [List.setIfInBounds_toArray, List.set_cons_zero, List.set_cons_succ]
          refine wpAnyH_ready (rs := [6]) (by kernel_rfl) (by simp) ?_
          refine AllReadyH.cons (o := _) rfl (fun K hK => ?_) ?_
          · refine step_app el_leaf (by rfl) (.tmp 25) (.tmp 27) (by rfl) (w.heap.size + 1) (vs g) (shaN (l.take k) g) (shaV (l.take k) g) (by rfl) ((HO1d.out.below HA.out).own g hsl) (some ⟨w1.drew.heap.size, 0, none⟩) 1 1 [.string sp, .string sd] (by rfl) rfl (Rd.new w1.drew #[.string sp, .string sd] _) (by intro u hu; simp at hu; rcases hu with rfl | rfl <;> rfl) (by have := HLN.out; unfold maxLen; omega) (by have := HLN.out; omega) (by have := HBZ.out; have := HZ.out; have := HAL.out; simp; omega) ?_
            intro v2 w3 hown2 hbel2 hgrow2 hat2
            obtain ⟨A2, c2, rfl⟩ := own_form hown2
            have hzl : z < (w1.drew.alloc (.cells #[.string sp, .string sd] 48)).heap.size := by have := HZ.out; have := HAL.out; simp; omega
            have hy0 : w3.rangeAt z 0 [.string sp, .string sd] := fun j v hj => (World.cell?_of_block (a := ⟨z, 0 + j, none⟩) (hgrow2.block z hzl HNE.out)).trans (hy0 j v hj)
            have HAR := HO1d.out.below HA.out
            have hbk := hgrow2.block w.heap.size HAR.blt (fun e => by have := (HAR.own g hsl).lt _ e.symm; omega)
            have hv := (World.cell?_of_block (a := ⟨w.heap.size, g, none⟩) hbk).trans hv
            have hfr := (World.frozen?_of_block (a := ⟨w.heap.size, g, none⟩) hbk).trans (HAR.free g)
            have HFIN := Lib.hid (HAR.grow hsl hown2 hgrow2 hat2)
            have HBF := Lib.hid (((HB4.out.drew.alloc HW.out (.cells #[.string sp, .string sd] 48)).trans (hbel2.mono (Nat.le_succ _))).setCell (p := ⟨w.heap.size, g, none⟩) (Nat.le_refl _) (.slice A2 (shaN (l.take k) g + 1) c2))
            clear HAR hbk hown2 hbel2 hgrow2 hat2 hzl
            refine hK.out _ _ hy0 (fun hHeld => ?_)
            clear hK K
            try dsimp only [Act.put, List.getElem_toArray, List.getElem_cons_zero, List.getElem_cons_succ]; try simp only [List.setIfInBounds_toArray, List.set_cons_zero, List.set_cons_succ]
            refine wpAnyH_take (i := 7) (oi := _) (v := ?vq6) rfl (by kernel_rfl) (by kernel_rfl) (by kernel_rfl) (fun _ _ _ h => h) (Or.inl ⟨by rfl, ?hq6⟩) (by assumption) ?rq6
            case hq6 => (intro w hSw; go_simp; try with_reducible rfl)
            try dsimp only [Act.put, List.getElem_toArray, List.getElem_cons_zero, List.getElem_cons_succ]; try simp only [List.setIfInBounds_toArray, List.set_cons_zero, List.set_cons_succ]
            refine wpAnyH_ready (rs := [8]) (by kernel_rfl) (by simp) ?_
            refine AllReadyH.cons (o := _) rfl (fun K hK => ?_) ?_
            · rw [if_pos (by rfl)]
              go_simp
              have hz0 : (w3.setCell ⟨w.heap.size, g, none⟩ (.slice A2 (shaN (l.take k) g + 1) c2)).rangeAt z 0 [.string sp, .string sd] := fun j v hj => (World.cell?_of_block (a := ⟨z, 0 + j, none⟩) (Below.heap_setCell w3 ⟨w.heap.size, g, none⟩ (.slice A2 (shaN (l.take k) g + 1) c2) z (Nat.ne_of_gt HBZ.out))).trans (hy0 j v hj)
              refine hK.out _ _ hz0 (fun hHeld => ?_)
              clear hK K
              try dsimp only [Act.put, List.getElem_toArray, List.getElem_cons_zero, List.getElem_cons_succ]; try simp only [List.setIfInBounds_toArray, List.set_cons_zero, List.set_cons_succ]
              refine wpAnyH_done (by kernel_rfl) ?_ _
              go_wp2
              go_roundw
              case rel => exact ⟨k + 1, _, by omega, by go_num, Lib.hid (by have := HFIN.out; rwa [HNX.out.1, HNX.out.2] at this), HBF.out⟩
              case measure => simp [intOf]; omega
            exact AllReadyH.nil
          exact AllReadyH.nil
        exact AllReadyH.nil
      exact AllReadyH.nil
    · obtain rfl : k = n := by omega
      have hfull : l.take k = l := List.take_of_length_le (by rw [HN.out]; omega)
      rw [hfull] at HO
      have HFL := Lib.hid hbel
      clear hfull hbel hb0 HR0 HR hlt hk
      rename World => wz
      obtain ⟨cs, hblk, hcs, hcv⟩ := HO.out.blk
      have HI := Lib.hid (show (Try.prog.info? 74).map (·.size) = some cs.size by rw [hcs]; kernel_rfl)
      have hal := (Below.refl wz.heap.size wz).alloc (Nat.le_refl _) (.cells #[.slice none 0 0, .slice none 0 0, .slice none 0 0, .slice none 0 0, .slice none 0 0, .slice none 0 0, .slice none 0 0] 76)
      have HF := Lib.hid ((hal.block w.heap.size HO.out.blt).trans hblk)
      have HAL := Lib.hid hal
      have HCV := Lib.hid hcv
      clear hblk hcs hal hcv
      go_wp2_with (refine wpList_load_row (by rfl) 74 (.tmp 3) (by rfl) w.heap.size (by rfl) 74 cs (0, 0) _ HF.out Try.underlying74 rfl HI.out ?_)
      have HT0 : Hid (ArrT (wz.alloc (.cells #[.slice none 0 0, .slice none 0 0, .slice none 0 0, .slice none 0 0, .slice none 0 0, .slice none 0 0, .slice none 0 0] 76)) wz.heap.size (fun _ => .slice none 0 0) (gS l 6 0)) := Lib.hid (by rw [gS_none]; exact ArrS.nil wz 76 9 1 7)
      go_loopw [34] (fun i wy => ∃ (j : Nat) (ws : Nat → Value), j ≤ 64 ∧ i = .int .i64 j ∧ Hid (ArrT wy wz.heap.size ws (gS l 6 j)) ∧ Below wz.heap.size wz wy) (fun i _ => 64 - (intOf i).toNat)
      case atStart => exact ⟨0, _, Nat.zero_le _, rfl, HT0, HAL.out⟩
      case round =>
        obtain ⟨j, ws, hj, rfl, HT, hbel⟩ := hrel
        by_cases hlt : j < 64
        · have hown := HO.out.own j hlt
          obtain ⟨Aj, cj, hvj⟩ := own_form hown
          have HCJ := Lib.hid (HCV.out j hlt)
          rw [hvj] at hown HCJ
          have hix := fun W => ix_share cs j _ hlt HCJ.out W
          have HRJ := Lib.hid (Rd.below (Rd.of_own hown) (hbel.mono (Nat.le_refl _)))
          have HX := Lib.hid (fun W (h : Below wr.heap.size wr W) => leaf_any Aj (shaN l j) cj (inL (bktB j) l) W (HRJ.out.below h) rfl (by have := inL_len (bktB j) l; have := HN.out; unfold shaN; omega) (fun m hm => HOK.out m ((List.mem_filter.1 hm).1)))
          rw [share_hash] at HX
          have HG := Lib.hid (gS_succ l 6 j)
          have HLN : Hid ((gS l 6 j 6).length ≤ 64) := Lib.hid (by rw [gS_at, levK_len]; omega)
          generalize nodeL l (6 - 6) j = s at HX HG
          generalize shaN l j = nj at HX hix
          have hb : Below wr.heap.size wr wr.drew := (Below.refl _ _).drew
          have hv : wr.drew.cell? ⟨wz.heap.size, 6, none⟩ = some (ws 6) := ArrS.cell HT.out (by decide)
          have HBL := Lib.hid hbel
          have hj64 : (j : Int) < 64 := by omega
          clear hown hvj HCJ HRJ hbel
          go_wp2_with fail
          refine wp_region_held_drew (S := (fun _ => True)) (by kernel_rfl) trivial (fun hHeld => ?_)
          refine wpAnyH_take (i := 0) (oi := _) (v := ?vq7) rfl (by kernel_rfl) (by kernel_rfl) (by kernel_rfl) (fun _ _ _ h => h) (Or.inl ⟨by rfl, ?hq7⟩) (by assumption) ?rq7
          case hq7 => (intro w hSw; go_simp; try with_reducible rfl)
          try dsimp only [Act.put, List.getElem_toArray, List.getElem_cons_zero, List.getElem_cons_succ]; try simp only [List.setIfInBounds_toArray, List.set_cons_zero, List.set_cons_succ]
          refine wpAnyH_take (i := 1) (oi := _) (v := ?vq8) rfl (by kernel_rfl) (by kernel_rfl) (by kernel_rfl) (fun _ _ _ h => h) (Or.inl ⟨by rfl, ?hq8⟩) (by assumption) ?rq8
          case hq8 => (intro w hSw; go_simp; try with_reducible rfl)
          try dsimp only [Act.put, List.getElem_toArray, List.getElem_cons_zero, List.getElem_cons_succ]; try simp only [List.setIfInBounds_toArray, List.set_cons_zero, List.set_cons_succ]
          refine wpAnyH_take (i := 2) (oi := _) (v := ?vq9) rfl (by kernel_rfl) (by kernel_rfl) (by kernel_rfl) (fun _ _ _ h => h) (Or.inl ⟨by rfl, ?hq9⟩) (by assumption) ?rq9
          case hq9 => (intro w hSw; go_simp; try with_reducible rfl)
          try dsimp only [Act.put, List.getElem_toArray, List.getElem_cons_zero, List.getElem_cons_succ]; try simp only [List.setIfInBounds_toArray, List.set_cons_zero, List.set_cons_succ]
          refine wpAnyH_take (i := 3) (oi := _) (v := ?vq10) rfl (by kernel_rfl) (by kernel_rfl) (by kernel_rfl) (fun _ _ _ h => h) (Or.inl ⟨by rfl, ?hq10⟩) (by assumption) ?rq10
          case hq10 => (intro w hSw; go_simp; try with_reducible rfl)
          try dsimp only [Act.put, List.getElem_toArray, List.getElem_cons_zero, List.getElem_cons_succ]; try simp only [List.setIfInBounds_toArray, List.set_cons_zero, List.set_cons_succ]
          refine wpAnyH_take (i := 4) (oi := _) (v := ?vq11) rfl (by kernel_rfl) (by kernel_rfl) (by kernel_rfl) (fun _ _ _ h => h) (Or.inl ⟨by rfl, ?hq11⟩) (by assumption) ?rq11
          case hq11 => (intro w hSw; go_simp; try with_reducible rfl)
          try dsimp only [Act.put, List.getElem_toArray, List.getElem_cons_zero, List.getElem_cons_succ]; try simp only [List.setIfInBounds_toArray, List.set_cons_zero, List.set_cons_succ]
          refine wpAnyH_take (i := 6) (oi := _) (v := ?vq12) rfl (by kernel_rfl) (by kernel_rfl) (by kernel_rfl) (fun _ _ _ h => h) (Or.inl ⟨by rfl, ?hq12⟩) (by assumption) ?rq12
          case hq12 => (intro w hSw; go_simp; try with_reducible rfl)
          try dsimp only [Act.put, List.getElem_toArray, List.getElem_cons_zero, List.getElem_cons_succ]; try simp only [List.setIfInBounds_toArray, List.set_cons_zero, List.set_cons_succ]
          refine wpAnyH_take (i := 10) (oi := _) (v := ?vq13) rfl (by kernel_rfl) (by kernel_rfl) (by kernel_rfl) (fun _ _ _ h => h) (Or.inl ⟨by rfl, ?hq13⟩) (by assumption) ?rq13
          case hq13 => (intro w hSw; go_simp; try with_reducible rfl)
          try dsimp only [Act.put, List.getElem_toArray, List.getElem_cons_zero, List.getElem_cons_succ]; try simp only [List.setIfInBounds_toArray, List.set_cons_zero, List.set_cons_succ]
          refine wpAnyH_take (i := 11) (oi := _) (v := ?vq14) rfl (by kernel_rfl) (by kernel_rfl) (by kernel_rfl) (fun _ _ _ h => h) (Or.inl ⟨by rfl, ?hq14⟩) (by assumption) ?rq14
          case hq14 => (intro w hSw; go_simp; try with_reducible rfl)
          try dsimp only [Act.put, List.getElem_toArray, List.getElem_cons_zero, List.getElem_cons_succ]; try simp only [List.setIfInBounds_toArray, List.set_cons_zero, List.set_cons_succ]
          refine wpAnyH_ready (rs := [5, 7]) (by kernel_rfl) (by simp) ?_
          refine AllReadyH.cons (o := _) rfl (fun K hK => ?_) ?_
          · rw [if_pos (by rfl)]
            go_simp
            refine hK.out _ _ trivial (fun hHeld => ?_)
            clear hK K
            try dsimp only [Act.put, List.getElem_toArray, List.getElem_cons_zero, List.getElem_cons_succ]; try simp only [List.setIfInBounds_toArray, List.set_cons_zero, List.set_cons_succ]
            refine wpAnyH_ready (rs := [7]) (by kernel_rfl) (by simp) ?_
            refine AllReadyH.cons (o := _) rfl (fun K hK => ?_) ?_
            · rw [if_pos (by rfl)]
              go_simp
              refine (HX.out _ hb).mono ?_
              rintro e wx ⟨rfl, hbx⟩
              have hv := cell_below hbx hv
              have hb := then_ hb hbx
              clear hbx
              go_wp2_with fail
              refine hK.out _ _ trivial (fun hHeld => ?_)
              clear hK K
              try dsimp only [Act.put, List.getElem_toArray, List.getElem_cons_zero, List.getElem_cons_succ]; try simp only [List.setIfInBounds_toArray, List.set_cons_zero, List.set_cons_succ]
              refine wpAnyH_ready (rs := [8]) (by kernel_rfl) (by simp) ?_
              refine AllReadyH.cons (o := _) rfl (fun K hK => ?_) ?_
              · rw [if_pos (by rfl)]
                go_simp
                have hA := (Below.refl wx.heap.size wx).alloc (Nat.le_refl _) (.cells #[.string s] 9)
                have hv := cell_below hA hv
                have hb := then_ hb hA
                clear hA
                refine hK.out _ _ trivial (fun hHeld => ?_)
                clear hK K
                try dsimp only [Act.put, List.getElem_toArray, List.getElem_cons_zero, List.getElem_cons_succ]; try simp only [List.setIfInBounds_toArray, List.set_cons_zero, List.set_cons_succ]
                refine wpAnyH_ready (rs := [9]) (by kernel_rfl) (by simp) ?_
                refine AllReadyH.cons (o := _) rfl (fun K hK => ?_) ?_
                · have HA := Lib.hid (HT.out.below hb)
                  refine step_app elStr (by rfl) (.tmp 42) (.tmp 45) (by rfl) (wz.heap.size + 1) (ws 6) (gS l 6 j 6).length ((gS l 6 j 6).map Value.string) (by rfl) (by exact ArrS.own HA.out 6 (by decide)) (some ⟨wx.heap.size, 0, none⟩) 1 1 [.string s] (by rfl) rfl (Rd.new wx #[.string s] _) (by intro u hu; simp at hu; subst hu; rfl) (by have := HLN.out; unfold maxLen; omega) (by have := HLN.out; omega) (by have := ArrS.blt HA.out; omega) ?_
                  intro v2 w3 hown2 hbel2 hgrow2 hat2
                  obtain ⟨A2, c2, rfl⟩ := own_form hown2
                  have hbk := hgrow2.block wz.heap.size (ArrS.blt HA.out) (fun e => by have := ((ArrS.own HA.out 6 (by decide)).lt _ e.symm).1; omega)
                  have hv := (World.cell?_of_block (a := ⟨wz.heap.size, 6, none⟩) hbk).trans hv
                  have hfr := (World.frozen?_of_block (a := ⟨wz.heap.size, 6, none⟩) hbk).trans (ArrS.free HA.out 6)
                  have HFIN := Lib.hid (ArrT.grow HA.out (k := 6) (by decide) hown2 hgrow2 hat2)
                  have HBF := Lib.hid (((then_ HBL.out hb).trans (hbel2.mono (Nat.le_succ _))).setCell (p := ⟨wz.heap.size, 6, none⟩) (Nat.le_refl _) (.slice A2 ((gS l 6 j 6).length + 1) c2))
                  clear hbk hown2 hbel2 hgrow2 hat2
                  refine hK.out _ _ trivial (fun hHeld => ?_)
                  clear hK K
                  try dsimp only [Act.put, List.getElem_toArray, List.getElem_cons_zero, List.getElem_cons_succ]; try simp only [List.setIfInBounds_toArray, List.set_cons_zero, List.set_cons_succ]
                  refine wpAnyH_take (i := 12) (oi := _) (v := ?vq15) rfl (by kernel_rfl) (by kernel_rfl) (by kernel_rfl) (fun _ _ _ h => h) (Or.inl ⟨by rfl, ?hq15⟩) (by assumption) ?rq15
                  case hq15 => (intro w hSw; go_simp; try with_reducible rfl)
                  try dsimp only [Act.put, List.getElem_toArray, List.getElem_cons_zero, List.getElem_cons_succ]; try simp only [List.setIfInBounds_toArray, List.set_cons_zero, List.set_cons_succ]
                  refine wpAnyH_ready (rs := [13]) (by kernel_rfl) (by simp) ?_
                  refine AllReadyH.cons (o := _) rfl (fun K hK => ?_) ?_
                  · rw [if_pos (by rfl)]
                    go_simp
                    refine hK.out _ _ trivial (fun hHeld => ?_)
                    clear hK K
                    try dsimp only [Act.put, List.getElem_toArray, List.getElem_cons_zero, List.getElem_cons_succ]; try simp only [List.setIfInBounds_toArray, List.set_cons_zero, List.set_cons_succ]
                    refine wpAnyH_done (by kernel_rfl) ?_ _
                    go_wp2
                    go_roundw
                    case rel => exact ⟨j + 1, _, by omega, by go_num, Lib.hid (by have := HFIN.out; rwa [HG.out] at this), HBF.out⟩
                    case measure => simp [intOf]; omega
                  exact AllReadyH.nil
                exact AllReadyH.nil
              exact AllReadyH.nil
            exact AllReadyH.nil
          refine AllReadyH.cons (o := _) rfl (fun K hK => ?_) ?_
          · rw [if_pos (by rfl)]
            go_simp
            refine (HX.out _ hb).mono ?_
            rintro e wx ⟨rfl, hbx⟩
            have hv := cell_below hbx hv
            have hb := then_ hb hbx
            clear hbx
            go_wp2_with fail
            refine hK.out _ _ trivial (fun hHeld => ?_)
            clear hK K
            try dsimp only [Act.put, List.getElem_toArray, List.getElem_cons_zero, List.getElem_cons_succ]; try simp only [List.setIfInBounds_toArray, List.set_cons_zero, List.set_cons_succ]
            refine wpAnyH_ready (rs := [5, 8]) (by kernel_rfl) (by simp) ?_
            refine AllReadyH.cons (o := _) rfl (fun K hK => ?_) ?_
            · rw [if_pos (by rfl)]
              go_simp
              refine hK.out _ _ trivial (fun hHeld => ?_)
              clear hK K
              try dsimp only [Act.put, List.getElem_toArray, List.getElem_cons_zero, List.getElem_cons_succ]; try simp only [List.setIfInBounds_toArray, List.set_cons_zero, List.set_cons_succ]
              refine wpAnyH_ready (rs := [8]) (by kernel_rfl) (by simp) ?_
              refine AllReadyH.cons (o := _) rfl (fun K hK => ?_) ?_
              · rw [if_pos (by rfl)]
                go_simp
                have hA := (Below.refl wx.heap.size wx).alloc (Nat.le_refl _) (.cells #[.string s] 9)
                have hv := cell_below hA hv
                have hb := then_ hb hA
                clear hA
                refine hK.out _ _ trivial (fun hHeld => ?_)
                clear hK K
                try dsimp only [Act.put, List.getElem_toArray, List.getElem_cons_zero, List.getElem_cons_succ]; try simp only [List.setIfInBounds_toArray, List.set_cons_zero, List.set_cons_succ]
                refine wpAnyH_ready (rs := [9]) (by kernel_rfl) (by simp) ?_
                refine AllReadyH.cons (o := _) rfl (fun K hK => ?_) ?_
                · have HA := Lib.hid (HT.out.below hb)
                  refine step_app elStr (by rfl) (.tmp 42) (.tmp 45) (by rfl) (wz.heap.size + 1) (ws 6) (gS l 6 j 6).length ((gS l 6 j 6).map Value.string) (by rfl) (by exact ArrS.own HA.out 6 (by decide)) (some ⟨wx.heap.size, 0, none⟩) 1 1 [.string s] (by rfl) rfl (Rd.new wx #[.string s] _) (by intro u hu; simp at hu; subst hu; rfl) (by have := HLN.out; unfold maxLen; omega) (by have := HLN.out; omega) (by have := ArrS.blt HA.out; omega) ?_
                  intro v2 w3 hown2 hbel2 hgrow2 hat2
                  obtain ⟨A2, c2, rfl⟩ := own_form hown2
                  have hbk := hgrow2.block wz.heap.size (ArrS.blt HA.out) (fun e => by have := ((ArrS.own HA.out 6 (by decide)).lt _ e.symm).1; omega)
                  have hv := (World.cell?_of_block (a := ⟨wz.heap.size, 6, none⟩) hbk).trans hv
                  have hfr := (World.frozen?_of_block (a := ⟨wz.heap.size, 6, none⟩) hbk).trans (ArrS.free HA.out 6)
                  have HFIN := Lib.hid (ArrT.grow HA.out (k := 6) (by decide) hown2 hgrow2 hat2)
                  have HBF := Lib.hid (((then_ HBL.out hb).trans (hbel2.mono (Nat.le_succ _))).setCell (p := ⟨wz.heap.size, 6, none⟩) (Nat.le_refl _) (.slice A2 ((gS l 6 j 6).length + 1) c2))
                  clear hbk hown2 hbel2 hgrow2 hat2
                  refine hK.out _ _ trivial (fun hHeld => ?_)
                  clear hK K
                  try dsimp only [Act.put, List.getElem_toArray, List.getElem_cons_zero, List.getElem_cons_succ]; try simp only [List.setIfInBounds_toArray, List.set_cons_zero, List.set_cons_succ]
                  refine wpAnyH_take (i := 12) (oi := _) (v := ?vq16) rfl (by kernel_rfl) (by kernel_rfl) (by kernel_rfl) (fun _ _ _ h => h) (Or.inl ⟨by rfl, ?hq16⟩) (by assumption) ?rq16
                  case hq16 => (intro w hSw; go_simp; try with_reducible rfl)
                  try dsimp only [Act.put, List.getElem_toArray, List.getElem_cons_zero, List.getElem_cons_succ]; try simp only [List.setIfInBounds_toArray, List.set_cons_zero, List.set_cons_succ]
                  refine wpAnyH_ready (rs := [13]) (by kernel_rfl) (by simp) ?_
                  refine AllReadyH.cons (o := _) rfl (fun K hK => ?_) ?_
                  · rw [if_pos (by rfl)]
                    go_simp
                    refine hK.out _ _ trivial (fun hHeld => ?_)
                    clear hK K
                    try dsimp only [Act.put, List.getElem_toArray, List.getElem_cons_zero, List.getElem_cons_succ]; try simp only [List.setIfInBounds_toArray, List.set_cons_zero, List.set_cons_succ]
                    refine wpAnyH_done (by kernel_rfl) ?_ _
                    go_wp2
                    go_roundw
                    case rel => exact ⟨j + 1, _, by omega, by go_num, Lib.hid (by have := HFIN.out; rwa [HG.out] at this), HBF.out⟩
                    case measure => simp [intOf]; omega
                  exact AllReadyH.nil
                exact AllReadyH.nil
              exact AllReadyH.nil
            refine AllReadyH.cons (o := _) rfl (fun K hK => ?_) ?_
            · rw [if_pos (by rfl)]
              go_simp
              have hA := (Below.refl wx.heap.size wx).alloc (Nat.le_refl _) (.cells #[.string s] 9)
              have hv := cell_below hA hv
              have hb := then_ hb hA
              clear hA
              refine hK.out _ _ trivial (fun hHeld => ?_)
              clear hK K
              try dsimp only [Act.put, List.getElem_toArray, List.getElem_cons_zero, List.getElem_cons_succ]; try simp only [List.setIfInBounds_toArray, List.set_cons_zero, List.set_cons_succ]
              refine wpAnyH_ready (rs := [5]) (by kernel_rfl) (by simp) ?_
              refine AllReadyH.cons (o := _) rfl (fun K hK => ?_) ?_
              · rw [if_pos (by rfl)]
                go_simp
                refine hK.out _ _ trivial (fun hHeld => ?_)
                clear hK K
                try dsimp only [Act.put, List.getElem_toArray, List.getElem_cons_zero, List.getElem_cons_succ]; try simp only [List.setIfInBounds_toArray, List.set_cons_zero, List.set_cons_succ]
                refine wpAnyH_ready (rs := [9]) (by kernel_rfl) (by simp) ?_
                refine AllReadyH.cons (o := _) rfl (fun K hK => ?_) ?_
                · have HA := Lib.hid (HT.out.below hb)
                  refine step_app elStr (by rfl) (.tmp 42) (.tmp 45) (by rfl) (wz.heap.size + 1) (ws 6) (gS l 6 j 6).length ((gS l 6 j 6).map Value.string) (by rfl) (by exact ArrS.own HA.out 6 (by decide)) (some ⟨wx.heap.size, 0, none⟩) 1 1 [.string s] (by rfl) rfl (Rd.new wx #[.string s] _) (by intro u hu; simp at hu; subst hu; rfl) (by have := HLN.out; unfold maxLen; omega) (by have := HLN.out; omega) (by have := ArrS.blt HA.out; omega) ?_
                  intro v2 w3 hown2 hbel2 hgrow2 hat2
                  obtain ⟨A2, c2, rfl⟩ := own_form hown2
                  have hbk := hgrow2.block wz.heap.size (ArrS.blt HA.out) (fun e => by have := ((ArrS.own HA.out 6 (by decide)).lt _ e.symm).1; omega)
                  have hv := (World.cell?_of_block (a := ⟨wz.heap.size, 6, none⟩) hbk).trans hv
                  have hfr := (World.frozen?_of_block (a := ⟨wz.heap.size, 6, none⟩) hbk).trans (ArrS.free HA.out 6)
                  have HFIN := Lib.hid (ArrT.grow HA.out (k := 6) (by decide) hown2 hgrow2 hat2)
                  have HBF := Lib.hid (((then_ HBL.out hb).trans (hbel2.mono (Nat.le_succ _))).setCell (p := ⟨wz.heap.size, 6, none⟩) (Nat.le_refl _) (.slice A2 ((gS l 6 j 6).length + 1) c2))
                  clear hbk hown2 hbel2 hgrow2 hat2
                  refine hK.out _ _ trivial (fun hHeld => ?_)
                  clear hK K
                  try dsimp only [Act.put, List.getElem_toArray, List.getElem_cons_zero, List.getElem_cons_succ]; try simp only [List.setIfInBounds_toArray, List.set_cons_zero, List.set_cons_succ]
                  refine wpAnyH_take (i := 12) (oi := _) (v := ?vq17) rfl (by kernel_rfl) (by kernel_rfl) (by kernel_rfl) (fun _ _ _ h => h) (Or.inl ⟨by rfl, ?hq17⟩) (by assumption) ?rq17
                  case hq17 => (intro w hSw; go_simp; try with_reducible rfl)
                  try dsimp only [Act.put, List.getElem_toArray, List.getElem_cons_zero, List.getElem_cons_succ]; try simp only [List.setIfInBounds_toArray, List.set_cons_zero, List.set_cons_succ]
                  refine wpAnyH_ready (rs := [13]) (by kernel_rfl) (by simp) ?_
                  refine AllReadyH.cons (o := _) rfl (fun K hK => ?_) ?_
                  · rw [if_pos (by rfl)]
                    go_simp
                    refine hK.out _ _ trivial (fun hHeld => ?_)
                    clear hK K
                    try dsimp only [Act.put, List.getElem_toArray, List.getElem_cons_zero, List.getElem_cons_succ]; try simp only [List.setIfInBounds_toArray, List.set_cons_zero, List.set_cons_succ]
                    refine wpAnyH_done (by kernel_rfl) ?_ _
                    go_wp2
                    go_roundw
                    case rel => exact ⟨j + 1, _, by omega, by go_num, Lib.hid (by have := HFIN.out; rwa [HG.out] at this), HBF.out⟩
                    case measure => simp [intOf]; omega
                  exact AllReadyH.nil
                exact AllReadyH.nil
              exact AllReadyH.nil
            exact AllReadyH.nil
          exact AllReadyH.nil
        · have hjj : j = 64 := by omega
          have HTX : Hid (ArrT wr wz.heap.size ws (gS l 6 64)) := Lib.hid (by rw [← hjj]; exact HT.out)
          have hj1 : (64 : Int) ≤ (j : Int) := by omega
          clear hjj HT
          have HQ0 := Lib.hid hbel
          have HTB := Lib.hid HFL.out.size
          clear hbel hlt HT0 HAL HF HI HCV HO
          rename World => wq
          go_wp2
          go_loopw [10] (fun i wy => ∃ (m : Nat) (z : Int) (ws : Nat → Value), m ≤ 6 ∧ i = .int .i64 z ∧ z + 1 = m ∧ Hid (ArrT wy wz.heap.size ws (gS l m (2 ^ m))) ∧ Below wz.heap.size wz wy) (fun i _ => (intOf i + 1).toNat)
          case atStart => exact ⟨6, 5, ws, Nat.le_refl _, rfl, rfl, HTX, HQ0.out⟩
          case round =>
            obtain ⟨m, z, ws, hm6, rfl, hz, HT, hbel⟩ := hrel
            rcases Nat.eq_zero_or_pos m with hm0 | hmp
            · subst hm0
              have hz0 : z = -1 := by omega
              subst hz0
              have HRES := Lib.hid (show BuildR l w (.returned (.pointer (some ⟨wz.heap.size, 0, none⟩))) wr from ⟨wz.heap.size, rfl, ⟨ws, HT.out⟩, HFL.out.trans (hbel.mono HFL.out.size)⟩)
              go_wp2
              go_ret
              exact HRES.out
            obtain ⟨p, rfl⟩ : ∃ p, m = p + 1 := ⟨m - 1, by omega⟩
            obtain rfl : z = (p : Int) := by omega
            have hp6 : p < 6 := by omega
            obtain ⟨q, hq, hq2, hq1, hq32⟩ := two_pow p hp6
            obtain ⟨q2, hqq⟩ : ∃ q2, q2 = 2 * q := ⟨_, rfl⟩
            rw [← hqq] at hq2
            have HQQ := Lib.hid hqq
            have hown := ArrS.own HT.out (p + 1) (by omega)
            have hc := ArrS.cell HT.out (j := p + 1) (by omega)
            have hlen : (gS l (p + 1) (2 ^ (p + 1)) (p + 1)).length = q2 := by rw [gS_at, levK_len, hq2]
            rw [hlen] at hown
            obtain ⟨Am, cm, hvm⟩ := own_form hown
            rw [hvm] at hc
            have HT0 := Lib.hid HT.out
            rw [gS_next l p hp6] at HT0
            have HV := Lib.hid hvm
            have HQB := Lib.hid hbel
            have hi1 : (0 : Int) ≤ (p : Int) + 1 := by omega
            have hi2 : (p : Int) + 1 < 7 := by omega
            have hpz : (0 : Int) ≤ (p : Int) := by omega
            have HQ := Lib.hid hq; have HQ2 := Lib.hid hq2
            clear hown hlen hvm HT hz hbel hq hq2 hqq
            rename World => wv
            go_wp2
            go_loopw [12] (fun i wy => ∃ (h e : Nat) (us : Nat → Value), h ≤ q ∧ i = .int .i64 (e : Int) ∧ Hid (e = 2 * h) ∧ us (p + 1) = .slice Am q2 cm ∧ Hid (ArrT wy wz.heap.size us (gS l p h)) ∧ Below wz.heap.size wz wy) (fun i _ => q2 - (intOf i).toNat)
            case atStart => exact ⟨0, 0, ws, Nat.zero_le _, rfl, Lib.hid rfl, HV.out, HT0, HQB.out⟩
            case round =>
              obtain ⟨h, e, us, hh, rfl, HE, hum, HT, hbel⟩ := hrel
              have hown := ArrS.own HT.out (p + 1) (by omega)
              rw [gS_above l h (Nat.lt_succ_self p) (by omega), hum] at hown
              by_cases hlt : h < q
              · have hrd : Rd wr Am ((levL l (p + 1)).map Value.string) := by
                  have : (levL l (p + 1)).length = q2 := by unfold levL; rw [levK_len, HQ2.out]
                  rw [this] at hown
                  exact Rd.of_own hown
                have hl1 : (List.map Value.string (levL l (p + 1)))[e]? = some (.string (nodeL l (6 - (p + 1)) e)) := by rw [List.getElem?_map]; unfold levL; rw [levK_at l (p + 1) (by rw [HQ2.out, HQQ.out]; have := HE.out; omega)]; rfl
                have hl2 : (List.map Value.string (levL l (p + 1)))[e + 1]? = some (.string (nodeL l (6 - (p + 1)) (e + 1))) := by rw [List.getElem?_map]; unfold levL; rw [levK_at l (p + 1) (by rw [HQ2.out, HQQ.out]; have := HE.out; omega)]; rfl
                obtain ⟨b, off, rfl, hc1⟩ := hrd e _ hl1
                have hc2 := rd_cell hrd hl2
                have HKC : Hid (∀ W : World, W.ownsRow (wz.heap.size + 1) 9 1 (us (p + 1)) (gS l p h (p + 1)).length ((gS l p h (p + 1)).map Value.string) → W.cell? ⟨b, off + e, none⟩ = some (.string (nodeL l (6 - (p + 1)) e)) ∧ W.cell? ⟨b, off + (e + 1), none⟩ = some (.string (nodeL l (6 - (p + 1)) (e + 1)))) := Lib.hid (fun W hW => by
                  rw [gS_above l h (Nat.lt_succ_self p) (by omega), hum] at hW
                  have e1 : (levL l (p + 1)).length = q2 := by unfold levL; rw [levK_len, HQ2.out]
                  rw [e1] at hW
                  have hW2 := Rd.of_own hW
                  exact ⟨rd_cell hW2 hl1, rd_cell hW2 hl2⟩)
                have HG := Lib.hid (gS_succ l p h)
                rw [show 6 - p = 6 - (p + 1) + 1 by omega, nodeL_succ, ← HE.out] at HG
                have hz1 := nodeL_size l (6 - (p + 1)) e; have hz2 := nodeL_size l (6 - (p + 1)) (e + 1)
                generalize nodeL l (6 - (p + 1)) e = s at hz1 hc1 HG HKC
                generalize nodeL l (6 - (p + 1)) (e + 1) = t at hz2 hc2 HG HKC
                have HX := Lib.hid (fun W => both_any s t W (by omega))
                generalize hashT [s, t] = st at HX HG
                have HLN : Hid ((gS l p h p).length ≤ 64) := Lib.hid (by rw [gS_at, levK_len]; omega)
                have hc1 : wr.drew.cell? ⟨b, off + e, none⟩ = some (.string s) := hc1
                have hc2 : wr.drew.cell? ⟨b, off + (e + 1), none⟩ = some (.string t) := hc2
                have hb : Below wr.heap.size wr wr.drew := (Below.refl _ _).drew
                have hv : wr.drew.cell? ⟨wz.heap.size, p, none⟩ = some (us p) := ArrS.cell HT.out (by omega)
                have HBL := Lib.hid hbel
                have hh1 : (e : Int) < (q2 : Int) := by have := HE.out; have := HQQ.out; omega
                have hh2 : (e : Int) + 1 < (q2 : Int) := by have := HE.out; have := HQQ.out; omega
                have hpz7 : (p : Int) < 7 := by omega
                have hem : e < 64 := by have := HE.out; omega
                have hez : (0 : Int) ≤ (e : Int) + 1 := by omega
                have hwr : IntKind.i64.wrap ((e : Int) + 1) = (e : Int) + 1 := IntWalk.i64_in _ (by omega)
                have htn : ((e : Int) + 1).toNat = e + 1 := by omega
                have HUM := Lib.hid hum
                clear hown hrd hl1 hl2 hz1 hz2 hbel hum
                go_wp2_with fail
                refine wp_region_held_drew (S := (fun W => W.cell? ⟨b, off + e, none⟩ = some (.string s) ∧ W.cell? ⟨b, off + (e + 1), none⟩ = some (.string t))) (by kernel_rfl) ⟨hc1, hc2⟩ (fun hHeld => ?_)
                refine wpAnyH_take (i := 0) (oi := _) (v := ?vq18) rfl (by kernel_rfl) (by kernel_rfl) (by kernel_rfl) (fun _ _ _ h => h) (Or.inl ⟨by rfl, ?hq18⟩) (by assumption) ?rq18
                case hq18 => (intro w hSw; go_simp; try with_reducible rfl)
                try dsimp only [Act.put, List.getElem_toArray, List.getElem_cons_zero, List.getElem_cons_succ]; try simp only [List.setIfInBounds_toArray, List.set_cons_zero, List.set_cons_succ]
                refine wpAnyH_take (i := 1) (oi := _) (v := ?vq19) rfl (by kernel_rfl) (by kernel_rfl) (by kernel_rfl) (fun _ _ _ h => h) (Or.inl ⟨by rfl, ?hq19⟩) (by assumption) ?rq19
                case hq19 => (intro w hSw; go_simp; try with_reducible rfl)
                try dsimp only [Act.put, List.getElem_toArray, List.getElem_cons_zero, List.getElem_cons_succ]; try simp only [List.setIfInBounds_toArray, List.set_cons_zero, List.set_cons_succ]
                refine wpAnyH_take (i := 2) (oi := _) (v := ?vq20) rfl (by kernel_rfl) (by kernel_rfl) (by kernel_rfl) (fun _ _ _ h => h) (Or.inl ⟨by rfl, ?hq20⟩) (by assumption) ?rq20
                case hq20 => (intro w hSw; go_simp; try with_reducible rfl)
                try dsimp only [Act.put, List.getElem_toArray, List.getElem_cons_zero, List.getElem_cons_succ]; try simp only [List.setIfInBounds_toArray, List.set_cons_zero, List.set_cons_succ]
                refine wpAnyH_take (i := 3) (oi := _) (v := ?vq21) rfl (by kernel_rfl) (by kernel_rfl) (by kernel_rfl) (fun _ _ _ h => h) (Or.inl ⟨by rfl, ?hq21⟩) (by assumption) ?rq21
                case hq21 => (intro w hSw; go_simp; try with_reducible rfl)
                try dsimp only [Act.put, List.getElem_toArray, List.getElem_cons_zero, List.getElem_cons_succ]; try simp only [List.setIfInBounds_toArray, List.set_cons_zero, List.set_cons_succ]
                refine wpAnyH_take (i := 4) (oi := _) (v := ?vq22) rfl (by kernel_rfl) (by kernel_rfl) (by kernel_rfl) (fun _ _ _ h => h) (Or.inl ⟨by rfl, ?hq22⟩) (by assumption) ?rq22
                case hq22 => (intro w hSw; go_simp; try with_reducible rfl)
                try dsimp only [Act.put, List.getElem_toArray, List.getElem_cons_zero, List.getElem_cons_succ]; try simp only [List.setIfInBounds_toArray, List.set_cons_zero, List.set_cons_succ]
                refine wpAnyH_take (i := 5) (oi := _) (v := ?vq23) rfl (by kernel_rfl) (by kernel_rfl) (by kernel_rfl) (fun _ _ _ h => h) (Or.inl ⟨by rfl, ?hq23⟩) (by assumption) ?rq23
                case hq23 => (intro w hSw; go_simp; try with_reducible rfl)
                try dsimp only [Act.put, List.getElem_toArray, List.getElem_cons_zero, List.getElem_cons_succ]; try simp only [List.setIfInBounds_toArray, List.set_cons_zero, List.set_cons_succ]
                refine wpAnyH_take (i := 6) (oi := _) (v := ?vq24) rfl (by kernel_rfl) (by kernel_rfl) (by kernel_rfl) (fun _ _ _ h => h) (Or.inl ⟨by rfl, ?hq24⟩) (by assumption) ?rq24
                case hq24 => (intro w hSw; go_simp; try with_reducible rfl)
                try dsimp only [Act.put, List.getElem_toArray, List.getElem_cons_zero, List.getElem_cons_succ]; try simp only [List.setIfInBounds_toArray, List.set_cons_zero, List.set_cons_succ]
                refine wpAnyH_take (i := 8) (oi := _) (v := ?vq25) rfl (by kernel_rfl) (by kernel_rfl) (by kernel_rfl) (fun _ _ _ h => h) (Or.inl ⟨by rfl, ?hq25⟩) (by assumption) ?rq25
                case hq25 => (intro w hSw; go_simp; try with_reducible rfl)
                try dsimp only [Act.put, List.getElem_toArray, List.getElem_cons_zero, List.getElem_cons_succ]; try simp only [List.setIfInBounds_toArray, List.set_cons_zero, List.set_cons_succ]
                refine wpAnyH_take (i := 9) (oi := _) (v := ?vq26) rfl (by kernel_rfl) (by kernel_rfl) (by kernel_rfl) (fun _ _ _ h => h) (Or.inl ⟨by rfl, ?hq26⟩) (by assumption) ?rq26
                case hq26 => (intro w hSw; go_simp; try with_reducible rfl)
                try dsimp only [Act.put, List.getElem_toArray, List.getElem_cons_zero, List.getElem_cons_succ]; try simp only [List.setIfInBounds_toArray, List.set_cons_zero, List.set_cons_succ]
                refine wpAnyH_take (i := 10) (oi := _) (v := ?vq27) rfl (by kernel_rfl) (by kernel_rfl) (by kernel_rfl) (fun _ _ _ h => h) (Or.inl ⟨by rfl, ?hq27⟩) (by assumption) ?rq27
                case hq27 => (intro w hSw; go_simp; try with_reducible rfl)
                try dsimp only [Act.put, List.getElem_toArray, List.getElem_cons_zero, List.getElem_cons_succ]; try simp only [List.setIfInBounds_toArray, List.set_cons_zero, List.set_cons_succ]
                refine wpAnyH_take (i := 11) (oi := _) (v := ?vq28) rfl (by kernel_rfl) (by kernel_rfl) (by kernel_rfl) (fun _ _ _ h => h) (Or.inl ⟨by rfl, ?hq28⟩) (by assumption) ?rq28
                case hq28 => (intro w hSw; go_simp; try with_reducible rfl)
                try dsimp only [Act.put, List.getElem_toArray, List.getElem_cons_zero, List.getElem_cons_succ]; try simp only [List.setIfInBounds_toArray, List.set_cons_zero, List.set_cons_succ]
                refine wpAnyH_take (i := 12) (oi := _) (v := ?vq29) rfl (by kernel_rfl) (by kernel_rfl) (by kernel_rfl) (fun _ _ _ h => h) (Or.inl ⟨by rfl, ?hq29⟩) (by assumption) ?rq29
                case hq29 => (intro w hSw; go_simp; try with_reducible rfl)
                try dsimp only [Act.put, List.getElem_toArray, List.getElem_cons_zero, List.getElem_cons_succ]; try simp only [List.setIfInBounds_toArray, List.set_cons_zero, List.set_cons_succ]
                refine wpAnyH_take (i := 13) (oi := _) (v := ?vq30) rfl (by kernel_rfl) (by kernel_rfl) (by kernel_rfl) (fun _ _ _ h => h) (Or.inl ⟨by rfl, ?hq30⟩) (by assumption) ?rq30
                case hq30 => (intro w hSw; go_simp; try with_reducible rfl)
                try dsimp only [Act.put, List.getElem_toArray, List.getElem_cons_zero, List.getElem_cons_succ]; try simp only [List.setIfInBounds_toArray, List.set_cons_zero, List.set_cons_succ]
                refine wpAnyH_take (i := 14) (oi := _) (v := ?vq31) rfl (by kernel_rfl) (by kernel_rfl) (by kernel_rfl) (fun _ _ _ h => h) (Or.inl ⟨by rfl, ?hq31⟩) (by assumption) ?rq31
                case hq31 => (intro w hSw; go_simp; try with_reducible rfl)
                try dsimp only [Act.put, List.getElem_toArray, List.getElem_cons_zero, List.getElem_cons_succ]; try simp only [List.setIfInBounds_toArray, List.set_cons_zero, List.set_cons_succ]
                refine wpAnyH_take (i := 15) (oi := _) (v := ?vq32) rfl (by kernel_rfl) (by kernel_rfl) (by kernel_rfl) (fun _ _ _ h => h) (Or.inl ⟨by rfl, ?hq32⟩) (by assumption) ?rq32
                case hq32 => (intro w hSw; go_simp; try with_reducible rfl)
                try dsimp only [Act.put, List.getElem_toArray, List.getElem_cons_zero, List.getElem_cons_succ]; try simp only [List.setIfInBounds_toArray, List.set_cons_zero, List.set_cons_succ]
                refine wpAnyH_take (i := 16) (oi := _) (v := ?vq33) rfl (by kernel_rfl) (by kernel_rfl) (by kernel_rfl) (fun _ _ _ h => h) (Or.inl ⟨by rfl, ?hq33⟩) (by assumption) ?rq33
                case hq33 => (intro w hSw; go_simp; try with_reducible rfl)
                try dsimp only [Act.put, List.getElem_toArray, List.getElem_cons_zero, List.getElem_cons_succ]; try simp only [List.setIfInBounds_toArray, List.set_cons_zero, List.set_cons_succ]
                refine wpAnyH_take (i := 20) (oi := _) (v := ?vq34) rfl (by kernel_rfl) (by kernel_rfl) (by kernel_rfl) (fun _ _ _ h => h) (Or.inl ⟨by rfl, ?hq34⟩) (by assumption) ?rq34
                case hq34 => (intro w hSw; go_simp; try with_reducible rfl)
                try dsimp only [Act.put, List.getElem_toArray, List.getElem_cons_zero, List.getElem_cons_succ]; try simp only [List.setIfInBounds_toArray, List.set_cons_zero, List.set_cons_succ]
                refine wpAnyH_take (i := 21) (oi := _) (v := ?vq35) rfl (by kernel_rfl) (by kernel_rfl) (by kernel_rfl) (fun _ _ _ h => h) (Or.inl ⟨by rfl, ?hq35⟩) (by assumption) ?rq35
                case hq35 => (intro w hSw; go_simp; try with_reducible rfl)
                try dsimp only [Act.put, List.getElem_toArray, List.getElem_cons_zero, List.getElem_cons_succ]; try simp only [List.setIfInBounds_toArray, List.set_cons_zero, List.set_cons_succ]
                refine wpAnyH_ready (rs := [7, 17]) (by kernel_rfl) (by simp) ?_
                refine AllReadyH.cons (o := _) rfl (fun K hK => ?_) ?_
                · rw [if_pos (by rfl)]
                  go_simp
                  refine hK.out _ _ ⟨hc1, hc2⟩ (fun hHeld => ?_)
                  clear hK K
                  try dsimp only [Act.put, List.getElem_toArray, List.getElem_cons_zero, List.getElem_cons_succ]; try simp only [List.setIfInBounds_toArray, List.set_cons_zero, List.set_cons_succ]
                  refine wpAnyH_ready (rs := [17]) (by kernel_rfl) (by simp) ?_
                  refine AllReadyH.cons (o := _) rfl (fun K hK => ?_) ?_
                  · rw [if_pos (by rfl)]
                    go_simp
                    refine (HX.out _).mono ?_
                    rintro e wx ⟨rfl, hbx⟩
                    have hv := cell_below hbx hv
                    have hc1 := cell_below hbx hc1
                    have hc2 := cell_below hbx hc2
                    have hb := then_ hb hbx
                    clear hbx
                    go_wp2_with fail
                    refine hK.out _ _ ⟨hc1, hc2⟩ (fun hHeld => ?_)
                    clear hK K
                    try dsimp only [Act.put, List.getElem_toArray, List.getElem_cons_zero, List.getElem_cons_succ]; try simp only [List.setIfInBounds_toArray, List.set_cons_zero, List.set_cons_succ]
                    refine wpAnyH_ready (rs := [18]) (by kernel_rfl) (by simp) ?_
                    refine AllReadyH.cons (o := _) rfl (fun K hK => ?_) ?_
                    · rw [if_pos (by rfl)]
                      go_simp
                      have hA := (Below.refl wx.heap.size wx).alloc (Nat.le_refl _) (.cells #[.string st] 9)
                      have hv := cell_below hA hv
                      have hc1 := cell_below hA hc1
                      have hc2 := cell_below hA hc2
                      have hb := then_ hb hA
                      clear hA
                      refine hK.out _ _ ⟨hc1, hc2⟩ (fun hHeld => ?_)
                      clear hK K
                      try dsimp only [Act.put, List.getElem_toArray, List.getElem_cons_zero, List.getElem_cons_succ]; try simp only [List.setIfInBounds_toArray, List.set_cons_zero, List.set_cons_succ]
                      refine wpAnyH_ready (rs := [19]) (by kernel_rfl) (by simp) ?_
                      refine AllReadyH.cons (o := _) rfl (fun K hK => ?_) ?_
                      · have HA := Lib.hid (HT.out.below hb)
                        refine step_app elStr (by rfl) (.tmp 75) (.tmp 86) (by rfl) (wz.heap.size + 1) (us p) (gS l p h p).length ((gS l p h p).map Value.string) (by rfl) (by exact ArrS.own HA.out p (by omega)) (some ⟨wx.heap.size, 0, none⟩) 1 1 [.string st] (by rfl) rfl (Rd.new wx #[.string st] _) (by intro u hu; simp at hu; subst hu; rfl) (by have := HLN.out; unfold maxLen; omega) (by have := HLN.out; omega) (by have := ArrS.blt HA.out; omega) ?_
                        intro v2 w3 hown2 hbel2 hgrow2 hat2
                        obtain ⟨A2, c2, rfl⟩ := own_form hown2
                        have hbk := hgrow2.block wz.heap.size (ArrS.blt HA.out) (fun e => by have := ((ArrS.own HA.out p (by omega)).lt _ e.symm).1; omega)
                        have hv := (World.cell?_of_block (a := ⟨wz.heap.size, p, none⟩) hbk).trans hv
                        have hfr := (World.frozen?_of_block (a := ⟨wz.heap.size, p, none⟩) hbk).trans (ArrS.free HA.out p)
                        have hck := HKC.out w3 ((ArrS.own HA.out (p + 1) (by omega)).kept hgrow2 (ArrS.apart HA.out (p + 1) p (by omega) (by omega) (by omega)))
                        have hc1 := hck.1
                        have hc2 := hck.2
                        have HFIN := Lib.hid (ArrT.grow HA.out (k := p) (by omega) hown2 hgrow2 hat2)
                        have HBF := Lib.hid (((then_ HBL.out hb).trans (hbel2.mono (Nat.le_succ _))).setCell (p := ⟨wz.heap.size, p, none⟩) (Nat.le_refl _) (.slice A2 ((gS l p h p).length + 1) c2))
                        clear hbk hown2 hbel2 hgrow2 hat2 hck
                        refine hK.out _ _ ⟨hc1, hc2⟩ (fun hHeld => ?_)
                        clear hK K
                        try dsimp only [Act.put, List.getElem_toArray, List.getElem_cons_zero, List.getElem_cons_succ]; try simp only [List.setIfInBounds_toArray, List.set_cons_zero, List.set_cons_succ]
                        refine wpAnyH_take (i := 22) (oi := _) (v := ?vq36) rfl (by kernel_rfl) (by kernel_rfl) (by kernel_rfl) (fun _ _ _ h => h) (Or.inl ⟨by rfl, ?hq36⟩) (by assumption) ?rq36
                        case hq36 => (intro w hSw; go_simp; try with_reducible rfl)
                        try dsimp only [Act.put, List.getElem_toArray, List.getElem_cons_zero, List.getElem_cons_succ]; try simp only [List.setIfInBounds_toArray, List.set_cons_zero, List.set_cons_succ]
                        refine wpAnyH_ready (rs := [23]) (by kernel_rfl) (by simp) ?_
                        refine AllReadyH.cons (o := _) rfl (fun K hK => ?_) ?_
                        · rw [if_pos (by rfl)]
                          go_simp
                          have hz := HKC.out _ (by have hf := ArrS.own HFIN.out (p + 1) (by omega); simp only [upd_ne _ _ (Nat.succ_ne_self p)] at hf; exact hf)
                          have hus := HUM.out
                          refine hK.out _ _ ⟨hz.1, hz.2⟩ (fun hHeld => ?_)
                          clear hK K
                          try dsimp only [Act.put, List.getElem_toArray, List.getElem_cons_zero, List.getElem_cons_succ]; try simp only [List.setIfInBounds_toArray, List.set_cons_zero, List.set_cons_succ]
                          refine wpAnyH_done (by kernel_rfl) ?_ _
                          go_wp2
                          go_roundw
                          case rel => exact ⟨h + 1, e + 2, upd us p (.slice A2 ((gS l p h p).length + 1) c2), by omega, by go_num, Lib.hid (by have := HE.out; omega), by rw [upd_ne _ _ (Nat.succ_ne_self p)]; exact HUM.out, Lib.hid (by have := HFIN.out; rwa [HG.out] at this), HBF.out⟩
                          case measure => simp [intOf]; omega
                        exact AllReadyH.nil
                      exact AllReadyH.nil
                    exact AllReadyH.nil
                  exact AllReadyH.nil
                refine AllReadyH.cons (o := _) rfl (fun K hK => ?_) ?_
                · rw [if_pos (by rfl)]
                  go_simp
                  refine (HX.out _).mono ?_
                  rintro e wx ⟨rfl, hbx⟩
                  have hv := cell_below hbx hv
                  have hc1 := cell_below hbx hc1
                  have hc2 := cell_below hbx hc2
                  have hb := then_ hb hbx
                  clear hbx
                  go_wp2_with fail
                  refine hK.out _ _ ⟨hc1, hc2⟩ (fun hHeld => ?_)
                  clear hK K
                  try dsimp only [Act.put, List.getElem_toArray, List.getElem_cons_zero, List.getElem_cons_succ]; try simp only [List.setIfInBounds_toArray, List.set_cons_zero, List.set_cons_succ]
                  refine wpAnyH_ready (rs := [7, 18]) (by kernel_rfl) (by simp) ?_
                  refine AllReadyH.cons (o := _) rfl (fun K hK => ?_) ?_
                  · rw [if_pos (by rfl)]
                    go_simp
                    refine hK.out _ _ ⟨hc1, hc2⟩ (fun hHeld => ?_)
                    clear hK K
                    try dsimp only [Act.put, List.getElem_toArray, List.getElem_cons_zero, List.getElem_cons_succ]; try simp only [List.setIfInBounds_toArray, List.set_cons_zero, List.set_cons_succ]
                    refine wpAnyH_ready (rs := [18]) (by kernel_rfl) (by simp) ?_
                    refine AllReadyH.cons (o := _) rfl (fun K hK => ?_) ?_
                    · rw [if_pos (by rfl)]
                      go_simp
                      have hA := (Below.refl wx.heap.size wx).alloc (Nat.le_refl _) (.cells #[.string st] 9)
                      have hv := cell_below hA hv
                      have hc1 := cell_below hA hc1
                      have hc2 := cell_below hA hc2
                      have hb := then_ hb hA
                      clear hA
                      refine hK.out _ _ ⟨hc1, hc2⟩ (fun hHeld => ?_)
                      clear hK K
                      try dsimp only [Act.put, List.getElem_toArray, List.getElem_cons_zero, List.getElem_cons_succ]; try simp only [List.setIfInBounds_toArray, List.set_cons_zero, List.set_cons_succ]
                      refine wpAnyH_ready (rs := [19]) (by kernel_rfl) (by simp) ?_
                      refine AllReadyH.cons (o := _) rfl (fun K hK => ?_) ?_
                      · have HA := Lib.hid (HT.out.below hb)
                        refine step_app elStr (by rfl) (.tmp 75) (.tmp 86) (by rfl) (wz.heap.size + 1) (us p) (gS l p h p).length ((gS l p h p).map Value.string) (by rfl) (by exact ArrS.own HA.out p (by omega)) (some ⟨wx.heap.size, 0, none⟩) 1 1 [.string st] (by rfl) rfl (Rd.new wx #[.string st] _) (by intro u hu; simp at hu; subst hu; rfl) (by have := HLN.out; unfold maxLen; omega) (by have := HLN.out; omega) (by have := ArrS.blt HA.out; omega) ?_
                        intro v2 w3 hown2 hbel2 hgrow2 hat2
                        obtain ⟨A2, c2, rfl⟩ := own_form hown2
                        have hbk := hgrow2.block wz.heap.size (ArrS.blt HA.out) (fun e => by have := ((ArrS.own HA.out p (by omega)).lt _ e.symm).1; omega)
                        have hv := (World.cell?_of_block (a := ⟨wz.heap.size, p, none⟩) hbk).trans hv
                        have hfr := (World.frozen?_of_block (a := ⟨wz.heap.size, p, none⟩) hbk).trans (ArrS.free HA.out p)
                        have hck := HKC.out w3 ((ArrS.own HA.out (p + 1) (by omega)).kept hgrow2 (ArrS.apart HA.out (p + 1) p (by omega) (by omega) (by omega)))
                        have hc1 := hck.1
                        have hc2 := hck.2
                        have HFIN := Lib.hid (ArrT.grow HA.out (k := p) (by omega) hown2 hgrow2 hat2)
                        have HBF := Lib.hid (((then_ HBL.out hb).trans (hbel2.mono (Nat.le_succ _))).setCell (p := ⟨wz.heap.size, p, none⟩) (Nat.le_refl _) (.slice A2 ((gS l p h p).length + 1) c2))
                        clear hbk hown2 hbel2 hgrow2 hat2 hck
                        refine hK.out _ _ ⟨hc1, hc2⟩ (fun hHeld => ?_)
                        clear hK K
                        try dsimp only [Act.put, List.getElem_toArray, List.getElem_cons_zero, List.getElem_cons_succ]; try simp only [List.setIfInBounds_toArray, List.set_cons_zero, List.set_cons_succ]
                        refine wpAnyH_take (i := 22) (oi := _) (v := ?vq37) rfl (by kernel_rfl) (by kernel_rfl) (by kernel_rfl) (fun _ _ _ h => h) (Or.inl ⟨by rfl, ?hq37⟩) (by assumption) ?rq37
                        case hq37 => (intro w hSw; go_simp; try with_reducible rfl)
                        try dsimp only [Act.put, List.getElem_toArray, List.getElem_cons_zero, List.getElem_cons_succ]; try simp only [List.setIfInBounds_toArray, List.set_cons_zero, List.set_cons_succ]
                        refine wpAnyH_ready (rs := [23]) (by kernel_rfl) (by simp) ?_
                        refine AllReadyH.cons (o := _) rfl (fun K hK => ?_) ?_
                        · rw [if_pos (by rfl)]
                          go_simp
                          have hz := HKC.out _ (by have hf := ArrS.own HFIN.out (p + 1) (by omega); simp only [upd_ne _ _ (Nat.succ_ne_self p)] at hf; exact hf)
                          have hus := HUM.out
                          refine hK.out _ _ ⟨hz.1, hz.2⟩ (fun hHeld => ?_)
                          clear hK K
                          try dsimp only [Act.put, List.getElem_toArray, List.getElem_cons_zero, List.getElem_cons_succ]; try simp only [List.setIfInBounds_toArray, List.set_cons_zero, List.set_cons_succ]
                          refine wpAnyH_done (by kernel_rfl) ?_ _
                          go_wp2
                          go_roundw
                          case rel => exact ⟨h + 1, e + 2, upd us p (.slice A2 ((gS l p h p).length + 1) c2), by omega, by go_num, Lib.hid (by have := HE.out; omega), by rw [upd_ne _ _ (Nat.succ_ne_self p)]; exact HUM.out, Lib.hid (by have := HFIN.out; rwa [HG.out] at this), HBF.out⟩
                          case measure => simp [intOf]; omega
                        exact AllReadyH.nil
                      exact AllReadyH.nil
                    exact AllReadyH.nil
                  refine AllReadyH.cons (o := _) rfl (fun K hK => ?_) ?_
                  · rw [if_pos (by rfl)]
                    go_simp
                    have hA := (Below.refl wx.heap.size wx).alloc (Nat.le_refl _) (.cells #[.string st] 9)
                    have hv := cell_below hA hv
                    have hc1 := cell_below hA hc1
                    have hc2 := cell_below hA hc2
                    have hb := then_ hb hA
                    clear hA
                    refine hK.out _ _ ⟨hc1, hc2⟩ (fun hHeld => ?_)
                    clear hK K
                    try dsimp only [Act.put, List.getElem_toArray, List.getElem_cons_zero, List.getElem_cons_succ]; try simp only [List.setIfInBounds_toArray, List.set_cons_zero, List.set_cons_succ]
                    refine wpAnyH_ready (rs := [7]) (by kernel_rfl) (by simp) ?_
                    refine AllReadyH.cons (o := _) rfl (fun K hK => ?_) ?_
                    · rw [if_pos (by rfl)]
                      go_simp
                      refine hK.out _ _ ⟨hc1, hc2⟩ (fun hHeld => ?_)
                      clear hK K
                      try dsimp only [Act.put, List.getElem_toArray, List.getElem_cons_zero, List.getElem_cons_succ]; try simp only [List.setIfInBounds_toArray, List.set_cons_zero, List.set_cons_succ]
                      refine wpAnyH_ready (rs := [19]) (by kernel_rfl) (by simp) ?_
                      refine AllReadyH.cons (o := _) rfl (fun K hK => ?_) ?_
                      · have HA := Lib.hid (HT.out.below hb)
                        refine step_app elStr (by rfl) (.tmp 75) (.tmp 86) (by rfl) (wz.heap.size + 1) (us p) (gS l p h p).length ((gS l p h p).map Value.string) (by rfl) (by exact ArrS.own HA.out p (by omega)) (some ⟨wx.heap.size, 0, none⟩) 1 1 [.string st] (by rfl) rfl (Rd.new wx #[.string st] _) (by intro u hu; simp at hu; subst hu; rfl) (by have := HLN.out; unfold maxLen; omega) (by have := HLN.out; omega) (by have := ArrS.blt HA.out; omega) ?_
                        intro v2 w3 hown2 hbel2 hgrow2 hat2
                        obtain ⟨A2, c2, rfl⟩ := own_form hown2
                        have hbk := hgrow2.block wz.heap.size (ArrS.blt HA.out) (fun e => by have := ((ArrS.own HA.out p (by omega)).lt _ e.symm).1; omega)
                        have hv := (World.cell?_of_block (a := ⟨wz.heap.size, p, none⟩) hbk).trans hv
                        have hfr := (World.frozen?_of_block (a := ⟨wz.heap.size, p, none⟩) hbk).trans (ArrS.free HA.out p)
                        have hck := HKC.out w3 ((ArrS.own HA.out (p + 1) (by omega)).kept hgrow2 (ArrS.apart HA.out (p + 1) p (by omega) (by omega) (by omega)))
                        have hc1 := hck.1
                        have hc2 := hck.2
                        have HFIN := Lib.hid (ArrT.grow HA.out (k := p) (by omega) hown2 hgrow2 hat2)
                        have HBF := Lib.hid (((then_ HBL.out hb).trans (hbel2.mono (Nat.le_succ _))).setCell (p := ⟨wz.heap.size, p, none⟩) (Nat.le_refl _) (.slice A2 ((gS l p h p).length + 1) c2))
                        clear hbk hown2 hbel2 hgrow2 hat2 hck
                        refine hK.out _ _ ⟨hc1, hc2⟩ (fun hHeld => ?_)
                        clear hK K
                        try dsimp only [Act.put, List.getElem_toArray, List.getElem_cons_zero, List.getElem_cons_succ]; try simp only [List.setIfInBounds_toArray, List.set_cons_zero, List.set_cons_succ]
                        refine wpAnyH_take (i := 22) (oi := _) (v := ?vq38) rfl (by kernel_rfl) (by kernel_rfl) (by kernel_rfl) (fun _ _ _ h => h) (Or.inl ⟨by rfl, ?hq38⟩) (by assumption) ?rq38
                        case hq38 => (intro w hSw; go_simp; try with_reducible rfl)
                        try dsimp only [Act.put, List.getElem_toArray, List.getElem_cons_zero, List.getElem_cons_succ]; try simp only [List.setIfInBounds_toArray, List.set_cons_zero, List.set_cons_succ]
                        refine wpAnyH_ready (rs := [23]) (by kernel_rfl) (by simp) ?_
                        refine AllReadyH.cons (o := _) rfl (fun K hK => ?_) ?_
                        · rw [if_pos (by rfl)]
                          go_simp
                          have hz := HKC.out _ (by have hf := ArrS.own HFIN.out (p + 1) (by omega); simp only [upd_ne _ _ (Nat.succ_ne_self p)] at hf; exact hf)
                          have hus := HUM.out
                          refine hK.out _ _ ⟨hz.1, hz.2⟩ (fun hHeld => ?_)
                          clear hK K
                          try dsimp only [Act.put, List.getElem_toArray, List.getElem_cons_zero, List.getElem_cons_succ]; try simp only [List.setIfInBounds_toArray, List.set_cons_zero, List.set_cons_succ]
                          refine wpAnyH_done (by kernel_rfl) ?_ _
                          go_wp2
                          go_roundw
                          case rel => exact ⟨h + 1, e + 2, upd us p (.slice A2 ((gS l p h p).length + 1) c2), by omega, by go_num, Lib.hid (by have := HE.out; omega), by rw [upd_ne _ _ (Nat.succ_ne_self p)]; exact HUM.out, Lib.hid (by have := HFIN.out; rwa [HG.out] at this), HBF.out⟩
                          case measure => simp [intOf]; omega
                        exact AllReadyH.nil
                      exact AllReadyH.nil
                    exact AllReadyH.nil
                  exact AllReadyH.nil
                exact AllReadyH.nil
              · obtain rfl : h = q := by omega
                have hee : ¬ (e : Int) < (q2 : Int) := by have := HE.out; have := HQQ.out; omega
                have HT2 : Hid (ArrT wr wz.heap.size us (gS l p (2 ^ p))) := Lib.hid (by rw [HQ.out]; exact HT.out)
                have HB2 := Lib.hid hbel
                clear hown hbel hum
                go_wp2
                go_roundw
                case rel => exact ⟨p, (p : Int) - 1, us, by omega, rfl, by omega, HT2, HB2.out⟩
                case measure => simp [intOf] <;> omega
end Go.Proofs.Ytgmafnpkhmlnnaa
