/- The cluster and the events of bytes, by the document. -/
import Derived.Test.YtlmplibdfhamjaaScrNE
import Derived.Test.YtlmplibdfhamjaaScrH
import Derived.Test.YtlmplibdfhamjaaScrL
import Derived.Test.YtlmplibdfhamjaaWireE
attribute [local go_sem ↓] Go.wp_at_zero Go.wp_at_succ
namespace Go.Proofs.Ytlmplibdfhamjaa
open Go.RowKit Go.Mem Go.Num
set_option linter.unusedVariables false
set_option linter.unusedSimpArgs false

/-- while the cluster's list grows: the reader, the result, the cluster's block, the list's rows -/
structure OY (w : World) (b g : Nat) (s : St) (vx v : Value) (ms : List Memb) (W : World) : Prop where
  rd : RdF b s W
  bel : Below w.heap.size w W
  r : SBox 26 #[.slice none 0 0, .slice none 0 0] w.heap.size W
  x : SBox 26 #[vx, .slice none 0 0] g W
  own : W.ownsRow (g + 1) 82 4 v ms.length (ms.flatMap fun m : Memb => m.arr.toList)
section
variable {w W W' : World} {b g : Nat} {s s' : St} {vx v : Value} {ms : List Memb}
theorem OY.drew (h : OY w b g s vx v ms W) : OY w b g s vx v ms W.drew := ⟨h.rd, h.bel.drew, h.r, h.x, h.own⟩
theorem OY.call (h : OY w b g s vx v ms W) (hw : w.heap.size < b) (hb : b < g) (hr : RdF b s' W') (ho : Only b W W') : OY w b g s' vx v ms W' :=
  ⟨hr, h.bel.trans (ho.belowB (by omega) h.bel.size), h.r.only (by omega) ho, h.x.only (by omega) ho, own_only h.own (by omega) ho⟩
theorem OY.alloc (h : OY w b g s vx v ms W) (o : Obj) : OY w b g s vx v ms (W.alloc o) :=
  ⟨Two.alloc h.rd o, h.bel.alloc h.bel.size o, h.r.alloc' o, h.x.alloc' o, h.own.alloc o⟩
theorem OY.app {v1 : Value} {y : Memb} (h : OY w b g s vx v ms W) (hw : w.heap.size < b) (hb : b < g) (hown : W'.ownsRow (g + 1) 82 4 v1 (ms.length + 1) ((ms.flatMap fun m : Memb => m.arr.toList) ++ y.arr.toList)) (hbel : Below (g + 1) W W') : OY w b g s vx v1 (ms ++ [y]) W' :=
  ⟨Two.below_at h.rd hbel (by omega), h.bel.trans (hbel.mono (by omega)), (hbel.block _ (by omega)).trans h.r, (hbel.block g (by omega)).trans h.x, by simpa using hown⟩
theorem OY.set (h : OY w b g s vx v ms W) (hw : w.heap.size < b) (hb : b < g) : OY w b g s v v ms (W.setCell ⟨g, 0, none⟩ v) :=
  ⟨rdf_set h.rd (by omega) 0 v, h.bel.setCell (by simp; omega) v, (heap_setCell_other W _ _ v (by simp; omega)).trans h.r, heap_setCell_same W g 0 _ _ v h.x, own_agr h.own (Nat.le_refl _) (fun k h1 h2 => heap_setCell_other W _ k v (by simp; omega))⟩
theorem OY.cell (h : OY w b g s vx v ms W) : W.cell? ⟨g, 0, none⟩ = some vx := cell_of_row _ _ _ _ _ _ h.x
theorem OY.froz (h : OY w b g s vx v ms W) : W.frozen? ⟨g, 0, none⟩ = false := frozen_of_row _ _ _ _ _ h.x
end
/-- behind the members: the result's block, the cluster's -/
structure OZ (w : World) (b g : Nat) (W : World) (a0 a1 : Value) : Prop where
  bel : Below w.heap.size w W
  r : SBox 26 #[.slice none 0 0, .slice none 0 0] w.heap.size W
  x : SBox 26 #[a0, a1] g W
section
variable {w W W' : World} {b g : Nat} {a0 a1 : Value}
theorem OZ.call (h : OZ w b g W a0 a1) (hw : w.heap.size < b) (hb : b < g) (ho : Only b W W') : OZ w b g W' a0 a1 :=
  ⟨h.bel.trans (ho.belowB (by omega) h.bel.size), h.r.only (by omega) ho, h.x.only (by omega) ho⟩
theorem OZ.below (h : OZ w b g W a0 a1) (hb : Below W.heap.size W W') : OZ w b g W' a0 a1 := ⟨then_ h.bel hb, h.r.below hb, h.x.below hb⟩
theorem OZ.set1 (h : OZ w b g W a0 a1) (hw : w.heap.size < g) (u : Value) : OZ w b g (W.setCell ⟨g, 1, none⟩ u) a0 u :=
  ⟨h.bel.setCell (by simp; omega) u, (heap_setCell_other W _ _ u (by simp; omega)).trans h.r, heap_setCell_same W g 1 _ _ u h.x⟩
theorem OZ.res (h : OZ w b g W a0 a1) (u v : Value) : SBox 26 #[u, v] w.heap.size ((W.setCell ⟨w.heap.size, 0, none⟩ u).setCell ⟨w.heap.size, 1, none⟩ v) :=
  heap_setCell_same _ _ 1 _ _ v (heap_setCell_same W _ 0 _ _ u h.r)
end
set_option maxRecDepth 100000 in
set_option maxHeartbeats 8000000 in
theorem rOf47_any (s : ByteArray) (w : World) (hs : s.size ≤ 1048576) : Calls Try.prog 15 #[.string s] w (OfS s w) := by
  have hsz : s.data.toList.length = s.size := rfl
  have hslen := scr_len s hs
  obtain ⟨b, hbe⟩ : ∃ b, b = w.heap.size + 1 := ⟨_, rfl⟩
  obtain ⟨n, st1, e0⟩ : ∃ n s', rdCount 65536 (s.data.toList, true) = (n, s') := ⟨_, _, rfl⟩
  have l0 := rdCount_len 65536 (s.data.toList, true)
  have hra := rdCount_range 65536 (s.data.toList, true)
  rw [e0] at l0 hra
  simp only at l0 hra
  obtain ⟨n, rfl⟩ := Int.eq_ofNat_of_zero_le hra.1
  have hn := hra.2.2 (by omega)
  clear hra
  obtain ⟨ml, s1, e1⟩ : ∃ v s', sevG rdMem n st1 = (v, s') := ⟨_, _, rfl⟩
  obtain ⟨el, s2, e2⟩ : ∃ v s', rdAll rdEnt 65536 s1 = (v, s') := ⟨_, _, rfl⟩
  obtain ⟨n2, st2, e4⟩ : ∃ n s', rdCount 16384 s2 = (n, s') := ⟨_, _, rfl⟩
  have hra := rdCount_range 16384 s2
  rw [e4] at hra
  simp only at hra
  obtain ⟨n2, rfl⟩ := Int.eq_ofNat_of_zero_le hra.1
  have hn2 := hra.2.2 (by omega)
  clear hra
  obtain ⟨vl, s3, e3⟩ : ∃ v s', sevG rdEv n2 st2 = (v, s') := ⟨_, _, rfl⟩
  have hscr : scr0 s = ((ml, el, vl), s3) := by
    unfold scr0 rdScr rdSev
    rw [e0]; simp only [Int.toNat_natCast]; rw [e1]; simp only [e2]; rw [e4]; simp only [Int.toNat_natCast]; rw [e3]
  have l1 := sevG_len rdMem_len n st1
  rw [e1] at l1
  simp only at l1
  have l2 := rdAll_len rdEnt_len 65536 s1
  rw [e2] at l2
  simp only at l2
  have l4 := rdCount_len 16384 s2
  rw [e4] at l4
  simp only at l4
  have hel := rdEnts_ok s1 (by omega)
  rw [e2] at hel
  simp only at hel
  have t0 := fun W hW => fCount_any b 65536 (s.data.toList, true) W hW (by simp only; omega)
  rw [e0] at t0
  have t2 := fun W hW => rRead_any b s1 W hW (by omega)
  rw [e2] at t2
  have t5 := fun W hW => fCount_any b 16384 s2 W hW (by omega)
  rw [e4] at t5
  have t4 := fun W hW => fDone_any b s3 W hW
  simp only at t0 t2 t5
  have hgood : scrGood s = (rdDone s3 && ((bs (scrB ml el vl)).toList == s.toList)) := by unfold scrGood; rw [hscr]
  have hfin : ∀ g, scrGood s = g → scrM s = (if g then ml else []) ∧ scrE s = (if g then el else []) ∧ scrL s = (if g then vl else []) ∧ scrErr s = (if g then 0 else 3) := fun g hg => by
    unfold scrM scrE scrL scrErr; rw [hg, hscr]; exact ⟨rfl, rfl, rfl, rfl⟩
  rw [hscr] at hslen
  simp only at hslen
  have hst1 : st1.1.length ≤ 140737488355328 := by omega
  have hst2 : st2.1.length ≤ 140737488355328 := by omega
  have T0 := Lib.hid t0; have T2 := Lib.hid t2; have T5 := Lib.hid t5; have T4 := Lib.hid t4; have HG := Lib.hid hgood; have HFIN := Lib.hid hfin; have HSLEN := Lib.hid hslen; have HEL := Lib.hid hel
  have E1 := Lib.hid e1; have E3 := Lib.hid e3; have HST1 := Lib.hid hst1; have HST2 := Lib.hid hst2
  clear t0 t2 t5 t4 hgood hfin hslen hel l0 l1 l2 l4 e0 e1 e2 e3 e4 hscr hsz hs hst1 hst2
  -- the blocks: the result, the reader, the cluster
  have hoy : OY w b (w.heap.size + 2) (s.data.toList, true) (.slice none 0 0) (.slice none 0 0) [] (((w.alloc (.cells #[.slice none 0 0, .slice none 0 0] 26)).alloc (.cells #[.string s, .bool false] 76)).alloc (.cells #[.slice none 0 0, .slice none 0 0] 26)) := by
    have z1 : (w.alloc (.cells #[.slice none 0 0, .slice none 0 0] 26)).heap.size = w.heap.size + 1 := by simp
    have z2 : ((w.alloc (.cells #[.slice none 0 0, .slice none 0 0] 26)).alloc (.cells #[.string s, .bool false] 76)).heap.size = w.heap.size + 2 := by simp
    refine ⟨Two.alloc ?_ _, ((((Below.refl _ _).alloc (Nat.le_refl _) _).alloc (by rw [z1]; omega) _).alloc (by rw [z2]; omega) _), ((SBox.new w _ _).alloc' _).alloc' _, ?_, World.ownsRow_nil _ _ _ _⟩
    · have := Two.new (w.alloc (.cells #[.slice none 0 0, .slice none 0 0] 26)) 76 (.string s) (.bool false)
      rw [z1, ← hbe] at this
      simp only [bs_of]
      exact this
    · have := SBox.new ((w.alloc (.cells #[.slice none 0 0, .slice none 0 0] 26)).alloc (.cells #[.string s, .bool false] 76)) 26 #[.slice none 0 0, .slice none 0 0]
      rw [z2] at this
      exact this
  have HY := Lib.hid hoy; clear hoy
  have hwb : w.heap.size < b := by omega
  have hbg : b < w.heap.size + 2 := by omega
  have HBE := Lib.hid hbe
  go_enter Try.func15, Try.ntmps15
  clear hbe
  go_wp2_with fail
  generalize (((w.alloc (.cells #[.slice none 0 0, .slice none 0 0] 26)).alloc (.cells #[.string s, .bool false] 76)).alloc (.cells #[.slice none 0 0, .slice none 0 0] 26)) = W0 at HY ⊢
  rw [← HBE.out]
  have HY : Hid (OY w b (b + 1) (s.data.toList, true) (.slice none 0 0) (.slice none 0 0) [] W0) := Lib.hid (by have h := HY.out; rw [show w.heap.size + 2 = b + 1 by have := HBE.out; omega] at h; exact h)
  have hbg : b < b + 1 := by omega
  have HZZ : Hid (∀ W, Mems.ok W ⟨none, 0, 0, []⟩ ∧ Ents.ok W ⟨none, 0, 0, []⟩ ∧ Evs.ok W ⟨none, 0, 0, []⟩) := Lib.hid fun W => ⟨⟨fun j u hj => by simp at hj, rfl, Nat.zero_le _⟩, ⟨fun j u hj => by simp at hj, rfl, Nat.zero_le _, fun m hm => by simp at hm⟩, ⟨fun j u hj => by simp at hj, rfl, Nat.zero_le _, fun m hm => by simp at hm⟩⟩
  refine (T0.out _ HY.out.rd).mono ?_
  rintro e w1 ⟨rfl, h1, ho1⟩
  have HY := Lib.hid (HY.out.call hwb hbg h1 ho1)
  clear h1 ho1
  go_wp2
  go_loopw [8] (fun i W => ∃ (j : Nat) (sj : St) (ms : List Memb) (v : Value), j ≤ n ∧ i = .int .i64 j ∧ Hid ((ms ++ (sevG rdMem (n - j) sj).1, (sevG rdMem (n - j) sj).2) = (ml, s1)) ∧ ms.length = j ∧ sj.1.length ≤ 140737488355328 ∧ Hid (OY w b (b + 1) sj v v ms W)) (fun i _ => n - (intOf i).toNat)
  case atStart => exact ⟨0, st1, [], .slice none 0 0, Nat.zero_le _, rfl, Lib.hid (by rw [Nat.sub_zero, E1.out]; rfl), rfl, HST1.out, HY⟩
  case round =>
    clear HY
    rename World => W
    obtain ⟨j, sj, ms, v, hj, rfl, HZ, hml, hsj, HN⟩ := hrel
    have HML := Lib.hid hml; clear hml
    have c1 := Two.c1 HN.out.rd
    by_cases hjm : j < n
    · cases hgj : sj.2 with
      | true =>
        have hst := sevG_step rdMem (n - j - 1) sj hgj
        rw [show n - j - 1 + 1 = n - j by omega] at hst
        have hlen2 := rdMem_len sj
        have hti := fun W hW => fMem_any b sj W hW hsj
        rw [hgj] at c1
        simp only [Bool.not_true] at c1
        generalize rdMem sj = r at hst hlen2 hti
        obtain ⟨⟨nm, rk, zn, up⟩, s'⟩ := r
        simp only [Memb.arr] at hst hlen2 hti
        have HTI := Lib.hid hti; have HST2 := Lib.hid hst
        clear hti hst hgj
        go_wp2
        have HN := Lib.hid HN.out.drew
        clear c1
        refine wp_region_held_drew (S := (fun _ => True)) (by kernel_rfl) trivial (fun hHeld => ?_)
        refine wpAnyH_take (i := 0) (oi := _) (v := ?vq1) rfl (by kernel_rfl) (by kernel_rfl) (by kernel_rfl) (fun _ _ _ h => h) (Or.inl ⟨by rfl, ?hq1⟩) (by assumption) ?rq1
        case hq1 => (intro w hSw; go_simp; try with_reducible rfl)
        try dsimp only [Act.put, List.getElem_toArray, List.getElem_cons_zero, List.getElem_cons_succ]; try simp only [List.setIfInBounds_toArray, List.set_cons_zero, List.set_cons_succ]
        refine wpAnyH_take (i := 2) (oi := _) (v := ?vq2) rfl (by kernel_rfl) (by kernel_rfl) (by kernel_rfl) (fun _ _ _ h => h) (Or.inl ⟨by rfl, ?hq2⟩) (by assumption) ?rq2
        case hq2 => (intro w hSw; go_simp; try with_reducible rfl)
        try dsimp only [Act.put, List.getElem_toArray, List.getElem_cons_zero, List.getElem_cons_succ]; try simp only [List.setIfInBounds_toArray, List.set_cons_zero, List.set_cons_succ]
        refine wpAnyH_ready (rs := [1, 3]) (by kernel_rfl) (by simp) ?_
        refine AllReadyH.cons (o := _) rfl (fun K hK => ?_) ?_
        · rw [if_pos (by rfl)]
          have y2 := HN.out.cell
          go_simp
          clear y2
          refine hK.out _ _ trivial (fun hHeld => ?_)
          clear hK K
          try dsimp only [Act.put, List.getElem_toArray, List.getElem_cons_zero, List.getElem_cons_succ]; try simp only [List.setIfInBounds_toArray, List.set_cons_zero, List.set_cons_succ]
          refine wpAnyH_ready (rs := [3]) (by kernel_rfl) (by simp) ?_
          refine AllReadyH.cons (o := _) rfl (fun K hK => ?_) ?_
          · rw [if_pos (by rfl)]
            go_simp
            refine (HTI.out _ HN.out.rd).mono ?_
            rintro e wx ⟨rfl, hrx, hox⟩
            have HN := Lib.hid (HN.out.call hwb hbg hrx hox)
            clear hrx hox
            go_wp2_with fail
            refine hK.out _ _ trivial (fun hHeld => ?_)
            clear hK K
            try dsimp only [Act.put, List.getElem_toArray, List.getElem_cons_zero, List.getElem_cons_succ]; try simp only [List.setIfInBounds_toArray, List.set_cons_zero, List.set_cons_succ]
            refine wpAnyH_ready (rs := [4]) (by kernel_rfl) (by simp) ?_
            refine AllReadyH.cons (o := _) rfl (fun K hK => ?_) ?_
            · rw [if_pos (by rfl)]
              go_simp
              have HN := Lib.hid (HN.out.alloc (.cells #[.string nm, .string rk, .string zn, .bool up] 82))
              have HRD := Lib.hid (Rd.new wx #[.string nm, .string rk, .string zn, .bool up] 82)
              refine hK.out _ _ trivial (fun hHeld => ?_)
              clear hK K
              try dsimp only [Act.put, List.getElem_toArray, List.getElem_cons_zero, List.getElem_cons_succ]; try simp only [List.setIfInBounds_toArray, List.set_cons_zero, List.set_cons_succ]
              refine wpAnyH_ready (rs := [5]) (by kernel_rfl) (by simp) ?_
              refine AllReadyH.cons (o := _) rfl (fun K hK => ?_) ?_
              · refine step_app el_memb8 rfl (.tmp 30) (.tmp 33) rfl (b + 1 + 1) v ms.length (ms.flatMap fun m : Memb => m.arr.toList) rfl HN.out.own (some ⟨wx.heap.size, 0, none⟩) 1 1 [.string nm, .string rk, .string zn, .bool up] rfl rfl ?rr (by simp [Value.oneCell']) (by have := HML.out; unfold maxLen; omega) (by have := HML.out; omega) ?bb ?_
                case rr => exact HRD.out
                case bb => have := HN.out.x.lt; omega
                intro v1 w6 hown6 hbel6 hgr6 _
                obtain ⟨a1, cc1, rfl⟩ := own_form hown6
                have HN := Lib.hid (HN.out.app (y := ⟨nm, rk, zn, up⟩) hwb hbg hown6 hbel6)
                clear hown6 hbel6 hgr6
                refine hK.out _ _ trivial (fun hHeld => ?_)
                clear hK K
                try dsimp only [Act.put, List.getElem_toArray, List.getElem_cons_zero, List.getElem_cons_succ]; try simp only [List.setIfInBounds_toArray, List.set_cons_zero, List.set_cons_succ]
                refine wpAnyH_take (i := 6) (oi := _) (v := ?vq3) rfl (by kernel_rfl) (by kernel_rfl) (by kernel_rfl) (fun _ _ _ h => h) (Or.inl ⟨by rfl, ?hq3⟩) (by assumption) ?rq3
                case hq3 => (intro w hSw; go_simp; try with_reducible rfl)
                try dsimp only [Act.put, List.getElem_toArray, List.getElem_cons_zero, List.getElem_cons_succ]; try simp only [List.setIfInBounds_toArray, List.set_cons_zero, List.set_cons_succ]
                refine wpAnyH_ready (rs := [7]) (by kernel_rfl) (by simp) ?_
                refine AllReadyH.cons (o := _) rfl (fun K hK => ?_) ?_
                · rw [if_pos (by rfl)]
                  have y2 := HN.out.cell; have f2 := HN.out.froz
                  go_simp
                  clear y2 f2
                  have HN := Lib.hid (HN.out.set hwb hbg)
                  refine hK.out _ _ trivial (fun hHeld => ?_)
                  clear hK K
                  try dsimp only [Act.put, List.getElem_toArray, List.getElem_cons_zero, List.getElem_cons_succ]; try simp only [List.setIfInBounds_toArray, List.set_cons_zero, List.set_cons_succ]
                  refine wpAnyH_done (by kernel_rfl) ?_ _
                  go_wp2
                  go_roundw
                  case rel => exact ⟨j + 1, s', ms ++ [⟨nm, rk, zn, up⟩], _, by omega, by go_num, Lib.hid (by rw [← HZ.out, HST2.out, show n - (j + 1) = n - j - 1 by omega, List.append_assoc]; rfl), by rw [List.length_append, HML.out]; rfl, by omega, HN⟩
                  case measure => simp [intOf]; omega
                exact AllReadyH.nil
              exact AllReadyH.nil
            exact AllReadyH.nil
          exact AllReadyH.nil
        refine AllReadyH.cons (o := _) rfl (fun K hK => ?_) ?_
        · rw [if_pos (by rfl)]
          go_simp
          refine (HTI.out _ HN.out.rd).mono ?_
          rintro e wx ⟨rfl, hrx, hox⟩
          have HN := Lib.hid (HN.out.call hwb hbg hrx hox)
          clear hrx hox
          go_wp2_with fail
          refine hK.out _ _ trivial (fun hHeld => ?_)
          clear hK K
          try dsimp only [Act.put, List.getElem_toArray, List.getElem_cons_zero, List.getElem_cons_succ]; try simp only [List.setIfInBounds_toArray, List.set_cons_zero, List.set_cons_succ]
          refine wpAnyH_ready (rs := [1, 4]) (by kernel_rfl) (by simp) ?_
          refine AllReadyH.cons (o := _) rfl (fun K hK => ?_) ?_
          · rw [if_pos (by rfl)]
            have y2 := HN.out.cell
            go_simp
            clear y2
            refine hK.out _ _ trivial (fun hHeld => ?_)
            clear hK K
            try dsimp only [Act.put, List.getElem_toArray, List.getElem_cons_zero, List.getElem_cons_succ]; try simp only [List.setIfInBounds_toArray, List.set_cons_zero, List.set_cons_succ]
            refine wpAnyH_ready (rs := [4]) (by kernel_rfl) (by simp) ?_
            refine AllReadyH.cons (o := _) rfl (fun K hK => ?_) ?_
            · rw [if_pos (by rfl)]
              go_simp
              have HN := Lib.hid (HN.out.alloc (.cells #[.string nm, .string rk, .string zn, .bool up] 82))
              have HRD := Lib.hid (Rd.new wx #[.string nm, .string rk, .string zn, .bool up] 82)
              refine hK.out _ _ trivial (fun hHeld => ?_)
              clear hK K
              try dsimp only [Act.put, List.getElem_toArray, List.getElem_cons_zero, List.getElem_cons_succ]; try simp only [List.setIfInBounds_toArray, List.set_cons_zero, List.set_cons_succ]
              refine wpAnyH_ready (rs := [5]) (by kernel_rfl) (by simp) ?_
              refine AllReadyH.cons (o := _) rfl (fun K hK => ?_) ?_
              · refine step_app el_memb8 rfl (.tmp 30) (.tmp 33) rfl (b + 1 + 1) v ms.length (ms.flatMap fun m : Memb => m.arr.toList) rfl HN.out.own (some ⟨wx.heap.size, 0, none⟩) 1 1 [.string nm, .string rk, .string zn, .bool up] rfl rfl ?rr (by simp [Value.oneCell']) (by have := HML.out; unfold maxLen; omega) (by have := HML.out; omega) ?bb ?_
                case rr => exact HRD.out
                case bb => have := HN.out.x.lt; omega
                intro v1 w6 hown6 hbel6 hgr6 _
                obtain ⟨a1, cc1, rfl⟩ := own_form hown6
                have HN := Lib.hid (HN.out.app (y := ⟨nm, rk, zn, up⟩) hwb hbg hown6 hbel6)
                clear hown6 hbel6 hgr6
                refine hK.out _ _ trivial (fun hHeld => ?_)
                clear hK K
                try dsimp only [Act.put, List.getElem_toArray, List.getElem_cons_zero, List.getElem_cons_succ]; try simp only [List.setIfInBounds_toArray, List.set_cons_zero, List.set_cons_succ]
                refine wpAnyH_take (i := 6) (oi := _) (v := ?vq4) rfl (by kernel_rfl) (by kernel_rfl) (by kernel_rfl) (fun _ _ _ h => h) (Or.inl ⟨by rfl, ?hq4⟩) (by assumption) ?rq4
                case hq4 => (intro w hSw; go_simp; try with_reducible rfl)
                try dsimp only [Act.put, List.getElem_toArray, List.getElem_cons_zero, List.getElem_cons_succ]; try simp only [List.setIfInBounds_toArray, List.set_cons_zero, List.set_cons_succ]
                refine wpAnyH_ready (rs := [7]) (by kernel_rfl) (by simp) ?_
                refine AllReadyH.cons (o := _) rfl (fun K hK => ?_) ?_
                · rw [if_pos (by rfl)]
                  have y2 := HN.out.cell; have f2 := HN.out.froz
                  go_simp
                  clear y2 f2
                  have HN := Lib.hid (HN.out.set hwb hbg)
                  refine hK.out _ _ trivial (fun hHeld => ?_)
                  clear hK K
                  try dsimp only [Act.put, List.getElem_toArray, List.getElem_cons_zero, List.getElem_cons_succ]; try simp only [List.setIfInBounds_toArray, List.set_cons_zero, List.set_cons_succ]
                  refine wpAnyH_done (by kernel_rfl) ?_ _
                  go_wp2
                  go_roundw
                  case rel => exact ⟨j + 1, s', ms ++ [⟨nm, rk, zn, up⟩], _, by omega, by go_num, Lib.hid (by rw [← HZ.out, HST2.out, show n - (j + 1) = n - j - 1 by omega, List.append_assoc]; rfl), by rw [List.length_append, HML.out]; rfl, by omega, HN⟩
                  case measure => simp [intOf]; omega
                exact AllReadyH.nil
              exact AllReadyH.nil
            exact AllReadyH.nil
          refine AllReadyH.cons (o := _) rfl (fun K hK => ?_) ?_
          · rw [if_pos (by rfl)]
            go_simp
            have HN := Lib.hid (HN.out.alloc (.cells #[.string nm, .string rk, .string zn, .bool up] 82))
            have HRD := Lib.hid (Rd.new wx #[.string nm, .string rk, .string zn, .bool up] 82)
            refine hK.out _ _ trivial (fun hHeld => ?_)
            clear hK K
            try dsimp only [Act.put, List.getElem_toArray, List.getElem_cons_zero, List.getElem_cons_succ]; try simp only [List.setIfInBounds_toArray, List.set_cons_zero, List.set_cons_succ]
            refine wpAnyH_ready (rs := [1]) (by kernel_rfl) (by simp) ?_
            refine AllReadyH.cons (o := _) rfl (fun K hK => ?_) ?_
            · rw [if_pos (by rfl)]
              have y2 := HN.out.cell
              go_simp
              clear y2
              refine hK.out _ _ trivial (fun hHeld => ?_)
              clear hK K
              try dsimp only [Act.put, List.getElem_toArray, List.getElem_cons_zero, List.getElem_cons_succ]; try simp only [List.setIfInBounds_toArray, List.set_cons_zero, List.set_cons_succ]
              refine wpAnyH_ready (rs := [5]) (by kernel_rfl) (by simp) ?_
              refine AllReadyH.cons (o := _) rfl (fun K hK => ?_) ?_
              · refine step_app el_memb8 rfl (.tmp 30) (.tmp 33) rfl (b + 1 + 1) v ms.length (ms.flatMap fun m : Memb => m.arr.toList) rfl HN.out.own (some ⟨wx.heap.size, 0, none⟩) 1 1 [.string nm, .string rk, .string zn, .bool up] rfl rfl ?rr (by simp [Value.oneCell']) (by have := HML.out; unfold maxLen; omega) (by have := HML.out; omega) ?bb ?_
                case rr => exact HRD.out
                case bb => have := HN.out.x.lt; omega
                intro v1 w6 hown6 hbel6 hgr6 _
                obtain ⟨a1, cc1, rfl⟩ := own_form hown6
                have HN := Lib.hid (HN.out.app (y := ⟨nm, rk, zn, up⟩) hwb hbg hown6 hbel6)
                clear hown6 hbel6 hgr6
                refine hK.out _ _ trivial (fun hHeld => ?_)
                clear hK K
                try dsimp only [Act.put, List.getElem_toArray, List.getElem_cons_zero, List.getElem_cons_succ]; try simp only [List.setIfInBounds_toArray, List.set_cons_zero, List.set_cons_succ]
                refine wpAnyH_take (i := 6) (oi := _) (v := ?vq5) rfl (by kernel_rfl) (by kernel_rfl) (by kernel_rfl) (fun _ _ _ h => h) (Or.inl ⟨by rfl, ?hq5⟩) (by assumption) ?rq5
                case hq5 => (intro w hSw; go_simp; try with_reducible rfl)
                try dsimp only [Act.put, List.getElem_toArray, List.getElem_cons_zero, List.getElem_cons_succ]; try simp only [List.setIfInBounds_toArray, List.set_cons_zero, List.set_cons_succ]
                refine wpAnyH_ready (rs := [7]) (by kernel_rfl) (by simp) ?_
                refine AllReadyH.cons (o := _) rfl (fun K hK => ?_) ?_
                · rw [if_pos (by rfl)]
                  have y2 := HN.out.cell; have f2 := HN.out.froz
                  go_simp
                  clear y2 f2
                  have HN := Lib.hid (HN.out.set hwb hbg)
                  refine hK.out _ _ trivial (fun hHeld => ?_)
                  clear hK K
                  try dsimp only [Act.put, List.getElem_toArray, List.getElem_cons_zero, List.getElem_cons_succ]; try simp only [List.setIfInBounds_toArray, List.set_cons_zero, List.set_cons_succ]
                  refine wpAnyH_done (by kernel_rfl) ?_ _
                  go_wp2
                  go_roundw
                  case rel => exact ⟨j + 1, s', ms ++ [⟨nm, rk, zn, up⟩], _, by omega, by go_num, Lib.hid (by rw [← HZ.out, HST2.out, show n - (j + 1) = n - j - 1 by omega, List.append_assoc]; rfl), by rw [List.length_append, HML.out]; rfl, by omega, HN⟩
                  case measure => simp [intOf]; omega
                exact AllReadyH.nil
              exact AllReadyH.nil
            exact AllReadyH.nil
          exact AllReadyH.nil
        exact AllReadyH.nil
      | false =>
        have hb := sevG_bad rdMem (n - j) sj hgj
        rw [hgj] at c1
        simp only [Bool.not_false] at c1
        have hq : (ms, sj) = (ml, s1) := by rw [← HZ.out, hb]; simp
        simp only [Prod.mk.injEq] at hq
        have hY : OY w b (b + 1) s1 v v ml W := by have h := HN.out; rw [hq.1, hq.2] at h; exact h
        clear hb hgj hq HN HML HZ hsj
        obtain ⟨mA, mc, rfl⟩ := own_form hY.own
        have HM : Hid (∀ W', Agr (b + 1 + 1) W W' → Mems.ok W' ⟨mA, ml.length, mc, ml⟩) := Lib.hid fun W' hW => ⟨Rd.of_own (own_agr hY.own (Nat.le_refl _) hW), rfl, own_maxS hY.own⟩
        have HX : Hid (OZ w b (b + 1) W (.slice mA ml.length mc) (.slice none 0 0)) := Lib.hid ⟨hY.bel, hY.r, hY.x⟩
        have HR := Lib.hid hY.rd
        clear hY
        go_wp2_with fail
        have hw0 := HX.out.x.lt
        refine (T2.out _ HR.out).mono ?_
        rintro e w3 ⟨v3, rfl, hown, hr3, ho3⟩
        obtain ⟨eA, ec, rfl⟩ := own_form hown
        have HE : Hid (∃ B, b + 1 < B ∧ ∀ W', Agr B w3 W' → Ents.ok W' ⟨eA, el.length, ec, el⟩) := Lib.hid ⟨_, hw0, fun W' hW => ⟨Rd.of_own (own_agr hown (Nat.le_refl _) hW), rfl, own_maxS hown, fun m hm => HEL.out m hm W'⟩⟩
        obtain ⟨BE, hBE, hE⟩ := HE.out
        have HE := Lib.hid hE
        have HX := Lib.hid (HX.out.call hwb hbg ho3)
        have HM := Lib.hid (fun (W' : World) hW => HM.out W' (Agr.only hW ho3 (by omega)))
        clear hown hE ho3 hw0
        have x1 := HX.out.x.cell 1 rfl; have f1 := HX.out.x.froz 1
        have HX := Lib.hid (HX.out.set1 (by omega) (.slice eA el.length ec))
        have HR := Lib.hid (rdf_set hr3 (show b ≠ b + 1 by omega) 1 (.slice eA el.length ec))
        have HM := Lib.hid (fun (W' : World) hW => HM.out W' (Agr.setCell (i := 1) (u := .slice eA el.length ec) (g := b + 1) (by omega) hW))
        have HE := Lib.hid (fun (W' : World) hW => HE.out W' (Agr.setCell (i := 1) (u := .slice eA el.length ec) hBE hW))
        clear hr3
        go_wp2_with fail
        clear x1 f1
        generalize w3.setCell ⟨b + 1, 1, none⟩ (.slice eA el.length ec) = W3 at HX HR HM HE ⊢
        refine (T5.out _ HR.out).mono ?_
        rintro e w4 ⟨rfl, hr4, ho4⟩
        have HX := Lib.hid (HX.out.call hwb hbg ho4)
        have HM := Lib.hid (fun (W' : World) hW => HM.out W' (Agr.only hW ho4 (by omega)))
        have HE := Lib.hid (fun (W' : World) hW => HE.out W' (Agr.only hW ho4 (by omega)))
        clear ho4 HR
        have HLEV : Hid (b + 1 < w4.heap.size) := Lib.hid HX.out.x.lt
        obtain ⟨W2, hW2⟩ : ∃ W2, W2 = w4 := ⟨_, rfl⟩
        rw [← hW2] at HX HM HE HLEV hr4
        have hO0 : Only b W2 w4 := by rw [hW2]; exact Only.rfl_
        have hr4' : RdF b st2 w4 := by rw [← hW2]; exact hr4
        clear hW2 hr4
        go_wp2
        go_loopw [9, 10] (fun o i wr => ∃ (k : Nat) (sj : St) (acc : List Ev), k ≤ n2 ∧ i = .int .i64 k ∧ Hid ((acc.map Ev.bare ++ (sevG rdEv (n2 - k) sj).1, (sevG rdEv (n2 - k) sj).2) = (vl, s3)) ∧ acc.length = k ∧ sj.1.length ≤ 140737488355328 ∧ wr.ownsRow W2.heap.size 89 22 o acc.length (acc.flatMap fun m : Ev => m.arr.toList) ∧ (∀ x ∈ acc, ∀ W', AgrBut o.ownBlock W2.heap.size wr W' → x.ok W') ∧ RdF b sj wr ∧ Only b W2 wr) (fun _ i _ => n2 - (intOf i).toNat)
        case atStart => exact ⟨0, st2, [], Nat.zero_le _, rfl, Lib.hid (by rw [Nat.sub_zero, E3.out]; rfl), rfl, HST2.out, World.ownsRow_nil _ _ _ _, fun x hx => by simp at hx, hr4', hO0⟩
        case round =>
          clear hr4' hO0
          rename World => W
          obtain ⟨k, sj, xs, hk, rfl, HA, hal, hsl, hown, hok, hR, hO⟩ := hrel
          obtain ⟨xA, xc, rfl⟩ := own_form hown
          have HAL := Lib.hid hal; have HOW := Lib.hid hown; have HOK := Lib.hid hok; clear hal hown hok
          have c1 := Two.c1 hR
          have hbw2 : b < W2.heap.size := by have := HLEV.out; omega
          by_cases hlt : k < n2
          · cases hg : sj.2 with
            | true =>
              have hst := sevG_step rdEv (n2 - k - 1) sj hg
              rw [show n2 - k - 1 + 1 = n2 - k by omega] at hst
              rw [hg] at c1
              simp only [Bool.not_true] at c1
              have hlen2 := rdEv_len sj
              have HTE := Lib.hid (fun W' (hW : RdF b sj W') => fEv_any b sj W' hW hsl)
              have HST := Lib.hid hst
              clear hst hg
              go_wp2_with fail
              refine (HTE.out _ hR).mono ?_
              rintro e w5 ⟨x, rfl, hbare, hlast, h5, ho5⟩
              have hown5 := own_only HOW.out hbw2 ho5
              have hlt5 := own_lt HOW.out
              have HLAST := Lib.hid hlast; clear hlast
              generalize rdEv sj = r at hlen2 HST h5 hbare
              obtain ⟨x', s'⟩ := r
              simp only at hbare hlen2 h5 HST
              have HBX := Lib.hid hbare; clear hbare
              obtain ⟨kd, nd, tn, ln, en, ⟨ck, ct, cb, cy, cv, ⟨cA, cn, cc, cl⟩, ctm⟩, ⟨ak, at_, ab, af, ax, an, ⟨mn, mr, mz, mu⟩⟩⟩ := x
              simp only [Ev.arr, Ctx.v]
              have HLT5 := Lib.hid hlt5; clear hlt5
              have hsz2 := hO.size
              have hsz3 := ho5.size
              have hal1 : xs.length + 1 ≤ 16384 := by have := HAL.out; omega
              clear c1
              go_wp2_with (at_builtin; refine wpList_app el_ev8 rfl (.tmp 53) (.tmp 56) rfl W2.heap.size _ _ _ rfl (hown5.alloc _) (some ⟨w5.heap.size, 0, none⟩) 1 1 [.int .i64 kd, .string nd, .string tn, .string ln, .int .i64 en, .int .i64 ck, .string ct, .string cb, .string cy, .string cv, .slice cA cn cc, .int .i64 ctm, .int .i64 ak, .string at_, .string ab, .string af, .string ax, .int .i64 an, .string mn, .string mr, .string mz, .bool mu] rfl rfl (Rd.new w5 #[.int .i64 kd, .string nd, .string tn, .string ln, .int .i64 en, .int .i64 ck, .string ct, .string cb, .string cy, .string cv, .slice cA cn cc, .int .i64 ctm, .int .i64 ak, .string at_, .string ab, .string af, .string ax, .int .i64 an, .string mn, .string mr, .string mz, .bool mu] _) (by simp [Value.oneCell']) (by unfold maxLen; omega) (by omega) (by simp; omega) ?_; intro v1 w6 hown6 hbel6 hgr6 hdd6)
              have h6 : RdF b s' w6 := Two.below_at (Two.alloc h5 _) hbel6 hbw2
              have hO6 : Only b W2 w6 := only_below (hO.then_ ho5) hbel6
              have hnew : ∀ y ∈ xs ++ [(⟨kd, nd, tn, ln, en, ⟨ck, ct, cb, cy, cv, ⟨cA, cn, cc, cl⟩, ctm⟩, ⟨ak, at_, ab, af, ax, an, ⟨mn, mr, mz, mu⟩⟩⟩ : Ev)], ∀ W', AgrBut v1.ownBlock W2.heap.size w6 W' → y.ok W' := fun y hy W' hW' => by
                rw [List.mem_append, List.mem_singleton] at hy
                rcases hy with hy | rfl
                · exact HOK.out y hy W' (lasts_old ho5 hbw2 hgr6 hdd6 hW')
                · exact HLAST.out W' (lasts_new hsz2 HLT5.out hgr6 hdd6 hW')
              go_roundw
              case rel =>
                refine ⟨k + 1, s', xs ++ [⟨kd, nd, tn, ln, en, ⟨ck, ct, cb, cy, cv, ⟨cA, cn, cc, cl⟩, ctm⟩, ⟨ak, at_, ab, af, ax, an, ⟨mn, mr, mz, mu⟩⟩⟩], by omega, by go_num, ?_, by rw [List.length_append, HAL.out]; rfl, by omega, ?_, hnew, h6, hO6⟩
                · exact Lib.hid (by rw [← HA.out, HST.out, show n2 - (k + 1) = n2 - k - 1 by omega, List.map_append, List.append_assoc, ← HBX.out]; rfl)
                · rw [List.length_append]
                  simpa [Ev.arr, Ctx.v] using hown6
              case measure => simp [intOf]; omega
            | false =>
              have hb := sevG_bad rdEv (n2 - k) sj hg
              rw [hg] at c1
              simp only [Bool.not_false] at c1
              have HQ2 : Hid ((xs.map Ev.bare, sj) = (vl, s3)) := Lib.hid (by rw [← HA.out, hb]; simp)
              clear hb hg
              have he := HQ2.out
              simp only [Prod.mk.injEq] at he
              obtain ⟨hbr, hsj3⟩ := he
              have HBR := Lib.hid hbr
              have HBB : Hid (scrB ml el xs = scrB ml el vl) := Lib.hid (by unfold scrB; rw [← HBR.out, evsB_bare])
              have hr5 := hR
              rw [hsj3] at hr5
              have HV : Hid (∀ W', Agr W2.heap.size W W' → Evs.ok W' ⟨xA, xs.length, xc, xs⟩) := Lib.hid fun W' hW => ⟨Rd.of_own (own_agr HOW.out (Nat.le_refl _) hW), rfl, own_maxS HOW.out, fun m hm => HOK.out m hm W' (hW.but _)⟩
              have HX := Lib.hid (HX.out.call hwb hbg hO)
              have HM := Lib.hid (fun (W' : World) hW => HM.out W' (Agr.only hW hO (by omega)))
              have HE := Lib.hid (fun (W' : World) hW => HE.out W' (Agr.only hW hO (by omega)))
              have HR := Lib.hid hr5
              clear hbr hsj3 hr5 hR hO
              go_wp2_with fail
              refine (T4.out _ HR.out).mono ?_
              rintro e wd ⟨rfl, rfl⟩
              cases hdn : rdDone s3 with
              | false =>
                have HF := Lib.hid (HFIN.out false (by rw [HG.out, hdn]; rfl))
                clear hdn
                have r0 := HX.out.r.cell 0 rfl; have r1 := HX.out.r.cell 1 rfl; have q0 := HX.out.r.froz 0; have q1 := HX.out.r.froz 1
                go_wp2_with fail
                refine bodyPost_ret (results_cell_row3 rfl _ _ w.heap.size _ #[.slice none 0 0, .slice none 0 0] (0, 0) _ rfl (HX.out.res _ _) Try.underlying26 rfl rfl) rfl ?_
                obtain ⟨g1, g2, g3, g4⟩ := HF.out
                obtain ⟨z1, z2, z3⟩ := HZZ.out ((W.setCell ⟨w.heap.size, 0, none⟩ (.slice none 0 0)).setCell ⟨w.heap.size, 1, none⟩ (.slice none 0 0))
                exact ⟨⟨none, 0, 0, []⟩, ⟨none, 0, 0, []⟩, ⟨none, 0, 0, []⟩, by rw [g4]; rfl, z1, z2, z3, g1.symm, g2.symm, g3.symm, (HX.out.bel.setCell (by simp) _).setCell (by simp) _⟩
              | true =>
                have hlen := HSLEN.out hdn
                have HBY := Lib.hid (rBytes47_any ⟨mA, ml.length, mc, ml⟩ ⟨eA, el.length, ec, el⟩ ⟨xA, xs.length, xc, xs⟩ W (HM.out _ (Agr.refl _ _)) (HE.out _ (Agr.refl _ _)) (HV.out _ (Agr.refl _ _)) (by rw [HBB.out]; exact hlen))
                unfold SaysT at HBY
                rw [HBB.out] at HBY
                have hg2 := HG.out
                rw [hdn] at hg2
                generalize bs (scrB ml el vl) = t at HBY hg2
                clear hlen hdn
                simp only [setup, Evs.v] at HBY
                cases hq : (t.toList == s.toList) with
                | false =>
                  have HF := Lib.hid (HFIN.out false (by rw [hg2, hq]; rfl)); clear hg2
                  have x0 := HX.out.x.cell 0 rfl; have x1 := HX.out.x.cell 1 rfl
                  go_wp2_with fail
                  refine HBY.out.mono ?_
                  clear x0 x1
                  rintro e w6 ⟨rfl, hb6⟩
                  have HX := Lib.hid (HX.out.below hb6)
                  have r0 := HX.out.r.cell 0 rfl; have r1 := HX.out.r.cell 1 rfl; have q0 := HX.out.r.froz 0; have q1 := HX.out.r.froz 1
                  go_wp2_with fail
                  refine bodyPost_ret (results_cell_row3 rfl _ _ w.heap.size _ #[.slice none 0 0, .slice none 0 0] (0, 0) _ rfl (HX.out.res _ _) Try.underlying26 rfl rfl) rfl ?_
                  obtain ⟨g1, g2, g3, g4⟩ := HF.out
                  obtain ⟨z1, z2, z3⟩ := HZZ.out ((w6.setCell ⟨w.heap.size, 0, none⟩ (.slice none 0 0)).setCell ⟨w.heap.size, 1, none⟩ (.slice none 0 0))
                  exact ⟨⟨none, 0, 0, []⟩, ⟨none, 0, 0, []⟩, ⟨none, 0, 0, []⟩, by rw [g4]; rfl, z1, z2, z3, g1.symm, g2.symm, g3.symm, (HX.out.bel.setCell (by simp) _).setCell (by simp) _⟩
                | true =>
                  have HF := Lib.hid (HFIN.out true (by rw [hg2, hq]; rfl)); clear hg2
                  have x0 := HX.out.x.cell 0 rfl; have x1 := HX.out.x.cell 1 rfl
                  go_wp2_with fail
                  refine HBY.out.mono ?_
                  clear x0 x1
                  rintro e w6 ⟨rfl, hb6⟩
                  have HX := Lib.hid (HX.out.below hb6)
                  have r0 := HX.out.r.cell 0 rfl; have r1 := HX.out.r.cell 1 rfl; have q0 := HX.out.r.froz 0; have q1 := HX.out.r.froz 1
                  have x0 := HX.out.x.cell 0 rfl; have x1 := HX.out.x.cell 1 rfl
                  go_wp2_with fail
                  refine bodyPost_ret (results_cell_row3 rfl _ _ w.heap.size _ #[.slice mA ml.length mc, .slice eA el.length ec] (0, 0) _ rfl (HX.out.res _ _) Try.underlying26 rfl rfl) rfl ?_
                  obtain ⟨g1, g2, g3, g4⟩ := HF.out
                  have hlev := HLEV.out
                  exact ⟨⟨mA, ml.length, mc, ml⟩, ⟨eA, el.length, ec, el⟩, ⟨xA, xs.length, xc, xs⟩, by rw [g4]; rfl, HM.out _ (agr_fin hb6 (by omega) _ _), HE.out _ (agr_fin hb6 (by omega) _ _), HV.out _ (agr_fin hb6 (by omega) _ _), g1.symm, g2.symm, HBR.out.trans g3.symm, (HX.out.bel.setCell (by simp) _).setCell (by simp) _⟩
          · obtain rfl : k = n2 := by omega
            have HQ2 : Hid ((xs.map Ev.bare, sj) = (vl, s3)) := Lib.hid (by rw [← HA.out, Nat.sub_self]; simp [sevG])
            have he := HQ2.out
            simp only [Prod.mk.injEq] at he
            obtain ⟨hbr, hsj3⟩ := he
            have HBR := Lib.hid hbr
            have HBB : Hid (scrB ml el xs = scrB ml el vl) := Lib.hid (by unfold scrB; rw [← HBR.out, evsB_bare])
            have hr5 := hR
            rw [hsj3] at hr5
            have HV : Hid (∀ W', Agr W2.heap.size W W' → Evs.ok W' ⟨xA, xs.length, xc, xs⟩) := Lib.hid fun W' hW => ⟨Rd.of_own (own_agr HOW.out (Nat.le_refl _) hW), rfl, own_maxS HOW.out, fun m hm => HOK.out m hm W' (hW.but _)⟩
            have HX := Lib.hid (HX.out.call hwb hbg hO)
            have HM := Lib.hid (fun (W' : World) hW => HM.out W' (Agr.only hW hO (by omega)))
            have HE := Lib.hid (fun (W' : World) hW => HE.out W' (Agr.only hW hO (by omega)))
            have HR := Lib.hid hr5
            clear hbr hsj3 hr5 hR hO
            go_wp2_with fail
            refine (T4.out _ HR.out).mono ?_
            rintro e wd ⟨rfl, rfl⟩
            cases hdn : rdDone s3 with
            | false =>
              have HF := Lib.hid (HFIN.out false (by rw [HG.out, hdn]; rfl))
              clear hdn
              have r0 := HX.out.r.cell 0 rfl; have r1 := HX.out.r.cell 1 rfl; have q0 := HX.out.r.froz 0; have q1 := HX.out.r.froz 1
              go_wp2_with fail
              refine bodyPost_ret (results_cell_row3 rfl _ _ w.heap.size _ #[.slice none 0 0, .slice none 0 0] (0, 0) _ rfl (HX.out.res _ _) Try.underlying26 rfl rfl) rfl ?_
              obtain ⟨g1, g2, g3, g4⟩ := HF.out
              obtain ⟨z1, z2, z3⟩ := HZZ.out ((W.setCell ⟨w.heap.size, 0, none⟩ (.slice none 0 0)).setCell ⟨w.heap.size, 1, none⟩ (.slice none 0 0))
              exact ⟨⟨none, 0, 0, []⟩, ⟨none, 0, 0, []⟩, ⟨none, 0, 0, []⟩, by rw [g4]; rfl, z1, z2, z3, g1.symm, g2.symm, g3.symm, (HX.out.bel.setCell (by simp) _).setCell (by simp) _⟩
            | true =>
              have hlen := HSLEN.out hdn
              have HBY := Lib.hid (rBytes47_any ⟨mA, ml.length, mc, ml⟩ ⟨eA, el.length, ec, el⟩ ⟨xA, xs.length, xc, xs⟩ W (HM.out _ (Agr.refl _ _)) (HE.out _ (Agr.refl _ _)) (HV.out _ (Agr.refl _ _)) (by rw [HBB.out]; exact hlen))
              unfold SaysT at HBY
              rw [HBB.out] at HBY
              have hg2 := HG.out
              rw [hdn] at hg2
              generalize bs (scrB ml el vl) = t at HBY hg2
              clear hlen hdn
              simp only [setup, Evs.v] at HBY
              cases hq : (t.toList == s.toList) with
              | false =>
                have HF := Lib.hid (HFIN.out false (by rw [hg2, hq]; rfl)); clear hg2
                have x0 := HX.out.x.cell 0 rfl; have x1 := HX.out.x.cell 1 rfl
                go_wp2_with fail
                refine HBY.out.mono ?_
                clear x0 x1
                rintro e w6 ⟨rfl, hb6⟩
                have HX := Lib.hid (HX.out.below hb6)
                have r0 := HX.out.r.cell 0 rfl; have r1 := HX.out.r.cell 1 rfl; have q0 := HX.out.r.froz 0; have q1 := HX.out.r.froz 1
                go_wp2_with fail
                refine bodyPost_ret (results_cell_row3 rfl _ _ w.heap.size _ #[.slice none 0 0, .slice none 0 0] (0, 0) _ rfl (HX.out.res _ _) Try.underlying26 rfl rfl) rfl ?_
                obtain ⟨g1, g2, g3, g4⟩ := HF.out
                obtain ⟨z1, z2, z3⟩ := HZZ.out ((w6.setCell ⟨w.heap.size, 0, none⟩ (.slice none 0 0)).setCell ⟨w.heap.size, 1, none⟩ (.slice none 0 0))
                exact ⟨⟨none, 0, 0, []⟩, ⟨none, 0, 0, []⟩, ⟨none, 0, 0, []⟩, by rw [g4]; rfl, z1, z2, z3, g1.symm, g2.symm, g3.symm, (HX.out.bel.setCell (by simp) _).setCell (by simp) _⟩
              | true =>
                have HF := Lib.hid (HFIN.out true (by rw [hg2, hq]; rfl)); clear hg2
                have x0 := HX.out.x.cell 0 rfl; have x1 := HX.out.x.cell 1 rfl
                go_wp2_with fail
                refine HBY.out.mono ?_
                clear x0 x1
                rintro e w6 ⟨rfl, hb6⟩
                have HX := Lib.hid (HX.out.below hb6)
                have r0 := HX.out.r.cell 0 rfl; have r1 := HX.out.r.cell 1 rfl; have q0 := HX.out.r.froz 0; have q1 := HX.out.r.froz 1
                have x0 := HX.out.x.cell 0 rfl; have x1 := HX.out.x.cell 1 rfl
                go_wp2_with fail
                refine bodyPost_ret (results_cell_row3 rfl _ _ w.heap.size _ #[.slice mA ml.length mc, .slice eA el.length ec] (0, 0) _ rfl (HX.out.res _ _) Try.underlying26 rfl rfl) rfl ?_
                obtain ⟨g1, g2, g3, g4⟩ := HF.out
                have hlev := HLEV.out
                exact ⟨⟨mA, ml.length, mc, ml⟩, ⟨eA, el.length, ec, el⟩, ⟨xA, xs.length, xc, xs⟩, by rw [g4]; rfl, HM.out _ (agr_fin hb6 (by omega) _ _), HE.out _ (agr_fin hb6 (by omega) _ _), HV.out _ (agr_fin hb6 (by omega) _ _), g1.symm, g2.symm, HBR.out.trans g3.symm, (HX.out.bel.setCell (by simp) _).setCell (by simp) _⟩
    · obtain rfl : j = n := by omega
      have hq : (ms, sj) = (ml, s1) := by rw [← HZ.out, Nat.sub_self]; simp [sevG]
      simp only [Prod.mk.injEq] at hq
      have hY : OY w b (b + 1) s1 v v ml W := by have h := HN.out; rw [hq.1, hq.2] at h; exact h
      clear hq HN HML HZ hsj
      obtain ⟨mA, mc, rfl⟩ := own_form hY.own
      have HM : Hid (∀ W', Agr (b + 1 + 1) W W' → Mems.ok W' ⟨mA, ml.length, mc, ml⟩) := Lib.hid fun W' hW => ⟨Rd.of_own (own_agr hY.own (Nat.le_refl _) hW), rfl, own_maxS hY.own⟩
      have HX : Hid (OZ w b (b + 1) W (.slice mA ml.length mc) (.slice none 0 0)) := Lib.hid ⟨hY.bel, hY.r, hY.x⟩
      have HR := Lib.hid hY.rd
      clear hY
      go_wp2_with fail
      have hw0 := HX.out.x.lt
      refine (T2.out _ HR.out).mono ?_
      rintro e w3 ⟨v3, rfl, hown, hr3, ho3⟩
      obtain ⟨eA, ec, rfl⟩ := own_form hown
      have HE : Hid (∃ B, b + 1 < B ∧ ∀ W', Agr B w3 W' → Ents.ok W' ⟨eA, el.length, ec, el⟩) := Lib.hid ⟨_, hw0, fun W' hW => ⟨Rd.of_own (own_agr hown (Nat.le_refl _) hW), rfl, own_maxS hown, fun m hm => HEL.out m hm W'⟩⟩
      obtain ⟨BE, hBE, hE⟩ := HE.out
      have HE := Lib.hid hE
      have HX := Lib.hid (HX.out.call hwb hbg ho3)
      have HM := Lib.hid (fun (W' : World) hW => HM.out W' (Agr.only hW ho3 (by omega)))
      clear hown hE ho3 hw0
      have x1 := HX.out.x.cell 1 rfl; have f1 := HX.out.x.froz 1
      have HX := Lib.hid (HX.out.set1 (by omega) (.slice eA el.length ec))
      have HR := Lib.hid (rdf_set hr3 (show b ≠ b + 1 by omega) 1 (.slice eA el.length ec))
      have HM := Lib.hid (fun (W' : World) hW => HM.out W' (Agr.setCell (i := 1) (u := .slice eA el.length ec) (g := b + 1) (by omega) hW))
      have HE := Lib.hid (fun (W' : World) hW => HE.out W' (Agr.setCell (i := 1) (u := .slice eA el.length ec) hBE hW))
      clear hr3
      go_wp2_with fail
      clear x1 f1
      generalize w3.setCell ⟨b + 1, 1, none⟩ (.slice eA el.length ec) = W3 at HX HR HM HE ⊢
      refine (T5.out _ HR.out).mono ?_
      rintro e w4 ⟨rfl, hr4, ho4⟩
      have HX := Lib.hid (HX.out.call hwb hbg ho4)
      have HM := Lib.hid (fun (W' : World) hW => HM.out W' (Agr.only hW ho4 (by omega)))
      have HE := Lib.hid (fun (W' : World) hW => HE.out W' (Agr.only hW ho4 (by omega)))
      clear ho4 HR
      have HLEV : Hid (b + 1 < w4.heap.size) := Lib.hid HX.out.x.lt
      obtain ⟨W2, hW2⟩ : ∃ W2, W2 = w4 := ⟨_, rfl⟩
      rw [← hW2] at HX HM HE HLEV hr4
      have hO0 : Only b W2 w4 := by rw [hW2]; exact Only.rfl_
      have hr4' : RdF b st2 w4 := by rw [← hW2]; exact hr4
      clear hW2 hr4
      go_wp2
      go_loopw [9, 10] (fun o i wr => ∃ (k : Nat) (sj : St) (acc : List Ev), k ≤ n2 ∧ i = .int .i64 k ∧ Hid ((acc.map Ev.bare ++ (sevG rdEv (n2 - k) sj).1, (sevG rdEv (n2 - k) sj).2) = (vl, s3)) ∧ acc.length = k ∧ sj.1.length ≤ 140737488355328 ∧ wr.ownsRow W2.heap.size 89 22 o acc.length (acc.flatMap fun m : Ev => m.arr.toList) ∧ (∀ x ∈ acc, ∀ W', AgrBut o.ownBlock W2.heap.size wr W' → x.ok W') ∧ RdF b sj wr ∧ Only b W2 wr) (fun _ i _ => n2 - (intOf i).toNat)
      case atStart => exact ⟨0, st2, [], Nat.zero_le _, rfl, Lib.hid (by rw [Nat.sub_zero, E3.out]; rfl), rfl, HST2.out, World.ownsRow_nil _ _ _ _, fun x hx => by simp at hx, hr4', hO0⟩
      case round =>
        clear hr4' hO0
        rename World => W
        obtain ⟨k, sj, xs, hk, rfl, HA, hal, hsl, hown, hok, hR, hO⟩ := hrel
        obtain ⟨xA, xc, rfl⟩ := own_form hown
        have HAL := Lib.hid hal; have HOW := Lib.hid hown; have HOK := Lib.hid hok; clear hal hown hok
        have c1 := Two.c1 hR
        have hbw2 : b < W2.heap.size := by have := HLEV.out; omega
        by_cases hlt : k < n2
        · cases hg : sj.2 with
          | true =>
            have hst := sevG_step rdEv (n2 - k - 1) sj hg
            rw [show n2 - k - 1 + 1 = n2 - k by omega] at hst
            rw [hg] at c1
            simp only [Bool.not_true] at c1
            have hlen2 := rdEv_len sj
            have HTE := Lib.hid (fun W' (hW : RdF b sj W') => fEv_any b sj W' hW hsl)
            have HST := Lib.hid hst
            clear hst hg
            go_wp2_with fail
            refine (HTE.out _ hR).mono ?_
            rintro e w5 ⟨x, rfl, hbare, hlast, h5, ho5⟩
            have hown5 := own_only HOW.out hbw2 ho5
            have hlt5 := own_lt HOW.out
            have HLAST := Lib.hid hlast; clear hlast
            generalize rdEv sj = r at hlen2 HST h5 hbare
            obtain ⟨x', s'⟩ := r
            simp only at hbare hlen2 h5 HST
            have HBX := Lib.hid hbare; clear hbare
            obtain ⟨kd, nd, tn, ln, en, ⟨ck, ct, cb, cy, cv, ⟨cA, cn, cc, cl⟩, ctm⟩, ⟨ak, at_, ab, af, ax, an, ⟨mn, mr, mz, mu⟩⟩⟩ := x
            simp only [Ev.arr, Ctx.v]
            have HLT5 := Lib.hid hlt5; clear hlt5
            have hsz2 := hO.size
            have hsz3 := ho5.size
            have hal1 : xs.length + 1 ≤ 16384 := by have := HAL.out; omega
            clear c1
            go_wp2_with (at_builtin; refine wpList_app el_ev8 rfl (.tmp 53) (.tmp 56) rfl W2.heap.size _ _ _ rfl (hown5.alloc _) (some ⟨w5.heap.size, 0, none⟩) 1 1 [.int .i64 kd, .string nd, .string tn, .string ln, .int .i64 en, .int .i64 ck, .string ct, .string cb, .string cy, .string cv, .slice cA cn cc, .int .i64 ctm, .int .i64 ak, .string at_, .string ab, .string af, .string ax, .int .i64 an, .string mn, .string mr, .string mz, .bool mu] rfl rfl (Rd.new w5 #[.int .i64 kd, .string nd, .string tn, .string ln, .int .i64 en, .int .i64 ck, .string ct, .string cb, .string cy, .string cv, .slice cA cn cc, .int .i64 ctm, .int .i64 ak, .string at_, .string ab, .string af, .string ax, .int .i64 an, .string mn, .string mr, .string mz, .bool mu] _) (by simp [Value.oneCell']) (by unfold maxLen; omega) (by omega) (by simp; omega) ?_; intro v1 w6 hown6 hbel6 hgr6 hdd6)
            have h6 : RdF b s' w6 := Two.below_at (Two.alloc h5 _) hbel6 hbw2
            have hO6 : Only b W2 w6 := only_below (hO.then_ ho5) hbel6
            have hnew : ∀ y ∈ xs ++ [(⟨kd, nd, tn, ln, en, ⟨ck, ct, cb, cy, cv, ⟨cA, cn, cc, cl⟩, ctm⟩, ⟨ak, at_, ab, af, ax, an, ⟨mn, mr, mz, mu⟩⟩⟩ : Ev)], ∀ W', AgrBut v1.ownBlock W2.heap.size w6 W' → y.ok W' := fun y hy W' hW' => by
              rw [List.mem_append, List.mem_singleton] at hy
              rcases hy with hy | rfl
              · exact HOK.out y hy W' (lasts_old ho5 hbw2 hgr6 hdd6 hW')
              · exact HLAST.out W' (lasts_new hsz2 HLT5.out hgr6 hdd6 hW')
            go_roundw
            case rel =>
              refine ⟨k + 1, s', xs ++ [⟨kd, nd, tn, ln, en, ⟨ck, ct, cb, cy, cv, ⟨cA, cn, cc, cl⟩, ctm⟩, ⟨ak, at_, ab, af, ax, an, ⟨mn, mr, mz, mu⟩⟩⟩], by omega, by go_num, ?_, by rw [List.length_append, HAL.out]; rfl, by omega, ?_, hnew, h6, hO6⟩
              · exact Lib.hid (by rw [← HA.out, HST.out, show n2 - (k + 1) = n2 - k - 1 by omega, List.map_append, List.append_assoc, ← HBX.out]; rfl)
              · rw [List.length_append]
                simpa [Ev.arr, Ctx.v] using hown6
            case measure => simp [intOf]; omega
          | false =>
            have hb := sevG_bad rdEv (n2 - k) sj hg
            rw [hg] at c1
            simp only [Bool.not_false] at c1
            have HQ2 : Hid ((xs.map Ev.bare, sj) = (vl, s3)) := Lib.hid (by rw [← HA.out, hb]; simp)
            clear hb hg
            have he := HQ2.out
            simp only [Prod.mk.injEq] at he
            obtain ⟨hbr, hsj3⟩ := he
            have HBR := Lib.hid hbr
            have HBB : Hid (scrB ml el xs = scrB ml el vl) := Lib.hid (by unfold scrB; rw [← HBR.out, evsB_bare])
            have hr5 := hR
            rw [hsj3] at hr5
            have HV : Hid (∀ W', Agr W2.heap.size W W' → Evs.ok W' ⟨xA, xs.length, xc, xs⟩) := Lib.hid fun W' hW => ⟨Rd.of_own (own_agr HOW.out (Nat.le_refl _) hW), rfl, own_maxS HOW.out, fun m hm => HOK.out m hm W' (hW.but _)⟩
            have HX := Lib.hid (HX.out.call hwb hbg hO)
            have HM := Lib.hid (fun (W' : World) hW => HM.out W' (Agr.only hW hO (by omega)))
            have HE := Lib.hid (fun (W' : World) hW => HE.out W' (Agr.only hW hO (by omega)))
            have HR := Lib.hid hr5
            clear hbr hsj3 hr5 hR hO
            go_wp2_with fail
            refine (T4.out _ HR.out).mono ?_
            rintro e wd ⟨rfl, rfl⟩
            cases hdn : rdDone s3 with
            | false =>
              have HF := Lib.hid (HFIN.out false (by rw [HG.out, hdn]; rfl))
              clear hdn
              have r0 := HX.out.r.cell 0 rfl; have r1 := HX.out.r.cell 1 rfl; have q0 := HX.out.r.froz 0; have q1 := HX.out.r.froz 1
              go_wp2_with fail
              refine bodyPost_ret (results_cell_row3 rfl _ _ w.heap.size _ #[.slice none 0 0, .slice none 0 0] (0, 0) _ rfl (HX.out.res _ _) Try.underlying26 rfl rfl) rfl ?_
              obtain ⟨g1, g2, g3, g4⟩ := HF.out
              obtain ⟨z1, z2, z3⟩ := HZZ.out ((W.setCell ⟨w.heap.size, 0, none⟩ (.slice none 0 0)).setCell ⟨w.heap.size, 1, none⟩ (.slice none 0 0))
              exact ⟨⟨none, 0, 0, []⟩, ⟨none, 0, 0, []⟩, ⟨none, 0, 0, []⟩, by rw [g4]; rfl, z1, z2, z3, g1.symm, g2.symm, g3.symm, (HX.out.bel.setCell (by simp) _).setCell (by simp) _⟩
            | true =>
              have hlen := HSLEN.out hdn
              have HBY := Lib.hid (rBytes47_any ⟨mA, ml.length, mc, ml⟩ ⟨eA, el.length, ec, el⟩ ⟨xA, xs.length, xc, xs⟩ W (HM.out _ (Agr.refl _ _)) (HE.out _ (Agr.refl _ _)) (HV.out _ (Agr.refl _ _)) (by rw [HBB.out]; exact hlen))
              unfold SaysT at HBY
              rw [HBB.out] at HBY
              have hg2 := HG.out
              rw [hdn] at hg2
              generalize bs (scrB ml el vl) = t at HBY hg2
              clear hlen hdn
              simp only [setup, Evs.v] at HBY
              cases hq : (t.toList == s.toList) with
              | false =>
                have HF := Lib.hid (HFIN.out false (by rw [hg2, hq]; rfl)); clear hg2
                have x0 := HX.out.x.cell 0 rfl; have x1 := HX.out.x.cell 1 rfl
                go_wp2_with fail
                refine HBY.out.mono ?_
                clear x0 x1
                rintro e w6 ⟨rfl, hb6⟩
                have HX := Lib.hid (HX.out.below hb6)
                have r0 := HX.out.r.cell 0 rfl; have r1 := HX.out.r.cell 1 rfl; have q0 := HX.out.r.froz 0; have q1 := HX.out.r.froz 1
                go_wp2_with fail
                refine bodyPost_ret (results_cell_row3 rfl _ _ w.heap.size _ #[.slice none 0 0, .slice none 0 0] (0, 0) _ rfl (HX.out.res _ _) Try.underlying26 rfl rfl) rfl ?_
                obtain ⟨g1, g2, g3, g4⟩ := HF.out
                obtain ⟨z1, z2, z3⟩ := HZZ.out ((w6.setCell ⟨w.heap.size, 0, none⟩ (.slice none 0 0)).setCell ⟨w.heap.size, 1, none⟩ (.slice none 0 0))
                exact ⟨⟨none, 0, 0, []⟩, ⟨none, 0, 0, []⟩, ⟨none, 0, 0, []⟩, by rw [g4]; rfl, z1, z2, z3, g1.symm, g2.symm, g3.symm, (HX.out.bel.setCell (by simp) _).setCell (by simp) _⟩
              | true =>
                have HF := Lib.hid (HFIN.out true (by rw [hg2, hq]; rfl)); clear hg2
                have x0 := HX.out.x.cell 0 rfl; have x1 := HX.out.x.cell 1 rfl
                go_wp2_with fail
                refine HBY.out.mono ?_
                clear x0 x1
                rintro e w6 ⟨rfl, hb6⟩
                have HX := Lib.hid (HX.out.below hb6)
                have r0 := HX.out.r.cell 0 rfl; have r1 := HX.out.r.cell 1 rfl; have q0 := HX.out.r.froz 0; have q1 := HX.out.r.froz 1
                have x0 := HX.out.x.cell 0 rfl; have x1 := HX.out.x.cell 1 rfl
                go_wp2_with fail
                refine bodyPost_ret (results_cell_row3 rfl _ _ w.heap.size _ #[.slice mA ml.length mc, .slice eA el.length ec] (0, 0) _ rfl (HX.out.res _ _) Try.underlying26 rfl rfl) rfl ?_
                obtain ⟨g1, g2, g3, g4⟩ := HF.out
                have hlev := HLEV.out
                exact ⟨⟨mA, ml.length, mc, ml⟩, ⟨eA, el.length, ec, el⟩, ⟨xA, xs.length, xc, xs⟩, by rw [g4]; rfl, HM.out _ (agr_fin hb6 (by omega) _ _), HE.out _ (agr_fin hb6 (by omega) _ _), HV.out _ (agr_fin hb6 (by omega) _ _), g1.symm, g2.symm, HBR.out.trans g3.symm, (HX.out.bel.setCell (by simp) _).setCell (by simp) _⟩
        · obtain rfl : k = n2 := by omega
          have HQ2 : Hid ((xs.map Ev.bare, sj) = (vl, s3)) := Lib.hid (by rw [← HA.out, Nat.sub_self]; simp [sevG])
          have he := HQ2.out
          simp only [Prod.mk.injEq] at he
          obtain ⟨hbr, hsj3⟩ := he
          have HBR := Lib.hid hbr
          have HBB : Hid (scrB ml el xs = scrB ml el vl) := Lib.hid (by unfold scrB; rw [← HBR.out, evsB_bare])
          have hr5 := hR
          rw [hsj3] at hr5
          have HV : Hid (∀ W', Agr W2.heap.size W W' → Evs.ok W' ⟨xA, xs.length, xc, xs⟩) := Lib.hid fun W' hW => ⟨Rd.of_own (own_agr HOW.out (Nat.le_refl _) hW), rfl, own_maxS HOW.out, fun m hm => HOK.out m hm W' (hW.but _)⟩
          have HX := Lib.hid (HX.out.call hwb hbg hO)
          have HM := Lib.hid (fun (W' : World) hW => HM.out W' (Agr.only hW hO (by omega)))
          have HE := Lib.hid (fun (W' : World) hW => HE.out W' (Agr.only hW hO (by omega)))
          have HR := Lib.hid hr5
          clear hbr hsj3 hr5 hR hO
          go_wp2_with fail
          refine (T4.out _ HR.out).mono ?_
          rintro e wd ⟨rfl, rfl⟩
          cases hdn : rdDone s3 with
          | false =>
            have HF := Lib.hid (HFIN.out false (by rw [HG.out, hdn]; rfl))
            clear hdn
            have r0 := HX.out.r.cell 0 rfl; have r1 := HX.out.r.cell 1 rfl; have q0 := HX.out.r.froz 0; have q1 := HX.out.r.froz 1
            go_wp2_with fail
            refine bodyPost_ret (results_cell_row3 rfl _ _ w.heap.size _ #[.slice none 0 0, .slice none 0 0] (0, 0) _ rfl (HX.out.res _ _) Try.underlying26 rfl rfl) rfl ?_
            obtain ⟨g1, g2, g3, g4⟩ := HF.out
            obtain ⟨z1, z2, z3⟩ := HZZ.out ((W.setCell ⟨w.heap.size, 0, none⟩ (.slice none 0 0)).setCell ⟨w.heap.size, 1, none⟩ (.slice none 0 0))
            exact ⟨⟨none, 0, 0, []⟩, ⟨none, 0, 0, []⟩, ⟨none, 0, 0, []⟩, by rw [g4]; rfl, z1, z2, z3, g1.symm, g2.symm, g3.symm, (HX.out.bel.setCell (by simp) _).setCell (by simp) _⟩
          | true =>
            have hlen := HSLEN.out hdn
            have HBY := Lib.hid (rBytes47_any ⟨mA, ml.length, mc, ml⟩ ⟨eA, el.length, ec, el⟩ ⟨xA, xs.length, xc, xs⟩ W (HM.out _ (Agr.refl _ _)) (HE.out _ (Agr.refl _ _)) (HV.out _ (Agr.refl _ _)) (by rw [HBB.out]; exact hlen))
            unfold SaysT at HBY
            rw [HBB.out] at HBY
            have hg2 := HG.out
            rw [hdn] at hg2
            generalize bs (scrB ml el vl) = t at HBY hg2
            clear hlen hdn
            simp only [setup, Evs.v] at HBY
            cases hq : (t.toList == s.toList) with
            | false =>
              have HF := Lib.hid (HFIN.out false (by rw [hg2, hq]; rfl)); clear hg2
              have x0 := HX.out.x.cell 0 rfl; have x1 := HX.out.x.cell 1 rfl
              go_wp2_with fail
              refine HBY.out.mono ?_
              clear x0 x1
              rintro e w6 ⟨rfl, hb6⟩
              have HX := Lib.hid (HX.out.below hb6)
              have r0 := HX.out.r.cell 0 rfl; have r1 := HX.out.r.cell 1 rfl; have q0 := HX.out.r.froz 0; have q1 := HX.out.r.froz 1
              go_wp2_with fail
              refine bodyPost_ret (results_cell_row3 rfl _ _ w.heap.size _ #[.slice none 0 0, .slice none 0 0] (0, 0) _ rfl (HX.out.res _ _) Try.underlying26 rfl rfl) rfl ?_
              obtain ⟨g1, g2, g3, g4⟩ := HF.out
              obtain ⟨z1, z2, z3⟩ := HZZ.out ((w6.setCell ⟨w.heap.size, 0, none⟩ (.slice none 0 0)).setCell ⟨w.heap.size, 1, none⟩ (.slice none 0 0))
              exact ⟨⟨none, 0, 0, []⟩, ⟨none, 0, 0, []⟩, ⟨none, 0, 0, []⟩, by rw [g4]; rfl, z1, z2, z3, g1.symm, g2.symm, g3.symm, (HX.out.bel.setCell (by simp) _).setCell (by simp) _⟩
            | true =>
              have HF := Lib.hid (HFIN.out true (by rw [hg2, hq]; rfl)); clear hg2
              have x0 := HX.out.x.cell 0 rfl; have x1 := HX.out.x.cell 1 rfl
              go_wp2_with fail
              refine HBY.out.mono ?_
              clear x0 x1
              rintro e w6 ⟨rfl, hb6⟩
              have HX := Lib.hid (HX.out.below hb6)
              have r0 := HX.out.r.cell 0 rfl; have r1 := HX.out.r.cell 1 rfl; have q0 := HX.out.r.froz 0; have q1 := HX.out.r.froz 1
              have x0 := HX.out.x.cell 0 rfl; have x1 := HX.out.x.cell 1 rfl
              go_wp2_with fail
              refine bodyPost_ret (results_cell_row3 rfl _ _ w.heap.size _ #[.slice mA ml.length mc, .slice eA el.length ec] (0, 0) _ rfl (HX.out.res _ _) Try.underlying26 rfl rfl) rfl ?_
              obtain ⟨g1, g2, g3, g4⟩ := HF.out
              have hlev := HLEV.out
              exact ⟨⟨mA, ml.length, mc, ml⟩, ⟨eA, el.length, ec, el⟩, ⟨xA, xs.length, xc, xs⟩, by rw [g4]; rfl, HM.out _ (agr_fin hb6 (by omega) _ _), HE.out _ (agr_fin hb6 (by omega) _ _), HV.out _ (agr_fin hb6 (by omega) _ _), g1.symm, g2.symm, HBR.out.trans g3.symm, (HX.out.bel.setCell (by simp) _).setCell (by simp) _⟩
end Go.Proofs.Ytlmplibdfhamjaa
