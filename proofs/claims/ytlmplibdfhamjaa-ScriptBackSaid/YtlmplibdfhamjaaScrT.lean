/- Members, calls, administrators' deeds read of bytes by the code. -/
import Derived.Test.YtlmplibdfhamjaaScrR
attribute [local go_sem ↓] Go.wp_at_zero Go.wp_at_succ
namespace Go.Proofs.Ytlmplibdfhamjaa
open Go.RowKit Go.Mem Go.Num
set_option linter.unusedVariables false
set_option linter.unusedSimpArgs false

theorem text_max (st : St) (h : st.1.length ≤ 140737488355328) : (bs (rdText st).1).size ≤ maxLen := by
  have := (rdText_len st).2
  rw [bs_size]; unfold maxLen; omega
theorem rd3_max (st : St) (h : st.1.length ≤ 140737488355328) : (rd3 st).1.1.size ≤ maxLen ∧ (rd3 st).1.2.1.size ≤ maxLen ∧ (rd3 st).1.2.2.size ≤ maxLen :=
  ⟨text_max st h, text_max _ (Nat.le_trans (rdText_len st).1 h), text_max _ (Nat.le_trans (rdText_len _).1 (Nat.le_trans (rdText_len st).1 h))⟩
theorem rd4_max (st : St) (h : st.1.length ≤ 140737488355328) : (rd4 st).1.1.size ≤ maxLen ∧ (rd4 st).1.2.1.size ≤ maxLen ∧ (rd4 st).1.2.2.1.size ≤ maxLen ∧ (rd4 st).1.2.2.2.size ≤ maxLen :=
  ⟨text_max st h, rd3_max _ (Nat.le_trans (rdText_len st).1 h)⟩
theorem rdMem_ok (st : St) (h : st.1.length ≤ 140737488355328) (w : World) : (rdMem st).1.ok w := rd3_max st h
theorem rdAdm_ok (st : St) (h : st.1.length ≤ 140737488355328) (w : World) : (rdAdm st).1.ok w := by
  have h1 := rdNum_len 1 st
  have h2 := rd4_len (rdNum 1 st).2
  have h3 := rdNum_len 8 (rd4 (rdNum 1 st).2).2
  have hm := rd4_max (rdNum 1 st).2 (Nat.le_trans h1 h)
  exact ⟨numWf _, hm.1, hm.2.1, hm.2.2.1, hm.2.2.2, numWf _, rdMem_ok _ (Nat.le_trans h3 (Nat.le_trans h2 (Nat.le_trans h1 h))) w⟩
set_option maxRecDepth 100000 in
set_option maxHeartbeats 8000000 in
theorem rMem_any (b : Nat) (st : St) (w : World) (h : RdO b st w) (hs : st.1.length ≤ 140737488355328) :
    Calls Try.prog 53 #[.agg #[.pointer (some ⟨b, 0, none⟩)]] w (fun e w' => e = .returned (.agg (rdMem st).1.arr) ∧ RdO b (rdMem st).2 w' ∧ Only b w w') := by
  obtain ⟨v1, s1, e1⟩ : ∃ v s, rdText st = (v, s) := ⟨_, _, rfl⟩
  have l1 := (rdText_len st).1
  have t1 := fun W hW => rText_any b st W hW (by omega)
  rw [e1] at l1 t1
  simp only at l1 t1
  have m1 : (bs v1).size ≤ maxLen := by have h9 := text_max st (by omega); rw [e1] at h9; exact h9
  obtain ⟨v2, s2, e2⟩ : ∃ v s, rdText s1 = (v, s) := ⟨_, _, rfl⟩
  have l2 := (rdText_len s1).1
  have t2 := fun W hW => rText_any b s1 W hW (by omega)
  rw [e2] at l2 t2
  simp only at l2 t2
  have m2 : (bs v2).size ≤ maxLen := by have h9 := text_max s1 (by omega); rw [e2] at h9; exact h9
  obtain ⟨v3, s3, e3⟩ : ∃ v s, rdText s2 = (v, s) := ⟨_, _, rfl⟩
  have l3 := (rdText_len s2).1
  have t3 := fun W hW => rText_any b s2 W hW (by omega)
  rw [e3] at l3 t3
  simp only at l3 t3
  have m3 : (bs v3).size ≤ maxLen := by have h9 := text_max s2 (by omega); rw [e3] at h9; exact h9
  obtain ⟨v4, s4, e4⟩ : ∃ v s, rdNum 1 s3 = (v, s) := ⟨_, _, rfl⟩
  have l4 := rdNum_len 1 s3
  have t4 := fun W hW => rByte_any b s3 W hW (by omega)
  rw [e4] at l4 t4
  simp only at l4 t4
  have m4 : (Lit.int .i64 v4).wf = true := by have h9 : (Lit.int .i64 (rdNum 1 s3).1).wf = true := numWf _; rw [e4] at h9; exact h9
  have hV : rdMem st = (⟨bs v1, bs v2, bs v3, v4 != 0⟩, s4) := by unfold rdMem rd3; simp only [e1, e2, e3, e4]
  generalize bs v1 = u1 at t1 m1 hV
  have T1 := Lib.hid t1; have M1 := Lib.hid m1; clear t1 m1
  generalize bs v2 = u2 at t2 m2 hV
  have T2 := Lib.hid t2; have M2 := Lib.hid m2; clear t2 m2
  generalize bs v3 = u3 at t3 m3 hV
  have T3 := Lib.hid t3; have M3 := Lib.hid m3; clear t3 m3
  have T4 := Lib.hid t4; have M4 := Lib.hid m4; clear t4 m4
  have HV := Lib.hid hV; clear hV
  clear e1 l1 e2 l2 e3 l3 e4 l4
  have hbw : b < w.heap.size := h.lt
  have hwg : w.heap.size ≤ w.heap.size + 1 := by omega
  have hbg : b < w.heap.size + 1 := by omega
  have hqg : w.heap.size ≠ w.heap.size + 1 + 1 := by omega
  have hqb : w.heap.size ≠ b := by omega
  have HR := Lib.hid (((show RdO b st (w.alloc (.cells #[.pointer (some ⟨b, 0, none⟩)] 91)) from Two.alloc h _).alloc (.cells #[.string ⟨#[]⟩, .string ⟨#[]⟩, .string ⟨#[]⟩, .bool false] 82)).alloc (.cells #[.string ⟨#[]⟩, .string ⟨#[]⟩, .string ⟨#[]⟩, .bool false] 82))
  have HX : Hid (RX 91 w.heap.size 82 #[.string ⟨#[]⟩, .string ⟨#[]⟩, .string ⟨#[]⟩, .bool false] b (w.heap.size + 1) w (((w.alloc (.cells #[.pointer (some ⟨b, 0, none⟩)] 91)).alloc (.cells #[.string ⟨#[]⟩, .string ⟨#[]⟩, .string ⟨#[]⟩, .bool false] 82)).alloc (.cells #[.string ⟨#[]⟩, .string ⟨#[]⟩, .string ⟨#[]⟩, .bool false] 82)) #[.string ⟨#[]⟩, .string ⟨#[]⟩, .string ⟨#[]⟩, .bool false]) := Lib.hid
    ⟨((Only.rfl_.alloc _).alloc _).alloc _, (Below.heap_alloc _ _ _ (by simp; omega)).trans (heap_alloc2_old w _ _), (Below.heap_alloc _ _ _ (by simp)).trans (heap_alloc2_new w _ _), by have := heap_alloc_new ((w.alloc (.cells #[.pointer (some ⟨b, 0, none⟩)] 91)).alloc (.cells #[.string ⟨#[]⟩, .string ⟨#[]⟩, .string ⟨#[]⟩, .bool false] 82)) (.cells #[.string ⟨#[]⟩, .string ⟨#[]⟩, .string ⟨#[]⟩, .bool false] 82); simpa using this⟩
  clear h hs
  go_enter Try.func53, Try.ntmps53
  go_wp2
  generalize (((w.alloc (.cells #[.pointer (some ⟨b, 0, none⟩)] 91)).alloc (.cells #[.string ⟨#[]⟩, .string ⟨#[]⟩, .string ⟨#[]⟩, .bool false] 82)).alloc (.cells #[.string ⟨#[]⟩, .string ⟨#[]⟩, .string ⟨#[]⟩, .bool false] 82)) = W0 at HX HR ⊢
  have HX := Lib.hid HX.out.drew
  have HR := Lib.hid (Two.drew HR.out)
  refine wp_region_held_drew (S := (fun W => W.cell? ⟨w.heap.size, 0, none⟩ = some (.pointer (some ⟨b, 0, none⟩)))) (by kernel_rfl) HX.out.box (fun hHeld => ?_)
  refine wpAnyH_take (i := 0) (oi := _) (v := ?vq1) rfl (by kernel_rfl) (by kernel_rfl) (by kernel_rfl) (fun _ _ _ h => h) (Or.inl ⟨by rfl, ?hq1⟩) (by assumption) ?rq1
  case hq1 => (intro w hSw; go_simp; try with_reducible rfl)
  try dsimp only [Act.put, List.getElem_toArray, List.getElem_cons_zero, List.getElem_cons_succ]; try simp only [List.setIfInBounds_toArray, List.set_cons_zero, List.set_cons_succ]
  refine wpAnyH_take (i := 1) (oi := _) (v := ?vq2) rfl (by kernel_rfl) (by kernel_rfl) (by kernel_rfl) (fun _ _ _ h => h) (Or.inl ⟨by rfl, ?hq2⟩) (by assumption) ?rq2
  case hq2 => (intro w hSw; go_simp; try with_reducible rfl)
  try dsimp only [Act.put, List.getElem_toArray, List.getElem_cons_zero, List.getElem_cons_succ]; try simp only [List.setIfInBounds_toArray, List.set_cons_zero, List.set_cons_succ]
  refine wpAnyH_take (i := 3) (oi := _) (v := ?vq3) rfl (by kernel_rfl) (by kernel_rfl) (by kernel_rfl) (fun _ _ _ h => h) (Or.inl ⟨by rfl, ?hq3⟩) (by assumption) ?rq3
  case hq3 => (intro w hSw; go_simp; try with_reducible rfl)
  try dsimp only [Act.put, List.getElem_toArray, List.getElem_cons_zero, List.getElem_cons_succ]; try simp only [List.setIfInBounds_toArray, List.set_cons_zero, List.set_cons_succ]
  refine wpAnyH_take (i := 4) (oi := _) (v := ?vq4) rfl (by kernel_rfl) (by kernel_rfl) (by kernel_rfl) (fun _ _ _ h => h) (Or.inl ⟨by rfl, ?hq4⟩) (by assumption) ?rq4
  case hq4 => (intro w hSw; go_simp; try with_reducible rfl)
  try dsimp only [Act.put, List.getElem_toArray, List.getElem_cons_zero, List.getElem_cons_succ]; try simp only [List.setIfInBounds_toArray, List.set_cons_zero, List.set_cons_succ]
  refine wpAnyH_take (i := 6) (oi := _) (v := ?vq5) rfl (by kernel_rfl) (by kernel_rfl) (by kernel_rfl) (fun _ _ _ h => h) (Or.inl ⟨by rfl, ?hq5⟩) (by assumption) ?rq5
  case hq5 => (intro w hSw; go_simp; try with_reducible rfl)
  try dsimp only [Act.put, List.getElem_toArray, List.getElem_cons_zero, List.getElem_cons_succ]; try simp only [List.setIfInBounds_toArray, List.set_cons_zero, List.set_cons_succ]
  refine wpAnyH_take (i := 7) (oi := _) (v := ?vq6) rfl (by kernel_rfl) (by kernel_rfl) (by kernel_rfl) (fun _ _ _ h => h) (Or.inl ⟨by rfl, ?hq6⟩) (by assumption) ?rq6
  case hq6 => (intro w hSw; go_simp; try with_reducible rfl)
  try dsimp only [Act.put, List.getElem_toArray, List.getElem_cons_zero, List.getElem_cons_succ]; try simp only [List.setIfInBounds_toArray, List.set_cons_zero, List.set_cons_succ]
  refine wpAnyH_ready (rs := [2]) (by kernel_rfl) (by simp) ?_
  refine AllReadyH.cons (o := _) rfl (fun K hK => ?_) ?_
  · rw [if_pos (by rfl)]
    go_simp
    refine (T1.out _ HR.out).mono ?_
    rintro e w1 ⟨rfl, hr1, ho1⟩
    have HX := Lib.hid (HX.out.call hqb hbg ho1)
    have HR := Lib.hid hr1
    clear hr1 ho1
    go_wp2_with fail
    refine hK.out _ _ HX.out.box (fun hHeld => ?_)
    clear hK K
    try dsimp only [Act.put, List.getElem_toArray, List.getElem_cons_zero, List.getElem_cons_succ]; try simp only [List.setIfInBounds_toArray, List.set_cons_zero, List.set_cons_succ]
    refine wpAnyH_take (i := 9) (oi := _) (v := ?vq7) rfl (by kernel_rfl) (by kernel_rfl) (by kernel_rfl) (fun _ _ _ h => h) (Or.inl ⟨by rfl, ?hq7⟩) (by assumption) ?rq7
    case hq7 => (intro w hSw; go_simp; try with_reducible rfl)
    try dsimp only [Act.put, List.getElem_toArray, List.getElem_cons_zero, List.getElem_cons_succ]; try simp only [List.setIfInBounds_toArray, List.set_cons_zero, List.set_cons_succ]
    refine wpAnyH_ready (rs := [5]) (by kernel_rfl) (by simp) ?_
    refine AllReadyH.cons (o := _) rfl (fun K hK => ?_) ?_
    · rw [if_pos (by rfl)]
      go_simp
      refine (T2.out _ HR.out).mono ?_
      rintro e w1 ⟨rfl, hr1, ho1⟩
      have HX := Lib.hid (HX.out.call hqb hbg ho1)
      have HR := Lib.hid hr1
      clear hr1 ho1
      go_wp2_with fail
      refine hK.out _ _ HX.out.box (fun hHeld => ?_)
      clear hK K
      try dsimp only [Act.put, List.getElem_toArray, List.getElem_cons_zero, List.getElem_cons_succ]; try simp only [List.setIfInBounds_toArray, List.set_cons_zero, List.set_cons_succ]
      refine wpAnyH_ready (rs := [8]) (by kernel_rfl) (by simp) ?_
      refine AllReadyH.cons (o := _) rfl (fun K hK => ?_) ?_
      · rw [if_pos (by rfl)]
        go_simp
        refine (T3.out _ HR.out).mono ?_
        rintro e w1 ⟨rfl, hr1, ho1⟩
        have HX := Lib.hid (HX.out.call hqb hbg ho1)
        have HR := Lib.hid hr1
        clear hr1 ho1
        have y0 := HX.out.cell 0 rfl; have f0 := HX.out.froz 0
        have y1 := HX.out.cell 1 rfl; have f1 := HX.out.froz 1
        have y2 := HX.out.cell 2 rfl; have f2 := HX.out.froz 2
        go_wp2_with fail
        refine hK.out _ _ HX.out.box (fun hHeld => ?_)
        clear hK K
        try dsimp only [Act.put, List.getElem_toArray, List.getElem_cons_zero, List.getElem_cons_succ]; try simp only [List.setIfInBounds_toArray, List.set_cons_zero, List.set_cons_succ]
        refine wpAnyH_ready (rs := [10]) (by kernel_rfl) (by simp) ?_
        refine AllReadyH.cons (o := _) rfl (fun K hK => ?_) ?_
        · rw [if_pos (by rfl)]
          go_simp
          clear y0 f0 y1 f1 y2 f2
          have hx := HX.out.set hqg hwg 0 (.string u1)
          simp only [List.setIfInBounds_toArray, List.set_cons_zero, List.set_cons_succ] at hx
          have HX := Lib.hid hx
          have HR := Lib.hid (rdo_set HR.out (show b ≠ w.heap.size + 1 + 1 by omega) 0 (.string u1))
          clear hx
          have y1 := HX.out.cell 1 rfl; have f1 := HX.out.froz 1
          have y2 := HX.out.cell 2 rfl; have f2 := HX.out.froz 2
          refine hK.out _ _ HX.out.box (fun hHeld => ?_)
          clear hK K
          try dsimp only [Act.put, List.getElem_toArray, List.getElem_cons_zero, List.getElem_cons_succ]; try simp only [List.setIfInBounds_toArray, List.set_cons_zero, List.set_cons_succ]
          refine wpAnyH_take (i := 11) (oi := _) (v := ?vq8) rfl (by kernel_rfl) (by kernel_rfl) (by kernel_rfl) (fun _ _ _ h => h) (Or.inl ⟨by rfl, ?hq8⟩) (by assumption) ?rq8
          case hq8 => (intro w hSw; go_simp; try with_reducible rfl)
          try dsimp only [Act.put, List.getElem_toArray, List.getElem_cons_zero, List.getElem_cons_succ]; try simp only [List.setIfInBounds_toArray, List.set_cons_zero, List.set_cons_succ]
          refine wpAnyH_ready (rs := [12]) (by kernel_rfl) (by simp) ?_
          refine AllReadyH.cons (o := _) rfl (fun K hK => ?_) ?_
          · rw [if_pos (by rfl)]
            go_simp
            clear y1 f1 y2 f2
            have hx := HX.out.set hqg hwg 1 (.string u2)
            simp only [List.setIfInBounds_toArray, List.set_cons_zero, List.set_cons_succ] at hx
            have HX := Lib.hid hx
            have HR := Lib.hid (rdo_set HR.out (show b ≠ w.heap.size + 1 + 1 by omega) 1 (.string u2))
            clear hx
            have y2 := HX.out.cell 2 rfl; have f2 := HX.out.froz 2
            refine hK.out _ _ HX.out.box (fun hHeld => ?_)
            clear hK K
            try dsimp only [Act.put, List.getElem_toArray, List.getElem_cons_zero, List.getElem_cons_succ]; try simp only [List.setIfInBounds_toArray, List.set_cons_zero, List.set_cons_succ]
            refine wpAnyH_take (i := 13) (oi := _) (v := ?vq9) rfl (by kernel_rfl) (by kernel_rfl) (by kernel_rfl) (fun _ _ _ h => h) (Or.inl ⟨by rfl, ?hq9⟩) (by assumption) ?rq9
            case hq9 => (intro w hSw; go_simp; try with_reducible rfl)
            try dsimp only [Act.put, List.getElem_toArray, List.getElem_cons_zero, List.getElem_cons_succ]; try simp only [List.setIfInBounds_toArray, List.set_cons_zero, List.set_cons_succ]
            refine wpAnyH_ready (rs := [14]) (by kernel_rfl) (by simp) ?_
            refine AllReadyH.cons (o := _) rfl (fun K hK => ?_) ?_
            · rw [if_pos (by rfl)]
              go_simp
              clear y2 f2
              have hx := HX.out.set hqg hwg 2 (.string u3)
              simp only [List.setIfInBounds_toArray, List.set_cons_zero, List.set_cons_succ] at hx
              have HX := Lib.hid hx
              have HR := Lib.hid (rdo_set HR.out (show b ≠ w.heap.size + 1 + 1 by omega) 2 (.string u3))
              clear hx
              refine hK.out _ _ HX.out.box (fun hHeld => ?_)
              clear hK K
              try dsimp only [Act.put, List.getElem_toArray, List.getElem_cons_zero, List.getElem_cons_succ]; try simp only [List.setIfInBounds_toArray, List.set_cons_zero, List.set_cons_succ]
              refine wpAnyH_done (by kernel_rfl) ?_ _
              have b0 := HX.out.box
              go_wp2_with fail
              clear b0
              refine (T4.out _ HR.out).mono ?_
              rintro e w1 ⟨rfl, hr1, ho1⟩
              have HX := Lib.hid (HX.out.call hqb hbg ho1)
              have HR := Lib.hid hr1
              clear hr1 ho1
              have y3 := HX.out.cell 3 rfl; have f3 := HX.out.froz 3
              have hx := HX.out.set hqg hwg 3 (.bool (v4 != 0))
              simp only [List.setIfInBounds_toArray, List.set_cons_zero, List.set_cons_succ] at hx
              have HX := Lib.hid hx
              have HR := Lib.hid (rdo_set HR.out (show b ≠ w.heap.size + 1 + 1 by omega) 3 (.bool (v4 != 0)))
              clear hx
              go_upto_region 4 with fail
              clear y3 f3
              generalize (w1.setCell ⟨w.heap.size + 1 + 1, 3, none⟩ (.bool (v4 != 0))) = wy at HX HR ⊢
              have HI : Hid ((Try.prog.info? 82).map (·.size) = some (#[.string u1, .string u2, .string u3, .bool (v4 != 0)] : Array Value).size) := Lib.hid row_memb.hi
              have H1 : Hid (∀ u ∈ (#[.string u1, .string u2, .string u3, .bool (v4 != 0)] : Array Value).toList, u.oneCell' = true) := Lib.hid (by intro u hu; simp only [List.mem_cons, List.not_mem_nil, or_false] at hu; rcases hu with rfl | rfl | rfl | rfl <;> rfl)
              refine wp_region_lit ?_
              refine wpList_load_arr (by rfl) _ (by rfl) (w.heap.size + 1 + 1) 0 (by rfl) #[.string u1, .string u2, .string u3, .bool (v4 != 0)] HX.out.range row_memb.d HI.out ?_
              try dsimp only [Act.put, List.getElem_toArray, List.getElem_cons_zero, List.getElem_cons_succ]; try simp only [List.setIfInBounds_toArray, List.set_cons_zero, List.set_cons_succ]
              refine wpList_store_part (by rfl) _ _ (by rfl) (w.heap.size + 1) 0 #[.string ⟨#[]⟩, .string ⟨#[]⟩, .string ⟨#[]⟩, .bool false] #[.string u1, .string u2, .string u3, .bool (v4 != 0)] 82 (by rfl) (by rfl) HX.out.r (by simp) HI.out H1.out (fun wz hwz => ?_)
              try dsimp only [Act.put, List.getElem_toArray, List.getElem_cons_zero, List.getElem_cons_succ]; try simp only [List.setIfInBounds_toArray, List.set_cons_zero, List.set_cons_succ]
              have hres := HX.out.res (by rfl)
              have hend := HX.out.end_ hwg (#[.string u1, .string u2, .string u3, .bool (v4 != 0)] : Array Value).toList
              have hrd := rdo_setCells HR.out (show b ≠ w.heap.size + 1 by omega) 0 (#[.string u1, .string u2, .string u3, .bool (v4 != 0)] : Array Value).toList
              rw [← hwz] at hres hend hrd
              have hsz := hend.size
              have HRES := Lib.hid hres; have HEND := Lib.hid hend; have HRD := Lib.hid hrd
              clear hres hend hrd hwz HX HR
              refine wpList_nil ?_
              go_wp2_with fail
              have hrd := HRD.out; have hend := HEND.out
              refine bodyPost_ret (results_cell_row rfl _ _ (w.heap.size + 1) _ #[.string u1, .string u2, .string u3, .bool (v4 != 0)] (0, 0) _ rfl HRES.out Try.underlying82 rfl HI.out) rfl ?_
              rw [HV.out]
              exact ⟨rfl, hrd, hend⟩
            exact AllReadyH.nil
          exact AllReadyH.nil
        exact AllReadyH.nil
      exact AllReadyH.nil
    exact AllReadyH.nil
  exact AllReadyH.nil
end Go.Proofs.Ytlmplibdfhamjaa
