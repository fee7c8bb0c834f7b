/- Calls read of bytes by the code. -/
import Derived.Test.YtlmplibdfhamjaaScrT
attribute [local go_sem ↓] Go.wp_at_zero Go.wp_at_succ
namespace Go.Proofs.Ytlmplibdfhamjaa
open Go.RowKit Go.Mem Go.Num
set_option linter.unusedVariables false
set_option linter.unusedSimpArgs false

set_option maxRecDepth 100000 in
set_option maxHeartbeats 8000000 in
theorem rCal_any (b : Nat) (st : St) (w : World) (h : RdO b st w) (hs : st.1.length ≤ 140737488355328) :
    Calls Try.prog 98 #[.agg #[.pointer (some ⟨b, 0, none⟩)]] w (RdS (fun x => .agg x.arr) Cal.bare Cal.ok RdO b (rdCal st) w) := by
  obtain ⟨v1, s1, e1⟩ : ∃ v s, rdNum 1 st = (v, s) := ⟨_, _, rfl⟩
  have l1 := rdNum_len 1 st
  have t1 := fun W hW => rByte_any b st W hW (by omega)
  rw [e1] at l1 t1
  simp only at l1 t1
  have m1 : (Lit.int .i64 v1).wf = true := by have h9 : (Lit.int .i64 (rdNum 1 st).1).wf = true := numWf _; rw [e1] at h9; exact h9
  obtain ⟨v2, s2, e2⟩ : ∃ v s, rdText s1 = (v, s) := ⟨_, _, rfl⟩
  have l2 := (rdText_len s1).1
  have t2 := fun W hW => rText_any b s1 W hW (by omega)
  rw [e2] at l2 t2
  simp only at l2 t2
  have m2 : (bs v2).size ≤ maxLen := by have h9 := text_max s1 (by omega); rw [e2] at h9; exact h9
  obtain ⟨v3, s3, e3⟩ : ∃ v s, rdText s2 = (v, s) := ⟨_, _, rfl⟩
  have l3 := (rdText_len s2).1
  have t3 := fun W hW => rText_any b s2 W hW (by omega)
  rw [e3] at l3 t3
  simp only at l3 t3
  have m3 : (bs v3).size ≤ maxLen := by have h9 := text_max s2 (by omega); rw [e3] at h9; exact h9
  obtain ⟨v4, s4, e4⟩ : ∃ v s, rdText s3 = (v, s) := ⟨_, _, rfl⟩
  have l4 := (rdText_len s3).1
  have t4 := fun W hW => rText_any b s3 W hW (by omega)
  rw [e4] at l4 t4
  simp only at l4 t4
  have m4 : (bs v4).size ≤ maxLen := by have h9 := text_max s3 (by omega); rw [e4] at h9; exact h9
  obtain ⟨v5, s5, e5⟩ : ∃ v s, rdText s4 = (v, s) := ⟨_, _, rfl⟩
  have l5 := (rdText_len s4).1
  have t5 := fun W hW => rText_any b s4 W hW (by omega)
  rw [e5] at l5 t5
  simp only at l5 t5
  have m5 : (bs v5).size ≤ maxLen := by have h9 := text_max s4 (by omega); rw [e5] at h9; exact h9
  have hV : rdCal st = (⟨v1, bs v2, bs v3, bs v4, bs v5, (rdCtx s5).1, (rdNum 8 (rdCtx s5).2).1⟩, (rdNum 8 (rdCtx s5).2).2) := by unfold rdCal rd4 rd3; simp only [e1, e2, e3, e4, e5]
  have lc := rdCtx_len s5
  have t6 := fun W hW => rCtxO_any b s5 W hW (by omega)
  generalize hcx : rdCtx s5 = cx at lc t6 hV
  obtain ⟨cx, s6⟩ := cx
  simp only at lc t6 hV
  obtain ⟨v7, s7, e7⟩ : ∃ v s, rdNum 8 s6 = (v, s) := ⟨_, _, rfl⟩
  have t7 := fun W hW => rInt_any b s6 W hW (by omega)
  have m7 : (Lit.int .i64 (rdNum 8 s6).1).wf = true := numWf _
  rw [e7] at t7 m7 hV
  simp only at t7 m7 hV
  have T6 := Lib.hid t6; have T7 := Lib.hid t7; have M7 := Lib.hid m7; clear t6 t7 m7 hcx e7 lc
  have T1 := Lib.hid t1; have M1 := Lib.hid m1; clear t1 m1
  generalize bs v2 = u2 at t2 m2 hV
  have T2 := Lib.hid t2; have M2 := Lib.hid m2; clear t2 m2
  generalize bs v3 = u3 at t3 m3 hV
  have T3 := Lib.hid t3; have M3 := Lib.hid m3; clear t3 m3
  generalize bs v4 = u4 at t4 m4 hV
  have T4 := Lib.hid t4; have M4 := Lib.hid m4; clear t4 m4
  generalize bs v5 = u5 at t5 m5 hV
  have T5 := Lib.hid t5; have M5 := Lib.hid m5; clear t5 m5
  have HV := Lib.hid hV; clear hV
  clear e1 l1 e2 l2 e3 l3 e4 l4 e5 l5
  have hbw : b < w.heap.size := h.lt
  have hwg : w.heap.size ≤ w.heap.size + 1 := by omega
  have hbg : b < w.heap.size + 1 := by omega
  have hqg : w.heap.size ≠ w.heap.size + 1 + 1 := by omega
  have hqb : w.heap.size ≠ b := by omega
  have HR := Lib.hid (((show RdO b st (w.alloc (.cells #[.pointer (some ⟨b, 0, none⟩)] 91)) from Two.alloc h _).alloc (.cells #[.int .i64 0, .string ⟨#[]⟩, .string ⟨#[]⟩, .string ⟨#[]⟩, .string ⟨#[]⟩, .slice none 0 0, .int .i64 0] 85)).alloc (.cells #[.int .i64 0, .string ⟨#[]⟩, .string ⟨#[]⟩, .string ⟨#[]⟩, .string ⟨#[]⟩, .slice none 0 0, .int .i64 0] 85))
  have HX : Hid (RX 91 w.heap.size 85 #[.int .i64 0, .string ⟨#[]⟩, .string ⟨#[]⟩, .string ⟨#[]⟩, .string ⟨#[]⟩, .slice none 0 0, .int .i64 0] b (w.heap.size + 1) w (((w.alloc (.cells #[.pointer (some ⟨b, 0, none⟩)] 91)).alloc (.cells #[.int .i64 0, .string ⟨#[]⟩, .string ⟨#[]⟩, .string ⟨#[]⟩, .string ⟨#[]⟩, .slice none 0 0, .int .i64 0] 85)).alloc (.cells #[.int .i64 0, .string ⟨#[]⟩, .string ⟨#[]⟩, .string ⟨#[]⟩, .string ⟨#[]⟩, .slice none 0 0, .int .i64 0] 85)) #[.int .i64 0, .string ⟨#[]⟩, .string ⟨#[]⟩, .string ⟨#[]⟩, .string ⟨#[]⟩, .slice none 0 0, .int .i64 0]) := Lib.hid
    ⟨((Only.rfl_.alloc _).alloc _).alloc _, (Below.heap_alloc _ _ _ (by simp; omega)).trans (heap_alloc2_old w _ _), (Below.heap_alloc _ _ _ (by simp)).trans (heap_alloc2_new w _ _), by have := heap_alloc_new ((w.alloc (.cells #[.pointer (some ⟨b, 0, none⟩)] 91)).alloc (.cells #[.int .i64 0, .string ⟨#[]⟩, .string ⟨#[]⟩, .string ⟨#[]⟩, .string ⟨#[]⟩, .slice none 0 0, .int .i64 0] 85)) (.cells #[.int .i64 0, .string ⟨#[]⟩, .string ⟨#[]⟩, .string ⟨#[]⟩, .string ⟨#[]⟩, .slice none 0 0, .int .i64 0] 85); simpa using this⟩
  clear h hs
  go_enter Try.func98, Try.ntmps98
  go_wp2
  generalize (((w.alloc (.cells #[.pointer (some ⟨b, 0, none⟩)] 91)).alloc (.cells #[.int .i64 0, .string ⟨#[]⟩, .string ⟨#[]⟩, .string ⟨#[]⟩, .string ⟨#[]⟩, .slice none 0 0, .int .i64 0] 85)).alloc (.cells #[.int .i64 0, .string ⟨#[]⟩, .string ⟨#[]⟩, .string ⟨#[]⟩, .string ⟨#[]⟩, .slice none 0 0, .int .i64 0] 85)) = W0 at HX HR ⊢
  have HX := Lib.hid HX.out.drew
  have HR := Lib.hid (Two.drew HR.out)
  refine wp_region_held_drew (S := (fun W => W.cell? ⟨w.heap.size, 0, none⟩ = some (.pointer (some ⟨b, 0, none⟩)))) (by kernel_rfl) HX.out.box (fun hHeld => ?_)
  refine wpAnyH_take (i := 0) (oi := _) (v := ?vq10) rfl (by kernel_rfl) (by kernel_rfl) (by kernel_rfl) (fun _ _ _ h => h) (Or.inl ⟨by rfl, ?hq10⟩) (by assumption) ?rq10
  case hq10 => (intro w hSw; go_simp; try with_reducible rfl)
  try dsimp only [Act.put, List.getElem_toArray, List.getElem_cons_zero, List.getElem_cons_succ]; try simp only [List.setIfInBounds_toArray, List.set_cons_zero, List.set_cons_succ]
  refine wpAnyH_take (i := 1) (oi := _) (v := ?vq11) rfl (by kernel_rfl) (by kernel_rfl) (by kernel_rfl) (fun _ _ _ h => h) (Or.inl ⟨by rfl, ?hq11⟩) (by assumption) ?rq11
  case hq11 => (intro w hSw; go_simp; try with_reducible rfl)
  try dsimp only [Act.put, List.getElem_toArray, List.getElem_cons_zero, List.getElem_cons_succ]; try simp only [List.setIfInBounds_toArray, List.set_cons_zero, List.set_cons_succ]
  refine wpAnyH_take (i := 3) (oi := _) (v := ?vq12) rfl (by kernel_rfl) (by kernel_rfl) (by kernel_rfl) (fun _ _ _ h => h) (Or.inl ⟨by rfl, ?hq12⟩) (by assumption) ?rq12
  case hq12 => (intro w hSw; go_simp; try with_reducible rfl)
  try dsimp only [Act.put, List.getElem_toArray, List.getElem_cons_zero, List.getElem_cons_succ]; try simp only [List.setIfInBounds_toArray, List.set_cons_zero, List.set_cons_succ]
  refine wpAnyH_take (i := 4) (oi := _) (v := ?vq13) rfl (by kernel_rfl) (by kernel_rfl) (by kernel_rfl) (fun _ _ _ h => h) (Or.inl ⟨by rfl, ?hq13⟩) (by assumption) ?rq13
  case hq13 => (intro w hSw; go_simp; try with_reducible rfl)
  try dsimp only [Act.put, List.getElem_toArray, List.getElem_cons_zero, List.getElem_cons_succ]; try simp only [List.setIfInBounds_toArray, List.set_cons_zero, List.set_cons_succ]
  refine wpAnyH_take (i := 6) (oi := _) (v := ?vq14) rfl (by kernel_rfl) (by kernel_rfl) (by kernel_rfl) (fun _ _ _ h => h) (Or.inl ⟨by rfl, ?hq14⟩) (by assumption) ?rq14
  case hq14 => (intro w hSw; go_simp; try with_reducible rfl)
  try dsimp only [Act.put, List.getElem_toArray, List.getElem_cons_zero, List.getElem_cons_succ]; try simp only [List.setIfInBounds_toArray, List.set_cons_zero, List.set_cons_succ]
  refine wpAnyH_take (i := 7) (oi := _) (v := ?vq15) rfl (by kernel_rfl) (by kernel_rfl) (by kernel_rfl) (fun _ _ _ h => h) (Or.inl ⟨by rfl, ?hq15⟩) (by assumption) ?rq15
  case hq15 => (intro w hSw; go_simp; try with_reducible rfl)
  try dsimp only [Act.put, List.getElem_toArray, List.getElem_cons_zero, List.getElem_cons_succ]; try simp only [List.setIfInBounds_toArray, List.set_cons_zero, List.set_cons_succ]
  refine wpAnyH_ready (rs := [2]) (by kernel_rfl) (by simp) ?_
  refine AllReadyH.cons (o := _) rfl (fun K hK => ?_) ?_
  · rw [if_pos (by rfl)]
    go_simp
    refine (T1.out _ HR.out).mono ?_
    rintro e w1 ⟨rfl, hr1, ho1⟩
    have HX := Lib.hid (HX.out.call hqb hbg ho1)
    have HR := Lib.hid hr1
    clear hr1 ho1
    go_wp2_with fail
    refine hK.out _ _ HX.out.box (fun hHeld => ?_)
    clear hK K
    try dsimp only [Act.put, List.getElem_toArray, List.getElem_cons_zero, List.getElem_cons_succ]; try simp only [List.setIfInBounds_toArray, List.set_cons_zero, List.set_cons_succ]
    refine wpAnyH_take (i := 9) (oi := _) (v := ?vq16) rfl (by kernel_rfl) (by kernel_rfl) (by kernel_rfl) (fun _ _ _ h => h) (Or.inl ⟨by rfl, ?hq16⟩) (by assumption) ?rq16
    case hq16 => (intro w hSw; go_simp; try with_reducible rfl)
    try dsimp only [Act.put, List.getElem_toArray, List.getElem_cons_zero, List.getElem_cons_succ]; try simp only [List.setIfInBounds_toArray, List.set_cons_zero, List.set_cons_succ]
    refine wpAnyH_ready (rs := [5]) (by kernel_rfl) (by simp) ?_
    refine AllReadyH.cons (o := _) rfl (fun K hK => ?_) ?_
    · rw [if_pos (by rfl)]
      go_simp
      refine (T2.out _ HR.out).mono ?_
      rintro e w1 ⟨rfl, hr1, ho1⟩
      have HX := Lib.hid (HX.out.call hqb hbg ho1)
      have HR := Lib.hid hr1
      clear hr1 ho1
      go_wp2_with fail
      refine hK.out _ _ HX.out.box (fun hHeld => ?_)
      clear hK K
      try dsimp only [Act.put, List.getElem_toArray, List.getElem_cons_zero, List.getElem_cons_succ]; try simp only [List.setIfInBounds_toArray, List.set_cons_zero, List.set_cons_succ]
      refine wpAnyH_ready (rs := [8]) (by kernel_rfl) (by simp) ?_
      refine AllReadyH.cons (o := _) rfl (fun K hK => ?_) ?_
      · rw [if_pos (by rfl)]
        go_simp
        refine (T3.out _ HR.out).mono ?_
        rintro e w1 ⟨rfl, hr1, ho1⟩
        have HX := Lib.hid (HX.out.call hqb hbg ho1)
        have HR := Lib.hid hr1
        clear hr1 ho1
        have y0 := HX.out.cell 0 rfl; have f0 := HX.out.froz 0
        have y1 := HX.out.cell 1 rfl; have f1 := HX.out.froz 1
        have y2 := HX.out.cell 2 rfl; have f2 := HX.out.froz 2
        go_wp2_with fail
        refine hK.out _ _ HX.out.box (fun hHeld => ?_)
        clear hK K
        try dsimp only [Act.put, List.getElem_toArray, List.getElem_cons_zero, List.getElem_cons_succ]; try simp only [List.setIfInBounds_toArray, List.set_cons_zero, List.set_cons_succ]
        refine wpAnyH_ready (rs := [10]) (by kernel_rfl) (by simp) ?_
        refine AllReadyH.cons (o := _) rfl (fun K hK => ?_) ?_
        · rw [if_pos (by rfl)]
          go_simp
          clear y0 f0 y1 f1 y2 f2
          have hx := HX.out.set hqg hwg 0 (.int .i64 v1)
          simp only [List.setIfInBounds_toArray, List.set_cons_zero, List.set_cons_succ] at hx
          have HX := Lib.hid hx
          have HR := Lib.hid (rdo_set HR.out (show b ≠ w.heap.size + 1 + 1 by omega) 0 (.int .i64 v1))
          clear hx
          have y1 := HX.out.cell 1 rfl; have f1 := HX.out.froz 1
          have y2 := HX.out.cell 2 rfl; have f2 := HX.out.froz 2
          refine hK.out _ _ HX.out.box (fun hHeld => ?_)
          clear hK K
          try dsimp only [Act.put, List.getElem_toArray, List.getElem_cons_zero, List.getElem_cons_succ]; try simp only [List.setIfInBounds_toArray, List.set_cons_zero, List.set_cons_succ]
          refine wpAnyH_take (i := 11) (oi := _) (v := ?vq17) rfl (by kernel_rfl) (by kernel_rfl) (by kernel_rfl) (fun _ _ _ h => h) (Or.inl ⟨by rfl, ?hq17⟩) (by assumption) ?rq17
          case hq17 => (intro w hSw; go_simp; try with_reducible rfl)
          try dsimp only [Act.put, List.getElem_toArray, List.getElem_cons_zero, List.getElem_cons_succ]; try simp only [List.setIfInBounds_toArray, List.set_cons_zero, List.set_cons_succ]
          refine wpAnyH_ready (rs := [12]) (by kernel_rfl) (by simp) ?_
          refine AllReadyH.cons (o := _) rfl (fun K hK => ?_) ?_
          · rw [if_pos (by rfl)]
            go_simp
            clear y1 f1 y2 f2
            have hx := HX.out.set hqg hwg 1 (.string u2)
            simp only [List.setIfInBounds_toArray, List.set_cons_zero, List.set_cons_succ] at hx
            have HX := Lib.hid hx
            have HR := Lib.hid (rdo_set HR.out (show b ≠ w.heap.size + 1 + 1 by omega) 1 (.string u2))
            clear hx
            have y2 := HX.out.cell 2 rfl; have f2 := HX.out.froz 2
            refine hK.out _ _ HX.out.box (fun hHeld => ?_)
            clear hK K
            try dsimp only [Act.put, List.getElem_toArray, List.getElem_cons_zero, List.getElem_cons_succ]; try simp only [List.setIfInBounds_toArray, List.set_cons_zero, List.set_cons_succ]
            refine wpAnyH_take (i := 13) (oi := _) (v := ?vq18) rfl (by kernel_rfl) (by kernel_rfl) (by kernel_rfl) (fun _ _ _ h => h) (Or.inl ⟨by rfl, ?hq18⟩) (by assumption) ?rq18
            case hq18 => (intro w hSw; go_simp; try with_reducible rfl)
            try dsimp only [Act.put, List.getElem_toArray, List.getElem_cons_zero, List.getElem_cons_succ]; try simp only [List.setIfInBounds_toArray, List.set_cons_zero, List.set_cons_succ]
            refine wpAnyH_ready (rs := [14]) (by kernel_rfl) (by simp) ?_
            refine AllReadyH.cons (o := _) rfl (fun K hK => ?_) ?_
            · rw [if_pos (by rfl)]
              go_simp
              clear y2 f2
              have hx := HX.out.set hqg hwg 2 (.string u3)
              simp only [List.setIfInBounds_toArray, List.set_cons_zero, List.set_cons_succ] at hx
              have HX := Lib.hid hx
              have HR := Lib.hid (rdo_set HR.out (show b ≠ w.heap.size + 1 + 1 by omega) 2 (.string u3))
              clear hx
              refine hK.out _ _ HX.out.box (fun hHeld => ?_)
              clear hK K
              try dsimp only [Act.put, List.getElem_toArray, List.getElem_cons_zero, List.getElem_cons_succ]; try simp only [List.setIfInBounds_toArray, List.set_cons_zero, List.set_cons_succ]
              refine wpAnyH_done (by kernel_rfl) ?_ _
              go_wp2
              have HX := Lib.hid HX.out.drew
              have HR := Lib.hid (Two.drew HR.out)
              refine wp_region_held_drew (S := (fun W => W.cell? ⟨w.heap.size, 0, none⟩ = some (.pointer (some ⟨b, 0, none⟩)))) (by kernel_rfl) HX.out.box (fun hHeld => ?_)
              refine wpAnyH_take (i := 0) (oi := _) (v := ?vq19) rfl (by kernel_rfl) (by kernel_rfl) (by kernel_rfl) (fun _ _ _ h => h) (Or.inl ⟨by rfl, ?hq19⟩) (by assumption) ?rq19
              case hq19 => (intro w hSw; go_simp; try with_reducible rfl)
              try dsimp only [Act.put, List.getElem_toArray, List.getElem_cons_zero, List.getElem_cons_succ]; try simp only [List.setIfInBounds_toArray, List.set_cons_zero, List.set_cons_succ]
              refine wpAnyH_take (i := 1) (oi := _) (v := ?vq20) rfl (by kernel_rfl) (by kernel_rfl) (by kernel_rfl) (fun _ _ _ h => h) (Or.inl ⟨by rfl, ?hq20⟩) (by assumption) ?rq20
              case hq20 => (intro w hSw; go_simp; try with_reducible rfl)
              try dsimp only [Act.put, List.getElem_toArray, List.getElem_cons_zero, List.getElem_cons_succ]; try simp only [List.setIfInBounds_toArray, List.set_cons_zero, List.set_cons_succ]
              refine wpAnyH_take (i := 3) (oi := _) (v := ?vq21) rfl (by kernel_rfl) (by kernel_rfl) (by kernel_rfl) (fun _ _ _ h => h) (Or.inl ⟨by rfl, ?hq21⟩) (by assumption) ?rq21
              case hq21 => (intro w hSw; go_simp; try with_reducible rfl)
              try dsimp only [Act.put, List.getElem_toArray, List.getElem_cons_zero, List.getElem_cons_succ]; try simp only [List.setIfInBounds_toArray, List.set_cons_zero, List.set_cons_succ]
              refine wpAnyH_take (i := 4) (oi := _) (v := ?vq22) rfl (by kernel_rfl) (by kernel_rfl) (by kernel_rfl) (fun _ _ _ h => h) (Or.inl ⟨by rfl, ?hq22⟩) (by assumption) ?rq22
              case hq22 => (intro w hSw; go_simp; try with_reducible rfl)
              try dsimp only [Act.put, List.getElem_toArray, List.getElem_cons_zero, List.getElem_cons_succ]; try simp only [List.setIfInBounds_toArray, List.set_cons_zero, List.set_cons_succ]
              refine wpAnyH_ready (rs := [2]) (by kernel_rfl) (by simp) ?_
              refine AllReadyH.cons (o := _) rfl (fun K hK => ?_) ?_
              · rw [if_pos (by rfl)]
                go_simp
                refine (T4.out _ HR.out).mono ?_
                rintro e w1 ⟨rfl, hr1, ho1⟩
                have HX := Lib.hid (HX.out.call hqb hbg ho1)
                have HR := Lib.hid hr1
                clear hr1 ho1
                go_wp2_with fail
                refine hK.out _ _ HX.out.box (fun hHeld => ?_)
                clear hK K
                try dsimp only [Act.put, List.getElem_toArray, List.getElem_cons_zero, List.getElem_cons_succ]; try simp only [List.setIfInBounds_toArray, List.set_cons_zero, List.set_cons_succ]
                refine wpAnyH_take (i := 6) (oi := _) (v := ?vq23) rfl (by kernel_rfl) (by kernel_rfl) (by kernel_rfl) (fun _ _ _ h => h) (Or.inl ⟨by rfl, ?hq23⟩) (by assumption) ?rq23
                case hq23 => (intro w hSw; go_simp; try with_reducible rfl)
                try dsimp only [Act.put, List.getElem_toArray, List.getElem_cons_zero, List.getElem_cons_succ]; try simp only [List.setIfInBounds_toArray, List.set_cons_zero, List.set_cons_succ]
                refine wpAnyH_ready (rs := [5]) (by kernel_rfl) (by simp) ?_
                refine AllReadyH.cons (o := _) rfl (fun K hK => ?_) ?_
                · rw [if_pos (by rfl)]
                  go_simp
                  refine (T5.out _ HR.out).mono ?_
                  rintro e w1 ⟨rfl, hr1, ho1⟩
                  have HX := Lib.hid (HX.out.call hqb hbg ho1)
                  have HR := Lib.hid hr1
                  clear hr1 ho1
                  have y3 := HX.out.cell 3 rfl; have f3 := HX.out.froz 3
                  have y4 := HX.out.cell 4 rfl; have f4 := HX.out.froz 4
                  go_wp2_with fail
                  refine hK.out _ _ HX.out.box (fun hHeld => ?_)
                  clear hK K
                  try dsimp only [Act.put, List.getElem_toArray, List.getElem_cons_zero, List.getElem_cons_succ]; try simp only [List.setIfInBounds_toArray, List.set_cons_zero, List.set_cons_succ]
                  refine wpAnyH_ready (rs := [7]) (by kernel_rfl) (by simp) ?_
                  refine AllReadyH.cons (o := _) rfl (fun K hK => ?_) ?_
                  · rw [if_pos (by rfl)]
                    go_simp
                    clear y3 f3 y4 f4
                    have hx := HX.out.set hqg hwg 3 (.string u4)
                    simp only [List.setIfInBounds_toArray, List.set_cons_zero, List.set_cons_succ] at hx
                    have HX := Lib.hid hx
                    have HR := Lib.hid (rdo_set HR.out (show b ≠ w.heap.size + 1 + 1 by omega) 3 (.string u4))
                    clear hx
                    have y4 := HX.out.cell 4 rfl; have f4 := HX.out.froz 4
                    refine hK.out _ _ HX.out.box (fun hHeld => ?_)
                    clear hK K
                    try dsimp only [Act.put, List.getElem_toArray, List.getElem_cons_zero, List.getElem_cons_succ]; try simp only [List.setIfInBounds_toArray, List.set_cons_zero, List.set_cons_succ]
                    refine wpAnyH_take (i := 8) (oi := _) (v := ?vq24) rfl (by kernel_rfl) (by kernel_rfl) (by kernel_rfl) (fun _ _ _ h => h) (Or.inl ⟨by rfl, ?hq24⟩) (by assumption) ?rq24
                    case hq24 => (intro w hSw; go_simp; try with_reducible rfl)
                    try dsimp only [Act.put, List.getElem_toArray, List.getElem_cons_zero, List.getElem_cons_succ]; try simp only [List.setIfInBounds_toArray, List.set_cons_zero, List.set_cons_succ]
                    refine wpAnyH_ready (rs := [9]) (by kernel_rfl) (by simp) ?_
                    refine AllReadyH.cons (o := _) rfl (fun K hK => ?_) ?_
                    · rw [if_pos (by rfl)]
                      go_simp
                      clear y4 f4
                      have hx := HX.out.set hqg hwg 4 (.string u5)
                      simp only [List.setIfInBounds_toArray, List.set_cons_zero, List.set_cons_succ] at hx
                      have HX := Lib.hid hx
                      have HR := Lib.hid (rdo_set HR.out (show b ≠ w.heap.size + 1 + 1 by omega) 4 (.string u5))
                      clear hx
                      refine hK.out _ _ HX.out.box (fun hHeld => ?_)
                      clear hK K
                      try dsimp only [Act.put, List.getElem_toArray, List.getElem_cons_zero, List.getElem_cons_succ]; try simp only [List.setIfInBounds_toArray, List.set_cons_zero, List.set_cons_succ]
                      refine wpAnyH_done (by kernel_rfl) ?_ _
                      have b0 := HX.out.box
                      go_wp2_with fail
                      clear b0
                      have hwu := HX.out.under hwg
                      refine (T6.out _ HR.out).mono ?_
                      rintro e w1 ⟨⟨cA, cn, cc, cl⟩, rfl, hbare, hlast, hr1, ho1⟩
                      have HX := Lib.hid (HX.out.call hqb hbg ho1)
                      have HR := Lib.hid hr1
                      clear hr1 ho1
                      have HL1 : Hid (∃ B, w.heap.size + 1 + 1 < B ∧ b < B ∧ w.heap.size ≤ B ∧ ∀ W, Agr B w1 W → Ctx.ok W ⟨cA, cn, cc, cl⟩) := Lib.hid ⟨_, hwu, by omega, by omega, hlast⟩
                      obtain ⟨BHL1, hgHL1, hbHL1, hwHL1, hlast⟩ := HL1.out
                      have hrHL1 : w.heap.size + 1 < BHL1 := by omega
                      have HL1 := Lib.hid hlast; clear hlast hwu
                      simp only [Ctx.v]
                      have HB := Lib.hid hbare; clear hbare
                      have y5 := HX.out.cell 5 rfl; have f5 := HX.out.froz 5
                      have hx := HX.out.set hqg hwg 5 (.slice cA cn cc)
                      simp only [List.setIfInBounds_toArray, List.set_cons_zero, List.set_cons_succ] at hx
                      have HX := Lib.hid hx
                      have HR := Lib.hid (rdo_set HR.out (show b ≠ w.heap.size + 1 + 1 by omega) 5 (.slice cA cn cc))
                      have HL1 := Lib.hid (fun (W : World) hW => HL1.out W (Agr.setCell (i := 5) (u := .slice cA cn cc) hgHL1 hW))
                      clear hx
                      have b0 := HX.out.box
                      go_wp2_with fail
                      clear b0 y5 f5
                      refine (T7.out _ HR.out).mono ?_
                      rintro e w1 ⟨rfl, hr1, ho1⟩
                      have HX := Lib.hid (HX.out.call hqb hbg ho1)
                      have HR := Lib.hid hr1
                      have HL1 := Lib.hid (fun (W : World) hW => HL1.out W (Agr.only hW ho1 hbHL1))
                      clear hr1 ho1
                      have y6 := HX.out.cell 6 rfl; have f6 := HX.out.froz 6
                      have hx := HX.out.set hqg hwg 6 (.int .i64 v7)
                      simp only [List.setIfInBounds_toArray, List.set_cons_zero, List.set_cons_succ] at hx
                      have HX := Lib.hid hx
                      have HR := Lib.hid (rdo_set HR.out (show b ≠ w.heap.size + 1 + 1 by omega) 6 (.int .i64 v7))
                      have HL1 := Lib.hid (fun (W : World) hW => HL1.out W (Agr.setCell (i := 6) (u := .int .i64 v7) hgHL1 hW))
                      clear hx
                      go_upto_region 6 with fail
                      clear y6 f6
                      generalize (w1.setCell ⟨w.heap.size + 1 + 1, 6, none⟩ (.int .i64 v7)) = wy at HX HR HL1 ⊢
                      have HI : Hid ((Try.prog.info? 85).map (·.size) = some (#[.int .i64 v1, .string u2, .string u3, .string u4, .string u5, .slice cA cn cc, .int .i64 v7] : Array Value).size) := Lib.hid row_cal.hi
                      have H1 : Hid (∀ u ∈ (#[.int .i64 v1, .string u2, .string u3, .string u4, .string u5, .slice cA cn cc, .int .i64 v7] : Array Value).toList, u.oneCell' = true) := Lib.hid (by intro u hu; simp only [List.mem_cons, List.not_mem_nil, or_false] at hu; rcases hu with rfl | rfl | rfl | rfl | rfl | rfl | rfl <;> rfl)
                      refine wp_region_lit ?_
                      refine wpList_load_arr (by rfl) _ (by rfl) (w.heap.size + 1 + 1) 0 (by rfl) #[.int .i64 v1, .string u2, .string u3, .string u4, .string u5, .slice cA cn cc, .int .i64 v7] HX.out.range row_cal.d HI.out ?_
                      try dsimp only [Act.put, List.getElem_toArray, List.getElem_cons_zero, List.getElem_cons_succ]; try simp only [List.setIfInBounds_toArray, List.set_cons_zero, List.set_cons_succ]
                      refine wpList_store_part (by rfl) _ _ (by rfl) (w.heap.size + 1) 0 #[.int .i64 0, .string ⟨#[]⟩, .string ⟨#[]⟩, .string ⟨#[]⟩, .string ⟨#[]⟩, .slice none 0 0, .int .i64 0] #[.int .i64 v1, .string u2, .string u3, .string u4, .string u5, .slice cA cn cc, .int .i64 v7] 85 (by rfl) (by rfl) HX.out.r (by simp) HI.out H1.out (fun wz hwz => ?_)
                      try dsimp only [Act.put, List.getElem_toArray, List.getElem_cons_zero, List.getElem_cons_succ]; try simp only [List.setIfInBounds_toArray, List.set_cons_zero, List.set_cons_succ]
                      have hres := HX.out.res (by rfl)
                      have hend := HX.out.end_ hwg (#[.int .i64 v1, .string u2, .string u3, .string u4, .string u5, .slice cA cn cc, .int .i64 v7] : Array Value).toList
                      have hrd := rdo_setCells HR.out (show b ≠ w.heap.size + 1 by omega) 0 (#[.int .i64 v1, .string u2, .string u3, .string u4, .string u5, .slice cA cn cc, .int .i64 v7] : Array Value).toList
                      have HL1 := Lib.hid (fun (W : World) hW => HL1.out W (Agr.setCells (g := w.heap.size + 1) 0 (#[.int .i64 v1, .string u2, .string u3, .string u4, .string u5, .slice cA cn cc, .int .i64 v7] : Array Value).toList hrHL1 hW))
                      rw [← hwz] at hres hend hrd
                      have HL1 := Lib.hid (fun (W : World) (hW : Agr BHL1 wz W) => HL1.out W (by rw [← hwz]; exact hW))
                      have hsz := hend.size
                      have HRES := Lib.hid hres; have HEND := Lib.hid hend; have HRD := Lib.hid hrd
                      clear hres hend hrd hwz HX HR
                      refine wpList_nil ?_
                      go_wp2_with fail
                      have hrd := HRD.out; have hend := HEND.out
                      refine bodyPost_ret (results_cell_row rfl _ _ (w.heap.size + 1) _ #[.int .i64 v1, .string u2, .string u3, .string u4, .string u5, .slice cA cn cc, .int .i64 v7] (0, 0) _ rfl HRES.out Try.underlying85 rfl HI.out) rfl ?_
                      refine ⟨⟨v1, u2, u3, u4, u5, ⟨cA, cn, cc, cl⟩, v7⟩, rfl, ?_, fun W hW => ⟨M1.out, M2.out, M3.out, M4.out, M5.out, HL1.out W (hW.mono hwHL1), M7.out⟩, ?_, hend⟩
                      · rw [HV.out]; exact congrArg (fun c => Cal.mk v1 u2 u3 u4 u5 c v7) HB.out
                      · rw [HV.out]; exact hrd
                    exact AllReadyH.nil
                  exact AllReadyH.nil
                exact AllReadyH.nil
              exact AllReadyH.nil
            exact AllReadyH.nil
          exact AllReadyH.nil
        exact AllReadyH.nil
      exact AllReadyH.nil
    exact AllReadyH.nil
  exact AllReadyH.nil
end Go.Proofs.Ytlmplibdfhamjaa
