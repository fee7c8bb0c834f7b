/- Administrators' deeds and events read of bytes by the code. -/
import Derived.Test.YtlmplibdfhamjaaScrU
attribute [local go_sem ↓] Go.wp_at_zero Go.wp_at_succ
namespace Go.Proofs.Ytlmplibdfhamjaa
open Go.RowKit Go.Mem Go.Num
set_option linter.unusedVariables false
set_option linter.unusedSimpArgs false

set_option maxRecDepth 100000 in
set_option maxHeartbeats 8000000 in
theorem rAdm_any (b : Nat) (st : St) (w : World) (h : RdO b st w) (hs : st.1.length ≤ 140737488355328) :
    Calls Try.prog 99 #[.agg #[.pointer (some ⟨b, 0, none⟩)]] w (fun e w' => e = .returned (.agg (rdAdm st).1.arr) ∧ RdO b (rdAdm st).2 w' ∧ Only b w w') := by
  obtain ⟨v1, s1, e1⟩ : ∃ v s, rdNum 1 st = (v, s) := ⟨_, _, rfl⟩
  have l1 := rdNum_len 1 st
  have t1 := fun W hW => rByte_any b st W hW (by omega)
  rw [e1] at l1 t1
  simp only at l1 t1
  have m1 : (Lit.int .i64 v1).wf = true := by have h9 : (Lit.int .i64 (rdNum 1 st).1).wf = true := numWf _; rw [e1] at h9; exact h9
  obtain ⟨v2, s2, e2⟩ : ∃ v s, rdText s1 = (v, s) := ⟨_, _, rfl⟩
  have l2 := (rdText_len s1).1
  have t2 := fun W hW => rText_any b s1 W hW (by omega)
  rw [e2] at l2 t2
  simp only at l2 t2
  have m2 : (bs v2).size ≤ maxLen := by have h9 := text_max s1 (by omega); rw [e2] at h9; exact h9
  obtain ⟨v3, s3, e3⟩ : ∃ v s, rdText s2 = (v, s) := ⟨_, _, rfl⟩
  have l3 := (rdText_len s2).1
  have t3 := fun W hW => rText_any b s2 W hW (by omega)
  rw [e3] at l3 t3
  simp only at l3 t3
  have m3 : (bs v3).size ≤ maxLen := by have h9 := text_max s2 (by omega); rw [e3] at h9; exact h9
  obtain ⟨v4, s4, e4⟩ : ∃ v s, rdText s3 = (v, s) := ⟨_, _, rfl⟩
  have l4 := (rdText_len s3).1
  have t4 := fun W hW => rText_any b s3 W hW (by omega)
  rw [e4] at l4 t4
  simp only at l4 t4
  have m4 : (bs v4).size ≤ maxLen := by have h9 := text_max s3 (by omega); rw [e4] at h9; exact h9
  obtain ⟨v5, s5, e5⟩ : ∃ v s, rdText s4 = (v, s) := ⟨_, _, rfl⟩
  have l5 := (rdText_len s4).1
  have t5 := fun W hW => rText_any b s4 W hW (by omega)
  rw [e5] at l5 t5
  simp only at l5 t5
  have m5 : (bs v5).size ≤ maxLen := by have h9 := text_max s4 (by omega); rw [e5] at h9; exact h9
  obtain ⟨v6, s6, e6⟩ : ∃ v s, rdNum 8 s5 = (v, s) := ⟨_, _, rfl⟩
  have l6 := rdNum_len 8 s5
  have t6 := fun W hW => rInt_any b s5 W hW (by omega)
  rw [e6] at l6 t6
  simp only at l6 t6
  have m6 : (Lit.int .i64 v6).wf = true := by have h9 : (Lit.int .i64 (rdNum 8 s5).1).wf = true := numWf _; rw [e6] at h9; exact h9
  have hV : rdAdm st = (⟨v1, bs v2, bs v3, bs v4, bs v5, v6, (rdMem s6).1⟩, (rdMem s6).2) := by unfold rdAdm rd4 rd3; simp only [e1, e2, e3, e4, e5, e6]
  have t7 := fun W hW => rMem_any b s6 W hW (by omega)
  generalize rdMem s6 = mm at t7 hV
  obtain ⟨⟨mn, mr, mz, mu⟩, s7⟩ := mm
  simp only [Memb.arr] at t7 hV
  have T7 := Lib.hid t7; clear t7
  have T1 := Lib.hid t1; have M1 := Lib.hid m1; clear t1 m1
  generalize bs v2 = u2 at t2 m2 hV
  have T2 := Lib.hid t2; have M2 := Lib.hid m2; clear t2 m2
  generalize bs v3 = u3 at t3 m3 hV
  have T3 := Lib.hid t3; have M3 := Lib.hid m3; clear t3 m3
  generalize bs v4 = u4 at t4 m4 hV
  have T4 := Lib.hid t4; have M4 := Lib.hid m4; clear t4 m4
  generalize bs v5 = u5 at t5 m5 hV
  have T5 := Lib.hid t5; have M5 := Lib.hid m5; clear t5 m5
  have T6 := Lib.hid t6; have M6 := Lib.hid m6; clear t6 m6
  have HV := Lib.hid hV; clear hV
  clear e1 l1 e2 l2 e3 l3 e4 l4 e5 l5 e6 l6
  have hbw : b < w.heap.size := h.lt
  have hwg : w.heap.size ≤ w.heap.size + 1 := by omega
  have hbg : b < w.heap.size + 1 := by omega
  have hqg : w.heap.size ≠ w.heap.size + 1 + 1 := by omega
  have hqb : w.heap.size ≠ b := by omega
  have HR := Lib.hid (((show RdO b st (w.alloc (.cells #[.pointer (some ⟨b, 0, none⟩)] 91)) from Two.alloc h _).alloc (.cells #[.int .i64 0, .string ⟨#[]⟩, .string ⟨#[]⟩, .string ⟨#[]⟩, .string ⟨#[]⟩, .int .i64 0, .string ⟨#[]⟩, .string ⟨#[]⟩, .string ⟨#[]⟩, .bool false] 87)).alloc (.cells #[.int .i64 0, .string ⟨#[]⟩, .string ⟨#[]⟩, .string ⟨#[]⟩, .string ⟨#[]⟩, .int .i64 0, .string ⟨#[]⟩, .string ⟨#[]⟩, .string ⟨#[]⟩, .bool false] 87))
  have HX : Hid (RX 91 w.heap.size 87 #[.int .i64 0, .string ⟨#[]⟩, .string ⟨#[]⟩, .string ⟨#[]⟩, .string ⟨#[]⟩, .int .i64 0, .string ⟨#[]⟩, .string ⟨#[]⟩, .string ⟨#[]⟩, .bool false] b (w.heap.size + 1) w (((w.alloc (.cells #[.pointer (some ⟨b, 0, none⟩)] 91)).alloc (.cells #[.int .i64 0, .string ⟨#[]⟩, .string ⟨#[]⟩, .string ⟨#[]⟩, .string ⟨#[]⟩, .int .i64 0, .string ⟨#[]⟩, .string ⟨#[]⟩, .string ⟨#[]⟩, .bool false] 87)).alloc (.cells #[.int .i64 0, .string ⟨#[]⟩, .string ⟨#[]⟩, .string ⟨#[]⟩, .string ⟨#[]⟩, .int .i64 0, .string ⟨#[]⟩, .string ⟨#[]⟩, .string ⟨#[]⟩, .bool false] 87)) #[.int .i64 0, .string ⟨#[]⟩, .string ⟨#[]⟩, .string ⟨#[]⟩, .string ⟨#[]⟩, .int .i64 0, .string ⟨#[]⟩, .string ⟨#[]⟩, .string ⟨#[]⟩, .bool false]) := Lib.hid
    ⟨((Only.rfl_.alloc _).alloc _).alloc _, (Below.heap_alloc _ _ _ (by simp; omega)).trans (heap_alloc2_old w _ _), (Below.heap_alloc _ _ _ (by simp)).trans (heap_alloc2_new w _ _), by have := heap_alloc_new ((w.alloc (.cells #[.pointer (some ⟨b, 0, none⟩)] 91)).alloc (.cells #[.int .i64 0, .string ⟨#[]⟩, .string ⟨#[]⟩, .string ⟨#[]⟩, .string ⟨#[]⟩, .int .i64 0, .string ⟨#[]⟩, .string ⟨#[]⟩, .string ⟨#[]⟩, .bool false] 87)) (.cells #[.int .i64 0, .string ⟨#[]⟩, .string ⟨#[]⟩, .string ⟨#[]⟩, .string ⟨#[]⟩, .int .i64 0, .string ⟨#[]⟩, .string ⟨#[]⟩, .string ⟨#[]⟩, .bool false] 87); simpa using this⟩
  clear h hs
  go_enter Try.func99, Try.ntmps99
  go_wp2
  generalize (((w.alloc (.cells #[.pointer (some ⟨b, 0, none⟩)] 91)).alloc (.cells #[.int .i64 0, .string ⟨#[]⟩, .string ⟨#[]⟩, .string ⟨#[]⟩, .string ⟨#[]⟩, .int .i64 0, .string ⟨#[]⟩, .string ⟨#[]⟩, .string ⟨#[]⟩, .bool false] 87)).alloc (.cells #[.int .i64 0, .string ⟨#[]⟩, .string ⟨#[]⟩, .string ⟨#[]⟩, .string ⟨#[]⟩, .int .i64 0, .string ⟨#[]⟩, .string ⟨#[]⟩, .string ⟨#[]⟩, .bool false] 87)) = W0 at HX HR ⊢
  have HX := Lib.hid HX.out.drew
  have HR := Lib.hid (Two.drew HR.out)
  refine wp_region_held_drew (S := (fun W => W.cell? ⟨w.heap.size, 0, none⟩ = some (.pointer (some ⟨b, 0, none⟩)))) (by kernel_rfl) HX.out.box (fun hHeld => ?_)
  refine wpAnyH_take (i := 0) (oi := _) (v := ?vq25) rfl (by kernel_rfl) (by kernel_rfl) (by kernel_rfl) (fun _ _ _ h => h) (Or.inl ⟨by rfl, ?hq25⟩) (by assumption) ?rq25
  case hq25 => (intro w hSw; go_simp; try with_reducible rfl)
  try dsimp only [Act.put, List.getElem_toArray, List.getElem_cons_zero, List.getElem_cons_succ]; try simp only [List.setIfInBounds_toArray, List.set_cons_zero, List.set_cons_succ]
  refine wpAnyH_take (i := 1) (oi := _) (v := ?vq26) rfl (by kernel_rfl) (by kernel_rfl) (by kernel_rfl) (fun _ _ _ h => h) (Or.inl ⟨by rfl, ?hq26⟩) (by assumption) ?rq26
  case hq26 => (intro w hSw; go_simp; try with_reducible rfl)
  try dsimp only [Act.put, List.getElem_toArray, List.getElem_cons_zero, List.getElem_cons_succ]; try simp only [List.setIfInBounds_toArray, List.set_cons_zero, List.set_cons_succ]
  refine wpAnyH_take (i := 3) (oi := _) (v := ?vq27) rfl (by kernel_rfl) (by kernel_rfl) (by kernel_rfl) (fun _ _ _ h => h) (Or.inl ⟨by rfl, ?hq27⟩) (by assumption) ?rq27
  case hq27 => (intro w hSw; go_simp; try with_reducible rfl)
  try dsimp only [Act.put, List.getElem_toArray, List.getElem_cons_zero, List.getElem_cons_succ]; try simp only [List.setIfInBounds_toArray, List.set_cons_zero, List.set_cons_succ]
  refine wpAnyH_take (i := 4) (oi := _) (v := ?vq28) rfl (by kernel_rfl) (by kernel_rfl) (by kernel_rfl) (fun _ _ _ h => h) (Or.inl ⟨by rfl, ?hq28⟩) (by assumption) ?rq28
  case hq28 => (intro w hSw; go_simp; try with_reducible rfl)
  try dsimp only [Act.put, List.getElem_toArray, List.getElem_cons_zero, List.getElem_cons_succ]; try simp only [List.setIfInBounds_toArray, List.set_cons_zero, List.set_cons_succ]
  refine wpAnyH_take (i := 6) (oi := _) (v := ?vq29) rfl (by kernel_rfl) (by kernel_rfl) (by kernel_rfl) (fun _ _ _ h => h) (Or.inl ⟨by rfl, ?hq29⟩) (by assumption) ?rq29
  case hq29 => (intro w hSw; go_simp; try with_reducible rfl)
  try dsimp only [Act.put, List.getElem_toArray, List.getElem_cons_zero, List.getElem_cons_succ]; try simp only [List.setIfInBounds_toArray, List.set_cons_zero, List.set_cons_succ]
  refine wpAnyH_take (i := 7) (oi := _) (v := ?vq30) rfl (by kernel_rfl) (by kernel_rfl) (by kernel_rfl) (fun _ _ _ h => h) (Or.inl ⟨by rfl, ?hq30⟩) (by assumption) ?rq30
  case hq30 => (intro w hSw; go_simp; try with_reducible rfl)
  try dsimp only [Act.put, List.getElem_toArray, List.getElem_cons_zero, List.getElem_cons_succ]; try simp only [List.setIfInBounds_toArray, List.set_cons_zero, List.set_cons_succ]
  refine wpAnyH_ready (rs := [2]) (by kernel_rfl) (by simp) ?_
  refine AllReadyH.cons (o := _) rfl (fun K hK => ?_) ?_
  · rw [if_pos (by rfl)]
    go_simp
    refine (T1.out _ HR.out).mono ?_
    rintro e w1 ⟨rfl, hr1, ho1⟩
    have HX := Lib.hid (HX.out.call hqb hbg ho1)
    have HR := Lib.hid hr1
    clear hr1 ho1
    go_wp2_with fail
    refine hK.out _ _ HX.out.box (fun hHeld => ?_)
    clear hK K
    try dsimp only [Act.put, List.getElem_toArray, List.getElem_cons_zero, List.getElem_cons_succ]; try simp only [List.setIfInBounds_toArray, List.set_cons_zero, List.set_cons_succ]
    refine wpAnyH_take (i := 9) (oi := _) (v := ?vq31) rfl (by kernel_rfl) (by kernel_rfl) (by kernel_rfl) (fun _ _ _ h => h) (Or.inl ⟨by rfl, ?hq31⟩) (by assumption) ?rq31
    case hq31 => (intro w hSw; go_simp; try with_reducible rfl)
    try dsimp only [Act.put, List.getElem_toArray, List.getElem_cons_zero, List.getElem_cons_succ]; try simp only [List.setIfInBounds_toArray, List.set_cons_zero, List.set_cons_succ]
    refine wpAnyH_ready (rs := [5]) (by kernel_rfl) (by simp) ?_
    refine AllReadyH.cons (o := _) rfl (fun K hK => ?_) ?_
    · rw [if_pos (by rfl)]
      go_simp
      refine (T2.out _ HR.out).mono ?_
      rintro e w1 ⟨rfl, hr1, ho1⟩
      have HX := Lib.hid (HX.out.call hqb hbg ho1)
      have HR := Lib.hid hr1
      clear hr1 ho1
      go_wp2_with fail
      refine hK.out _ _ HX.out.box (fun hHeld => ?_)
      clear hK K
      try dsimp only [Act.put, List.getElem_toArray, List.getElem_cons_zero, List.getElem_cons_succ]; try simp only [List.setIfInBounds_toArray, List.set_cons_zero, List.set_cons_succ]
      refine wpAnyH_ready (rs := [8]) (by kernel_rfl) (by simp) ?_
      refine AllReadyH.cons (o := _) rfl (fun K hK => ?_) ?_
      · rw [if_pos (by rfl)]
        go_simp
        refine (T3.out _ HR.out).mono ?_
        rintro e w1 ⟨rfl, hr1, ho1⟩
        have HX := Lib.hid (HX.out.call hqb hbg ho1)
        have HR := Lib.hid hr1
        clear hr1 ho1
        have y0 := HX.out.cell 0 rfl; have f0 := HX.out.froz 0
        have y1 := HX.out.cell 1 rfl; have f1 := HX.out.froz 1
        have y2 := HX.out.cell 2 rfl; have f2 := HX.out.froz 2
        go_wp2_with fail
        refine hK.out _ _ HX.out.box (fun hHeld => ?_)
        clear hK K
        try dsimp only [Act.put, List.getElem_toArray, List.getElem_cons_zero, List.getElem_cons_succ]; try simp only [List.setIfInBounds_toArray, List.set_cons_zero, List.set_cons_succ]
        refine wpAnyH_ready (rs := [10]) (by kernel_rfl) (by simp) ?_
        refine AllReadyH.cons (o := _) rfl (fun K hK => ?_) ?_
        · rw [if_pos (by rfl)]
          go_simp
          clear y0 f0 y1 f1 y2 f2
          have hx := HX.out.set hqg hwg 0 (.int .i64 v1)
          simp only [List.setIfInBounds_toArray, List.set_cons_zero, List.set_cons_succ] at hx
          have HX := Lib.hid hx
          have HR := Lib.hid (rdo_set HR.out (show b ≠ w.heap.size + 1 + 1 by omega) 0 (.int .i64 v1))
          clear hx
          have y1 := HX.out.cell 1 rfl; have f1 := HX.out.froz 1
          have y2 := HX.out.cell 2 rfl; have f2 := HX.out.froz 2
          refine hK.out _ _ HX.out.box (fun hHeld => ?_)
          clear hK K
          try dsimp only [Act.put, List.getElem_toArray, List.getElem_cons_zero, List.getElem_cons_succ]; try simp only [List.setIfInBounds_toArray, List.set_cons_zero, List.set_cons_succ]
          refine wpAnyH_take (i := 11) (oi := _) (v := ?vq32) rfl (by kernel_rfl) (by kernel_rfl) (by kernel_rfl) (fun _ _ _ h => h) (Or.inl ⟨by rfl, ?hq32⟩) (by assumption) ?rq32
          case hq32 => (intro w hSw; go_simp; try with_reducible rfl)
          try dsimp only [Act.put, List.getElem_toArray, List.getElem_cons_zero, List.getElem_cons_succ]; try simp only [List.setIfInBounds_toArray, List.set_cons_zero, List.set_cons_succ]
          refine wpAnyH_ready (rs := [12]) (by kernel_rfl) (by simp) ?_
          refine AllReadyH.cons (o := _) rfl (fun K hK => ?_) ?_
          · rw [if_pos (by rfl)]
            go_simp
            clear y1 f1 y2 f2
            have hx := HX.out.set hqg hwg 1 (.string u2)
            simp only [List.setIfInBounds_toArray, List.set_cons_zero, List.set_cons_succ] at hx
            have HX := Lib.hid hx
            have HR := Lib.hid (rdo_set HR.out (show b ≠ w.heap.size + 1 + 1 by omega) 1 (.string u2))
            clear hx
            have y2 := HX.out.cell 2 rfl; have f2 := HX.out.froz 2
            refine hK.out _ _ HX.out.box (fun hHeld => ?_)
            clear hK K
            try dsimp only [Act.put, List.getElem_toArray, List.getElem_cons_zero, List.getElem_cons_succ]; try simp only [List.setIfInBounds_toArray, List.set_cons_zero, List.set_cons_succ]
            refine wpAnyH_take (i := 13) (oi := _) (v := ?vq33) rfl (by kernel_rfl) (by kernel_rfl) (by kernel_rfl) (fun _ _ _ h => h) (Or.inl ⟨by rfl, ?hq33⟩) (by assumption) ?rq33
            case hq33 => (intro w hSw; go_simp; try with_reducible rfl)
            try dsimp only [Act.put, List.getElem_toArray, List.getElem_cons_zero, List.getElem_cons_succ]; try simp only [List.setIfInBounds_toArray, List.set_cons_zero, List.set_cons_succ]
            refine wpAnyH_ready (rs := [14]) (by kernel_rfl) (by simp) ?_
            refine AllReadyH.cons (o := _) rfl (fun K hK => ?_) ?_
            · rw [if_pos (by rfl)]
              go_simp
              clear y2 f2
              have hx := HX.out.set hqg hwg 2 (.string u3)
              simp only [List.setIfInBounds_toArray, List.set_cons_zero, List.set_cons_succ] at hx
              have HX := Lib.hid hx
              have HR := Lib.hid (rdo_set HR.out (show b ≠ w.heap.size + 1 + 1 by omega) 2 (.string u3))
              clear hx
              refine hK.out _ _ HX.out.box (fun hHeld => ?_)
              clear hK K
              try dsimp only [Act.put, List.getElem_toArray, List.getElem_cons_zero, List.getElem_cons_succ]; try simp only [List.setIfInBounds_toArray, List.set_cons_zero, List.set_cons_succ]
              refine wpAnyH_done (by kernel_rfl) ?_ _
              go_wp2
              have HX := Lib.hid HX.out.drew
              have HR := Lib.hid (Two.drew HR.out)
              refine wp_region_held_drew (S := (fun W => W.cell? ⟨w.heap.size, 0, none⟩ = some (.pointer (some ⟨b, 0, none⟩)))) (by kernel_rfl) HX.out.box (fun hHeld => ?_)
              refine wpAnyH_take (i := 0) (oi := _) (v := ?vq34) rfl (by kernel_rfl) (by kernel_rfl) (by kernel_rfl) (fun _ _ _ h => h) (Or.inl ⟨by rfl, ?hq34⟩) (by assumption) ?rq34
              case hq34 => (intro w hSw; go_simp; try with_reducible rfl)
              try dsimp only [Act.put, List.getElem_toArray, List.getElem_cons_zero, List.getElem_cons_succ]; try simp only [List.setIfInBounds_toArray, List.set_cons_zero, List.set_cons_succ]
              refine wpAnyH_take (i := 1) (oi := _) (v := ?vq35) rfl (by kernel_rfl) (by kernel_rfl) (by kernel_rfl) (fun _ _ _ h => h) (Or.inl ⟨by rfl, ?hq35⟩) (by assumption) ?rq35
              case hq35 => (intro w hSw; go_simp; try with_reducible rfl)
              try dsimp only [Act.put, List.getElem_toArray, List.getElem_cons_zero, List.getElem_cons_succ]; try simp only [List.setIfInBounds_toArray, List.set_cons_zero, List.set_cons_succ]
              refine wpAnyH_take (i := 3) (oi := _) (v := ?vq36) rfl (by kernel_rfl) (by kernel_rfl) (by kernel_rfl) (fun _ _ _ h => h) (Or.inl ⟨by rfl, ?hq36⟩) (by assumption) ?rq36
              case hq36 => (intro w hSw; go_simp; try with_reducible rfl)
              try dsimp only [Act.put, List.getElem_toArray, List.getElem_cons_zero, List.getElem_cons_succ]; try simp only [List.setIfInBounds_toArray, List.set_cons_zero, List.set_cons_succ]
              refine wpAnyH_take (i := 4) (oi := _) (v := ?vq37) rfl (by kernel_rfl) (by kernel_rfl) (by kernel_rfl) (fun _ _ _ h => h) (Or.inl ⟨by rfl, ?hq37⟩) (by assumption) ?rq37
              case hq37 => (intro w hSw; go_simp; try with_reducible rfl)
              try dsimp only [Act.put, List.getElem_toArray, List.getElem_cons_zero, List.getElem_cons_succ]; try simp only [List.setIfInBounds_toArray, List.set_cons_zero, List.set_cons_succ]
              refine wpAnyH_take (i := 6) (oi := _) (v := ?vq38) rfl (by kernel_rfl) (by kernel_rfl) (by kernel_rfl) (fun _ _ _ h => h) (Or.inl ⟨by rfl, ?hq38⟩) (by assumption) ?rq38
              case hq38 => (intro w hSw; go_simp; try with_reducible rfl)
              try dsimp only [Act.put, List.getElem_toArray, List.getElem_cons_zero, List.getElem_cons_succ]; try simp only [List.setIfInBounds_toArray, List.set_cons_zero, List.set_cons_succ]
              refine wpAnyH_take (i := 7) (oi := _) (v := ?vq39) rfl (by kernel_rfl) (by kernel_rfl) (by kernel_rfl) (fun _ _ _ h => h) (Or.inl ⟨by rfl, ?hq39⟩) (by assumption) ?rq39
              case hq39 => (intro w hSw; go_simp; try with_reducible rfl)
              try dsimp only [Act.put, List.getElem_toArray, List.getElem_cons_zero, List.getElem_cons_succ]; try simp only [List.setIfInBounds_toArray, List.set_cons_zero, List.set_cons_succ]
              refine wpAnyH_ready (rs := [2]) (by kernel_rfl) (by simp) ?_
              refine AllReadyH.cons (o := _) rfl (fun K hK => ?_) ?_
              · rw [if_pos (by rfl)]
                go_simp
                refine (T4.out _ HR.out).mono ?_
                rintro e w1 ⟨rfl, hr1, ho1⟩
                have HX := Lib.hid (HX.out.call hqb hbg ho1)
                have HR := Lib.hid hr1
                clear hr1 ho1
                go_wp2_with fail
                refine hK.out _ _ HX.out.box (fun hHeld => ?_)
                clear hK K
                try dsimp only [Act.put, List.getElem_toArray, List.getElem_cons_zero, List.getElem_cons_succ]; try simp only [List.setIfInBounds_toArray, List.set_cons_zero, List.set_cons_succ]
                refine wpAnyH_take (i := 9) (oi := _) (v := ?vq40) rfl (by kernel_rfl) (by kernel_rfl) (by kernel_rfl) (fun _ _ _ h => h) (Or.inl ⟨by rfl, ?hq40⟩) (by assumption) ?rq40
                case hq40 => (intro w hSw; go_simp; try with_reducible rfl)
                try dsimp only [Act.put, List.getElem_toArray, List.getElem_cons_zero, List.getElem_cons_succ]; try simp only [List.setIfInBounds_toArray, List.set_cons_zero, List.set_cons_succ]
                refine wpAnyH_ready (rs := [5]) (by kernel_rfl) (by simp) ?_
                refine AllReadyH.cons (o := _) rfl (fun K hK => ?_) ?_
                · rw [if_pos (by rfl)]
                  go_simp
                  refine (T5.out _ HR.out).mono ?_
                  rintro e w1 ⟨rfl, hr1, ho1⟩
                  have HX := Lib.hid (HX.out.call hqb hbg ho1)
                  have HR := Lib.hid hr1
                  clear hr1 ho1
                  go_wp2_with fail
                  refine hK.out _ _ HX.out.box (fun hHeld => ?_)
                  clear hK K
                  try dsimp only [Act.put, List.getElem_toArray, List.getElem_cons_zero, List.getElem_cons_succ]; try simp only [List.setIfInBounds_toArray, List.set_cons_zero, List.set_cons_succ]
                  refine wpAnyH_ready (rs := [8]) (by kernel_rfl) (by simp) ?_
                  refine AllReadyH.cons (o := _) rfl (fun K hK => ?_) ?_
                  · rw [if_pos (by rfl)]
                    go_simp
                    refine (T6.out _ HR.out).mono ?_
                    rintro e w1 ⟨rfl, hr1, ho1⟩
                    have HX := Lib.hid (HX.out.call hqb hbg ho1)
                    have HR := Lib.hid hr1
                    clear hr1 ho1
                    have y3 := HX.out.cell 3 rfl; have f3 := HX.out.froz 3
                    have y4 := HX.out.cell 4 rfl; have f4 := HX.out.froz 4
                    have y5 := HX.out.cell 5 rfl; have f5 := HX.out.froz 5
                    go_wp2_with fail
                    refine hK.out _ _ HX.out.box (fun hHeld => ?_)
                    clear hK K
                    try dsimp only [Act.put, List.getElem_toArray, List.getElem_cons_zero, List.getElem_cons_succ]; try simp only [List.setIfInBounds_toArray, List.set_cons_zero, List.set_cons_succ]
                    refine wpAnyH_ready (rs := [10]) (by kernel_rfl) (by simp) ?_
                    refine AllReadyH.cons (o := _) rfl (fun K hK => ?_) ?_
                    · rw [if_pos (by rfl)]
                      go_simp
                      clear y3 f3 y4 f4 y5 f5
                      have hx := HX.out.set hqg hwg 3 (.string u4)
                      simp only [List.setIfInBounds_toArray, List.set_cons_zero, List.set_cons_succ] at hx
                      have HX := Lib.hid hx
                      have HR := Lib.hid (rdo_set HR.out (show b ≠ w.heap.size + 1 + 1 by omega) 3 (.string u4))
                      clear hx
                      have y4 := HX.out.cell 4 rfl; have f4 := HX.out.froz 4
                      have y5 := HX.out.cell 5 rfl; have f5 := HX.out.froz 5
                      refine hK.out _ _ HX.out.box (fun hHeld => ?_)
                      clear hK K
                      try dsimp only [Act.put, List.getElem_toArray, List.getElem_cons_zero, List.getElem_cons_succ]; try simp only [List.setIfInBounds_toArray, List.set_cons_zero, List.set_cons_succ]
                      refine wpAnyH_take (i := 11) (oi := _) (v := ?vq41) rfl (by kernel_rfl) (by kernel_rfl) (by kernel_rfl) (fun _ _ _ h => h) (Or.inl ⟨by rfl, ?hq41⟩) (by assumption) ?rq41
                      case hq41 => (intro w hSw; go_simp; try with_reducible rfl)
                      try dsimp only [Act.put, List.getElem_toArray, List.getElem_cons_zero, List.getElem_cons_succ]; try simp only [List.setIfInBounds_toArray, List.set_cons_zero, List.set_cons_succ]
                      refine wpAnyH_ready (rs := [12]) (by kernel_rfl) (by simp) ?_
                      refine AllReadyH.cons (o := _) rfl (fun K hK => ?_) ?_
                      · rw [if_pos (by rfl)]
                        go_simp
                        clear y4 f4 y5 f5
                        have hx := HX.out.set hqg hwg 4 (.string u5)
                        simp only [List.setIfInBounds_toArray, List.set_cons_zero, List.set_cons_succ] at hx
                        have HX := Lib.hid hx
                        have HR := Lib.hid (rdo_set HR.out (show b ≠ w.heap.size + 1 + 1 by omega) 4 (.string u5))
                        clear hx
                        have y5 := HX.out.cell 5 rfl; have f5 := HX.out.froz 5
                        refine hK.out _ _ HX.out.box (fun hHeld => ?_)
                        clear hK K
                        try dsimp only [Act.put, List.getElem_toArray, List.getElem_cons_zero, List.getElem_cons_succ]; try simp only [List.setIfInBounds_toArray, List.set_cons_zero, List.set_cons_succ]
                        refine wpAnyH_take (i := 13) (oi := _) (v := ?vq42) rfl (by kernel_rfl) (by kernel_rfl) (by kernel_rfl) (fun _ _ _ h => h) (Or.inl ⟨by rfl, ?hq42⟩) (by assumption) ?rq42
                        case hq42 => (intro w hSw; go_simp; try with_reducible rfl)
                        try dsimp only [Act.put, List.getElem_toArray, List.getElem_cons_zero, List.getElem_cons_succ]; try simp only [List.setIfInBounds_toArray, List.set_cons_zero, List.set_cons_succ]
                        refine wpAnyH_ready (rs := [14]) (by kernel_rfl) (by simp) ?_
                        refine AllReadyH.cons (o := _) rfl (fun K hK => ?_) ?_
                        · rw [if_pos (by rfl)]
                          go_simp
                          clear y5 f5
                          have hx := HX.out.set hqg hwg 5 (.int .i64 v6)
                          simp only [List.setIfInBounds_toArray, List.set_cons_zero, List.set_cons_succ] at hx
                          have HX := Lib.hid hx
                          have HR := Lib.hid (rdo_set HR.out (show b ≠ w.heap.size + 1 + 1 by omega) 5 (.int .i64 v6))
                          clear hx
                          refine hK.out _ _ HX.out.box (fun hHeld => ?_)
                          clear hK K
                          try dsimp only [Act.put, List.getElem_toArray, List.getElem_cons_zero, List.getElem_cons_succ]; try simp only [List.setIfInBounds_toArray, List.set_cons_zero, List.set_cons_succ]
                          refine wpAnyH_done (by kernel_rfl) ?_ _
                          have b0 := HX.out.box
                          go_wp2_with fail
                          clear b0
                          refine (T7.out _ HR.out).mono ?_
                          rintro e w1 ⟨rfl, hr1, ho1⟩
                          have HX := Lib.hid (HX.out.call hqb hbg ho1)
                          have HR := Lib.hid hr1
                          clear hr1 ho1
                          have y6 := HX.out.cell 6 rfl; have f6 := HX.out.froz 6
                          have y7 := HX.out.cell 7 rfl; have f7 := HX.out.froz 7
                          have y8 := HX.out.cell 8 rfl; have f8 := HX.out.froz 8
                          have y9 := HX.out.cell 9 rfl; have f9 := HX.out.froz 9
                          have hx := HX.out.set hqg hwg 6 (.string mn)
                          simp only [List.setIfInBounds_toArray, List.set_cons_zero, List.set_cons_succ] at hx
                          have HX := Lib.hid hx
                          have HR := Lib.hid (rdo_set HR.out (show b ≠ w.heap.size + 1 + 1 by omega) 6 (.string mn))
                          clear hx
                          have hx := HX.out.set hqg hwg 7 (.string mr)
                          simp only [List.setIfInBounds_toArray, List.set_cons_zero, List.set_cons_succ] at hx
                          have HX := Lib.hid hx
                          have HR := Lib.hid (rdo_set HR.out (show b ≠ w.heap.size + 1 + 1 by omega) 7 (.string mr))
                          clear hx
                          have hx := HX.out.set hqg hwg 8 (.string mz)
                          simp only [List.setIfInBounds_toArray, List.set_cons_zero, List.set_cons_succ] at hx
                          have HX := Lib.hid hx
                          have HR := Lib.hid (rdo_set HR.out (show b ≠ w.heap.size + 1 + 1 by omega) 8 (.string mz))
                          clear hx
                          have hx := HX.out.set hqg hwg 9 (.bool mu)
                          simp only [List.setIfInBounds_toArray, List.set_cons_zero, List.set_cons_succ] at hx
                          have HX := Lib.hid hx
                          have HR := Lib.hid (rdo_set HR.out (show b ≠ w.heap.size + 1 + 1 by omega) 9 (.bool mu))
                          clear hx
                          go_upto_region 5 with fail
                          clear y6 f6 y7 f7 y8 f8 y9 f9
                          generalize ((((w1.setCell ⟨w.heap.size + 1 + 1, 6, none⟩ (.string mn)).setCell ⟨w.heap.size + 1 + 1, 7, none⟩ (.string mr)).setCell ⟨w.heap.size + 1 + 1, 8, none⟩ (.string mz)).setCell ⟨w.heap.size + 1 + 1, 9, none⟩ (.bool mu)) = wy at HX HR ⊢
                          have HI : Hid ((Try.prog.info? 87).map (·.size) = some (#[.int .i64 v1, .string u2, .string u3, .string u4, .string u5, .int .i64 v6, .string mn, .string mr, .string mz, .bool mu] : Array Value).size) := Lib.hid row_adm.hi
                          have H1 : Hid (∀ u ∈ (#[.int .i64 v1, .string u2, .string u3, .string u4, .string u5, .int .i64 v6, .string mn, .string mr, .string mz, .bool mu] : Array Value).toList, u.oneCell' = true) := Lib.hid (by intro u hu; simp only [List.mem_cons, List.not_mem_nil, or_false] at hu; rcases hu with rfl | rfl | rfl | rfl | rfl | rfl | rfl | rfl | rfl | rfl <;> rfl)
                          refine wp_region_lit ?_
                          refine wpList_load_arr (by rfl) _ (by rfl) (w.heap.size + 1 + 1) 0 (by rfl) #[.int .i64 v1, .string u2, .string u3, .string u4, .string u5, .int .i64 v6, .string mn, .string mr, .string mz, .bool mu] HX.out.range row_adm.d HI.out ?_
                          try dsimp only [Act.put, List.getElem_toArray, List.getElem_cons_zero, List.getElem_cons_succ]; try simp only [List.setIfInBounds_toArray, List.set_cons_zero, List.set_cons_succ]
                          refine wpList_store_part (by rfl) _ _ (by rfl) (w.heap.size + 1) 0 #[.int .i64 0, .string ⟨#[]⟩, .string ⟨#[]⟩, .string ⟨#[]⟩, .string ⟨#[]⟩, .int .i64 0, .string ⟨#[]⟩, .string ⟨#[]⟩, .string ⟨#[]⟩, .bool false] #[.int .i64 v1, .string u2, .string u3, .string u4, .string u5, .int .i64 v6, .string mn, .string mr, .string mz, .bool mu] 87 (by rfl) (by rfl) HX.out.r (by simp) HI.out H1.out (fun wz hwz => ?_)
                          try dsimp only [Act.put, List.getElem_toArray, List.getElem_cons_zero, List.getElem_cons_succ]; try simp only [List.setIfInBounds_toArray, List.set_cons_zero, List.set_cons_succ]
                          have hres := HX.out.res (by rfl)
                          have hend := HX.out.end_ hwg (#[.int .i64 v1, .string u2, .string u3, .string u4, .string u5, .int .i64 v6, .string mn, .string mr, .string mz, .bool mu] : Array Value).toList
                          have hrd := rdo_setCells HR.out (show b ≠ w.heap.size + 1 by omega) 0 (#[.int .i64 v1, .string u2, .string u3, .string u4, .string u5, .int .i64 v6, .string mn, .string mr, .string mz, .bool mu] : Array Value).toList
                          rw [← hwz] at hres hend hrd
                          have hsz := hend.size
                          have HRES := Lib.hid hres; have HEND := Lib.hid hend; have HRD := Lib.hid hrd
                          clear hres hend hrd hwz HX HR
                          refine wpList_nil ?_
                          go_wp2_with fail
                          have hrd := HRD.out; have hend := HEND.out
                          refine bodyPost_ret (results_cell_row rfl _ _ (w.heap.size + 1) _ #[.int .i64 v1, .string u2, .string u3, .string u4, .string u5, .int .i64 v6, .string mn, .string mr, .string mz, .bool mu] (0, 0) _ rfl HRES.out Try.underlying87 rfl HI.out) rfl ?_
                          rw [HV.out]
                          exact ⟨rfl, hrd, hend⟩
                        exact AllReadyH.nil
                      exact AllReadyH.nil
                    exact AllReadyH.nil
                  exact AllReadyH.nil
                exact AllReadyH.nil
              exact AllReadyH.nil
            exact AllReadyH.nil
          exact AllReadyH.nil
        exact AllReadyH.nil
      exact AllReadyH.nil
    exact AllReadyH.nil
  exact AllReadyH.nil
end Go.Proofs.Ytlmplibdfhamjaa
