/- Events read of bytes by the code. -/
import Derived.Test.YtlmplibdfhamjaaScrV
attribute [local go_sem ↓] Go.wp_at_zero Go.wp_at_succ
namespace Go.Proofs.Ytlmplibdfhamjaa
open Go.RowKit Go.Mem Go.Num
set_option linter.unusedVariables false
set_option linter.unusedSimpArgs false

theorem zCal_ok (w : World) : zCal.ok w := ⟨rfl, by decide, by decide, by decide, by decide, ⟨fun j u hj => by simp [zCal, zCtx] at hj, rfl, Nat.zero_le _, fun m hm => by simp [zCal, zCtx] at hm⟩, rfl⟩
theorem zAdm_ok (w : World) : zAdm.ok w := ⟨rfl, by decide, by decide, by decide, by decide, rfl, by decide, by decide, by decide⟩
set_option maxRecDepth 100000 in
set_option maxHeartbeats 8000000 in
theorem rEv_any (b : Nat) (st : St) (w : World) (h : RdO b st w) (hs : st.1.length ≤ 140737488355328) :
    Calls Try.prog 55 #[.agg #[.pointer (some ⟨b, 0, none⟩)]] w (RdS (fun x => .agg x.arr) Ev.bare Ev.ok RdO b (rdEv st) w) := by
  obtain ⟨v1, s1, e1⟩ : ∃ v s, rdNum 1 st = (v, s) := ⟨_, _, rfl⟩
  have l1 := rdNum_len 1 st
  have t1 := fun W hW => rByte_any b st W hW (by omega)
  rw [e1] at l1 t1
  simp only at l1 t1
  have m1 : (Lit.int .i64 v1).wf = true := by have h9 : (Lit.int .i64 (rdNum 1 st).1).wf = true := numWf _; rw [e1] at h9; exact h9
  obtain ⟨v2, s2, e2⟩ : ∃ v s, rdText s1 = (v, s) := ⟨_, _, rfl⟩
  have l2 := (rdText_len s1).1
  have t2 := fun W hW => rText_any b s1 W hW (by omega)
  rw [e2] at l2 t2
  simp only at l2 t2
  have m2 : (bs v2).size ≤ maxLen := by have h9 := text_max s1 (by omega); rw [e2] at h9; exact h9
  obtain ⟨v3, s3, e3⟩ : ∃ v s, rdText s2 = (v, s) := ⟨_, _, rfl⟩
  have l3 := (rdText_len s2).1
  have t3 := fun W hW => rText_any b s2 W hW (by omega)
  rw [e3] at l3 t3
  simp only at l3 t3
  have m3 : (bs v3).size ≤ maxLen := by have h9 := text_max s2 (by omega); rw [e3] at h9; exact h9
  obtain ⟨v4, s4, e4⟩ : ∃ v s, rdText s3 = (v, s) := ⟨_, _, rfl⟩
  have l4 := (rdText_len s3).1
  have t4 := fun W hW => rText_any b s3 W hW (by omega)
  rw [e4] at l4 t4
  simp only at l4 t4
  have m4 : (bs v4).size ≤ maxLen := by have h9 := text_max s3 (by omega); rw [e4] at h9; exact h9
  obtain ⟨v5, s5, e5⟩ : ∃ v s, rdNum 8 s4 = (v, s) := ⟨_, _, rfl⟩
  have l5 := rdNum_len 8 s4
  have t5 := fun W hW => rInt_any b s4 W hW (by omega)
  rw [e5] at l5 t5
  simp only at l5 t5
  have m5 : (Lit.int .i64 v5).wf = true := by have h9 : (Lit.int .i64 (rdNum 8 s4).1).wf = true := numWf _; rw [e5] at h9; exact h9
  have hV : rdEv st = (⟨v1, bs v2, bs v3, bs v4, v5, (rdRest v1 s5).1.1, (rdRest v1 s5).1.2⟩, (rdRest v1 s5).2) := by unfold rdEv rdHead rd3; simp only [e1, e2, e3, e4, e5]
  have t6 := fun W hW => rCal_any b s5 W hW (by omega)
  have t7 := fun W hW => rAdm_any b s5 W hW (by omega)
  have ma := fun W => rdAdm_ok s5 (by omega) W
  have T6 := Lib.hid t6; have T7 := Lib.hid t7; have MA := Lib.hid ma; clear t6 t7 ma
  have T1 := Lib.hid t1; have M1 := Lib.hid m1; clear t1 m1
  generalize bs v2 = u2 at t2 m2 hV
  have T2 := Lib.hid t2; have M2 := Lib.hid m2; clear t2 m2
  generalize bs v3 = u3 at t3 m3 hV
  have T3 := Lib.hid t3; have M3 := Lib.hid m3; clear t3 m3
  generalize bs v4 = u4 at t4 m4 hV
  have T4 := Lib.hid t4; have M4 := Lib.hid m4; clear t4 m4
  have T5 := Lib.hid t5; have M5 := Lib.hid m5; clear t5 m5
  have HV := Lib.hid hV; clear hV
  clear e1 l1 e2 l2 e3 l3 e4 l4 e5 l5
  have hbw : b < w.heap.size := h.lt
  have hwg : w.heap.size ≤ w.heap.size + 1 := by omega
  have hbg : b < w.heap.size + 1 := by omega
  have hqg : w.heap.size ≠ w.heap.size + 1 + 1 := by omega
  have hqb : w.heap.size ≠ b := by omega
  have HR := Lib.hid (((show RdO b st (w.alloc (.cells #[.pointer (some ⟨b, 0, none⟩)] 91)) from Two.alloc h _).alloc (.cells #[.int .i64 0, .string ⟨#[]⟩, .string ⟨#[]⟩, .string ⟨#[]⟩, .int .i64 0, .int .i64 0, .string ⟨#[]⟩, .string ⟨#[]⟩, .string ⟨#[]⟩, .string ⟨#[]⟩, .slice none 0 0, .int .i64 0, .int .i64 0, .string ⟨#[]⟩, .string ⟨#[]⟩, .string ⟨#[]⟩, .string ⟨#[]⟩, .int .i64 0, .string ⟨#[]⟩, .string ⟨#[]⟩, .string ⟨#[]⟩, .bool false] 89)).alloc (.cells #[.int .i64 0, .string ⟨#[]⟩, .string ⟨#[]⟩, .string ⟨#[]⟩, .int .i64 0, .int .i64 0, .string ⟨#[]⟩, .string ⟨#[]⟩, .string ⟨#[]⟩, .string ⟨#[]⟩, .slice none 0 0, .int .i64 0, .int .i64 0, .string ⟨#[]⟩, .string ⟨#[]⟩, .string ⟨#[]⟩, .string ⟨#[]⟩, .int .i64 0, .string ⟨#[]⟩, .string ⟨#[]⟩, .string ⟨#[]⟩, .bool false] 89))
  have HX : Hid (RX 91 w.heap.size 89 #[.int .i64 0, .string ⟨#[]⟩, .string ⟨#[]⟩, .string ⟨#[]⟩, .int .i64 0, .int .i64 0, .string ⟨#[]⟩, .string ⟨#[]⟩, .string ⟨#[]⟩, .string ⟨#[]⟩, .slice none 0 0, .int .i64 0, .int .i64 0, .string ⟨#[]⟩, .string ⟨#[]⟩, .string ⟨#[]⟩, .string ⟨#[]⟩, .int .i64 0, .string ⟨#[]⟩, .string ⟨#[]⟩, .string ⟨#[]⟩, .bool false] b (w.heap.size + 1) w (((w.alloc (.cells #[.pointer (some ⟨b, 0, none⟩)] 91)).alloc (.cells #[.int .i64 0, .string ⟨#[]⟩, .string ⟨#[]⟩, .string ⟨#[]⟩, .int .i64 0, .int .i64 0, .string ⟨#[]⟩, .string ⟨#[]⟩, .string ⟨#[]⟩, .string ⟨#[]⟩, .slice none 0 0, .int .i64 0, .int .i64 0, .string ⟨#[]⟩, .string ⟨#[]⟩, .string ⟨#[]⟩, .string ⟨#[]⟩, .int .i64 0, .string ⟨#[]⟩, .string ⟨#[]⟩, .string ⟨#[]⟩, .bool false] 89)).alloc (.cells #[.int .i64 0, .string ⟨#[]⟩, .string ⟨#[]⟩, .string ⟨#[]⟩, .int .i64 0, .int .i64 0, .string ⟨#[]⟩, .string ⟨#[]⟩, .string ⟨#[]⟩, .string ⟨#[]⟩, .slice none 0 0, .int .i64 0, .int .i64 0, .string ⟨#[]⟩, .string ⟨#[]⟩, .string ⟨#[]⟩, .string ⟨#[]⟩, .int .i64 0, .string ⟨#[]⟩, .string ⟨#[]⟩, .string ⟨#[]⟩, .bool false] 89)) #[.int .i64 0, .string ⟨#[]⟩, .string ⟨#[]⟩, .string ⟨#[]⟩, .int .i64 0, .int .i64 0, .string ⟨#[]⟩, .string ⟨#[]⟩, .string ⟨#[]⟩, .string ⟨#[]⟩, .slice none 0 0, .int .i64 0, .int .i64 0, .string ⟨#[]⟩, .string ⟨#[]⟩, .string ⟨#[]⟩, .string ⟨#[]⟩, .int .i64 0, .string ⟨#[]⟩, .string ⟨#[]⟩, .string ⟨#[]⟩, .bool false]) := Lib.hid
    ⟨((Only.rfl_.alloc _).alloc _).alloc _, (Below.heap_alloc _ _ _ (by simp; omega)).trans (heap_alloc2_old w _ _), (Below.heap_alloc _ _ _ (by simp)).trans (heap_alloc2_new w _ _), by have := heap_alloc_new ((w.alloc (.cells #[.pointer (some ⟨b, 0, none⟩)] 91)).alloc (.cells #[.int .i64 0, .string ⟨#[]⟩, .string ⟨#[]⟩, .string ⟨#[]⟩, .int .i64 0, .int .i64 0, .string ⟨#[]⟩, .string ⟨#[]⟩, .string ⟨#[]⟩, .string ⟨#[]⟩, .slice none 0 0, .int .i64 0, .int .i64 0, .string ⟨#[]⟩, .string ⟨#[]⟩, .string ⟨#[]⟩, .string ⟨#[]⟩, .int .i64 0, .string ⟨#[]⟩, .string ⟨#[]⟩, .string ⟨#[]⟩, .bool false] 89)) (.cells #[.int .i64 0, .string ⟨#[]⟩, .string ⟨#[]⟩, .string ⟨#[]⟩, .int .i64 0, .int .i64 0, .string ⟨#[]⟩, .string ⟨#[]⟩, .string ⟨#[]⟩, .string ⟨#[]⟩, .slice none 0 0, .int .i64 0, .int .i64 0, .string ⟨#[]⟩, .string ⟨#[]⟩, .string ⟨#[]⟩, .string ⟨#[]⟩, .int .i64 0, .string ⟨#[]⟩, .string ⟨#[]⟩, .string ⟨#[]⟩, .bool false] 89); simpa using this⟩
  clear h hs
  go_enter Try.func55, Try.ntmps55
  go_wp2
  generalize (((w.alloc (.cells #[.pointer (some ⟨b, 0, none⟩)] 91)).alloc (.cells #[.int .i64 0, .string ⟨#[]⟩, .string ⟨#[]⟩, .string ⟨#[]⟩, .int .i64 0, .int .i64 0, .string ⟨#[]⟩, .string ⟨#[]⟩, .string ⟨#[]⟩, .string ⟨#[]⟩, .slice none 0 0, .int .i64 0, .int .i64 0, .string ⟨#[]⟩, .string ⟨#[]⟩, .string ⟨#[]⟩, .string ⟨#[]⟩, .int .i64 0, .string ⟨#[]⟩, .string ⟨#[]⟩, .string ⟨#[]⟩, .bool false] 89)).alloc (.cells #[.int .i64 0, .string ⟨#[]⟩, .string ⟨#[]⟩, .string ⟨#[]⟩, .int .i64 0, .int .i64 0, .string ⟨#[]⟩, .string ⟨#[]⟩, .string ⟨#[]⟩, .string ⟨#[]⟩, .slice none 0 0, .int .i64 0, .int .i64 0, .string ⟨#[]⟩, .string ⟨#[]⟩, .string ⟨#[]⟩, .string ⟨#[]⟩, .int .i64 0, .string ⟨#[]⟩, .string ⟨#[]⟩, .string ⟨#[]⟩, .bool false] 89)) = W0 at HX HR ⊢
  have HX := Lib.hid HX.out.drew
  have HR := Lib.hid (Two.drew HR.out)
  refine wp_region_held_drew (S := (fun W => W.cell? ⟨w.heap.size, 0, none⟩ = some (.pointer (some ⟨b, 0, none⟩)))) (by kernel_rfl) HX.out.box (fun hHeld => ?_)
  refine wpAnyH_take (i := 0) (oi := _) (v := ?vq43) rfl (by kernel_rfl) (by kernel_rfl) (by kernel_rfl) (fun _ _ _ h => h) (Or.inl ⟨by rfl, ?hq43⟩) (by assumption) ?rq43
  case hq43 => (intro w hSw; go_simp; try with_reducible rfl)
  try dsimp only [Act.put, List.getElem_toArray, List.getElem_cons_zero, List.getElem_cons_succ]; try simp only [List.setIfInBounds_toArray, List.set_cons_zero, List.set_cons_succ]
  refine wpAnyH_take (i := 1) (oi := _) (v := ?vq44) rfl (by kernel_rfl) (by kernel_rfl) (by kernel_rfl) (fun _ _ _ h => h) (Or.inl ⟨by rfl, ?hq44⟩) (by assumption) ?rq44
  case hq44 => (intro w hSw; go_simp; try with_reducible rfl)
  try dsimp only [Act.put, List.getElem_toArray, List.getElem_cons_zero, List.getElem_cons_succ]; try simp only [List.setIfInBounds_toArray, List.set_cons_zero, List.set_cons_succ]
  refine wpAnyH_take (i := 3) (oi := _) (v := ?vq45) rfl (by kernel_rfl) (by kernel_rfl) (by kernel_rfl) (fun _ _ _ h => h) (Or.inl ⟨by rfl, ?hq45⟩) (by assumption) ?rq45
  case hq45 => (intro w hSw; go_simp; try with_reducible rfl)
  try dsimp only [Act.put, List.getElem_toArray, List.getElem_cons_zero, List.getElem_cons_succ]; try simp only [List.setIfInBounds_toArray, List.set_cons_zero, List.set_cons_succ]
  refine wpAnyH_take (i := 4) (oi := _) (v := ?vq46) rfl (by kernel_rfl) (by kernel_rfl) (by kernel_rfl) (fun _ _ _ h => h) (Or.inl ⟨by rfl, ?hq46⟩) (by assumption) ?rq46
  case hq46 => (intro w hSw; go_simp; try with_reducible rfl)
  try dsimp only [Act.put, List.getElem_toArray, List.getElem_cons_zero, List.getElem_cons_succ]; try simp only [List.setIfInBounds_toArray, List.set_cons_zero, List.set_cons_succ]
  refine wpAnyH_take (i := 6) (oi := _) (v := ?vq47) rfl (by kernel_rfl) (by kernel_rfl) (by kernel_rfl) (fun _ _ _ h => h) (Or.inl ⟨by rfl, ?hq47⟩) (by assumption) ?rq47
  case hq47 => (intro w hSw; go_simp; try with_reducible rfl)
  try dsimp only [Act.put, List.getElem_toArray, List.getElem_cons_zero, List.getElem_cons_succ]; try simp only [List.setIfInBounds_toArray, List.set_cons_zero, List.set_cons_succ]
  refine wpAnyH_take (i := 7) (oi := _) (v := ?vq48) rfl (by kernel_rfl) (by kernel_rfl) (by kernel_rfl) (fun _ _ _ h => h) (Or.inl ⟨by rfl, ?hq48⟩) (by assumption) ?rq48
  case hq48 => (intro w hSw; go_simp; try with_reducible rfl)
  try dsimp only [Act.put, List.getElem_toArray, List.getElem_cons_zero, List.getElem_cons_succ]; try simp only [List.setIfInBounds_toArray, List.set_cons_zero, List.set_cons_succ]
  refine wpAnyH_ready (rs := [2]) (by kernel_rfl) (by simp) ?_
  refine AllReadyH.cons (o := _) rfl (fun K hK => ?_) ?_
  · rw [if_pos (by rfl)]
    go_simp
    refine (T1.out _ HR.out).mono ?_
    rintro e w1 ⟨rfl, hr1, ho1⟩
    have HX := Lib.hid (HX.out.call hqb hbg ho1)
    have HR := Lib.hid hr1
    clear hr1 ho1
    go_wp2_with fail
    refine hK.out _ _ HX.out.box (fun hHeld => ?_)
    clear hK K
    try dsimp only [Act.put, List.getElem_toArray, List.getElem_cons_zero, List.getElem_cons_succ]; try simp only [List.setIfInBounds_toArray, List.set_cons_zero, List.set_cons_succ]
    refine wpAnyH_take (i := 9) (oi := _) (v := ?vq49) rfl (by kernel_rfl) (by kernel_rfl) (by kernel_rfl) (fun _ _ _ h => h) (Or.inl ⟨by rfl, ?hq49⟩) (by assumption) ?rq49
    case hq49 => (intro w hSw; go_simp; try with_reducible rfl)
    try dsimp only [Act.put, List.getElem_toArray, List.getElem_cons_zero, List.getElem_cons_succ]; try simp only [List.setIfInBounds_toArray, List.set_cons_zero, List.set_cons_succ]
    refine wpAnyH_ready (rs := [5]) (by kernel_rfl) (by simp) ?_
    refine AllReadyH.cons (o := _) rfl (fun K hK => ?_) ?_
    · rw [if_pos (by rfl)]
      go_simp
      refine (T2.out _ HR.out).mono ?_
      rintro e w1 ⟨rfl, hr1, ho1⟩
      have HX := Lib.hid (HX.out.call hqb hbg ho1)
      have HR := Lib.hid hr1
      clear hr1 ho1
      go_wp2_with fail
      refine hK.out _ _ HX.out.box (fun hHeld => ?_)
      clear hK K
      try dsimp only [Act.put, List.getElem_toArray, List.getElem_cons_zero, List.getElem_cons_succ]; try simp only [List.setIfInBounds_toArray, List.set_cons_zero, List.set_cons_succ]
      refine wpAnyH_ready (rs := [8]) (by kernel_rfl) (by simp) ?_
      refine AllReadyH.cons (o := _) rfl (fun K hK => ?_) ?_
      · rw [if_pos (by rfl)]
        go_simp
        refine (T3.out _ HR.out).mono ?_
        rintro e w1 ⟨rfl, hr1, ho1⟩
        have HX := Lib.hid (HX.out.call hqb hbg ho1)
        have HR := Lib.hid hr1
        clear hr1 ho1
        have y0 := HX.out.cell 0 rfl; have f0 := HX.out.froz 0
        have y1 := HX.out.cell 1 rfl; have f1 := HX.out.froz 1
        have y2 := HX.out.cell 2 rfl; have f2 := HX.out.froz 2
        go_wp2_with fail
        refine hK.out _ _ HX.out.box (fun hHeld => ?_)
        clear hK K
        try dsimp only [Act.put, List.getElem_toArray, List.getElem_cons_zero, List.getElem_cons_succ]; try simp only [List.setIfInBounds_toArray, List.set_cons_zero, List.set_cons_succ]
        refine wpAnyH_ready (rs := [10]) (by kernel_rfl) (by simp) ?_
        refine AllReadyH.cons (o := _) rfl (fun K hK => ?_) ?_
        · rw [if_pos (by rfl)]
          go_simp
          clear y0 f0 y1 f1 y2 f2
          have hx := HX.out.set hqg hwg 0 (.int .i64 v1)
          simp only [List.setIfInBounds_toArray, List.set_cons_zero, List.set_cons_succ] at hx
          have HX := Lib.hid hx
          have HR := Lib.hid (rdo_set HR.out (show b ≠ w.heap.size + 1 + 1 by omega) 0 (.int .i64 v1))
          clear hx
          have y1 := HX.out.cell 1 rfl; have f1 := HX.out.froz 1
          have y2 := HX.out.cell 2 rfl; have f2 := HX.out.froz 2
          refine hK.out _ _ HX.out.box (fun hHeld => ?_)
          clear hK K
          try dsimp only [Act.put, List.getElem_toArray, List.getElem_cons_zero, List.getElem_cons_succ]; try simp only [List.setIfInBounds_toArray, List.set_cons_zero, List.set_cons_succ]
          refine wpAnyH_take (i := 11) (oi := _) (v := ?vq50) rfl (by kernel_rfl) (by kernel_rfl) (by kernel_rfl) (fun _ _ _ h => h) (Or.inl ⟨by rfl, ?hq50⟩) (by assumption) ?rq50
          case hq50 => (intro w hSw; go_simp; try with_reducible rfl)
          try dsimp only [Act.put, List.getElem_toArray, List.getElem_cons_zero, List.getElem_cons_succ]; try simp only [List.setIfInBounds_toArray, List.set_cons_zero, List.set_cons_succ]
          refine wpAnyH_ready (rs := [12]) (by kernel_rfl) (by simp) ?_
          refine AllReadyH.cons (o := _) rfl (fun K hK => ?_) ?_
          · rw [if_pos (by rfl)]
            go_simp
            clear y1 f1 y2 f2
            have hx := HX.out.set hqg hwg 1 (.string u2)
            simp only [List.setIfInBounds_toArray, List.set_cons_zero, List.set_cons_succ] at hx
            have HX := Lib.hid hx
            have HR := Lib.hid (rdo_set HR.out (show b ≠ w.heap.size + 1 + 1 by omega) 1 (.string u2))
            clear hx
            have y2 := HX.out.cell 2 rfl; have f2 := HX.out.froz 2
            refine hK.out _ _ HX.out.box (fun hHeld => ?_)
            clear hK K
            try dsimp only [Act.put, List.getElem_toArray, List.getElem_cons_zero, List.getElem_cons_succ]; try simp only [List.setIfInBounds_toArray, List.set_cons_zero, List.set_cons_succ]
            refine wpAnyH_take (i := 13) (oi := _) (v := ?vq51) rfl (by kernel_rfl) (by kernel_rfl) (by kernel_rfl) (fun _ _ _ h => h) (Or.inl ⟨by rfl, ?hq51⟩) (by assumption) ?rq51
            case hq51 => (intro w hSw; go_simp; try with_reducible rfl)
            try dsimp only [Act.put, List.getElem_toArray, List.getElem_cons_zero, List.getElem_cons_succ]; try simp only [List.setIfInBounds_toArray, List.set_cons_zero, List.set_cons_succ]
            refine wpAnyH_ready (rs := [14]) (by kernel_rfl) (by simp) ?_
            refine AllReadyH.cons (o := _) rfl (fun K hK => ?_) ?_
            · rw [if_pos (by rfl)]
              go_simp
              clear y2 f2
              have hx := HX.out.set hqg hwg 2 (.string u3)
              simp only [List.setIfInBounds_toArray, List.set_cons_zero, List.set_cons_succ] at hx
              have HX := Lib.hid hx
              have HR := Lib.hid (rdo_set HR.out (show b ≠ w.heap.size + 1 + 1 by omega) 2 (.string u3))
              clear hx
              refine hK.out _ _ HX.out.box (fun hHeld => ?_)
              clear hK K
              try dsimp only [Act.put, List.getElem_toArray, List.getElem_cons_zero, List.getElem_cons_succ]; try simp only [List.setIfInBounds_toArray, List.set_cons_zero, List.set_cons_succ]
              refine wpAnyH_done (by kernel_rfl) ?_ _
              go_wp2
              have HX := Lib.hid HX.out.drew
              have HR := Lib.hid (Two.drew HR.out)
              refine wp_region_held_drew (S := (fun W => W.cell? ⟨w.heap.size, 0, none⟩ = some (.pointer (some ⟨b, 0, none⟩)))) (by kernel_rfl) HX.out.box (fun hHeld => ?_)
              refine wpAnyH_take (i := 0) (oi := _) (v := ?vq52) rfl (by kernel_rfl) (by kernel_rfl) (by kernel_rfl) (fun _ _ _ h => h) (Or.inl ⟨by rfl, ?hq52⟩) (by assumption) ?rq52
              case hq52 => (intro w hSw; go_simp; try with_reducible rfl)
              try dsimp only [Act.put, List.getElem_toArray, List.getElem_cons_zero, List.getElem_cons_succ]; try simp only [List.setIfInBounds_toArray, List.set_cons_zero, List.set_cons_succ]
              refine wpAnyH_take (i := 1) (oi := _) (v := ?vq53) rfl (by kernel_rfl) (by kernel_rfl) (by kernel_rfl) (fun _ _ _ h => h) (Or.inl ⟨by rfl, ?hq53⟩) (by assumption) ?rq53
              case hq53 => (intro w hSw; go_simp; try with_reducible rfl)
              try dsimp only [Act.put, List.getElem_toArray, List.getElem_cons_zero, List.getElem_cons_succ]; try simp only [List.setIfInBounds_toArray, List.set_cons_zero, List.set_cons_succ]
              refine wpAnyH_take (i := 3) (oi := _) (v := ?vq54) rfl (by kernel_rfl) (by kernel_rfl) (by kernel_rfl) (fun _ _ _ h => h) (Or.inl ⟨by rfl, ?hq54⟩) (by assumption) ?rq54
              case hq54 => (intro w hSw; go_simp; try with_reducible rfl)
              try dsimp only [Act.put, List.getElem_toArray, List.getElem_cons_zero, List.getElem_cons_succ]; try simp only [List.setIfInBounds_toArray, List.set_cons_zero, List.set_cons_succ]
              refine wpAnyH_take (i := 4) (oi := _) (v := ?vq55) rfl (by kernel_rfl) (by kernel_rfl) (by kernel_rfl) (fun _ _ _ h => h) (Or.inl ⟨by rfl, ?hq55⟩) (by assumption) ?rq55
              case hq55 => (intro w hSw; go_simp; try with_reducible rfl)
              try dsimp only [Act.put, List.getElem_toArray, List.getElem_cons_zero, List.getElem_cons_succ]; try simp only [List.setIfInBounds_toArray, List.set_cons_zero, List.set_cons_succ]
              refine wpAnyH_ready (rs := [2]) (by kernel_rfl) (by simp) ?_
              refine AllReadyH.cons (o := _) rfl (fun K hK => ?_) ?_
              · rw [if_pos (by rfl)]
                go_simp
                refine (T4.out _ HR.out).mono ?_
                rintro e w1 ⟨rfl, hr1, ho1⟩
                have HX := Lib.hid (HX.out.call hqb hbg ho1)
                have HR := Lib.hid hr1
                clear hr1 ho1
                go_wp2_with fail
                refine hK.out _ _ HX.out.box (fun hHeld => ?_)
                clear hK K
                try dsimp only [Act.put, List.getElem_toArray, List.getElem_cons_zero, List.getElem_cons_succ]; try simp only [List.setIfInBounds_toArray, List.set_cons_zero, List.set_cons_succ]
                refine wpAnyH_take (i := 6) (oi := _) (v := ?vq56) rfl (by kernel_rfl) (by kernel_rfl) (by kernel_rfl) (fun _ _ _ h => h) (Or.inl ⟨by rfl, ?hq56⟩) (by assumption) ?rq56
                case hq56 => (intro w hSw; go_simp; try with_reducible rfl)
                try dsimp only [Act.put, List.getElem_toArray, List.getElem_cons_zero, List.getElem_cons_succ]; try simp only [List.setIfInBounds_toArray, List.set_cons_zero, List.set_cons_succ]
                refine wpAnyH_ready (rs := [5]) (by kernel_rfl) (by simp) ?_
                refine AllReadyH.cons (o := _) rfl (fun K hK => ?_) ?_
                · rw [if_pos (by rfl)]
                  go_simp
                  refine (T5.out _ HR.out).mono ?_
                  rintro e w1 ⟨rfl, hr1, ho1⟩
                  have HX := Lib.hid (HX.out.call hqb hbg ho1)
                  have HR := Lib.hid hr1
                  clear hr1 ho1
                  have y3 := HX.out.cell 3 rfl; have f3 := HX.out.froz 3
                  have y4 := HX.out.cell 4 rfl; have f4 := HX.out.froz 4
                  go_wp2_with fail
                  refine hK.out _ _ HX.out.box (fun hHeld => ?_)
                  clear hK K
                  try dsimp only [Act.put, List.getElem_toArray, List.getElem_cons_zero, List.getElem_cons_succ]; try simp only [List.setIfInBounds_toArray, List.set_cons_zero, List.set_cons_succ]
                  refine wpAnyH_ready (rs := [7]) (by kernel_rfl) (by simp) ?_
                  refine AllReadyH.cons (o := _) rfl (fun K hK => ?_) ?_
                  · rw [if_pos (by rfl)]
                    go_simp
                    clear y3 f3 y4 f4
                    have hx := HX.out.set hqg hwg 3 (.string u4)
                    simp only [List.setIfInBounds_toArray, List.set_cons_zero, List.set_cons_succ] at hx
                    have HX := Lib.hid hx
                    have HR := Lib.hid (rdo_set HR.out (show b ≠ w.heap.size + 1 + 1 by omega) 3 (.string u4))
                    clear hx
                    have y4 := HX.out.cell 4 rfl; have f4 := HX.out.froz 4
                    refine hK.out _ _ HX.out.box (fun hHeld => ?_)
                    clear hK K
                    try dsimp only [Act.put, List.getElem_toArray, List.getElem_cons_zero, List.getElem_cons_succ]; try simp only [List.setIfInBounds_toArray, List.set_cons_zero, List.set_cons_succ]
                    refine wpAnyH_take (i := 8) (oi := _) (v := ?vq57) rfl (by kernel_rfl) (by kernel_rfl) (by kernel_rfl) (fun _ _ _ h => h) (Or.inl ⟨by rfl, ?hq57⟩) (by assumption) ?rq57
                    case hq57 => (intro w hSw; go_simp; try with_reducible rfl)
                    try dsimp only [Act.put, List.getElem_toArray, List.getElem_cons_zero, List.getElem_cons_succ]; try simp only [List.setIfInBounds_toArray, List.set_cons_zero, List.set_cons_succ]
                    refine wpAnyH_ready (rs := [9]) (by kernel_rfl) (by simp) ?_
                    refine AllReadyH.cons (o := _) rfl (fun K hK => ?_) ?_
                    · rw [if_pos (by rfl)]
                      go_simp
                      clear y4 f4
                      have hx := HX.out.set hqg hwg 4 (.int .i64 v5)
                      simp only [List.setIfInBounds_toArray, List.set_cons_zero, List.set_cons_succ] at hx
                      have HX := Lib.hid hx
                      have HR := Lib.hid (rdo_set HR.out (show b ≠ w.heap.size + 1 + 1 by omega) 4 (.int .i64 v5))
                      clear hx
                      refine hK.out _ _ HX.out.box (fun hHeld => ?_)
                      clear hK K
                      try dsimp only [Act.put, List.getElem_toArray, List.getElem_cons_zero, List.getElem_cons_succ]; try simp only [List.setIfInBounds_toArray, List.set_cons_zero, List.set_cons_succ]
                      refine wpAnyH_done (by kernel_rfl) ?_ _
                      have y0 := HX.out.cell 0 rfl
                      by_cases hk1 : v1 = 1
                      · have hV : rdRest v1 s5 = (((rdCal s5).1, zAdm), (rdCal s5).2) := by unfold rdRest; rw [if_pos hk1]
                        have HV2 := Lib.hid hV; clear hV
                        have hd1 : (v1 == 1) = true := by simp [hk1]
                        clear hk1
                        have b0 := HX.out.box
                        go_wp2_with fail
                        clear b0 y0
                        have hwu := HX.out.under hwg
                        refine (T6.out _ HR.out).mono ?_
                        rintro e w1 ⟨⟨ck, ct, cb, cy, cv, ⟨cA, cn, cc, cl⟩, ctm⟩, rfl, hbare, hlast, hr1, ho1⟩
                        have HX := Lib.hid (HX.out.call hqb hbg ho1)
                        have HR := Lib.hid hr1
                        clear hr1 ho1
                        have HL1 : Hid (∃ B, w.heap.size + 1 + 1 < B ∧ b < B ∧ w.heap.size ≤ B ∧ ∀ W, Agr B w1 W → Cal.ok W ⟨ck, ct, cb, cy, cv, ⟨cA, cn, cc, cl⟩, ctm⟩) := Lib.hid ⟨_, hwu, by omega, by omega, hlast⟩
                        obtain ⟨BHL1, hgHL1, hbHL1, hwHL1, hlast⟩ := HL1.out
                        have hrHL1 : w.heap.size + 1 < BHL1 := by omega
                        have HL1 := Lib.hid hlast; clear hlast hwu
                        simp only [Cal.arr, Ctx.v]
                        have HB := Lib.hid hbare; clear hbare
                        have y5 := HX.out.cell 5 rfl; have f5 := HX.out.froz 5
                        have y6 := HX.out.cell 6 rfl; have f6 := HX.out.froz 6
                        have y7 := HX.out.cell 7 rfl; have f7 := HX.out.froz 7
                        have y8 := HX.out.cell 8 rfl; have f8 := HX.out.froz 8
                        have y9 := HX.out.cell 9 rfl; have f9 := HX.out.froz 9
                        have y10 := HX.out.cell 10 rfl; have f10 := HX.out.froz 10
                        have y11 := HX.out.cell 11 rfl; have f11 := HX.out.froz 11
                        have hx := HX.out.set hqg hwg 5 (.int .i64 ck)
                        simp only [List.setIfInBounds_toArray, List.set_cons_zero, List.set_cons_succ] at hx
                        have HX := Lib.hid hx
                        have HR := Lib.hid (rdo_set HR.out (show b ≠ w.heap.size + 1 + 1 by omega) 5 (.int .i64 ck))
                        have HL1 := Lib.hid (fun (W : World) hW => HL1.out W (Agr.setCell (i := 5) (u := .int .i64 ck) hgHL1 hW))
                        clear hx
                        have hx := HX.out.set hqg hwg 6 (.string ct)
                        simp only [List.setIfInBounds_toArray, List.set_cons_zero, List.set_cons_succ] at hx
                        have HX := Lib.hid hx
                        have HR := Lib.hid (rdo_set HR.out (show b ≠ w.heap.size + 1 + 1 by omega) 6 (.string ct))
                        have HL1 := Lib.hid (fun (W : World) hW => HL1.out W (Agr.setCell (i := 6) (u := .string ct) hgHL1 hW))
                        clear hx
                        have hx := HX.out.set hqg hwg 7 (.string cb)
                        simp only [List.setIfInBounds_toArray, List.set_cons_zero, List.set_cons_succ] at hx
                        have HX := Lib.hid hx
                        have HR := Lib.hid (rdo_set HR.out (show b ≠ w.heap.size + 1 + 1 by omega) 7 (.string cb))
                        have HL1 := Lib.hid (fun (W : World) hW => HL1.out W (Agr.setCell (i := 7) (u := .string cb) hgHL1 hW))
                        clear hx
                        have hx := HX.out.set hqg hwg 8 (.string cy)
                        simp only [List.setIfInBounds_toArray, List.set_cons_zero, List.set_cons_succ] at hx
                        have HX := Lib.hid hx
                        have HR := Lib.hid (rdo_set HR.out (show b ≠ w.heap.size + 1 + 1 by omega) 8 (.string cy))
                        have HL1 := Lib.hid (fun (W : World) hW => HL1.out W (Agr.setCell (i := 8) (u := .string cy) hgHL1 hW))
                        clear hx
                        have hx := HX.out.set hqg hwg 9 (.string cv)
                        simp only [List.setIfInBounds_toArray, List.set_cons_zero, List.set_cons_succ] at hx
                        have HX := Lib.hid hx
                        have HR := Lib.hid (rdo_set HR.out (show b ≠ w.heap.size + 1 + 1 by omega) 9 (.string cv))
                        have HL1 := Lib.hid (fun (W : World) hW => HL1.out W (Agr.setCell (i := 9) (u := .string cv) hgHL1 hW))
                        clear hx
                        have hx := HX.out.set hqg hwg 10 (.slice cA cn cc)
                        simp only [List.setIfInBounds_toArray, List.set_cons_zero, List.set_cons_succ] at hx
                        have HX := Lib.hid hx
                        have HR := Lib.hid (rdo_set HR.out (show b ≠ w.heap.size + 1 + 1 by omega) 10 (.slice cA cn cc))
                        have HL1 := Lib.hid (fun (W : World) hW => HL1.out W (Agr.setCell (i := 10) (u := .slice cA cn cc) hgHL1 hW))
                        clear hx
                        have hx := HX.out.set hqg hwg 11 (.int .i64 ctm)
                        simp only [List.setIfInBounds_toArray, List.set_cons_zero, List.set_cons_succ] at hx
                        have HX := Lib.hid hx
                        have HR := Lib.hid (rdo_set HR.out (show b ≠ w.heap.size + 1 + 1 by omega) 11 (.int .i64 ctm))
                        have HL1 := Lib.hid (fun (W : World) hW => HL1.out W (Agr.setCell (i := 11) (u := .int .i64 ctm) hgHL1 hW))
                        clear hx
                        go_upto_region 9 with fail
                        clear y5 f5 y6 f6 y7 f7 y8 f8 y9 f9 y10 f10 y11 f11
                        generalize (((((((w1.setCell ⟨w.heap.size + 1 + 1, 5, none⟩ (.int .i64 ck)).setCell ⟨w.heap.size + 1 + 1, 6, none⟩ (.string ct)).setCell ⟨w.heap.size + 1 + 1, 7, none⟩ (.string cb)).setCell ⟨w.heap.size + 1 + 1, 8, none⟩ (.string cy)).setCell ⟨w.heap.size + 1 + 1, 9, none⟩ (.string cv)).setCell ⟨w.heap.size + 1 + 1, 10, none⟩ (.slice cA cn cc)).setCell ⟨w.heap.size + 1 + 1, 11, none⟩ (.int .i64 ctm)) = wy at HX HR HL1 ⊢
                        have HI : Hid ((Try.prog.info? 89).map (·.size) = some (#[.int .i64 v1, .string u2, .string u3, .string u4, .int .i64 v5, .int .i64 ck, .string ct, .string cb, .string cy, .string cv, .slice cA cn cc, .int .i64 ctm, .int .i64 0, .string ⟨#[]⟩, .string ⟨#[]⟩, .string ⟨#[]⟩, .string ⟨#[]⟩, .int .i64 0, .string ⟨#[]⟩, .string ⟨#[]⟩, .string ⟨#[]⟩, .bool false] : Array Value).size) := Lib.hid row_ev.hi
                        have H1 : Hid (∀ u ∈ (#[.int .i64 v1, .string u2, .string u3, .string u4, .int .i64 v5, .int .i64 ck, .string ct, .string cb, .string cy, .string cv, .slice cA cn cc, .int .i64 ctm, .int .i64 0, .string ⟨#[]⟩, .string ⟨#[]⟩, .string ⟨#[]⟩, .string ⟨#[]⟩, .int .i64 0, .string ⟨#[]⟩, .string ⟨#[]⟩, .string ⟨#[]⟩, .bool false] : Array Value).toList, u.oneCell' = true) := Lib.hid (by intro u hu; simp only [List.mem_cons, List.not_mem_nil, or_false] at hu; rcases hu with rfl | rfl | rfl | rfl | rfl | rfl | rfl | rfl | rfl | rfl | rfl | rfl | rfl | rfl | rfl | rfl | rfl | rfl | rfl | rfl | rfl | rfl <;> rfl)
                        refine wp_region_lit ?_
                        refine wpList_load_arr (by rfl) _ (by rfl) (w.heap.size + 1 + 1) 0 (by rfl) #[.int .i64 v1, .string u2, .string u3, .string u4, .int .i64 v5, .int .i64 ck, .string ct, .string cb, .string cy, .string cv, .slice cA cn cc, .int .i64 ctm, .int .i64 0, .string ⟨#[]⟩, .string ⟨#[]⟩, .string ⟨#[]⟩, .string ⟨#[]⟩, .int .i64 0, .string ⟨#[]⟩, .string ⟨#[]⟩, .string ⟨#[]⟩, .bool false] HX.out.range row_ev.d HI.out ?_
                        try dsimp only [Act.put, List.getElem_toArray, List.getElem_cons_zero, List.getElem_cons_succ]; try simp only [List.setIfInBounds_toArray, List.set_cons_zero, List.set_cons_succ]
                        refine wpList_store_part (by rfl) _ _ (by rfl) (w.heap.size + 1) 0 #[.int .i64 0, .string ⟨#[]⟩, .string ⟨#[]⟩, .string ⟨#[]⟩, .int .i64 0, .int .i64 0, .string ⟨#[]⟩, .string ⟨#[]⟩, .string ⟨#[]⟩, .string ⟨#[]⟩, .slice none 0 0, .int .i64 0, .int .i64 0, .string ⟨#[]⟩, .string ⟨#[]⟩, .string ⟨#[]⟩, .string ⟨#[]⟩, .int .i64 0, .string ⟨#[]⟩, .string ⟨#[]⟩, .string ⟨#[]⟩, .bool false] #[.int .i64 v1, .string u2, .string u3, .string u4, .int .i64 v5, .int .i64 ck, .string ct, .string cb, .string cy, .string cv, .slice cA cn cc, .int .i64 ctm, .int .i64 0, .string ⟨#[]⟩, .string ⟨#[]⟩, .string ⟨#[]⟩, .string ⟨#[]⟩, .int .i64 0, .string ⟨#[]⟩, .string ⟨#[]⟩, .string ⟨#[]⟩, .bool false] 89 (by rfl) (by rfl) HX.out.r (by simp) HI.out H1.out (fun wz hwz => ?_)
                        try dsimp only [Act.put, List.getElem_toArray, List.getElem_cons_zero, List.getElem_cons_succ]; try simp only [List.setIfInBounds_toArray, List.set_cons_zero, List.set_cons_succ]
                        have hres := HX.out.res (by rfl)
                        have hend := HX.out.end_ hwg (#[.int .i64 v1, .string u2, .string u3, .string u4, .int .i64 v5, .int .i64 ck, .string ct, .string cb, .string cy, .string cv, .slice cA cn cc, .int .i64 ctm, .int .i64 0, .string ⟨#[]⟩, .string ⟨#[]⟩, .string ⟨#[]⟩, .string ⟨#[]⟩, .int .i64 0, .string ⟨#[]⟩, .string ⟨#[]⟩, .string ⟨#[]⟩, .bool false] : Array Value).toList
                        have hrd := rdo_setCells HR.out (show b ≠ w.heap.size + 1 by omega) 0 (#[.int .i64 v1, .string u2, .string u3, .string u4, .int .i64 v5, .int .i64 ck, .string ct, .string cb, .string cy, .string cv, .slice cA cn cc, .int .i64 ctm, .int .i64 0, .string ⟨#[]⟩, .string ⟨#[]⟩, .string ⟨#[]⟩, .string ⟨#[]⟩, .int .i64 0, .string ⟨#[]⟩, .string ⟨#[]⟩, .string ⟨#[]⟩, .bool false] : Array Value).toList
                        have HL1 := Lib.hid (fun (W : World) hW => HL1.out W (Agr.setCells (g := w.heap.size + 1) 0 (#[.int .i64 v1, .string u2, .string u3, .string u4, .int .i64 v5, .int .i64 ck, .string ct, .string cb, .string cy, .string cv, .slice cA cn cc, .int .i64 ctm, .int .i64 0, .string ⟨#[]⟩, .string ⟨#[]⟩, .string ⟨#[]⟩, .string ⟨#[]⟩, .int .i64 0, .string ⟨#[]⟩, .string ⟨#[]⟩, .string ⟨#[]⟩, .bool false] : Array Value).toList hrHL1 hW))
                        rw [← hwz] at hres hend hrd
                        have HL1 := Lib.hid (fun (W : World) (hW : Agr BHL1 wz W) => HL1.out W (by rw [← hwz]; exact hW))
                        have hsz := hend.size
                        have HRES := Lib.hid hres; have HEND := Lib.hid hend; have HRD := Lib.hid hrd
                        clear hres hend hrd hwz HX HR
                        refine wpList_nil ?_
                        go_wp2_with fail
                        have hrd := HRD.out; have hend := HEND.out
                        refine bodyPost_ret (results_cell_row rfl _ _ (w.heap.size + 1) _ #[.int .i64 v1, .string u2, .string u3, .string u4, .int .i64 v5, .int .i64 ck, .string ct, .string cb, .string cy, .string cv, .slice cA cn cc, .int .i64 ctm, .int .i64 0, .string ⟨#[]⟩, .string ⟨#[]⟩, .string ⟨#[]⟩, .string ⟨#[]⟩, .int .i64 0, .string ⟨#[]⟩, .string ⟨#[]⟩, .string ⟨#[]⟩, .bool false] (0, 0) _ rfl HRES.out Try.underlying89 rfl HI.out) rfl ?_
                        refine ⟨⟨v1, u2, u3, u4, v5, ⟨ck, ct, cb, cy, cv, ⟨cA, cn, cc, cl⟩, ctm⟩, zAdm⟩, rfl, ?_, fun W hW => ⟨M1.out, M2.out, M3.out, M4.out, M5.out, HL1.out W (hW.mono hwHL1), zAdm_ok W⟩, ?_, hend⟩
                        · rw [HV.out, HV2.out]; exact congrArg (fun c => Ev.mk v1 u2 u3 u4 v5 c zAdm) HB.out
                        · rw [HV.out, HV2.out]; exact hrd
                      by_cases hk2 : v1 = 14
                      · have hV : rdRest v1 s5 = ((zCal, (rdAdm s5).1), (rdAdm s5).2) := by unfold rdRest; rw [if_neg hk1, if_pos hk2]
                        have HV2 := Lib.hid hV; clear hV
                        have hd1 : (v1 == 1) = false := by simp [hk1]
                        have hd2 : (v1 == 14) = true := by simp [hk2]
                        clear hk1 hk2
                        have T7 := T7.out; have MA := MA.out; have HV2 := HV2.out
                        generalize rdAdm s5 = aa at T7 MA HV2
                        obtain ⟨⟨ak, at_, ab, af, ax, an, ⟨mn, mr, mz, mu⟩⟩, s6⟩ := aa
                        simp only [Adm.arr] at T7 HV2
                        have T7 := Lib.hid T7; have MA := Lib.hid MA; have HV2 := Lib.hid HV2
                        have b0 := HX.out.box
                        go_wp2_with fail
                        clear b0 y0
                        refine (T7.out _ HR.out).mono ?_
                        rintro e w1 ⟨rfl, hr1, ho1⟩
                        have HX := Lib.hid (HX.out.call hqb hbg ho1)
                        have HR := Lib.hid hr1
                        clear hr1 ho1
                        have y12 := HX.out.cell 12 rfl; have f12 := HX.out.froz 12
                        have y13 := HX.out.cell 13 rfl; have f13 := HX.out.froz 13
                        have y14 := HX.out.cell 14 rfl; have f14 := HX.out.froz 14
                        have y15 := HX.out.cell 15 rfl; have f15 := HX.out.froz 15
                        have y16 := HX.out.cell 16 rfl; have f16 := HX.out.froz 16
                        have y17 := HX.out.cell 17 rfl; have f17 := HX.out.froz 17
                        have y18 := HX.out.cell 18 rfl; have f18 := HX.out.froz 18
                        have y19 := HX.out.cell 19 rfl; have f19 := HX.out.froz 19
                        have y20 := HX.out.cell 20 rfl; have f20 := HX.out.froz 20
                        have y21 := HX.out.cell 21 rfl; have f21 := HX.out.froz 21
                        have hx := HX.out.set hqg hwg 12 (.int .i64 ak)
                        simp only [List.setIfInBounds_toArray, List.set_cons_zero, List.set_cons_succ] at hx
                        have HX := Lib.hid hx
                        have HR := Lib.hid (rdo_set HR.out (show b ≠ w.heap.size + 1 + 1 by omega) 12 (.int .i64 ak))
                        clear hx
                        have hx := HX.out.set hqg hwg 13 (.string at_)
                        simp only [List.setIfInBounds_toArray, List.set_cons_zero, List.set_cons_succ] at hx
                        have HX := Lib.hid hx
                        have HR := Lib.hid (rdo_set HR.out (show b ≠ w.heap.size + 1 + 1 by omega) 13 (.string at_))
                        clear hx
                        have hx := HX.out.set hqg hwg 14 (.string ab)
                        simp only [List.setIfInBounds_toArray, List.set_cons_zero, List.set_cons_succ] at hx
                        have HX := Lib.hid hx
                        have HR := Lib.hid (rdo_set HR.out (show b ≠ w.heap.size + 1 + 1 by omega) 14 (.string ab))
                        clear hx
                        have hx := HX.out.set hqg hwg 15 (.string af)
                        simp only [List.setIfInBounds_toArray, List.set_cons_zero, List.set_cons_succ] at hx
                        have HX := Lib.hid hx
                        have HR := Lib.hid (rdo_set HR.out (show b ≠ w.heap.size + 1 + 1 by omega) 15 (.string af))
                        clear hx
                        have hx := HX.out.set hqg hwg 16 (.string ax)
                        simp only [List.setIfInBounds_toArray, List.set_cons_zero, List.set_cons_succ] at hx
                        have HX := Lib.hid hx
                        have HR := Lib.hid (rdo_set HR.out (show b ≠ w.heap.size + 1 + 1 by omega) 16 (.string ax))
                        clear hx
                        have hx := HX.out.set hqg hwg 17 (.int .i64 an)
                        simp only [List.setIfInBounds_toArray, List.set_cons_zero, List.set_cons_succ] at hx
                        have HX := Lib.hid hx
                        have HR := Lib.hid (rdo_set HR.out (show b ≠ w.heap.size + 1 + 1 by omega) 17 (.int .i64 an))
                        clear hx
                        have hx := HX.out.set hqg hwg 18 (.string mn)
                        simp only [List.setIfInBounds_toArray, List.set_cons_zero, List.set_cons_succ] at hx
                        have HX := Lib.hid hx
                        have HR := Lib.hid (rdo_set HR.out (show b ≠ w.heap.size + 1 + 1 by omega) 18 (.string mn))
                        clear hx
                        have hx := HX.out.set hqg hwg 19 (.string mr)
                        simp only [List.setIfInBounds_toArray, List.set_cons_zero, List.set_cons_succ] at hx
                        have HX := Lib.hid hx
                        have HR := Lib.hid (rdo_set HR.out (show b ≠ w.heap.size + 1 + 1 by omega) 19 (.string mr))
                        clear hx
                        have hx := HX.out.set hqg hwg 20 (.string mz)
                        simp only [List.setIfInBounds_toArray, List.set_cons_zero, List.set_cons_succ] at hx
                        have HX := Lib.hid hx
                        have HR := Lib.hid (rdo_set HR.out (show b ≠ w.heap.size + 1 + 1 by omega) 20 (.string mz))
                        clear hx
                        have hx := HX.out.set hqg hwg 21 (.bool mu)
                        simp only [List.setIfInBounds_toArray, List.set_cons_zero, List.set_cons_succ] at hx
                        have HX := Lib.hid hx
                        have HR := Lib.hid (rdo_set HR.out (show b ≠ w.heap.size + 1 + 1 by omega) 21 (.bool mu))
                        clear hx
                        go_upto_region 9 with fail
                        clear y12 f12 y13 f13 y14 f14 y15 f15 y16 f16 y17 f17 y18 f18 y19 f19 y20 f20 y21 f21
                        generalize ((((((((((w1.setCell ⟨w.heap.size + 1 + 1, 12, none⟩ (.int .i64 ak)).setCell ⟨w.heap.size + 1 + 1, 13, none⟩ (.string at_)).setCell ⟨w.heap.size + 1 + 1, 14, none⟩ (.string ab)).setCell ⟨w.heap.size + 1 + 1, 15, none⟩ (.string af)).setCell ⟨w.heap.size + 1 + 1, 16, none⟩ (.string ax)).setCell ⟨w.heap.size + 1 + 1, 17, none⟩ (.int .i64 an)).setCell ⟨w.heap.size + 1 + 1, 18, none⟩ (.string mn)).setCell ⟨w.heap.size + 1 + 1, 19, none⟩ (.string mr)).setCell ⟨w.heap.size + 1 + 1, 20, none⟩ (.string mz)).setCell ⟨w.heap.size + 1 + 1, 21, none⟩ (.bool mu)) = wy at HX HR ⊢
                        have HI : Hid ((Try.prog.info? 89).map (·.size) = some (#[.int .i64 v1, .string u2, .string u3, .string u4, .int .i64 v5, .int .i64 0, .string ⟨#[]⟩, .string ⟨#[]⟩, .string ⟨#[]⟩, .string ⟨#[]⟩, .slice none 0 0, .int .i64 0, .int .i64 ak, .string at_, .string ab, .string af, .string ax, .int .i64 an, .string mn, .string mr, .string mz, .bool mu] : Array Value).size) := Lib.hid row_ev.hi
                        have H1 : Hid (∀ u ∈ (#[.int .i64 v1, .string u2, .string u3, .string u4, .int .i64 v5, .int .i64 0, .string ⟨#[]⟩, .string ⟨#[]⟩, .string ⟨#[]⟩, .string ⟨#[]⟩, .slice none 0 0, .int .i64 0, .int .i64 ak, .string at_, .string ab, .string af, .string ax, .int .i64 an, .string mn, .string mr, .string mz, .bool mu] : Array Value).toList, u.oneCell' = true) := Lib.hid (by intro u hu; simp only [List.mem_cons, List.not_mem_nil, or_false] at hu; rcases hu with rfl | rfl | rfl | rfl | rfl | rfl | rfl | rfl | rfl | rfl | rfl | rfl | rfl | rfl | rfl | rfl | rfl | rfl | rfl | rfl | rfl | rfl <;> rfl)
                        refine wp_region_lit ?_
                        refine wpList_load_arr (by rfl) _ (by rfl) (w.heap.size + 1 + 1) 0 (by rfl) #[.int .i64 v1, .string u2, .string u3, .string u4, .int .i64 v5, .int .i64 0, .string ⟨#[]⟩, .string ⟨#[]⟩, .string ⟨#[]⟩, .string ⟨#[]⟩, .slice none 0 0, .int .i64 0, .int .i64 ak, .string at_, .string ab, .string af, .string ax, .int .i64 an, .string mn, .string mr, .string mz, .bool mu] HX.out.range row_ev.d HI.out ?_
                        try dsimp only [Act.put, List.getElem_toArray, List.getElem_cons_zero, List.getElem_cons_succ]; try simp only [List.setIfInBounds_toArray, List.set_cons_zero, List.set_cons_succ]
                        refine wpList_store_part (by rfl) _ _ (by rfl) (w.heap.size + 1) 0 #[.int .i64 0, .string ⟨#[]⟩, .string ⟨#[]⟩, .string ⟨#[]⟩, .int .i64 0, .int .i64 0, .string ⟨#[]⟩, .string ⟨#[]⟩, .string ⟨#[]⟩, .string ⟨#[]⟩, .slice none 0 0, .int .i64 0, .int .i64 0, .string ⟨#[]⟩, .string ⟨#[]⟩, .string ⟨#[]⟩, .string ⟨#[]⟩, .int .i64 0, .string ⟨#[]⟩, .string ⟨#[]⟩, .string ⟨#[]⟩, .bool false] #[.int .i64 v1, .string u2, .string u3, .string u4, .int .i64 v5, .int .i64 0, .string ⟨#[]⟩, .string ⟨#[]⟩, .string ⟨#[]⟩, .string ⟨#[]⟩, .slice none 0 0, .int .i64 0, .int .i64 ak, .string at_, .string ab, .string af, .string ax, .int .i64 an, .string mn, .string mr, .string mz, .bool mu] 89 (by rfl) (by rfl) HX.out.r (by simp) HI.out H1.out (fun wz hwz => ?_)
                        try dsimp only [Act.put, List.getElem_toArray, List.getElem_cons_zero, List.getElem_cons_succ]; try simp only [List.setIfInBounds_toArray, List.set_cons_zero, List.set_cons_succ]
                        have hres := HX.out.res (by rfl)
                        have hend := HX.out.end_ hwg (#[.int .i64 v1, .string u2, .string u3, .string u4, .int .i64 v5, .int .i64 0, .string ⟨#[]⟩, .string ⟨#[]⟩, .string ⟨#[]⟩, .string ⟨#[]⟩, .slice none 0 0, .int .i64 0, .int .i64 ak, .string at_, .string ab, .string af, .string ax, .int .i64 an, .string mn, .string mr, .string mz, .bool mu] : Array Value).toList
                        have hrd := rdo_setCells HR.out (show b ≠ w.heap.size + 1 by omega) 0 (#[.int .i64 v1, .string u2, .string u3, .string u4, .int .i64 v5, .int .i64 0, .string ⟨#[]⟩, .string ⟨#[]⟩, .string ⟨#[]⟩, .string ⟨#[]⟩, .slice none 0 0, .int .i64 0, .int .i64 ak, .string at_, .string ab, .string af, .string ax, .int .i64 an, .string mn, .string mr, .string mz, .bool mu] : Array Value).toList
                        rw [← hwz] at hres hend hrd
                        have hsz := hend.size
                        have HRES := Lib.hid hres; have HEND := Lib.hid hend; have HRD := Lib.hid hrd
                        clear hres hend hrd hwz HX HR
                        refine wpList_nil ?_
                        go_wp2_with fail
                        have hrd := HRD.out; have hend := HEND.out
                        refine bodyPost_ret (results_cell_row rfl _ _ (w.heap.size + 1) _ #[.int .i64 v1, .string u2, .string u3, .string u4, .int .i64 v5, .int .i64 0, .string ⟨#[]⟩, .string ⟨#[]⟩, .string ⟨#[]⟩, .string ⟨#[]⟩, .slice none 0 0, .int .i64 0, .int .i64 ak, .string at_, .string ab, .string af, .string ax, .int .i64 an, .string mn, .string mr, .string mz, .bool mu] (0, 0) _ rfl HRES.out Try.underlying89 rfl HI.out) rfl ?_
                        refine ⟨⟨v1, u2, u3, u4, v5, zCal, ⟨ak, at_, ab, af, ax, an, ⟨mn, mr, mz, mu⟩⟩⟩, rfl, ?_, fun W hW => ⟨M1.out, M2.out, M3.out, M4.out, M5.out, zCal_ok W, MA.out W⟩, ?_, hend⟩
                        · rw [HV.out, HV2.out]; rfl
                        · rw [HV.out, HV2.out]; exact hrd
                      · have hV : rdRest v1 s5 = ((zCal, zAdm), s5) := by unfold rdRest; rw [if_neg hk1, if_neg hk2]
                        have HV2 := Lib.hid hV; clear hV
                        have hd1 : (v1 == 1) = false := by simp [hk1]
                        have hd2 : (v1 == 14) = false := by simp [hk2]
                        clear hk1 hk2
                        have b0 := HX.out.box
                        go_upto_region 9 with fail
                        clear y0 b0
                        generalize ((w1.setCell ⟨w.heap.size + 1 + 1, 3, none⟩ (.string u4)).setCell ⟨w.heap.size + 1 + 1, 4, none⟩ (.int .i64 v5)) = wy at HX HR ⊢
                        have HI : Hid ((Try.prog.info? 89).map (·.size) = some (#[.int .i64 v1, .string u2, .string u3, .string u4, .int .i64 v5, .int .i64 0, .string ⟨#[]⟩, .string ⟨#[]⟩, .string ⟨#[]⟩, .string ⟨#[]⟩, .slice none 0 0, .int .i64 0, .int .i64 0, .string ⟨#[]⟩, .string ⟨#[]⟩, .string ⟨#[]⟩, .string ⟨#[]⟩, .int .i64 0, .string ⟨#[]⟩, .string ⟨#[]⟩, .string ⟨#[]⟩, .bool false] : Array Value).size) := Lib.hid row_ev.hi
                        have H1 : Hid (∀ u ∈ (#[.int .i64 v1, .string u2, .string u3, .string u4, .int .i64 v5, .int .i64 0, .string ⟨#[]⟩, .string ⟨#[]⟩, .string ⟨#[]⟩, .string ⟨#[]⟩, .slice none 0 0, .int .i64 0, .int .i64 0, .string ⟨#[]⟩, .string ⟨#[]⟩, .string ⟨#[]⟩, .string ⟨#[]⟩, .int .i64 0, .string ⟨#[]⟩, .string ⟨#[]⟩, .string ⟨#[]⟩, .bool false] : Array Value).toList, u.oneCell' = true) := Lib.hid (by intro u hu; simp only [List.mem_cons, List.not_mem_nil, or_false] at hu; rcases hu with rfl | rfl | rfl | rfl | rfl | rfl | rfl | rfl | rfl | rfl | rfl | rfl | rfl | rfl | rfl | rfl | rfl | rfl | rfl | rfl | rfl | rfl <;> rfl)
                        refine wp_region_lit ?_
                        refine wpList_load_arr (by rfl) _ (by rfl) (w.heap.size + 1 + 1) 0 (by rfl) #[.int .i64 v1, .string u2, .string u3, .string u4, .int .i64 v5, .int .i64 0, .string ⟨#[]⟩, .string ⟨#[]⟩, .string ⟨#[]⟩, .string ⟨#[]⟩, .slice none 0 0, .int .i64 0, .int .i64 0, .string ⟨#[]⟩, .string ⟨#[]⟩, .string ⟨#[]⟩, .string ⟨#[]⟩, .int .i64 0, .string ⟨#[]⟩, .string ⟨#[]⟩, .string ⟨#[]⟩, .bool false] HX.out.range row_ev.d HI.out ?_
                        try dsimp only [Act.put, List.getElem_toArray, List.getElem_cons_zero, List.getElem_cons_succ]; try simp only [List.setIfInBounds_toArray, List.set_cons_zero, List.set_cons_succ]
                        refine wpList_store_part (by rfl) _ _ (by rfl) (w.heap.size + 1) 0 #[.int .i64 0, .string ⟨#[]⟩, .string ⟨#[]⟩, .string ⟨#[]⟩, .int .i64 0, .int .i64 0, .string ⟨#[]⟩, .string ⟨#[]⟩, .string ⟨#[]⟩, .string ⟨#[]⟩, .slice none 0 0, .int .i64 0, .int .i64 0, .string ⟨#[]⟩, .string ⟨#[]⟩, .string ⟨#[]⟩, .string ⟨#[]⟩, .int .i64 0, .string ⟨#[]⟩, .string ⟨#[]⟩, .string ⟨#[]⟩, .bool false] #[.int .i64 v1, .string u2, .string u3, .string u4, .int .i64 v5, .int .i64 0, .string ⟨#[]⟩, .string ⟨#[]⟩, .string ⟨#[]⟩, .string ⟨#[]⟩, .slice none 0 0, .int .i64 0, .int .i64 0, .string ⟨#[]⟩, .string ⟨#[]⟩, .string ⟨#[]⟩, .string ⟨#[]⟩, .int .i64 0, .string ⟨#[]⟩, .string ⟨#[]⟩, .string ⟨#[]⟩, .bool false] 89 (by rfl) (by rfl) HX.out.r (by simp) HI.out H1.out (fun wz hwz => ?_)
                        try dsimp only [Act.put, List.getElem_toArray, List.getElem_cons_zero, List.getElem_cons_succ]; try simp only [List.setIfInBounds_toArray, List.set_cons_zero, List.set_cons_succ]
                        have hres := HX.out.res (by rfl)
                        have hend := HX.out.end_ hwg (#[.int .i64 v1, .string u2, .string u3, .string u4, .int .i64 v5, .int .i64 0, .string ⟨#[]⟩, .string ⟨#[]⟩, .string ⟨#[]⟩, .string ⟨#[]⟩, .slice none 0 0, .int .i64 0, .int .i64 0, .string ⟨#[]⟩, .string ⟨#[]⟩, .string ⟨#[]⟩, .string ⟨#[]⟩, .int .i64 0, .string ⟨#[]⟩, .string ⟨#[]⟩, .string ⟨#[]⟩, .bool false] : Array Value).toList
                        have hrd := rdo_setCells HR.out (show b ≠ w.heap.size + 1 by omega) 0 (#[.int .i64 v1, .string u2, .string u3, .string u4, .int .i64 v5, .int .i64 0, .string ⟨#[]⟩, .string ⟨#[]⟩, .string ⟨#[]⟩, .string ⟨#[]⟩, .slice none 0 0, .int .i64 0, .int .i64 0, .string ⟨#[]⟩, .string ⟨#[]⟩, .string ⟨#[]⟩, .string ⟨#[]⟩, .int .i64 0, .string ⟨#[]⟩, .string ⟨#[]⟩, .string ⟨#[]⟩, .bool false] : Array Value).toList
                        rw [← hwz] at hres hend hrd
                        have hsz := hend.size
                        have HRES := Lib.hid hres; have HEND := Lib.hid hend; have HRD := Lib.hid hrd
                        clear hres hend hrd hwz HX HR
                        refine wpList_nil ?_
                        go_wp2_with fail
                        have hrd := HRD.out; have hend := HEND.out
                        refine bodyPost_ret (results_cell_row rfl _ _ (w.heap.size + 1) _ #[.int .i64 v1, .string u2, .string u3, .string u4, .int .i64 v5, .int .i64 0, .string ⟨#[]⟩, .string ⟨#[]⟩, .string ⟨#[]⟩, .string ⟨#[]⟩, .slice none 0 0, .int .i64 0, .int .i64 0, .string ⟨#[]⟩, .string ⟨#[]⟩, .string ⟨#[]⟩, .string ⟨#[]⟩, .int .i64 0, .string ⟨#[]⟩, .string ⟨#[]⟩, .string ⟨#[]⟩, .bool false] (0, 0) _ rfl HRES.out Try.underlying89 rfl HI.out) rfl ?_
                        refine ⟨⟨v1, u2, u3, u4, v5, zCal, zAdm⟩, rfl, ?_, fun W hW => ⟨M1.out, M2.out, M3.out, M4.out, M5.out, zCal_ok W, zAdm_ok W⟩, ?_, hend⟩
                        · rw [HV.out, HV2.out]; rfl
                        · rw [HV.out, HV2.out]; exact hrd
                    exact AllReadyH.nil
                  exact AllReadyH.nil
                exact AllReadyH.nil
              exact AllReadyH.nil
            exact AllReadyH.nil
          exact AllReadyH.nil
        exact AllReadyH.nil
      exact AllReadyH.nil
    exact AllReadyH.nil
  exact AllReadyH.nil
end Go.Proofs.Ytlmplibdfhamjaa
