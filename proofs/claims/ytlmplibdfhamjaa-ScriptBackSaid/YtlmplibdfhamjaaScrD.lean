/- Members, calls, administrators' deeds, events as bytes by the document. -/
import Derived.Test.YtlmplibdfhamjaaCtxR
import Derived.Test.YtlmplibdfhamjaaScrX
attribute [local go_sem ↓] Go.wp_at_zero Go.wp_at_succ
namespace Go.Proofs.Ytlmplibdfhamjaa
open Go.RowKit Go.Mem Go.Num
set_option linter.unusedVariables false
set_option linter.unusedSimpArgs false

theorem be1_low (n : Int) : be 1 n = [lowB n] := by simp [be]
theorem bs_nil_app (x : ByteArray) : x ++ bs [] = x := ByteArray.append_empty
theorem rTruth_any (b : Bool) (w : World) : Calls Try.prog 129 #[.bool b] w (SaysT (be 1 (upN b)) w) := by
  have H := fun (n : Int) (W : World) => refByte_any n W
  have HL : ∀ n : Int, bs (be 1 n) = bs [lowB n] := fun n => by rw [be1_low]
  unfold SaysT
  rw [HL]
  have H := Lib.hid H
  clear HL
  cases b
  all_goals
    go_enter Try.func129, Try.ntmps129
    go_wp2_with fail
    refine (H.out _ _).mono ?_
    rintro e w1 ⟨rfl, hb1⟩
    go_wp2
    go_ret
    exact ⟨rfl, hb1⟩
set_option maxRecDepth 100000 in
set_option maxHeartbeats 4000000 in
theorem rMemW_any (x : Memb) (w : World) (hlen : (memB x).length + 256 ≤ 140737488355328) :
    Calls Try.prog 93 #[.agg x.arr] w (SaysT (memB x) w) := by
  obtain ⟨nm, rk, zn, up⟩ := x
  simp only [Memb.arr]
  have hl0 : (4 + nm.size) + (4 + rk.size) + (4 + zn.size) + (1) + 256 ≤ 140737488355328 := by
    unfold memB at hlen; simp only [List.length_append, textB_length, be_length] at hlen; omega
  have hsb : bs (memB ⟨nm, rk, zn, up⟩) = bs (textB nm) ++ bs (textB rk) ++ bs (textB zn) ++ bs (be 1 (upN up)) := by
    unfold memB; simp only [be1_low, bs_append, List.append_assoc, ByteArray.append_assoc]
  have h1 := fun (W : World) => refText_any nm W (by omega)
  have h2 := fun (W : World) => refText_any rk W (by omega)
  have h3 := fun (W : World) => refText_any zn W (by omega)
  have h4 := fun (W : World) => rTruth_any up W
  unfold SaysT at *
  have s1 : (bs (textB nm)).size = 4 + nm.size := by rw [bs_size]; exact textB_length _
  have s2 : (bs (textB rk)).size = 4 + rk.size := by rw [bs_size]; exact textB_length _
  have s3 : (bs (textB zn)).size = 4 + zn.size := by rw [bs_size]; exact textB_length _
  have s4 : (bs (be 1 (upN up))).size = 1 := by rw [bs_size]; exact be_length _ _
  generalize bs (textB nm) = u1 at h1 s1 hsb
  generalize bs (textB rk) = u2 at h2 s2 hsb
  generalize bs (textB zn) = u3 at h3 s3 hsb
  generalize bs (be 1 (upN up)) = u4 at h4 s4 hsb
  have HSB := Lib.hid hsb; clear hsb
  have z : u1.size + u2.size + u3.size + u4.size ≤ 140737488355328 := by omega
  have q2 : ¬ 9223372036854775807 < u1.size + u2.size := by omega
  have q3 : ¬ 9223372036854775807 < u1.size + u2.size + u3.size := by omega
  have q4 : ¬ 9223372036854775807 < u1.size + u2.size + u3.size + u4.size := by omega
  have H1 := Lib.hid h1
  have H2 := Lib.hid h2
  have H3 := Lib.hid h3
  have H4 := Lib.hid h4
  clear h1 s1 h2 s2 h3 s3 h4 s4 hl0 hlen
  have hr := range_new w #[.string nm, .string rk, .string zn, .bool up] 82
  have C0 := Lib.hid (rangeAt_cell hr 0 rfl)
  have C1 := Lib.hid (rangeAt_cell hr 1 rfl)
  have C2 := Lib.hid (rangeAt_cell hr 2 rfl)
  have C3 := Lib.hid (rangeAt_cell hr 3 rfl)
  simp only [Nat.zero_add] at C0 C1 C2 C3
  have hbel := (Below.refl w.heap.size w).alloc (Nat.le_refl _) (.cells #[.string nm, .string rk, .string zn, .bool up] 82)
  clear hr
  have hb : Below (w.alloc (.cells #[.string nm, .string rk, .string zn, .bool up] 82)).heap.size (w.alloc (.cells #[.string nm, .string rk, .string zn, .bool up] 82)) (w.alloc (.cells #[.string nm, .string rk, .string zn, .bool up] 82)).drew := (Below.refl _ _).drew
  go_enter Try.func93, Try.ntmps93
  go_wp2
  refine wp_region_held_drew (S := (fun W => W.cell? ⟨w.heap.size, 0, none⟩ = some (.string nm) ∧ W.cell? ⟨w.heap.size, 1, none⟩ = some (.string rk) ∧ W.cell? ⟨w.heap.size, 2, none⟩ = some (.string zn) ∧ W.cell? ⟨w.heap.size, 3, none⟩ = some (.bool up))) (by kernel_rfl) ⟨C0.out, C1.out, C2.out, C3.out⟩ (fun hHeld => ?_)
  refine wpAnyH_take (i := 0) (oi := _) (v := ?vq1) rfl (by kernel_rfl) (by kernel_rfl) (by kernel_rfl) (fun _ _ _ h => h) (Or.inl ⟨by rfl, ?hq1⟩) (by assumption) ?rq1
  case hq1 => (intro w hSw; go_simp; try with_reducible rfl)
  try dsimp only [Act.put, List.getElem_toArray, List.getElem_cons_zero, List.getElem_cons_succ]; try simp only [List.setIfInBounds_toArray, List.set_cons_zero, List.set_cons_succ]
  refine wpAnyH_take (i := 1) (oi := _) (v := ?vq2) rfl (by kernel_rfl) (by kernel_rfl) (by kernel_rfl) (fun _ _ _ h => h) (Or.inl ⟨by rfl, ?hq2⟩) (by assumption) ?rq2
  case hq2 => (intro w hSw; go_simp; try with_reducible rfl)
  try dsimp only [Act.put, List.getElem_toArray, List.getElem_cons_zero, List.getElem_cons_succ]; try simp only [List.setIfInBounds_toArray, List.set_cons_zero, List.set_cons_succ]
  refine wpAnyH_take (i := 3) (oi := _) (v := ?vq3) rfl (by kernel_rfl) (by kernel_rfl) (by kernel_rfl) (fun _ _ _ h => h) (Or.inl ⟨by rfl, ?hq3⟩) (by assumption) ?rq3
  case hq3 => (intro w hSw; go_simp; try with_reducible rfl)
  try dsimp only [Act.put, List.getElem_toArray, List.getElem_cons_zero, List.getElem_cons_succ]; try simp only [List.setIfInBounds_toArray, List.set_cons_zero, List.set_cons_succ]
  refine wpAnyH_take (i := 4) (oi := _) (v := ?vq4) rfl (by kernel_rfl) (by kernel_rfl) (by kernel_rfl) (fun _ _ _ h => h) (Or.inl ⟨by rfl, ?hq4⟩) (by assumption) ?rq4
  case hq4 => (intro w hSw; go_simp; try with_reducible rfl)
  try dsimp only [Act.put, List.getElem_toArray, List.getElem_cons_zero, List.getElem_cons_succ]; try simp only [List.setIfInBounds_toArray, List.set_cons_zero, List.set_cons_succ]
  refine wpAnyH_take (i := 7) (oi := _) (v := ?vq5) rfl (by kernel_rfl) (by kernel_rfl) (by kernel_rfl) (fun _ _ _ h => h) (Or.inl ⟨by rfl, ?hq5⟩) (by assumption) ?rq5
  case hq5 => (intro w hSw; go_simp; try with_reducible rfl)
  try dsimp only [Act.put, List.getElem_toArray, List.getElem_cons_zero, List.getElem_cons_succ]; try simp only [List.setIfInBounds_toArray, List.set_cons_zero, List.set_cons_succ]
  refine wpAnyH_take (i := 8) (oi := _) (v := ?vq6) rfl (by kernel_rfl) (by kernel_rfl) (by kernel_rfl) (fun _ _ _ h => h) (Or.inl ⟨by rfl, ?hq6⟩) (by assumption) ?rq6
  case hq6 => (intro w hSw; go_simp; try with_reducible rfl)
  try dsimp only [Act.put, List.getElem_toArray, List.getElem_cons_zero, List.getElem_cons_succ]; try simp only [List.setIfInBounds_toArray, List.set_cons_zero, List.set_cons_succ]
  refine wpAnyH_take (i := 11) (oi := _) (v := ?vq7) rfl (by kernel_rfl) (by kernel_rfl) (by kernel_rfl) (fun _ _ _ h => h) (Or.inl ⟨by rfl, ?hq7⟩) (by assumption) ?rq7
  case hq7 => (intro w hSw; go_simp; try with_reducible rfl)
  try dsimp only [Act.put, List.getElem_toArray, List.getElem_cons_zero, List.getElem_cons_succ]; try simp only [List.setIfInBounds_toArray, List.set_cons_zero, List.set_cons_succ]
  refine wpAnyH_take (i := 12) (oi := _) (v := ?vq8) rfl (by kernel_rfl) (by kernel_rfl) (by kernel_rfl) (fun _ _ _ h => h) (Or.inl ⟨by rfl, ?hq8⟩) (by assumption) ?rq8
  case hq8 => (intro w hSw; go_simp; try with_reducible rfl)
  try dsimp only [Act.put, List.getElem_toArray, List.getElem_cons_zero, List.getElem_cons_succ]; try simp only [List.setIfInBounds_toArray, List.set_cons_zero, List.set_cons_succ]
  refine wpAnyH_ready (rs := [2]) (by kernel_rfl) (by simp) ?_
  refine AllReadyH.cons (o := _) rfl (fun K hK => ?_) ?_
  · rw [if_pos (by rfl)]
    go_simp
    refine (H1.out _).mono ?_
    rintro e wx ⟨rfl, hbx⟩
    have hb := then_ hb hbx
    clear hbx
    go_wp2_with fail
    refine hK.out _ _ ⟨cell_below hb C0.out, cell_below hb C1.out, cell_below hb C2.out, cell_below hb C3.out⟩ (fun hHeld => ?_)
    clear hK K
    try dsimp only [Act.put, List.getElem_toArray, List.getElem_cons_zero, List.getElem_cons_succ]; try simp only [List.setIfInBounds_toArray, List.set_cons_zero, List.set_cons_succ]
    refine wpAnyH_ready (rs := [5]) (by kernel_rfl) (by simp) ?_
    refine AllReadyH.cons (o := _) rfl (fun K hK => ?_) ?_
    · rw [if_pos (by rfl)]
      go_simp
      refine (H2.out _).mono ?_
      rintro e wx ⟨rfl, hbx⟩
      have hb := then_ hb hbx
      clear hbx
      go_wp2_with fail
      refine hK.out _ _ ⟨cell_below hb C0.out, cell_below hb C1.out, cell_below hb C2.out, cell_below hb C3.out⟩ (fun hHeld => ?_)
      clear hK K
      try dsimp only [Act.put, List.getElem_toArray, List.getElem_cons_zero, List.getElem_cons_succ]; try simp only [List.setIfInBounds_toArray, List.set_cons_zero, List.set_cons_succ]
      refine wpAnyH_take (i := 6) (oi := _) (v := ?vq9) rfl (by kernel_rfl) (by kernel_rfl) (by kernel_rfl) (fun _ _ _ h => h) (Or.inl ⟨by rfl, ?hq9⟩) (by assumption) ?rq9
      case hq9 => (intro w hSw; go_simp; try with_reducible rfl)
      try dsimp only [Act.put, List.getElem_toArray, List.getElem_cons_zero, List.getElem_cons_succ]; try simp only [List.setIfInBounds_toArray, List.set_cons_zero, List.set_cons_succ]
      refine wpAnyH_ready (rs := [9]) (by kernel_rfl) (by simp) ?_
      refine AllReadyH.cons (o := _) rfl (fun K hK => ?_) ?_
      · rw [if_pos (by rfl)]
        go_simp
        refine (H3.out _).mono ?_
        rintro e wx ⟨rfl, hbx⟩
        have hb := then_ hb hbx
        clear hbx
        go_wp2_with fail
        refine hK.out _ _ ⟨cell_below hb C0.out, cell_below hb C1.out, cell_below hb C2.out, cell_below hb C3.out⟩ (fun hHeld => ?_)
        clear hK K
        try dsimp only [Act.put, List.getElem_toArray, List.getElem_cons_zero, List.getElem_cons_succ]; try simp only [List.setIfInBounds_toArray, List.set_cons_zero, List.set_cons_succ]
        refine wpAnyH_take (i := 10) (oi := _) (v := ?vq10) rfl (by kernel_rfl) (by kernel_rfl) (by kernel_rfl) (fun _ _ _ h => h) (Or.inl ⟨by rfl, ?hq10⟩) (by assumption) ?rq10
        case hq10 => (intro w hSw; go_simp; try with_reducible rfl)
        try dsimp only [Act.put, List.getElem_toArray, List.getElem_cons_zero, List.getElem_cons_succ]; try simp only [List.setIfInBounds_toArray, List.set_cons_zero, List.set_cons_succ]
        refine wpAnyH_ready (rs := [13]) (by kernel_rfl) (by simp) ?_
        refine AllReadyH.cons (o := _) rfl (fun K hK => ?_) ?_
        · rw [if_pos (by rfl)]
          go_simp
          refine (H4.out _).mono ?_
          rintro e wx ⟨rfl, hbx⟩
          have hb := then_ hb hbx
          clear hbx
          go_wp2_with fail
          refine hK.out _ _ ⟨cell_below hb C0.out, cell_below hb C1.out, cell_below hb C2.out, cell_below hb C3.out⟩ (fun hHeld => ?_)
          clear hK K
          try dsimp only [Act.put, List.getElem_toArray, List.getElem_cons_zero, List.getElem_cons_succ]; try simp only [List.setIfInBounds_toArray, List.set_cons_zero, List.set_cons_succ]
          refine wpAnyH_take (i := 14) (oi := _) (v := ?vq11) rfl (by kernel_rfl) (by kernel_rfl) (by kernel_rfl) (fun _ _ _ h => h) (Or.inl ⟨by rfl, ?hq11⟩) (by assumption) ?rq11
          case hq11 => (intro w hSw; go_simp; try with_reducible rfl)
          try dsimp only [Act.put, List.getElem_toArray, List.getElem_cons_zero, List.getElem_cons_succ]; try simp only [List.setIfInBounds_toArray, List.set_cons_zero, List.set_cons_succ]
          refine wpAnyH_take (i := 15) (oi := _) (v := ?vq12) rfl (by kernel_rfl) (by kernel_rfl) (by kernel_rfl) (fun _ _ _ h => h) (Or.inl ⟨by rfl, ?hq12⟩) (by assumption) ?rq12
          case hq12 => (intro w hSw; go_simp; try with_reducible rfl)
          try dsimp only [Act.put, List.getElem_toArray, List.getElem_cons_zero, List.getElem_cons_succ]; try simp only [List.setIfInBounds_toArray, List.set_cons_zero, List.set_cons_succ]
          refine wpAnyH_done (by kernel_rfl) ?_ _
          go_wp2
          go_ret
          exact ⟨ret_string (by rw [HSB.out]), then_ hbel hb⟩
        exact AllReadyH.nil
      exact AllReadyH.nil
    exact AllReadyH.nil
  exact AllReadyH.nil
set_option maxRecDepth 100000 in
set_option maxHeartbeats 4000000 in
theorem rCalW_any (x : Cal) (w : World) (hok : x.ctx.ok w) (hlen : (calB x).length + 256 ≤ 140737488355328) :
    Calls Try.prog 130 #[.agg x.arr] w (SaysT (calB x) w) := by
  obtain ⟨ck, ct, cb, cy, cw, cx, ctm⟩ := x
  simp only [Cal.arr]
  have hl0 : (1) + (4 + ct.size) + (4 + cb.size) + (4 + cy.size) + (4 + cw.size) + ((ctxB cx.l).length) + (8) + 256 ≤ 140737488355328 := by
    unfold calB at hlen; simp only [List.length_append, textB_length, be_length] at hlen; omega
  have hsb : bs (calB ⟨ck, ct, cb, cy, cw, cx, ctm⟩) = bs ([lowB ck]) ++ bs (textB ct) ++ bs (textB cb) ++ bs (textB cy) ++ bs (textB cw) ++ bs (ctxB cx.l) ++ bs (be 8 ctm) := by
    unfold calB; simp only [be1_low, bs_append, List.append_assoc, ByteArray.append_assoc]
  have h1 := fun (W : World) => refByte_any ck W
  have h2 := fun (W : World) => refText_any ct W (by omega)
  have h3 := fun (W : World) => refText_any cb W (by omega)
  have h4 := fun (W : World) => refText_any cy W (by omega)
  have h5 := fun (W : World) => refText_any cw W (by omega)
  have h6 := fun (W : World) (hW : Below w.heap.size w W) => rCtx_any cx W (hok.below hW) (by omega)
  have h7 := fun (W : World) => refInt_any ctm W
  unfold SaysT at *
  have s1 : (bs ([lowB ck])).size = 1 := by rw [bs_size]; rfl
  have s2 : (bs (textB ct)).size = 4 + ct.size := by rw [bs_size]; exact textB_length _
  have s3 : (bs (textB cb)).size = 4 + cb.size := by rw [bs_size]; exact textB_length _
  have s4 : (bs (textB cy)).size = 4 + cy.size := by rw [bs_size]; exact textB_length _
  have s5 : (bs (textB cw)).size = 4 + cw.size := by rw [bs_size]; exact textB_length _
  have s6 : (bs (ctxB cx.l)).size = (ctxB cx.l).length := by rw [bs_size]
  have s7 : (bs (be 8 ctm)).size = 8 := by rw [bs_size]; exact be_length _ _
  generalize bs ([lowB ck]) = u1 at h1 s1 hsb
  generalize bs (textB ct) = u2 at h2 s2 hsb
  generalize bs (textB cb) = u3 at h3 s3 hsb
  generalize bs (textB cy) = u4 at h4 s4 hsb
  generalize bs (textB cw) = u5 at h5 s5 hsb
  generalize bs (ctxB cx.l) = u6 at h6 s6 hsb
  generalize bs (be 8 ctm) = u7 at h7 s7 hsb
  have HSB := Lib.hid hsb; clear hsb
  have z : u1.size + u2.size + u3.size + u4.size + u5.size + u6.size + u7.size ≤ 140737488355328 := by omega
  have q2 : ¬ 9223372036854775807 < u1.size + u2.size := by omega
  have q3 : ¬ 9223372036854775807 < u1.size + u2.size + u3.size := by omega
  have q4 : ¬ 9223372036854775807 < u1.size + u2.size + u3.size + u4.size := by omega
  have q5 : ¬ 9223372036854775807 < u1.size + u2.size + u3.size + u4.size + u5.size := by omega
  have q6 : ¬ 9223372036854775807 < u1.size + u2.size + u3.size + u4.size + u5.size + u6.size := by omega
  have q7 : ¬ 9223372036854775807 < u1.size + u2.size + u3.size + u4.size + u5.size + u6.size + u7.size := by omega
  have H1 := Lib.hid h1
  have H2 := Lib.hid h2
  have H3 := Lib.hid h3
  have H4 := Lib.hid h4
  have H5 := Lib.hid h5
  have H6 := Lib.hid h6
  have H7 := Lib.hid h7
  clear h1 s1 h2 s2 h3 s3 h4 s4 h5 s5 h6 s6 h7 s7 hl0 hlen
  generalize cx.v = cv at H6 ⊢
  clear hok
  have hr := range_new w #[.int .i64 ck, .string ct, .string cb, .string cy, .string cw, cv, .int .i64 ctm] 85
  have C0 := Lib.hid (rangeAt_cell hr 0 rfl)
  have C1 := Lib.hid (rangeAt_cell hr 1 rfl)
  have C2 := Lib.hid (rangeAt_cell hr 2 rfl)
  have C3 := Lib.hid (rangeAt_cell hr 3 rfl)
  have C4 := Lib.hid (rangeAt_cell hr 4 rfl)
  have C5 := Lib.hid (rangeAt_cell hr 5 rfl)
  have C6 := Lib.hid (rangeAt_cell hr 6 rfl)
  simp only [Nat.zero_add] at C0 C1 C2 C3 C4 C5 C6
  have hbel := (Below.refl w.heap.size w).alloc (Nat.le_refl _) (.cells #[.int .i64 ck, .string ct, .string cb, .string cy, .string cw, cv, .int .i64 ctm] 85)
  clear hr
  have hb : Below (w.alloc (.cells #[.int .i64 ck, .string ct, .string cb, .string cy, .string cw, cv, .int .i64 ctm] 85)).heap.size (w.alloc (.cells #[.int .i64 ck, .string ct, .string cb, .string cy, .string cw, cv, .int .i64 ctm] 85)) (w.alloc (.cells #[.int .i64 ck, .string ct, .string cb, .string cy, .string cw, cv, .int .i64 ctm] 85)).drew := (Below.refl _ _).drew
  go_enter Try.func130, Try.ntmps130
  go_wp2
  refine wp_region_held_drew (S := (fun W => W.cell? ⟨w.heap.size, 0, none⟩ = some (.int .i64 ck) ∧ W.cell? ⟨w.heap.size, 1, none⟩ = some (.string ct) ∧ W.cell? ⟨w.heap.size, 2, none⟩ = some (.string cb) ∧ W.cell? ⟨w.heap.size, 3, none⟩ = some (.string cy) ∧ W.cell? ⟨w.heap.size, 4, none⟩ = some (.string cw) ∧ W.cell? ⟨w.heap.size, 5, none⟩ = some (cv) ∧ W.cell? ⟨w.heap.size, 6, none⟩ = some (.int .i64 ctm))) (by kernel_rfl) ⟨C0.out, C1.out, C2.out, C3.out, C4.out, C5.out, C6.out⟩ (fun hHeld => ?_)
  refine wpAnyH_take (i := 0) (oi := _) (v := ?vq13) rfl (by kernel_rfl) (by kernel_rfl) (by kernel_rfl) (fun _ _ _ h => h) (Or.inl ⟨by rfl, ?hq13⟩) (by assumption) ?rq13
  case hq13 => (intro w hSw; go_simp; try with_reducible rfl)
  try dsimp only [Act.put, List.getElem_toArray, List.getElem_cons_zero, List.getElem_cons_succ]; try simp only [List.setIfInBounds_toArray, List.set_cons_zero, List.set_cons_succ]
  refine wpAnyH_take (i := 1) (oi := _) (v := ?vq14) rfl (by kernel_rfl) (by kernel_rfl) (by kernel_rfl) (fun _ _ _ h => h) (Or.inl ⟨by rfl, ?hq14⟩) (by assumption) ?rq14
  case hq14 => (intro w hSw; go_simp; try with_reducible rfl)
  try dsimp only [Act.put, List.getElem_toArray, List.getElem_cons_zero, List.getElem_cons_succ]; try simp only [List.setIfInBounds_toArray, List.set_cons_zero, List.set_cons_succ]
  refine wpAnyH_take (i := 3) (oi := _) (v := ?vq15) rfl (by kernel_rfl) (by kernel_rfl) (by kernel_rfl) (fun _ _ _ h => h) (Or.inl ⟨by rfl, ?hq15⟩) (by assumption) ?rq15
  case hq15 => (intro w hSw; go_simp; try with_reducible rfl)
  try dsimp only [Act.put, List.getElem_toArray, List.getElem_cons_zero, List.getElem_cons_succ]; try simp only [List.setIfInBounds_toArray, List.set_cons_zero, List.set_cons_succ]
  refine wpAnyH_take (i := 4) (oi := _) (v := ?vq16) rfl (by kernel_rfl) (by kernel_rfl) (by kernel_rfl) (fun _ _ _ h => h) (Or.inl ⟨by rfl, ?hq16⟩) (by assumption) ?rq16
  case hq16 => (intro w hSw; go_simp; try with_reducible rfl)
  try dsimp only [Act.put, List.getElem_toArray, List.getElem_cons_zero, List.getElem_cons_succ]; try simp only [List.setIfInBounds_toArray, List.set_cons_zero, List.set_cons_succ]
  refine wpAnyH_take (i := 7) (oi := _) (v := ?vq17) rfl (by kernel_rfl) (by kernel_rfl) (by kernel_rfl) (fun _ _ _ h => h) (Or.inl ⟨by rfl, ?hq17⟩) (by assumption) ?rq17
  case hq17 => (intro w hSw; go_simp; try with_reducible rfl)
  try dsimp only [Act.put, List.getElem_toArray, List.getElem_cons_zero, List.getElem_cons_succ]; try simp only [List.setIfInBounds_toArray, List.set_cons_zero, List.set_cons_succ]
  refine wpAnyH_take (i := 8) (oi := _) (v := ?vq18) rfl (by kernel_rfl) (by kernel_rfl) (by kernel_rfl) (fun _ _ _ h => h) (Or.inl ⟨by rfl, ?hq18⟩) (by assumption) ?rq18
  case hq18 => (intro w hSw; go_simp; try with_reducible rfl)
  try dsimp only [Act.put, List.getElem_toArray, List.getElem_cons_zero, List.getElem_cons_succ]; try simp only [List.setIfInBounds_toArray, List.set_cons_zero, List.set_cons_succ]
  refine wpAnyH_take (i := 11) (oi := _) (v := ?vq19) rfl (by kernel_rfl) (by kernel_rfl) (by kernel_rfl) (fun _ _ _ h => h) (Or.inl ⟨by rfl, ?hq19⟩) (by assumption) ?rq19
  case hq19 => (intro w hSw; go_simp; try with_reducible rfl)
  try dsimp only [Act.put, List.getElem_toArray, List.getElem_cons_zero, List.getElem_cons_succ]; try simp only [List.setIfInBounds_toArray, List.set_cons_zero, List.set_cons_succ]
  refine wpAnyH_take (i := 12) (oi := _) (v := ?vq20) rfl (by kernel_rfl) (by kernel_rfl) (by kernel_rfl) (fun _ _ _ h => h) (Or.inl ⟨by rfl, ?hq20⟩) (by assumption) ?rq20
  case hq20 => (intro w hSw; go_simp; try with_reducible rfl)
  try dsimp only [Act.put, List.getElem_toArray, List.getElem_cons_zero, List.getElem_cons_succ]; try simp only [List.setIfInBounds_toArray, List.set_cons_zero, List.set_cons_succ]
  refine wpAnyH_take (i := 15) (oi := _) (v := ?vq21) rfl (by kernel_rfl) (by kernel_rfl) (by kernel_rfl) (fun _ _ _ h => h) (Or.inl ⟨by rfl, ?hq21⟩) (by assumption) ?rq21
  case hq21 => (intro w hSw; go_simp; try with_reducible rfl)
  try dsimp only [Act.put, List.getElem_toArray, List.getElem_cons_zero, List.getElem_cons_succ]; try simp only [List.setIfInBounds_toArray, List.set_cons_zero, List.set_cons_succ]
  refine wpAnyH_take (i := 16) (oi := _) (v := ?vq22) rfl (by kernel_rfl) (by kernel_rfl) (by kernel_rfl) (fun _ _ _ h => h) (Or.inl ⟨by rfl, ?hq22⟩) (by assumption) ?rq22
  case hq22 => (intro w hSw; go_simp; try with_reducible rfl)
  try dsimp only [Act.put, List.getElem_toArray, List.getElem_cons_zero, List.getElem_cons_succ]; try simp only [List.setIfInBounds_toArray, List.set_cons_zero, List.set_cons_succ]
  refine wpAnyH_take (i := 19) (oi := _) (v := ?vq23) rfl (by kernel_rfl) (by kernel_rfl) (by kernel_rfl) (fun _ _ _ h => h) (Or.inl ⟨by rfl, ?hq23⟩) (by assumption) ?rq23
  case hq23 => (intro w hSw; go_simp; try with_reducible rfl)
  try dsimp only [Act.put, List.getElem_toArray, List.getElem_cons_zero, List.getElem_cons_succ]; try simp only [List.setIfInBounds_toArray, List.set_cons_zero, List.set_cons_succ]
  refine wpAnyH_take (i := 20) (oi := _) (v := ?vq24) rfl (by kernel_rfl) (by kernel_rfl) (by kernel_rfl) (fun _ _ _ h => h) (Or.inl ⟨by rfl, ?hq24⟩) (by assumption) ?rq24
  case hq24 => (intro w hSw; go_simp; try with_reducible rfl)
  try dsimp only [Act.put, List.getElem_toArray, List.getElem_cons_zero, List.getElem_cons_succ]; try simp only [List.setIfInBounds_toArray, List.set_cons_zero, List.set_cons_succ]
  refine wpAnyH_take (i := 23) (oi := _) (v := ?vq25) rfl (by kernel_rfl) (by kernel_rfl) (by kernel_rfl) (fun _ _ _ h => h) (Or.inl ⟨by rfl, ?hq25⟩) (by assumption) ?rq25
  case hq25 => (intro w hSw; go_simp; try with_reducible rfl)
  try dsimp only [Act.put, List.getElem_toArray, List.getElem_cons_zero, List.getElem_cons_succ]; try simp only [List.setIfInBounds_toArray, List.set_cons_zero, List.set_cons_succ]
  refine wpAnyH_take (i := 24) (oi := _) (v := ?vq26) rfl (by kernel_rfl) (by kernel_rfl) (by kernel_rfl) (fun _ _ _ h => h) (Or.inl ⟨by rfl, ?hq26⟩) (by assumption) ?rq26
  case hq26 => (intro w hSw; go_simp; try with_reducible rfl)
  try dsimp only [Act.put, List.getElem_toArray, List.getElem_cons_zero, List.getElem_cons_succ]; try simp only [List.setIfInBounds_toArray, List.set_cons_zero, List.set_cons_succ]
  refine wpAnyH_ready (rs := [2]) (by kernel_rfl) (by simp) ?_
  refine AllReadyH.cons (o := _) rfl (fun K hK => ?_) ?_
  · rw [if_pos (by rfl)]
    go_simp
    refine (H1.out _).mono ?_
    rintro e wx ⟨rfl, hbx⟩
    have hb := then_ hb hbx
    clear hbx
    go_wp2_with fail
    refine hK.out _ _ ⟨cell_below hb C0.out, cell_below hb C1.out, cell_below hb C2.out, cell_below hb C3.out, cell_below hb C4.out, cell_below hb C5.out, cell_below hb C6.out⟩ (fun hHeld => ?_)
    clear hK K
    try dsimp only [Act.put, List.getElem_toArray, List.getElem_cons_zero, List.getElem_cons_succ]; try simp only [List.setIfInBounds_toArray, List.set_cons_zero, List.set_cons_succ]
    refine wpAnyH_ready (rs := [5]) (by kernel_rfl) (by simp) ?_
    refine AllReadyH.cons (o := _) rfl (fun K hK => ?_) ?_
    · rw [if_pos (by rfl)]
      go_simp
      refine (H2.out _).mono ?_
      rintro e wx ⟨rfl, hbx⟩
      have hb := then_ hb hbx
      clear hbx
      go_wp2_with fail
      refine hK.out _ _ ⟨cell_below hb C0.out, cell_below hb C1.out, cell_below hb C2.out, cell_below hb C3.out, cell_below hb C4.out, cell_below hb C5.out, cell_below hb C6.out⟩ (fun hHeld => ?_)
      clear hK K
      try dsimp only [Act.put, List.getElem_toArray, List.getElem_cons_zero, List.getElem_cons_succ]; try simp only [List.setIfInBounds_toArray, List.set_cons_zero, List.set_cons_succ]
      refine wpAnyH_take (i := 6) (oi := _) (v := ?vq27) rfl (by kernel_rfl) (by kernel_rfl) (by kernel_rfl) (fun _ _ _ h => h) (Or.inl ⟨by rfl, ?hq27⟩) (by assumption) ?rq27
      case hq27 => (intro w hSw; go_simp; try with_reducible rfl)
      try dsimp only [Act.put, List.getElem_toArray, List.getElem_cons_zero, List.getElem_cons_succ]; try simp only [List.setIfInBounds_toArray, List.set_cons_zero, List.set_cons_succ]
      refine wpAnyH_ready (rs := [9]) (by kernel_rfl) (by simp) ?_
      refine AllReadyH.cons (o := _) rfl (fun K hK => ?_) ?_
      · rw [if_pos (by rfl)]
        go_simp
        refine (H3.out _).mono ?_
        rintro e wx ⟨rfl, hbx⟩
        have hb := then_ hb hbx
        clear hbx
        go_wp2_with fail
        refine hK.out _ _ ⟨cell_below hb C0.out, cell_below hb C1.out, cell_below hb C2.out, cell_below hb C3.out, cell_below hb C4.out, cell_below hb C5.out, cell_below hb C6.out⟩ (fun hHeld => ?_)
        clear hK K
        try dsimp only [Act.put, List.getElem_toArray, List.getElem_cons_zero, List.getElem_cons_succ]; try simp only [List.setIfInBounds_toArray, List.set_cons_zero, List.set_cons_succ]
        refine wpAnyH_take (i := 10) (oi := _) (v := ?vq28) rfl (by kernel_rfl) (by kernel_rfl) (by kernel_rfl) (fun _ _ _ h => h) (Or.inl ⟨by rfl, ?hq28⟩) (by assumption) ?rq28
        case hq28 => (intro w hSw; go_simp; try with_reducible rfl)
        try dsimp only [Act.put, List.getElem_toArray, List.getElem_cons_zero, List.getElem_cons_succ]; try simp only [List.setIfInBounds_toArray, List.set_cons_zero, List.set_cons_succ]
        refine wpAnyH_ready (rs := [13]) (by kernel_rfl) (by simp) ?_
        refine AllReadyH.cons (o := _) rfl (fun K hK => ?_) ?_
        · rw [if_pos (by rfl)]
          go_simp
          refine (H4.out _).mono ?_
          rintro e wx ⟨rfl, hbx⟩
          have hb := then_ hb hbx
          clear hbx
          go_wp2_with fail
          refine hK.out _ _ ⟨cell_below hb C0.out, cell_below hb C1.out, cell_below hb C2.out, cell_below hb C3.out, cell_below hb C4.out, cell_below hb C5.out, cell_below hb C6.out⟩ (fun hHeld => ?_)
          clear hK K
          try dsimp only [Act.put, List.getElem_toArray, List.getElem_cons_zero, List.getElem_cons_succ]; try simp only [List.setIfInBounds_toArray, List.set_cons_zero, List.set_cons_succ]
          refine wpAnyH_take (i := 14) (oi := _) (v := ?vq29) rfl (by kernel_rfl) (by kernel_rfl) (by kernel_rfl) (fun _ _ _ h => h) (Or.inl ⟨by rfl, ?hq29⟩) (by assumption) ?rq29
          case hq29 => (intro w hSw; go_simp; try with_reducible rfl)
          try dsimp only [Act.put, List.getElem_toArray, List.getElem_cons_zero, List.getElem_cons_succ]; try simp only [List.setIfInBounds_toArray, List.set_cons_zero, List.set_cons_succ]
          refine wpAnyH_ready (rs := [17]) (by kernel_rfl) (by simp) ?_
          refine AllReadyH.cons (o := _) rfl (fun K hK => ?_) ?_
          · rw [if_pos (by rfl)]
            go_simp
            refine (H5.out _).mono ?_
            rintro e wx ⟨rfl, hbx⟩
            have hb := then_ hb hbx
            clear hbx
            go_wp2_with fail
            refine hK.out _ _ ⟨cell_below hb C0.out, cell_below hb C1.out, cell_below hb C2.out, cell_below hb C3.out, cell_below hb C4.out, cell_below hb C5.out, cell_below hb C6.out⟩ (fun hHeld => ?_)
            clear hK K
            try dsimp only [Act.put, List.getElem_toArray, List.getElem_cons_zero, List.getElem_cons_succ]; try simp only [List.setIfInBounds_toArray, List.set_cons_zero, List.set_cons_succ]
            refine wpAnyH_take (i := 18) (oi := _) (v := ?vq30) rfl (by kernel_rfl) (by kernel_rfl) (by kernel_rfl) (fun _ _ _ h => h) (Or.inl ⟨by rfl, ?hq30⟩) (by assumption) ?rq30
            case hq30 => (intro w hSw; go_simp; try with_reducible rfl)
            try dsimp only [Act.put, List.getElem_toArray, List.getElem_cons_zero, List.getElem_cons_succ]; try simp only [List.setIfInBounds_toArray, List.set_cons_zero, List.set_cons_succ]
            refine wpAnyH_ready (rs := [21]) (by kernel_rfl) (by simp) ?_
            refine AllReadyH.cons (o := _) rfl (fun K hK => ?_) ?_
            · rw [if_pos (by rfl)]
              go_simp
              refine (H6.out _ (below_alloc hb)).mono ?_
              rintro e wx ⟨rfl, hbx⟩
              have hb := then_ hb hbx
              clear hbx
              go_wp2_with fail
              refine hK.out _ _ ⟨cell_below hb C0.out, cell_below hb C1.out, cell_below hb C2.out, cell_below hb C3.out, cell_below hb C4.out, cell_below hb C5.out, cell_below hb C6.out⟩ (fun hHeld => ?_)
              clear hK K
              try dsimp only [Act.put, List.getElem_toArray, List.getElem_cons_zero, List.getElem_cons_succ]; try simp only [List.setIfInBounds_toArray, List.set_cons_zero, List.set_cons_succ]
              refine wpAnyH_take (i := 22) (oi := _) (v := ?vq31) rfl (by kernel_rfl) (by kernel_rfl) (by kernel_rfl) (fun _ _ _ h => h) (Or.inl ⟨by rfl, ?hq31⟩) (by assumption) ?rq31
              case hq31 => (intro w hSw; go_simp; try with_reducible rfl)
              try dsimp only [Act.put, List.getElem_toArray, List.getElem_cons_zero, List.getElem_cons_succ]; try simp only [List.setIfInBounds_toArray, List.set_cons_zero, List.set_cons_succ]
              refine wpAnyH_ready (rs := [25]) (by kernel_rfl) (by simp) ?_
              refine AllReadyH.cons (o := _) rfl (fun K hK => ?_) ?_
              · rw [if_pos (by rfl)]
                go_simp
                refine (H7.out _).mono ?_
                rintro e wx ⟨rfl, hbx⟩
                have hb := then_ hb hbx
                clear hbx
                go_wp2_with fail
                refine hK.out _ _ ⟨cell_below hb C0.out, cell_below hb C1.out, cell_below hb C2.out, cell_below hb C3.out, cell_below hb C4.out, cell_below hb C5.out, cell_below hb C6.out⟩ (fun hHeld => ?_)
                clear hK K
                try dsimp only [Act.put, List.getElem_toArray, List.getElem_cons_zero, List.getElem_cons_succ]; try simp only [List.setIfInBounds_toArray, List.set_cons_zero, List.set_cons_succ]
                refine wpAnyH_take (i := 26) (oi := _) (v := ?vq32) rfl (by kernel_rfl) (by kernel_rfl) (by kernel_rfl) (fun _ _ _ h => h) (Or.inl ⟨by rfl, ?hq32⟩) (by assumption) ?rq32
                case hq32 => (intro w hSw; go_simp; try with_reducible rfl)
                try dsimp only [Act.put, List.getElem_toArray, List.getElem_cons_zero, List.getElem_cons_succ]; try simp only [List.setIfInBounds_toArray, List.set_cons_zero, List.set_cons_succ]
                refine wpAnyH_take (i := 27) (oi := _) (v := ?vq33) rfl (by kernel_rfl) (by kernel_rfl) (by kernel_rfl) (fun _ _ _ h => h) (Or.inl ⟨by rfl, ?hq33⟩) (by assumption) ?rq33
                case hq33 => (intro w hSw; go_simp; try with_reducible rfl)
                try dsimp only [Act.put, List.getElem_toArray, List.getElem_cons_zero, List.getElem_cons_succ]; try simp only [List.setIfInBounds_toArray, List.set_cons_zero, List.set_cons_succ]
                refine wpAnyH_done (by kernel_rfl) ?_ _
                go_wp2
                go_ret
                exact ⟨ret_string (by rw [HSB.out]), then_ hbel hb⟩
              exact AllReadyH.nil
            exact AllReadyH.nil
          exact AllReadyH.nil
        exact AllReadyH.nil
      exact AllReadyH.nil
    exact AllReadyH.nil
  exact AllReadyH.nil
set_option maxRecDepth 100000 in
set_option maxHeartbeats 4000000 in
theorem rAdmW_any (x : Adm) (w : World) (hlen : (admB x).length + 256 ≤ 140737488355328) :
    Calls Try.prog 131 #[.agg x.arr] w (SaysT (admB x) w) := by
  obtain ⟨ak, at_, ab, af, ax, an, ⟨mn, mr, mz, mu⟩⟩ := x
  simp only [Adm.arr]
  have hl0 : (1) + (4 + at_.size) + (4 + ab.size) + (4 + af.size) + (4 + ax.size) + (8) + ((memB ⟨mn, mr, mz, mu⟩).length) + 256 ≤ 140737488355328 := by
    unfold admB at hlen; simp only [List.length_append, textB_length, be_length] at hlen; omega
  have hsb : bs (admB ⟨ak, at_, ab, af, ax, an, ⟨mn, mr, mz, mu⟩⟩) = bs ([lowB ak]) ++ bs (textB at_) ++ bs (textB ab) ++ bs (textB af) ++ bs (textB ax) ++ bs (be 8 an) ++ bs (memB ⟨mn, mr, mz, mu⟩) := by
    unfold admB; simp only [be1_low, bs_append, List.append_assoc, ByteArray.append_assoc]
  have h1 := fun (W : World) => refByte_any ak W
  have h2 := fun (W : World) => refText_any at_ W (by omega)
  have h3 := fun (W : World) => refText_any ab W (by omega)
  have h4 := fun (W : World) => refText_any af W (by omega)
  have h5 := fun (W : World) => refText_any ax W (by omega)
  have h6 := fun (W : World) => refInt_any an W
  have h7 := fun (W : World) => rMemW_any ⟨mn, mr, mz, mu⟩ W (by omega)
  unfold SaysT at *
  have s1 : (bs ([lowB ak])).size = 1 := by rw [bs_size]; rfl
  have s2 : (bs (textB at_)).size = 4 + at_.size := by rw [bs_size]; exact textB_length _
  have s3 : (bs (textB ab)).size = 4 + ab.size := by rw [bs_size]; exact textB_length _
  have s4 : (bs (textB af)).size = 4 + af.size := by rw [bs_size]; exact textB_length _
  have s5 : (bs (textB ax)).size = 4 + ax.size := by rw [bs_size]; exact textB_length _
  have s6 : (bs (be 8 an)).size = 8 := by rw [bs_size]; exact be_length _ _
  have s7 : (bs (memB ⟨mn, mr, mz, mu⟩)).size = (memB ⟨mn, mr, mz, mu⟩).length := by rw [bs_size]
  generalize bs ([lowB ak]) = u1 at h1 s1 hsb
  generalize bs (textB at_) = u2 at h2 s2 hsb
  generalize bs (textB ab) = u3 at h3 s3 hsb
  generalize bs (textB af) = u4 at h4 s4 hsb
  generalize bs (textB ax) = u5 at h5 s5 hsb
  generalize bs (be 8 an) = u6 at h6 s6 hsb
  generalize bs (memB ⟨mn, mr, mz, mu⟩) = u7 at h7 s7 hsb
  have HSB := Lib.hid hsb; clear hsb
  have z : u1.size + u2.size + u3.size + u4.size + u5.size + u6.size + u7.size ≤ 140737488355328 := by omega
  have q2 : ¬ 9223372036854775807 < u1.size + u2.size := by omega
  have q3 : ¬ 9223372036854775807 < u1.size + u2.size + u3.size := by omega
  have q4 : ¬ 9223372036854775807 < u1.size + u2.size + u3.size + u4.size := by omega
  have q5 : ¬ 9223372036854775807 < u1.size + u2.size + u3.size + u4.size + u5.size := by omega
  have q6 : ¬ 9223372036854775807 < u1.size + u2.size + u3.size + u4.size + u5.size + u6.size := by omega
  have q7 : ¬ 9223372036854775807 < u1.size + u2.size + u3.size + u4.size + u5.size + u6.size + u7.size := by omega
  have H1 := Lib.hid h1
  have H2 := Lib.hid h2
  have H3 := Lib.hid h3
  have H4 := Lib.hid h4
  have H5 := Lib.hid h5
  have H6 := Lib.hid h6
  have H7 := Lib.hid h7
  clear h1 s1 h2 s2 h3 s3 h4 s4 h5 s5 h6 s6 h7 s7 hl0 hlen
  have hr := range_new w #[.int .i64 ak, .string at_, .string ab, .string af, .string ax, .int .i64 an, .string mn, .string mr, .string mz, .bool mu] 87
  have C0 := Lib.hid (rangeAt_cell hr 0 rfl)
  have C1 := Lib.hid (rangeAt_cell hr 1 rfl)
  have C2 := Lib.hid (rangeAt_cell hr 2 rfl)
  have C3 := Lib.hid (rangeAt_cell hr 3 rfl)
  have C4 := Lib.hid (rangeAt_cell hr 4 rfl)
  have C5 := Lib.hid (rangeAt_cell hr 5 rfl)
  have C6 := Lib.hid (rangeAt_cell hr 6 rfl)
  have C7 := Lib.hid (rangeAt_cell hr 7 rfl)
  have C8 := Lib.hid (rangeAt_cell hr 8 rfl)
  have C9 := Lib.hid (rangeAt_cell hr 9 rfl)
  simp only [Nat.zero_add] at C0 C1 C2 C3 C4 C5 C6 C7 C8 C9
  have hbel := (Below.refl w.heap.size w).alloc (Nat.le_refl _) (.cells #[.int .i64 ak, .string at_, .string ab, .string af, .string ax, .int .i64 an, .string mn, .string mr, .string mz, .bool mu] 87)
  clear hr
  have hb : Below (w.alloc (.cells #[.int .i64 ak, .string at_, .string ab, .string af, .string ax, .int .i64 an, .string mn, .string mr, .string mz, .bool mu] 87)).heap.size (w.alloc (.cells #[.int .i64 ak, .string at_, .string ab, .string af, .string ax, .int .i64 an, .string mn, .string mr, .string mz, .bool mu] 87)) (w.alloc (.cells #[.int .i64 ak, .string at_, .string ab, .string af, .string ax, .int .i64 an, .string mn, .string mr, .string mz, .bool mu] 87)).drew := (Below.refl _ _).drew
  go_enter Try.func131, Try.ntmps131
  go_wp2
  refine wp_region_held_drew (S := (fun W => W.cell? ⟨w.heap.size, 0, none⟩ = some (.int .i64 ak) ∧ W.cell? ⟨w.heap.size, 1, none⟩ = some (.string at_) ∧ W.cell? ⟨w.heap.size, 2, none⟩ = some (.string ab) ∧ W.cell? ⟨w.heap.size, 3, none⟩ = some (.string af) ∧ W.cell? ⟨w.heap.size, 4, none⟩ = some (.string ax) ∧ W.cell? ⟨w.heap.size, 5, none⟩ = some (.int .i64 an) ∧ W.cell? ⟨w.heap.size, 6, none⟩ = some (.string mn) ∧ W.cell? ⟨w.heap.size, 7, none⟩ = some (.string mr) ∧ W.cell? ⟨w.heap.size, 8, none⟩ = some (.string mz) ∧ W.cell? ⟨w.heap.size, 9, none⟩ = some (.bool mu))) (by kernel_rfl) ⟨C0.out, C1.out, C2.out, C3.out, C4.out, C5.out, C6.out, C7.out, C8.out, C9.out⟩ (fun hHeld => ?_)
  refine wpAnyH_take (i := 0) (oi := _) (v := ?vq34) rfl (by kernel_rfl) (by kernel_rfl) (by kernel_rfl) (fun _ _ _ h => h) (Or.inl ⟨by rfl, ?hq34⟩) (by assumption) ?rq34
  case hq34 => (intro w hSw; go_simp; try with_reducible rfl)
  try dsimp only [Act.put, List.getElem_toArray, List.getElem_cons_zero, List.getElem_cons_succ]; try simp only [List.setIfInBounds_toArray, List.set_cons_zero, List.set_cons_succ]
  refine wpAnyH_take (i := 1) (oi := _) (v := ?vq35) rfl (by kernel_rfl) (by kernel_rfl) (by kernel_rfl) (fun _ _ _ h => h) (Or.inl ⟨by rfl, ?hq35⟩) (by assumption) ?rq35
  case hq35 => (intro w hSw; go_simp; try with_reducible rfl)
  try dsimp only [Act.put, List.getElem_toArray, List.getElem_cons_zero, List.getElem_cons_succ]; try simp only [List.setIfInBounds_toArray, List.set_cons_zero, List.set_cons_succ]
  refine wpAnyH_take (i := 3) (oi := _) (v := ?vq36) rfl (by kernel_rfl) (by kernel_rfl) (by kernel_rfl) (fun _ _ _ h => h) (Or.inl ⟨by rfl, ?hq36⟩) (by assumption) ?rq36
  case hq36 => (intro w hSw; go_simp; try with_reducible rfl)
  try dsimp only [Act.put, List.getElem_toArray, List.getElem_cons_zero, List.getElem_cons_succ]; try simp only [List.setIfInBounds_toArray, List.set_cons_zero, List.set_cons_succ]
  refine wpAnyH_take (i := 4) (oi := _) (v := ?vq37) rfl (by kernel_rfl) (by kernel_rfl) (by kernel_rfl) (fun _ _ _ h => h) (Or.inl ⟨by rfl, ?hq37⟩) (by assumption) ?rq37
  case hq37 => (intro w hSw; go_simp; try with_reducible rfl)
  try dsimp only [Act.put, List.getElem_toArray, List.getElem_cons_zero, List.getElem_cons_succ]; try simp only [List.setIfInBounds_toArray, List.set_cons_zero, List.set_cons_succ]
  refine wpAnyH_take (i := 7) (oi := _) (v := ?vq38) rfl (by kernel_rfl) (by kernel_rfl) (by kernel_rfl) (fun _ _ _ h => h) (Or.inl ⟨by rfl, ?hq38⟩) (by assumption) ?rq38
  case hq38 => (intro w hSw; go_simp; try with_reducible rfl)
  try dsimp only [Act.put, List.getElem_toArray, List.getElem_cons_zero, List.getElem_cons_succ]; try simp only [List.setIfInBounds_toArray, List.set_cons_zero, List.set_cons_succ]
  refine wpAnyH_take (i := 8) (oi := _) (v := ?vq39) rfl (by kernel_rfl) (by kernel_rfl) (by kernel_rfl) (fun _ _ _ h => h) (Or.inl ⟨by rfl, ?hq39⟩) (by assumption) ?rq39
  case hq39 => (intro w hSw; go_simp; try with_reducible rfl)
  try dsimp only [Act.put, List.getElem_toArray, List.getElem_cons_zero, List.getElem_cons_succ]; try simp only [List.setIfInBounds_toArray, List.set_cons_zero, List.set_cons_succ]
  refine wpAnyH_take (i := 11) (oi := _) (v := ?vq40) rfl (by kernel_rfl) (by kernel_rfl) (by kernel_rfl) (fun _ _ _ h => h) (Or.inl ⟨by rfl, ?hq40⟩) (by assumption) ?rq40
  case hq40 => (intro w hSw; go_simp; try with_reducible rfl)
  try dsimp only [Act.put, List.getElem_toArray, List.getElem_cons_zero, List.getElem_cons_succ]; try simp only [List.setIfInBounds_toArray, List.set_cons_zero, List.set_cons_succ]
  refine wpAnyH_take (i := 12) (oi := _) (v := ?vq41) rfl (by kernel_rfl) (by kernel_rfl) (by kernel_rfl) (fun _ _ _ h => h) (Or.inl ⟨by rfl, ?hq41⟩) (by assumption) ?rq41
  case hq41 => (intro w hSw; go_simp; try with_reducible rfl)
  try dsimp only [Act.put, List.getElem_toArray, List.getElem_cons_zero, List.getElem_cons_succ]; try simp only [List.setIfInBounds_toArray, List.set_cons_zero, List.set_cons_succ]
  refine wpAnyH_take (i := 15) (oi := _) (v := ?vq42) rfl (by kernel_rfl) (by kernel_rfl) (by kernel_rfl) (fun _ _ _ h => h) (Or.inl ⟨by rfl, ?hq42⟩) (by assumption) ?rq42
  case hq42 => (intro w hSw; go_simp; try with_reducible rfl)
  try dsimp only [Act.put, List.getElem_toArray, List.getElem_cons_zero, List.getElem_cons_succ]; try simp only [List.setIfInBounds_toArray, List.set_cons_zero, List.set_cons_succ]
  refine wpAnyH_take (i := 16) (oi := _) (v := ?vq43) rfl (by kernel_rfl) (by kernel_rfl) (by kernel_rfl) (fun _ _ _ h => h) (Or.inl ⟨by rfl, ?hq43⟩) (by assumption) ?rq43
  case hq43 => (intro w hSw; go_simp; try with_reducible rfl)
  try dsimp only [Act.put, List.getElem_toArray, List.getElem_cons_zero, List.getElem_cons_succ]; try simp only [List.setIfInBounds_toArray, List.set_cons_zero, List.set_cons_succ]
  refine wpAnyH_take (i := 19) (oi := _) (v := ?vq44) rfl (by kernel_rfl) (by kernel_rfl) (by kernel_rfl) (fun _ _ _ h => h) (Or.inl ⟨by rfl, ?hq44⟩) (by assumption) ?rq44
  case hq44 => (intro w hSw; go_simp; try with_reducible rfl)
  try dsimp only [Act.put, List.getElem_toArray, List.getElem_cons_zero, List.getElem_cons_succ]; try simp only [List.setIfInBounds_toArray, List.set_cons_zero, List.set_cons_succ]
  refine wpAnyH_take (i := 20) (oi := _) (v := ?vq45) rfl (by kernel_rfl) (by kernel_rfl) (by kernel_rfl) (fun _ _ _ h => h) (Or.inl ⟨by rfl, ?hq45⟩) (by assumption) ?rq45
  case hq45 => (intro w hSw; go_simp; try with_reducible rfl)
  try dsimp only [Act.put, List.getElem_toArray, List.getElem_cons_zero, List.getElem_cons_succ]; try simp only [List.setIfInBounds_toArray, List.set_cons_zero, List.set_cons_succ]
  refine wpAnyH_take (i := 23) (oi := _) (v := ?vq46) rfl (by kernel_rfl) (by kernel_rfl) (by kernel_rfl) (fun _ _ _ h => h) (Or.inl ⟨by rfl, ?hq46⟩) (by assumption) ?rq46
  case hq46 => (intro w hSw; go_simp; try with_reducible rfl)
  try dsimp only [Act.put, List.getElem_toArray, List.getElem_cons_zero, List.getElem_cons_succ]; try simp only [List.setIfInBounds_toArray, List.set_cons_zero, List.set_cons_succ]
  refine wpAnyH_take (i := 24) (oi := _) (v := ?vq47) rfl (by kernel_rfl) (by kernel_rfl) (by kernel_rfl) (fun _ _ _ h => h) (Or.inl ⟨by rfl, ?hq47⟩) (by assumption) ?rq47
  case hq47 => (intro w hSw; go_simp; try with_reducible rfl)
  try dsimp only [Act.put, List.getElem_toArray, List.getElem_cons_zero, List.getElem_cons_succ]; try simp only [List.setIfInBounds_toArray, List.set_cons_zero, List.set_cons_succ]
  refine wpAnyH_ready (rs := [2]) (by kernel_rfl) (by simp) ?_
  refine AllReadyH.cons (o := _) rfl (fun K hK => ?_) ?_
  · rw [if_pos (by rfl)]
    go_simp
    refine (H1.out _).mono ?_
    rintro e wx ⟨rfl, hbx⟩
    have hb := then_ hb hbx
    clear hbx
    go_wp2_with fail
    refine hK.out _ _ ⟨cell_below hb C0.out, cell_below hb C1.out, cell_below hb C2.out, cell_below hb C3.out, cell_below hb C4.out, cell_below hb C5.out, cell_below hb C6.out, cell_below hb C7.out, cell_below hb C8.out, cell_below hb C9.out⟩ (fun hHeld => ?_)
    clear hK K
    try dsimp only [Act.put, List.getElem_toArray, List.getElem_cons_zero, List.getElem_cons_succ]; try simp only [List.setIfInBounds_toArray, List.set_cons_zero, List.set_cons_succ]
    refine wpAnyH_ready (rs := [5]) (by kernel_rfl) (by simp) ?_
    refine AllReadyH.cons (o := _) rfl (fun K hK => ?_) ?_
    · rw [if_pos (by rfl)]
      go_simp
      refine (H2.out _).mono ?_
      rintro e wx ⟨rfl, hbx⟩
      have hb := then_ hb hbx
      clear hbx
      go_wp2_with fail
      refine hK.out _ _ ⟨cell_below hb C0.out, cell_below hb C1.out, cell_below hb C2.out, cell_below hb C3.out, cell_below hb C4.out, cell_below hb C5.out, cell_below hb C6.out, cell_below hb C7.out, cell_below hb C8.out, cell_below hb C9.out⟩ (fun hHeld => ?_)
      clear hK K
      try dsimp only [Act.put, List.getElem_toArray, List.getElem_cons_zero, List.getElem_cons_succ]; try simp only [List.setIfInBounds_toArray, List.set_cons_zero, List.set_cons_succ]
      refine wpAnyH_take (i := 6) (oi := _) (v := ?vq48) rfl (by kernel_rfl) (by kernel_rfl) (by kernel_rfl) (fun _ _ _ h => h) (Or.inl ⟨by rfl, ?hq48⟩) (by assumption) ?rq48
      case hq48 => (intro w hSw; go_simp; try with_reducible rfl)
      try dsimp only [Act.put, List.getElem_toArray, List.getElem_cons_zero, List.getElem_cons_succ]; try simp only [List.setIfInBounds_toArray, List.set_cons_zero, List.set_cons_succ]
      refine wpAnyH_ready (rs := [9]) (by kernel_rfl) (by simp) ?_
      refine AllReadyH.cons (o := _) rfl (fun K hK => ?_) ?_
      · rw [if_pos (by rfl)]
        go_simp
        refine (H3.out _).mono ?_
        rintro e wx ⟨rfl, hbx⟩
        have hb := then_ hb hbx
        clear hbx
        go_wp2_with fail
        refine hK.out _ _ ⟨cell_below hb C0.out, cell_below hb C1.out, cell_below hb C2.out, cell_below hb C3.out, cell_below hb C4.out, cell_below hb C5.out, cell_below hb C6.out, cell_below hb C7.out, cell_below hb C8.out, cell_below hb C9.out⟩ (fun hHeld => ?_)
        clear hK K
        try dsimp only [Act.put, List.getElem_toArray, List.getElem_cons_zero, List.getElem_cons_succ]; try simp only [List.setIfInBounds_toArray, List.set_cons_zero, List.set_cons_succ]
        refine wpAnyH_take (i := 10) (oi := _) (v := ?vq49) rfl (by kernel_rfl) (by kernel_rfl) (by kernel_rfl) (fun _ _ _ h => h) (Or.inl ⟨by rfl, ?hq49⟩) (by assumption) ?rq49
        case hq49 => (intro w hSw; go_simp; try with_reducible rfl)
        try dsimp only [Act.put, List.getElem_toArray, List.getElem_cons_zero, List.getElem_cons_succ]; try simp only [List.setIfInBounds_toArray, List.set_cons_zero, List.set_cons_succ]
        refine wpAnyH_ready (rs := [13]) (by kernel_rfl) (by simp) ?_
        refine AllReadyH.cons (o := _) rfl (fun K hK => ?_) ?_
        · rw [if_pos (by rfl)]
          go_simp
          refine (H4.out _).mono ?_
          rintro e wx ⟨rfl, hbx⟩
          have hb := then_ hb hbx
          clear hbx
          go_wp2_with fail
          refine hK.out _ _ ⟨cell_below hb C0.out, cell_below hb C1.out, cell_below hb C2.out, cell_below hb C3.out, cell_below hb C4.out, cell_below hb C5.out, cell_below hb C6.out, cell_below hb C7.out, cell_below hb C8.out, cell_below hb C9.out⟩ (fun hHeld => ?_)
          clear hK K
          try dsimp only [Act.put, List.getElem_toArray, List.getElem_cons_zero, List.getElem_cons_succ]; try simp only [List.setIfInBounds_toArray, List.set_cons_zero, List.set_cons_succ]
          refine wpAnyH_take (i := 14) (oi := _) (v := ?vq50) rfl (by kernel_rfl) (by kernel_rfl) (by kernel_rfl) (fun _ _ _ h => h) (Or.inl ⟨by rfl, ?hq50⟩) (by assumption) ?rq50
          case hq50 => (intro w hSw; go_simp; try with_reducible rfl)
          try dsimp only [Act.put, List.getElem_toArray, List.getElem_cons_zero, List.getElem_cons_succ]; try simp only [List.setIfInBounds_toArray, List.set_cons_zero, List.set_cons_succ]
          refine wpAnyH_ready (rs := [17]) (by kernel_rfl) (by simp) ?_
          refine AllReadyH.cons (o := _) rfl (fun K hK => ?_) ?_
          · rw [if_pos (by rfl)]
            go_simp
            refine (H5.out _).mono ?_
            rintro e wx ⟨rfl, hbx⟩
            have hb := then_ hb hbx
            clear hbx
            go_wp2_with fail
            refine hK.out _ _ ⟨cell_below hb C0.out, cell_below hb C1.out, cell_below hb C2.out, cell_below hb C3.out, cell_below hb C4.out, cell_below hb C5.out, cell_below hb C6.out, cell_below hb C7.out, cell_below hb C8.out, cell_below hb C9.out⟩ (fun hHeld => ?_)
            clear hK K
            try dsimp only [Act.put, List.getElem_toArray, List.getElem_cons_zero, List.getElem_cons_succ]; try simp only [List.setIfInBounds_toArray, List.set_cons_zero, List.set_cons_succ]
            refine wpAnyH_take (i := 18) (oi := _) (v := ?vq51) rfl (by kernel_rfl) (by kernel_rfl) (by kernel_rfl) (fun _ _ _ h => h) (Or.inl ⟨by rfl, ?hq51⟩) (by assumption) ?rq51
            case hq51 => (intro w hSw; go_simp; try with_reducible rfl)
            try dsimp only [Act.put, List.getElem_toArray, List.getElem_cons_zero, List.getElem_cons_succ]; try simp only [List.setIfInBounds_toArray, List.set_cons_zero, List.set_cons_succ]
            refine wpAnyH_ready (rs := [21]) (by kernel_rfl) (by simp) ?_
            refine AllReadyH.cons (o := _) rfl (fun K hK => ?_) ?_
            · rw [if_pos (by rfl)]
              go_simp
              refine (H6.out _).mono ?_
              rintro e wx ⟨rfl, hbx⟩
              have hb := then_ hb hbx
              clear hbx
              go_wp2_with fail
              refine hK.out _ _ ⟨cell_below hb C0.out, cell_below hb C1.out, cell_below hb C2.out, cell_below hb C3.out, cell_below hb C4.out, cell_below hb C5.out, cell_below hb C6.out, cell_below hb C7.out, cell_below hb C8.out, cell_below hb C9.out⟩ (fun hHeld => ?_)
              clear hK K
              try dsimp only [Act.put, List.getElem_toArray, List.getElem_cons_zero, List.getElem_cons_succ]; try simp only [List.setIfInBounds_toArray, List.set_cons_zero, List.set_cons_succ]
              refine wpAnyH_take (i := 22) (oi := _) (v := ?vq52) rfl (by kernel_rfl) (by kernel_rfl) (by kernel_rfl) (fun _ _ _ h => h) (Or.inl ⟨by rfl, ?hq52⟩) (by assumption) ?rq52
              case hq52 => (intro w hSw; go_simp; try with_reducible rfl)
              try dsimp only [Act.put, List.getElem_toArray, List.getElem_cons_zero, List.getElem_cons_succ]; try simp only [List.setIfInBounds_toArray, List.set_cons_zero, List.set_cons_succ]
              refine wpAnyH_ready (rs := [25]) (by kernel_rfl) (by simp) ?_
              refine AllReadyH.cons (o := _) rfl (fun K hK => ?_) ?_
              · rw [if_pos (by rfl)]
                go_simp
                refine (H7.out _).mono ?_
                rintro e wx ⟨rfl, hbx⟩
                have hb := then_ hb hbx
                clear hbx
                go_wp2_with fail
                refine hK.out _ _ ⟨cell_below hb C0.out, cell_below hb C1.out, cell_below hb C2.out, cell_below hb C3.out, cell_below hb C4.out, cell_below hb C5.out, cell_below hb C6.out, cell_below hb C7.out, cell_below hb C8.out, cell_below hb C9.out⟩ (fun hHeld => ?_)
                clear hK K
                try dsimp only [Act.put, List.getElem_toArray, List.getElem_cons_zero, List.getElem_cons_succ]; try simp only [List.setIfInBounds_toArray, List.set_cons_zero, List.set_cons_succ]
                refine wpAnyH_take (i := 26) (oi := _) (v := ?vq53) rfl (by kernel_rfl) (by kernel_rfl) (by kernel_rfl) (fun _ _ _ h => h) (Or.inl ⟨by rfl, ?hq53⟩) (by assumption) ?rq53
                case hq53 => (intro w hSw; go_simp; try with_reducible rfl)
                try dsimp only [Act.put, List.getElem_toArray, List.getElem_cons_zero, List.getElem_cons_succ]; try simp only [List.setIfInBounds_toArray, List.set_cons_zero, List.set_cons_succ]
                refine wpAnyH_take (i := 27) (oi := _) (v := ?vq54) rfl (by kernel_rfl) (by kernel_rfl) (by kernel_rfl) (fun _ _ _ h => h) (Or.inl ⟨by rfl, ?hq54⟩) (by assumption) ?rq54
                case hq54 => (intro w hSw; go_simp; try with_reducible rfl)
                try dsimp only [Act.put, List.getElem_toArray, List.getElem_cons_zero, List.getElem_cons_succ]; try simp only [List.setIfInBounds_toArray, List.set_cons_zero, List.set_cons_succ]
                refine wpAnyH_done (by kernel_rfl) ?_ _
                go_wp2
                go_ret
                exact ⟨ret_string (by rw [HSB.out]), then_ hbel hb⟩
              exact AllReadyH.nil
            exact AllReadyH.nil
          exact AllReadyH.nil
        exact AllReadyH.nil
      exact AllReadyH.nil
    exact AllReadyH.nil
  exact AllReadyH.nil
set_option maxRecDepth 100000 in
set_option maxHeartbeats 8000000 in
theorem rEvW_any (x : Ev) (w : World) (hok : x.call.ctx.ok w) (hlen : (evB x).length + 512 ≤ 140737488355328) :
    Calls Try.prog 94 #[.agg x.arr] w (SaysT (evB x) w) := by
  have hl2 : (headB x).length + (restB x).length + 512 ≤ 140737488355328 := by unfold evB at hlen; rw [List.length_append] at hlen; exact hlen
  have hev : bs (evB x) = bs (headB x) ++ bs (restB x) := by unfold evB; rw [bs_append]
  have hc1 := fun (W : World) (hW : Below w.heap.size w W) => rCalW_any x.call W (hok.below hW)
  have ha1 := fun (W : World) => rAdmW_any x.adm W
  have hR1 : x.kind = 1 → restB x = calB x.call := fun h => by unfold restB; rw [if_pos h]
  have hR2 : ¬ x.kind = 1 → x.kind = 14 → restB x = admB x.adm := fun h h2 => by unfold restB; rw [if_neg h, if_pos h2]
  have hR3 : ¬ x.kind = 1 → ¬ x.kind = 14 → restB x = [] := fun h h2 => by unfold restB; rw [if_neg h, if_neg h2]
  clear hlen hok
  have hlen : (headB x).length + 256 ≤ 140737488355328 := by omega
  unfold SaysT at *
  rw [hev]
  clear hev
  generalize restB x = R at hl2 hR1 hR2 hR3 ⊢
  obtain ⟨k, nd, to, ln, n, ⟨ck, ct, cb, cy, cw, cx, ctm⟩, ⟨ak, at_, ab, af, ax, an, ⟨mn, mr, mz, mu⟩⟩⟩ := x
  simp only [Ev.arr, Cal.arr, Adm.arr] at *
  have hl0 : (1) + (4 + nd.size) + (4 + to.size) + (4 + ln.size) + (8) + 256 ≤ 140737488355328 := by
    clear hl2; unfold headB at hlen; simp only [List.length_append, textB_length, be_length] at hlen; omega
  have hl3 : (headB ⟨k, nd, to, ln, n, ⟨ck, ct, cb, cy, cw, cx, ctm⟩, ⟨ak, at_, ab, af, ax, an, ⟨mn, mr, mz, mu⟩⟩⟩).length = 1 + (4 + nd.size) + (4 + to.size) + (4 + ln.size) + 8 := by unfold headB; simp only [List.length_append, textB_length, be_length]; omega
  rw [hl3] at hl2; clear hl3
  have hsb : bs (headB ⟨k, nd, to, ln, n, ⟨ck, ct, cb, cy, cw, cx, ctm⟩, ⟨ak, at_, ab, af, ax, an, ⟨mn, mr, mz, mu⟩⟩⟩) = bs ([lowB k]) ++ bs (textB nd) ++ bs (textB to) ++ bs (textB ln) ++ bs (be 8 n) := by
    unfold headB; simp only [be1_low, bs_append, List.append_assoc, ByteArray.append_assoc]
  have h1 := fun (W : World) => refByte_any k W
  have h2 := fun (W : World) => refText_any nd W (by omega)
  have h3 := fun (W : World) => refText_any to W (by omega)
  have h4 := fun (W : World) => refText_any ln W (by omega)
  have h5 := fun (W : World) => refInt_any n W
  have s1 : (bs ([lowB k])).size = 1 := by rw [bs_size]; rfl
  have s2 : (bs (textB nd)).size = 4 + nd.size := by rw [bs_size]; exact textB_length _
  have s3 : (bs (textB to)).size = 4 + to.size := by rw [bs_size]; exact textB_length _
  have s4 : (bs (textB ln)).size = 4 + ln.size := by rw [bs_size]; exact textB_length _
  have s5 : (bs (be 8 n)).size = 8 := by rw [bs_size]; exact be_length _ _
  generalize bs ([lowB k]) = u1 at h1 s1 hsb
  generalize bs (textB nd) = u2 at h2 s2 hsb
  generalize bs (textB to) = u3 at h3 s3 hsb
  generalize bs (textB ln) = u4 at h4 s4 hsb
  generalize bs (be 8 n) = u5 at h5 s5 hsb
  have HSB := Lib.hid hsb; clear hsb
  rw [HSB.out]
  have hl4 : u1.size + u2.size + u3.size + u4.size + u5.size + R.length + 256 ≤ 140737488355328 := by omega
  clear hl2 HSB
  have hq9 : ∀ m : Nat, m = R.length → ¬ 9223372036854775807 < u1.size + u2.size + u3.size + u4.size + u5.size + m := by intro m hm; omega
  have hrl : R.length + 256 ≤ 140737488355328 := by omega
  have HQ9 := Lib.hid hq9; have HRL := Lib.hid hrl; clear hq9 hrl hl4
  generalize cx.v = cv at hc1 ⊢
  have HC := Lib.hid hc1; have HA := Lib.hid ha1; have HR1 := Lib.hid hR1; have HR2 := Lib.hid hR2; have HR3 := Lib.hid hR3; clear hc1 ha1 hR1 hR2 hR3
  have z : u1.size + u2.size + u3.size + u4.size + u5.size ≤ 140737488355328 := by omega
  have q2 : ¬ 9223372036854775807 < u1.size + u2.size := by omega
  have q3 : ¬ 9223372036854775807 < u1.size + u2.size + u3.size := by omega
  have q4 : ¬ 9223372036854775807 < u1.size + u2.size + u3.size + u4.size := by omega
  have q5 : ¬ 9223372036854775807 < u1.size + u2.size + u3.size + u4.size + u5.size := by omega
  have H1 := Lib.hid h1
  have H2 := Lib.hid h2
  have H3 := Lib.hid h3
  have H4 := Lib.hid h4
  have H5 := Lib.hid h5
  clear h1 s1 h2 s2 h3 s3 h4 s4 h5 s5 hl0 hlen
  have hr := range_new w #[.int .i64 k, .string nd, .string to, .string ln, .int .i64 n, .int .i64 ck, .string ct, .string cb, .string cy, .string cw, cv, .int .i64 ctm, .int .i64 ak, .string at_, .string ab, .string af, .string ax, .int .i64 an, .string mn, .string mr, .string mz, .bool mu] 89
  have C5 := Lib.hid (rangeAt_cell hr 5 rfl)
  have C6 := Lib.hid (rangeAt_cell hr 6 rfl)
  have C7 := Lib.hid (rangeAt_cell hr 7 rfl)
  have C8 := Lib.hid (rangeAt_cell hr 8 rfl)
  have C9 := Lib.hid (rangeAt_cell hr 9 rfl)
  have C10 := Lib.hid (rangeAt_cell hr 10 rfl)
  have C11 := Lib.hid (rangeAt_cell hr 11 rfl)
  have C12 := Lib.hid (rangeAt_cell hr 12 rfl)
  have C13 := Lib.hid (rangeAt_cell hr 13 rfl)
  have C14 := Lib.hid (rangeAt_cell hr 14 rfl)
  have C15 := Lib.hid (rangeAt_cell hr 15 rfl)
  have C16 := Lib.hid (rangeAt_cell hr 16 rfl)
  have C17 := Lib.hid (rangeAt_cell hr 17 rfl)
  have C18 := Lib.hid (rangeAt_cell hr 18 rfl)
  have C19 := Lib.hid (rangeAt_cell hr 19 rfl)
  have C20 := Lib.hid (rangeAt_cell hr 20 rfl)
  have C21 := Lib.hid (rangeAt_cell hr 21 rfl)
  simp only [Nat.zero_add] at C5 C6 C7 C8 C9 C10 C11 C12 C13 C14 C15 C16 C17 C18 C19 C20 C21
  have C0 := Lib.hid (rangeAt_cell hr 0 rfl)
  have C1 := Lib.hid (rangeAt_cell hr 1 rfl)
  have C2 := Lib.hid (rangeAt_cell hr 2 rfl)
  have C3 := Lib.hid (rangeAt_cell hr 3 rfl)
  have C4 := Lib.hid (rangeAt_cell hr 4 rfl)
  simp only [Nat.zero_add] at C0 C1 C2 C3 C4
  have hbel := (Below.refl w.heap.size w).alloc (Nat.le_refl _) (.cells #[.int .i64 k, .string nd, .string to, .string ln, .int .i64 n, .int .i64 ck, .string ct, .string cb, .string cy, .string cw, cv, .int .i64 ctm, .int .i64 ak, .string at_, .string ab, .string af, .string ax, .int .i64 an, .string mn, .string mr, .string mz, .bool mu] 89)
  clear hr
  have hb : Below (w.alloc (.cells #[.int .i64 k, .string nd, .string to, .string ln, .int .i64 n, .int .i64 ck, .string ct, .string cb, .string cy, .string cw, cv, .int .i64 ctm, .int .i64 ak, .string at_, .string ab, .string af, .string ax, .int .i64 an, .string mn, .string mr, .string mz, .bool mu] 89)).heap.size (w.alloc (.cells #[.int .i64 k, .string nd, .string to, .string ln, .int .i64 n, .int .i64 ck, .string ct, .string cb, .string cy, .string cw, cv, .int .i64 ctm, .int .i64 ak, .string at_, .string ab, .string af, .string ax, .int .i64 an, .string mn, .string mr, .string mz, .bool mu] 89)) (w.alloc (.cells #[.int .i64 k, .string nd, .string to, .string ln, .int .i64 n, .int .i64 ck, .string ct, .string cb, .string cy, .string cw, cv, .int .i64 ctm, .int .i64 ak, .string at_, .string ab, .string af, .string ax, .int .i64 an, .string mn, .string mr, .string mz, .bool mu] 89)).drew := (Below.refl _ _).drew
  go_enter Try.func94, Try.ntmps94
  go_wp2
  refine wp_region_held_drew (S := (fun W => W.cell? ⟨w.heap.size, 0, none⟩ = some (.int .i64 k) ∧ W.cell? ⟨w.heap.size, 1, none⟩ = some (.string nd) ∧ W.cell? ⟨w.heap.size, 2, none⟩ = some (.string to) ∧ W.cell? ⟨w.heap.size, 3, none⟩ = some (.string ln) ∧ W.cell? ⟨w.heap.size, 4, none⟩ = some (.int .i64 n))) (by kernel_rfl) ⟨C0.out, C1.out, C2.out, C3.out, C4.out⟩ (fun hHeld => ?_)
  refine wpAnyH_take (i := 0) (oi := _) (v := ?vq55) rfl (by kernel_rfl) (by kernel_rfl) (by kernel_rfl) (fun _ _ _ h => h) (Or.inl ⟨by rfl, ?hq55⟩) (by assumption) ?rq55
  case hq55 => (intro w hSw; go_simp; try with_reducible rfl)
  try dsimp only [Act.put, List.getElem_toArray, List.getElem_cons_zero, List.getElem_cons_succ]; try simp only [List.setIfInBounds_toArray, List.set_cons_zero, List.set_cons_succ]
  refine wpAnyH_take (i := 1) (oi := _) (v := ?vq56) rfl (by kernel_rfl) (by kernel_rfl) (by kernel_rfl) (fun _ _ _ h => h) (Or.inl ⟨by rfl, ?hq56⟩) (by assumption) ?rq56
  case hq56 => (intro w hSw; go_simp; try with_reducible rfl)
  try dsimp only [Act.put, List.getElem_toArray, List.getElem_cons_zero, List.getElem_cons_succ]; try simp only [List.setIfInBounds_toArray, List.set_cons_zero, List.set_cons_succ]
  refine wpAnyH_take (i := 3) (oi := _) (v := ?vq57) rfl (by kernel_rfl) (by kernel_rfl) (by kernel_rfl) (fun _ _ _ h => h) (Or.inl ⟨by rfl, ?hq57⟩) (by assumption) ?rq57
  case hq57 => (intro w hSw; go_simp; try with_reducible rfl)
  try dsimp only [Act.put, List.getElem_toArray, List.getElem_cons_zero, List.getElem_cons_succ]; try simp only [List.setIfInBounds_toArray, List.set_cons_zero, List.set_cons_succ]
  refine wpAnyH_take (i := 4) (oi := _) (v := ?vq58) rfl (by kernel_rfl) (by kernel_rfl) (by kernel_rfl) (fun _ _ _ h => h) (Or.inl ⟨by rfl, ?hq58⟩) (by assumption) ?rq58
  case hq58 => (intro w hSw; go_simp; try with_reducible rfl)
  try dsimp only [Act.put, List.getElem_toArray, List.getElem_cons_zero, List.getElem_cons_succ]; try simp only [List.setIfInBounds_toArray, List.set_cons_zero, List.set_cons_succ]
  refine wpAnyH_take (i := 7) (oi := _) (v := ?vq59) rfl (by kernel_rfl) (by kernel_rfl) (by kernel_rfl) (fun _ _ _ h => h) (Or.inl ⟨by rfl, ?hq59⟩) (by assumption) ?rq59
  case hq59 => (intro w hSw; go_simp; try with_reducible rfl)
  try dsimp only [Act.put, List.getElem_toArray, List.getElem_cons_zero, List.getElem_cons_succ]; try simp only [List.setIfInBounds_toArray, List.set_cons_zero, List.set_cons_succ]
  refine wpAnyH_take (i := 8) (oi := _) (v := ?vq60) rfl (by kernel_rfl) (by kernel_rfl) (by kernel_rfl) (fun _ _ _ h => h) (Or.inl ⟨by rfl, ?hq60⟩) (by assumption) ?rq60
  case hq60 => (intro w hSw; go_simp; try with_reducible rfl)
  try dsimp only [Act.put, List.getElem_toArray, List.getElem_cons_zero, List.getElem_cons_succ]; try simp only [List.setIfInBounds_toArray, List.set_cons_zero, List.set_cons_succ]
  refine wpAnyH_take (i := 11) (oi := _) (v := ?vq61) rfl (by kernel_rfl) (by kernel_rfl) (by kernel_rfl) (fun _ _ _ h => h) (Or.inl ⟨by rfl, ?hq61⟩) (by assumption) ?rq61
  case hq61 => (intro w hSw; go_simp; try with_reducible rfl)
  try dsimp only [Act.put, List.getElem_toArray, List.getElem_cons_zero, List.getElem_cons_succ]; try simp only [List.setIfInBounds_toArray, List.set_cons_zero, List.set_cons_succ]
  refine wpAnyH_take (i := 12) (oi := _) (v := ?vq62) rfl (by kernel_rfl) (by kernel_rfl) (by kernel_rfl) (fun _ _ _ h => h) (Or.inl ⟨by rfl, ?hq62⟩) (by assumption) ?rq62
  case hq62 => (intro w hSw; go_simp; try with_reducible rfl)
  try dsimp only [Act.put, List.getElem_toArray, List.getElem_cons_zero, List.getElem_cons_succ]; try simp only [List.setIfInBounds_toArray, List.set_cons_zero, List.set_cons_succ]
  refine wpAnyH_take (i := 15) (oi := _) (v := ?vq63) rfl (by kernel_rfl) (by kernel_rfl) (by kernel_rfl) (fun _ _ _ h => h) (Or.inl ⟨by rfl, ?hq63⟩) (by assumption) ?rq63
  case hq63 => (intro w hSw; go_simp; try with_reducible rfl)
  try dsimp only [Act.put, List.getElem_toArray, List.getElem_cons_zero, List.getElem_cons_succ]; try simp only [List.setIfInBounds_toArray, List.set_cons_zero, List.set_cons_succ]
  refine wpAnyH_take (i := 16) (oi := _) (v := ?vq64) rfl (by kernel_rfl) (by kernel_rfl) (by kernel_rfl) (fun _ _ _ h => h) (Or.inl ⟨by rfl, ?hq64⟩) (by assumption) ?rq64
  case hq64 => (intro w hSw; go_simp; try with_reducible rfl)
  try dsimp only [Act.put, List.getElem_toArray, List.getElem_cons_zero, List.getElem_cons_succ]; try simp only [List.setIfInBounds_toArray, List.set_cons_zero, List.set_cons_succ]
  refine wpAnyH_ready (rs := [2]) (by kernel_rfl) (by simp) ?_
  refine AllReadyH.cons (o := _) rfl (fun K hK => ?_) ?_
  · rw [if_pos (by rfl)]
    go_simp
    refine (H1.out _).mono ?_
    rintro e wx ⟨rfl, hbx⟩
    have hb := then_ hb hbx
    clear hbx
    go_wp2_with fail
    refine hK.out _ _ ⟨cell_below hb C0.out, cell_below hb C1.out, cell_below hb C2.out, cell_below hb C3.out, cell_below hb C4.out⟩ (fun hHeld => ?_)
    clear hK K
    try dsimp only [Act.put, List.getElem_toArray, List.getElem_cons_zero, List.getElem_cons_succ]; try simp only [List.setIfInBounds_toArray, List.set_cons_zero, List.set_cons_succ]
    refine wpAnyH_ready (rs := [5]) (by kernel_rfl) (by simp) ?_
    refine AllReadyH.cons (o := _) rfl (fun K hK => ?_) ?_
    · rw [if_pos (by rfl)]
      go_simp
      refine (H2.out _).mono ?_
      rintro e wx ⟨rfl, hbx⟩
      have hb := then_ hb hbx
      clear hbx
      go_wp2_with fail
      refine hK.out _ _ ⟨cell_below hb C0.out, cell_below hb C1.out, cell_below hb C2.out, cell_below hb C3.out, cell_below hb C4.out⟩ (fun hHeld => ?_)
      clear hK K
      try dsimp only [Act.put, List.getElem_toArray, List.getElem_cons_zero, List.getElem_cons_succ]; try simp only [List.setIfInBounds_toArray, List.set_cons_zero, List.set_cons_succ]
      refine wpAnyH_take (i := 6) (oi := _) (v := ?vq65) rfl (by kernel_rfl) (by kernel_rfl) (by kernel_rfl) (fun _ _ _ h => h) (Or.inl ⟨by rfl, ?hq65⟩) (by assumption) ?rq65
      case hq65 => (intro w hSw; go_simp; try with_reducible rfl)
      try dsimp only [Act.put, List.getElem_toArray, List.getElem_cons_zero, List.getElem_cons_succ]; try simp only [List.setIfInBounds_toArray, List.set_cons_zero, List.set_cons_succ]
      refine wpAnyH_ready (rs := [9]) (by kernel_rfl) (by simp) ?_
      refine AllReadyH.cons (o := _) rfl (fun K hK => ?_) ?_
      · rw [if_pos (by rfl)]
        go_simp
        refine (H3.out _).mono ?_
        rintro e wx ⟨rfl, hbx⟩
        have hb := then_ hb hbx
        clear hbx
        go_wp2_with fail
        refine hK.out _ _ ⟨cell_below hb C0.out, cell_below hb C1.out, cell_below hb C2.out, cell_below hb C3.out, cell_below hb C4.out⟩ (fun hHeld => ?_)
        clear hK K
        try dsimp only [Act.put, List.getElem_toArray, List.getElem_cons_zero, List.getElem_cons_succ]; try simp only [List.setIfInBounds_toArray, List.set_cons_zero, List.set_cons_succ]
        refine wpAnyH_take (i := 10) (oi := _) (v := ?vq66) rfl (by kernel_rfl) (by kernel_rfl) (by kernel_rfl) (fun _ _ _ h => h) (Or.inl ⟨by rfl, ?hq66⟩) (by assumption) ?rq66
        case hq66 => (intro w hSw; go_simp; try with_reducible rfl)
        try dsimp only [Act.put, List.getElem_toArray, List.getElem_cons_zero, List.getElem_cons_succ]; try simp only [List.setIfInBounds_toArray, List.set_cons_zero, List.set_cons_succ]
        refine wpAnyH_ready (rs := [13]) (by kernel_rfl) (by simp) ?_
        refine AllReadyH.cons (o := _) rfl (fun K hK => ?_) ?_
        · rw [if_pos (by rfl)]
          go_simp
          refine (H4.out _).mono ?_
          rintro e wx ⟨rfl, hbx⟩
          have hb := then_ hb hbx
          clear hbx
          go_wp2_with fail
          refine hK.out _ _ ⟨cell_below hb C0.out, cell_below hb C1.out, cell_below hb C2.out, cell_below hb C3.out, cell_below hb C4.out⟩ (fun hHeld => ?_)
          clear hK K
          try dsimp only [Act.put, List.getElem_toArray, List.getElem_cons_zero, List.getElem_cons_succ]; try simp only [List.setIfInBounds_toArray, List.set_cons_zero, List.set_cons_succ]
          refine wpAnyH_take (i := 14) (oi := _) (v := ?vq67) rfl (by kernel_rfl) (by kernel_rfl) (by kernel_rfl) (fun _ _ _ h => h) (Or.inl ⟨by rfl, ?hq67⟩) (by assumption) ?rq67
          case hq67 => (intro w hSw; go_simp; try with_reducible rfl)
          try dsimp only [Act.put, List.getElem_toArray, List.getElem_cons_zero, List.getElem_cons_succ]; try simp only [List.setIfInBounds_toArray, List.set_cons_zero, List.set_cons_succ]
          refine wpAnyH_ready (rs := [17]) (by kernel_rfl) (by simp) ?_
          refine AllReadyH.cons (o := _) rfl (fun K hK => ?_) ?_
          · rw [if_pos (by rfl)]
            go_simp
            refine (H5.out _).mono ?_
            rintro e wx ⟨rfl, hbx⟩
            have hb := then_ hb hbx
            clear hbx
            go_wp2_with fail
            refine hK.out _ _ ⟨cell_below hb C0.out, cell_below hb C1.out, cell_below hb C2.out, cell_below hb C3.out, cell_below hb C4.out⟩ (fun hHeld => ?_)
            clear hK K
            try dsimp only [Act.put, List.getElem_toArray, List.getElem_cons_zero, List.getElem_cons_succ]; try simp only [List.setIfInBounds_toArray, List.set_cons_zero, List.set_cons_succ]
            refine wpAnyH_take (i := 18) (oi := _) (v := ?vq68) rfl (by kernel_rfl) (by kernel_rfl) (by kernel_rfl) (fun _ _ _ h => h) (Or.inl ⟨by rfl, ?hq68⟩) (by assumption) ?rq68
            case hq68 => (intro w hSw; go_simp; try with_reducible rfl)
            try dsimp only [Act.put, List.getElem_toArray, List.getElem_cons_zero, List.getElem_cons_succ]; try simp only [List.setIfInBounds_toArray, List.set_cons_zero, List.set_cons_succ]
            refine wpAnyH_take (i := 19) (oi := _) (v := ?vq69) rfl (by kernel_rfl) (by kernel_rfl) (by kernel_rfl) (fun _ _ _ h => h) (Or.inl ⟨by rfl, ?hq69⟩) (by assumption) ?rq69
            case hq69 => (intro w hSw; go_simp; try with_reducible rfl)
            try dsimp only [Act.put, List.getElem_toArray, List.getElem_cons_zero, List.getElem_cons_succ]; try simp only [List.setIfInBounds_toArray, List.set_cons_zero, List.set_cons_succ]
            refine wpAnyH_done (by kernel_rfl) ?_ _
            have y0 := cell_below hb C0.out
            by_cases hk1 : k = 1
            · have hr := HR1.out hk1
              have hd1 : (k == 1) = true := by simp [hk1]
              clear hk1 HR1 HR2 HR3
              have hc := HC.out _ (below_alloc hb) (by rw [← hr]; exact HRL.out)
              have hq := HQ9.out (bs (calB ⟨ck, ct, cb, cy, cw, cx, ctm⟩)).size (by rw [bs_size, hr])
              have huc : bs R = bs (calB ⟨ck, ct, cb, cy, cw, cx, ctm⟩) := by rw [hr]
              generalize bs (calB ⟨ck, ct, cb, cy, cw, cx, ctm⟩) = uc at hc hq huc
              have HCC := Lib.hid hc; have HUC := Lib.hid huc; clear hc hr huc
              have y5 := cell_below hb C5.out
              have y6 := cell_below hb C6.out
              have y7 := cell_below hb C7.out
              have y8 := cell_below hb C8.out
              have y9 := cell_below hb C9.out
              have y10 := cell_below hb C10.out
              have y11 := cell_below hb C11.out
              go_wp2_with fail
              refine HCC.out.mono ?_
              clear y0 y5 y6 y7 y8 y9 y10 y11
              rintro e wz ⟨rfl, hbz⟩
              go_wp2
              go_ret
              exact ⟨ret_string (by rw [HUC.out]), then_ hbel (then_ hb hbz)⟩
            by_cases hk2 : k = 14
            · have hr := HR2.out hk1 hk2
              have hd1 : (k == 1) = false := by simp [hk1]
              have hd2 : (k == 14) = true := by simp [hk2]
              clear hk1 hk2 HR1 HR2 HR3
              have hc := HA.out wx (by rw [← hr]; exact HRL.out)
              have hq := HQ9.out (bs (admB ⟨ak, at_, ab, af, ax, an, ⟨mn, mr, mz, mu⟩⟩)).size (by rw [bs_size, hr])
              have huc : bs R = bs (admB ⟨ak, at_, ab, af, ax, an, ⟨mn, mr, mz, mu⟩⟩) := by rw [hr]
              generalize bs (admB ⟨ak, at_, ab, af, ax, an, ⟨mn, mr, mz, mu⟩⟩) = uc at hc hq huc
              have HCC := Lib.hid hc; have HUC := Lib.hid huc; clear hc hr huc
              have y12 := cell_below hb C12.out
              have y13 := cell_below hb C13.out
              have y14 := cell_below hb C14.out
              have y15 := cell_below hb C15.out
              have y16 := cell_below hb C16.out
              have y17 := cell_below hb C17.out
              have y18 := cell_below hb C18.out
              have y19 := cell_below hb C19.out
              have y20 := cell_below hb C20.out
              have y21 := cell_below hb C21.out
              go_wp2_with fail
              refine (HCC.out).mono ?_
              clear y0 y12 y13 y14 y15 y16 y17 y18 y19 y20 y21
              rintro e wz ⟨rfl, hbz⟩
              go_wp2
              go_ret
              exact ⟨ret_string (by rw [HUC.out]), then_ hbel (then_ hb hbz)⟩
            have hr := HR3.out hk1 hk2
            have hd1 : (k == 1) = false := by simp [hk1]
            have hd2 : (k == 14) = false := by simp [hk2]
            have HRR := Lib.hid hr
            clear hk1 hk2 HR1 HR2 HR3 hr
            go_wp2
            go_ret
            exact ⟨ret_string (by rw [HRR.out]; exact (bs_nil_app _).symm), then_ hbel hb⟩
          exact AllReadyH.nil
        exact AllReadyH.nil
      exact AllReadyH.nil
    exact AllReadyH.nil
  exact AllReadyH.nil
end Go.Proofs.Ytlmplibdfhamjaa
