/- An object as bytes, and its digest, by the document. -/
import Derived.Test.YtgmafnpkhmlnnaaCtxR
import Derived.Test.YtgmafnpkhmlnnaaObjW
import Derived.Test.YtgmafnpkhmlnnaaShaJ
attribute [local go_sem ↓] Go.wp_at_zero Go.wp_at_succ
namespace Go.Proofs.Ytgmafnpkhmlnnaa
open Go.RowKit Go.Mem Go.Num
set_option linter.unusedVariables false
set_option linter.unusedSimpArgs false

theorem be1_low (n : Int) : be 1 n = [lowB n] := by simp [be]
theorem sibB_bs (nd vl : ByteArray) (dn tm g : Int) : bs (textB nd ++ be 8 dn ++ textB vl ++ be 1 g ++ be 8 tm) = bs (textB nd) ++ bs (be 8 dn) ++ bs (textB vl) ++ bs [lowB g] ++ bs (be 8 tm) := by
  simp only [bs_append, be1_low]
set_option maxRecDepth 100000 in
set_option maxHeartbeats 4000000 in
theorem rSib_any (x : Sib) (w : World) (hlen : (sibB x).length + 64 ≤ 140737488355328) :
    Calls Try.prog 89 #[.agg x.arr] w (SaysT (sibB x) w) := by
  rw [sibB_length] at hlen
  obtain ⟨⟨nd, dn⟩, vl, gn, tm⟩ := x
  simp only at hlen
  simp only [Sib.arr]
  have hsb := sibB_bs nd vl dn tm (goneN gn)
  have HF : Hid (sibB ⟨⟨nd, dn⟩, vl, gn, tm⟩ = textB nd ++ be 8 dn ++ textB vl ++ be 1 (goneN gn) ++ be 8 tm) := Lib.hid rfl
  have h1 := fun W => refText_any nd W (by omega)
  have h2 := fun W => refInt_any dn W
  have h3 := fun W => refText_any vl W (by omega)
  have h5 := fun W => refInt_any tm W
  have h4 := fun W => refByte_any (goneN gn) W
  have s1 : (bs (textB nd)).size = 4 + nd.size := by rw [bs_size, textB_length]
  have s2 : (bs (be 8 dn)).size = 8 := by rw [bs_size, be_length]
  have s3 : (bs (textB vl)).size = 4 + vl.size := by rw [bs_size, textB_length]
  have s4 : (bs [lowB (goneN gn)]).size = 1 := by rw [bs_size]; rfl
  have s5 : (bs (be 8 tm)).size = 8 := by rw [bs_size, be_length]
  generalize bs (textB nd) = u1 at h1 s1 hsb
  generalize bs (be 8 dn) = u2 at h2 s2 hsb
  generalize bs (textB vl) = u3 at h3 s3 hsb
  generalize bs [lowB (goneN gn)] = u4 at h4 s4 hsb
  generalize bs (be 8 tm) = u5 at h5 s5 hsb
  have z : u1.size + u2.size + u3.size + u4.size + u5.size ≤ 140737488355328 := by omega
  have q1 : ¬ 9223372036854775807 < u1.size + u2.size := by omega
  have q2 : ¬ 9223372036854775807 < u1.size + u2.size + u3.size := by omega
  have q3 : ¬ 9223372036854775807 < u1.size + u2.size + u3.size + u4.size := by omega
  have q4 : ¬ 9223372036854775807 < u1.size + u2.size + u3.size + u4.size + u5.size := by omega
  have H1 := Lib.hid h1; have H2 := Lib.hid h2; have H3 := Lib.hid h3; have H4 := Lib.hid h4; have H5 := Lib.hid h5; have HSB := Lib.hid hsb
  clear h1 h2 h3 h4 h5 s1 s2 s3 s4 s5 hlen hsb
  have hr := range_new w #[.string nd, .int .i64 dn, .string vl, .bool gn, .int .i64 tm] 83
  have C0 := Lib.hid (rangeAt_cell hr 0 rfl); have C1 := Lib.hid (rangeAt_cell hr 1 rfl); have C2 := Lib.hid (rangeAt_cell hr 2 rfl); have C3 := Lib.hid (rangeAt_cell hr 3 rfl); have C4 := Lib.hid (rangeAt_cell hr 4 rfl)
  have hbel := (Below.refl w.heap.size w).alloc (Nat.le_refl _) (.cells #[.string nd, .int .i64 dn, .string vl, .bool gn, .int .i64 tm] 83)
  simp only [Nat.zero_add] at C0 C1 C2 C3 C4
  clear hr
  have c3 := C3.out
  cases gn
  · have hb : Below (w.alloc (.cells #[.string nd, .int .i64 dn, .string vl, .bool false, .int .i64 tm] 83)).heap.size (w.alloc (.cells #[.string nd, .int .i64 dn, .string vl, .bool false, .int .i64 tm] 83)) (w.alloc (.cells #[.string nd, .int .i64 dn, .string vl, .bool false, .int .i64 tm] 83)).drew := (Below.refl _ _).drew
    go_enter Try.func89, Try.ntmps89
    go_wp2
    clear c3
    refine wp_region_held_drew (S := (fun W => W.cell? ⟨w.heap.size, 0, none⟩ = some (.string nd) ∧ W.cell? ⟨w.heap.size, 1, none⟩ = some (.int .i64 dn) ∧ W.cell? ⟨w.heap.size, 2, none⟩ = some (.string vl) ∧ W.cell? ⟨w.heap.size, 4, none⟩ = some (.int .i64 tm))) (by kernel_rfl) ⟨C0.out, C1.out, C2.out, C4.out⟩ (fun hHeld => ?_)
    refine wpAnyH_take (i := 0) (oi := _) (v := ?vq1) rfl (by kernel_rfl) (by kernel_rfl) (by kernel_rfl) (fun _ _ _ h => h) (Or.inl ⟨by rfl, ?hq1⟩) (by assumption) ?rq1
    case hq1 => (intro w hSw; go_simp; try with_reducible rfl)
    try dsimp only [Act.put, List.getElem_toArray, List.getElem_cons_zero, List.getElem_cons_succ]; try simp only [List.setIfInBounds_toArray, List.set_cons_zero, List.set_cons_succ]
    refine wpAnyH_take (i := 1) (oi := _) (v := ?vq2) rfl (by kernel_rfl) (by kernel_rfl) (by kernel_rfl) (fun _ _ _ h => h) (Or.inl ⟨by rfl, ?hq2⟩) (by assumption) ?rq2
    case hq2 => (intro w hSw; go_simp; try with_reducible rfl)
    try dsimp only [Act.put, List.getElem_toArray, List.getElem_cons_zero, List.getElem_cons_succ]; try simp only [List.setIfInBounds_toArray, List.set_cons_zero, List.set_cons_succ]
    refine wpAnyH_take (i := 2) (oi := _) (v := ?vq3) rfl (by kernel_rfl) (by kernel_rfl) (by kernel_rfl) (fun _ _ _ h => h) (Or.inl ⟨by rfl, ?hq3⟩) (by assumption) ?rq3
    case hq3 => (intro w hSw; go_simp; try with_reducible rfl)
    try dsimp only [Act.put, List.getElem_toArray, List.getElem_cons_zero, List.getElem_cons_succ]; try simp only [List.setIfInBounds_toArray, List.set_cons_zero, List.set_cons_succ]
    refine wpAnyH_take (i := 4) (oi := _) (v := ?vq4) rfl (by kernel_rfl) (by kernel_rfl) (by kernel_rfl) (fun _ _ _ h => h) (Or.inl ⟨by rfl, ?hq4⟩) (by assumption) ?rq4
    case hq4 => (intro w hSw; go_simp; try with_reducible rfl)
    try dsimp only [Act.put, List.getElem_toArray, List.getElem_cons_zero, List.getElem_cons_succ]; try simp only [List.setIfInBounds_toArray, List.set_cons_zero, List.set_cons_succ]
    refine wpAnyH_take (i := 5) (oi := _) (v := ?vq5) rfl (by kernel_rfl) (by kernel_rfl) (by kernel_rfl) (fun _ _ _ h => h) (Or.inl ⟨by rfl, ?hq5⟩) (by assumption) ?rq5
    case hq5 => (intro w hSw; go_simp; try with_reducible rfl)
    try dsimp only [Act.put, List.getElem_toArray, List.getElem_cons_zero, List.getElem_cons_succ]; try simp only [List.setIfInBounds_toArray, List.set_cons_zero, List.set_cons_succ]
    refine wpAnyH_take (i := 6) (oi := _) (v := ?vq6) rfl (by kernel_rfl) (by kernel_rfl) (by kernel_rfl) (fun _ _ _ h => h) (Or.inl ⟨by rfl, ?hq6⟩) (by assumption) ?rq6
    case hq6 => (intro w hSw; go_simp; try with_reducible rfl)
    try dsimp only [Act.put, List.getElem_toArray, List.getElem_cons_zero, List.getElem_cons_succ]; try simp only [List.setIfInBounds_toArray, List.set_cons_zero, List.set_cons_succ]
    refine wpAnyH_take (i := 9) (oi := _) (v := ?vq7) rfl (by kernel_rfl) (by kernel_rfl) (by kernel_rfl) (fun _ _ _ h => h) (Or.inl ⟨by rfl, ?hq7⟩) (by assumption) ?rq7
    case hq7 => (intro w hSw; go_simp; try with_reducible rfl)
    try dsimp only [Act.put, List.getElem_toArray, List.getElem_cons_zero, List.getElem_cons_succ]; try simp only [List.setIfInBounds_toArray, List.set_cons_zero, List.set_cons_succ]
    refine wpAnyH_take (i := 10) (oi := _) (v := ?vq8) rfl (by kernel_rfl) (by kernel_rfl) (by kernel_rfl) (fun _ _ _ h => h) (Or.inl ⟨by rfl, ?hq8⟩) (by assumption) ?rq8
    case hq8 => (intro w hSw; go_simp; try with_reducible rfl)
    try dsimp only [Act.put, List.getElem_toArray, List.getElem_cons_zero, List.getElem_cons_succ]; try simp only [List.setIfInBounds_toArray, List.set_cons_zero, List.set_cons_succ]
    refine wpAnyH_take (i := 13) (oi := _) (v := ?vq9) rfl (by kernel_rfl) (by kernel_rfl) (by kernel_rfl) (fun _ _ _ h => h) (Or.inl ⟨by rfl, ?hq9⟩) (by assumption) ?rq9
    case hq9 => (intro w hSw; go_simp; try with_reducible rfl)
    try dsimp only [Act.put, List.getElem_toArray, List.getElem_cons_zero, List.getElem_cons_succ]; try simp only [List.setIfInBounds_toArray, List.set_cons_zero, List.set_cons_succ]
    refine wpAnyH_take (i := 16) (oi := _) (v := ?vq10) rfl (by kernel_rfl) (by kernel_rfl) (by kernel_rfl) (fun _ _ _ h => h) (Or.inl ⟨by rfl, ?hq10⟩) (by assumption) ?rq10
    case hq10 => (intro w hSw; go_simp; try with_reducible rfl)
    try dsimp only [Act.put, List.getElem_toArray, List.getElem_cons_zero, List.getElem_cons_succ]; try simp only [List.setIfInBounds_toArray, List.set_cons_zero, List.set_cons_succ]
    refine wpAnyH_take (i := 17) (oi := _) (v := ?vq11) rfl (by kernel_rfl) (by kernel_rfl) (by kernel_rfl) (fun _ _ _ h => h) (Or.inl ⟨by rfl, ?hq11⟩) (by assumption) ?rq11
    case hq11 => (intro w hSw; go_simp; try with_reducible rfl)
    try dsimp only [Act.put, List.getElem_toArray, List.getElem_cons_zero, List.getElem_cons_succ]; try simp only [List.setIfInBounds_toArray, List.set_cons_zero, List.set_cons_succ]
    refine wpAnyH_ready (rs := [3]) (by kernel_rfl) (by simp) ?_
    refine AllReadyH.cons (o := _) rfl (fun K hK => ?_) ?_
    · rw [if_pos (by rfl)]
      go_simp
      refine (H1.out _).mono ?_
      rintro e wx ⟨rfl, hbx⟩
      have hb := then_ hb hbx
      clear hbx
      go_wp2_with fail
      refine hK.out _ _ ⟨cell_below hb C0.out, cell_below hb C1.out, cell_below hb C2.out, cell_below hb C4.out⟩ (fun hHeld => ?_)
      clear hK K
      try dsimp only [Act.put, List.getElem_toArray, List.getElem_cons_zero, List.getElem_cons_succ]; try simp only [List.setIfInBounds_toArray, List.set_cons_zero, List.set_cons_succ]
      refine wpAnyH_ready (rs := [7]) (by kernel_rfl) (by simp) ?_
      refine AllReadyH.cons (o := _) rfl (fun K hK => ?_) ?_
      · rw [if_pos (by rfl)]
        go_simp
        refine (H2.out _).mono ?_
        rintro e wx ⟨rfl, hbx⟩
        have hb := then_ hb hbx
        clear hbx
        go_wp2_with fail
        refine hK.out _ _ ⟨cell_below hb C0.out, cell_below hb C1.out, cell_below hb C2.out, cell_below hb C4.out⟩ (fun hHeld => ?_)
        clear hK K
        try dsimp only [Act.put, List.getElem_toArray, List.getElem_cons_zero, List.getElem_cons_succ]; try simp only [List.setIfInBounds_toArray, List.set_cons_zero, List.set_cons_succ]
        refine wpAnyH_take (i := 8) (oi := _) (v := ?vq12) rfl (by kernel_rfl) (by kernel_rfl) (by kernel_rfl) (fun _ _ _ h => h) (Or.inl ⟨by rfl, ?hq12⟩) (by assumption) ?rq12
        case hq12 => (intro w hSw; go_simp; try with_reducible rfl)
        try dsimp only [Act.put, List.getElem_toArray, List.getElem_cons_zero, List.getElem_cons_succ]; try simp only [List.setIfInBounds_toArray, List.set_cons_zero, List.set_cons_succ]
        refine wpAnyH_ready (rs := [11]) (by kernel_rfl) (by simp) ?_
        refine AllReadyH.cons (o := _) rfl (fun K hK => ?_) ?_
        · rw [if_pos (by rfl)]
          go_simp
          refine (H3.out _).mono ?_
          rintro e wx ⟨rfl, hbx⟩
          have hb := then_ hb hbx
          clear hbx
          go_wp2_with fail
          refine hK.out _ _ ⟨cell_below hb C0.out, cell_below hb C1.out, cell_below hb C2.out, cell_below hb C4.out⟩ (fun hHeld => ?_)
          clear hK K
          try dsimp only [Act.put, List.getElem_toArray, List.getElem_cons_zero, List.getElem_cons_succ]; try simp only [List.setIfInBounds_toArray, List.set_cons_zero, List.set_cons_succ]
          refine wpAnyH_take (i := 12) (oi := _) (v := ?vq13) rfl (by kernel_rfl) (by kernel_rfl) (by kernel_rfl) (fun _ _ _ h => h) (Or.inl ⟨by rfl, ?hq13⟩) (by assumption) ?rq13
          case hq13 => (intro w hSw; go_simp; try with_reducible rfl)
          try dsimp only [Act.put, List.getElem_toArray, List.getElem_cons_zero, List.getElem_cons_succ]; try simp only [List.setIfInBounds_toArray, List.set_cons_zero, List.set_cons_succ]
          refine wpAnyH_ready (rs := [14]) (by kernel_rfl) (by simp) ?_
          refine AllReadyH.cons (o := _) rfl (fun K hK => ?_) ?_
          · rw [if_pos (by rfl)]
            go_simp
            refine (H4.out _).mono ?_
            rintro e wx ⟨rfl, hbx⟩
            have hb := then_ hb hbx
            clear hbx
            go_wp2_with fail
            refine hK.out _ _ ⟨cell_below hb C0.out, cell_below hb C1.out, cell_below hb C2.out, cell_below hb C4.out⟩ (fun hHeld => ?_)
            clear hK K
            try dsimp only [Act.put, List.getElem_toArray, List.getElem_cons_zero, List.getElem_cons_succ]; try simp only [List.setIfInBounds_toArray, List.set_cons_zero, List.set_cons_succ]
            refine wpAnyH_take (i := 15) (oi := _) (v := ?vq14) rfl (by kernel_rfl) (by kernel_rfl) (by kernel_rfl) (fun _ _ _ h => h) (Or.inl ⟨by rfl, ?hq14⟩) (by assumption) ?rq14
            case hq14 => (intro w hSw; go_simp; try with_reducible rfl)
            try dsimp only [Act.put, List.getElem_toArray, List.getElem_cons_zero, List.getElem_cons_succ]; try simp only [List.setIfInBounds_toArray, List.set_cons_zero, List.set_cons_succ]
            refine wpAnyH_ready (rs := [18]) (by kernel_rfl) (by simp) ?_
            refine AllReadyH.cons (o := _) rfl (fun K hK => ?_) ?_
            · rw [if_pos (by rfl)]
              go_simp
              refine (H5.out _).mono ?_
              rintro e wx ⟨rfl, hbx⟩
              have hb := then_ hb hbx
              clear hbx
              go_wp2_with fail
              refine hK.out _ _ ⟨cell_below hb C0.out, cell_below hb C1.out, cell_below hb C2.out, cell_below hb C4.out⟩ (fun hHeld => ?_)
              clear hK K
              try dsimp only [Act.put, List.getElem_toArray, List.getElem_cons_zero, List.getElem_cons_succ]; try simp only [List.setIfInBounds_toArray, List.set_cons_zero, List.set_cons_succ]
              refine wpAnyH_take (i := 19) (oi := _) (v := ?vq15) rfl (by kernel_rfl) (by kernel_rfl) (by kernel_rfl) (fun _ _ _ h => h) (Or.inl ⟨by rfl, ?hq15⟩) (by assumption) ?rq15
              case hq15 => (intro w hSw; go_simp; try with_reducible rfl)
              try dsimp only [Act.put, List.getElem_toArray, List.getElem_cons_zero, List.getElem_cons_succ]; try simp only [List.setIfInBounds_toArray, List.set_cons_zero, List.set_cons_succ]
              refine wpAnyH_take (i := 20) (oi := _) (v := ?vq16) rfl (by kernel_rfl) (by kernel_rfl) (by kernel_rfl) (fun _ _ _ h => h) (Or.inl ⟨by rfl, ?hq16⟩) (by assumption) ?rq16
              case hq16 => (intro w hSw; go_simp; try with_reducible rfl)
              try dsimp only [Act.put, List.getElem_toArray, List.getElem_cons_zero, List.getElem_cons_succ]; try simp only [List.setIfInBounds_toArray, List.set_cons_zero, List.set_cons_succ]
              refine wpAnyH_done (by kernel_rfl) ?_ _
              go_wp2
              go_ret
              exact ⟨ret_string (by rw [HF.out, HSB.out]), then_ hbel hb⟩
            exact AllReadyH.nil
          exact AllReadyH.nil
        exact AllReadyH.nil
      exact AllReadyH.nil
    exact AllReadyH.nil
  · have hb : Below (w.alloc (.cells #[.string nd, .int .i64 dn, .string vl, .bool true, .int .i64 tm] 83)).heap.size (w.alloc (.cells #[.string nd, .int .i64 dn, .string vl, .bool true, .int .i64 tm] 83)) (w.alloc (.cells #[.string nd, .int .i64 dn, .string vl, .bool true, .int .i64 tm] 83)).drew := (Below.refl _ _).drew
    go_enter Try.func89, Try.ntmps89
    go_wp2
    clear c3
    refine wp_region_held_drew (S := (fun W => W.cell? ⟨w.heap.size, 0, none⟩ = some (.string nd) ∧ W.cell? ⟨w.heap.size, 1, none⟩ = some (.int .i64 dn) ∧ W.cell? ⟨w.heap.size, 2, none⟩ = some (.string vl) ∧ W.cell? ⟨w.heap.size, 4, none⟩ = some (.int .i64 tm))) (by kernel_rfl) ⟨C0.out, C1.out, C2.out, C4.out⟩ (fun hHeld => ?_)
    refine wpAnyH_take (i := 0) (oi := _) (v := ?vq17) rfl (by kernel_rfl) (by kernel_rfl) (by kernel_rfl) (fun _ _ _ h => h) (Or.inl ⟨by rfl, ?hq17⟩) (by assumption) ?rq17
    case hq17 => (intro w hSw; go_simp; try with_reducible rfl)
    try dsimp only [Act.put, List.getElem_toArray, List.getElem_cons_zero, List.getElem_cons_succ]; try simp only [List.setIfInBounds_toArray, List.set_cons_zero, List.set_cons_succ]
    refine wpAnyH_take (i := 1) (oi := _) (v := ?vq18) rfl (by kernel_rfl) (by kernel_rfl) (by kernel_rfl) (fun _ _ _ h => h) (Or.inl ⟨by rfl, ?hq18⟩) (by assumption) ?rq18
    case hq18 => (intro w hSw; go_simp; try with_reducible rfl)
    try dsimp only [Act.put, List.getElem_toArray, List.getElem_cons_zero, List.getElem_cons_succ]; try simp only [List.setIfInBounds_toArray, List.set_cons_zero, List.set_cons_succ]
    refine wpAnyH_take (i := 2) (oi := _) (v := ?vq19) rfl (by kernel_rfl) (by kernel_rfl) (by kernel_rfl) (fun _ _ _ h => h) (Or.inl ⟨by rfl, ?hq19⟩) (by assumption) ?rq19
    case hq19 => (intro w hSw; go_simp; try with_reducible rfl)
    try dsimp only [Act.put, List.getElem_toArray, List.getElem_cons_zero, List.getElem_cons_succ]; try simp only [List.setIfInBounds_toArray, List.set_cons_zero, List.set_cons_succ]
    refine wpAnyH_take (i := 4) (oi := _) (v := ?vq20) rfl (by kernel_rfl) (by kernel_rfl) (by kernel_rfl) (fun _ _ _ h => h) (Or.inl ⟨by rfl, ?hq20⟩) (by assumption) ?rq20
    case hq20 => (intro w hSw; go_simp; try with_reducible rfl)
    try dsimp only [Act.put, List.getElem_toArray, List.getElem_cons_zero, List.getElem_cons_succ]; try simp only [List.setIfInBounds_toArray, List.set_cons_zero, List.set_cons_succ]
    refine wpAnyH_take (i := 5) (oi := _) (v := ?vq21) rfl (by kernel_rfl) (by kernel_rfl) (by kernel_rfl) (fun _ _ _ h => h) (Or.inl ⟨by rfl, ?hq21⟩) (by assumption) ?rq21
    case hq21 => (intro w hSw; go_simp; try with_reducible rfl)
    try dsimp only [Act.put, List.getElem_toArray, List.getElem_cons_zero, List.getElem_cons_succ]; try simp only [List.setIfInBounds_toArray, List.set_cons_zero, List.set_cons_succ]
    refine wpAnyH_take (i := 6) (oi := _) (v := ?vq22) rfl (by kernel_rfl) (by kernel_rfl) (by kernel_rfl) (fun _ _ _ h => h) (Or.inl ⟨by rfl, ?hq22⟩) (by assumption) ?rq22
    case hq22 => (intro w hSw; go_simp; try with_reducible rfl)
    try dsimp only [Act.put, List.getElem_toArray, List.getElem_cons_zero, List.getElem_cons_succ]; try simp only [List.setIfInBounds_toArray, List.set_cons_zero, List.set_cons_succ]
    refine wpAnyH_take (i := 9) (oi := _) (v := ?vq23) rfl (by kernel_rfl) (by kernel_rfl) (by kernel_rfl) (fun _ _ _ h => h) (Or.inl ⟨by rfl, ?hq23⟩) (by assumption) ?rq23
    case hq23 => (intro w hSw; go_simp; try with_reducible rfl)
    try dsimp only [Act.put, List.getElem_toArray, List.getElem_cons_zero, List.getElem_cons_succ]; try simp only [List.setIfInBounds_toArray, List.set_cons_zero, List.set_cons_succ]
    refine wpAnyH_take (i := 10) (oi := _) (v := ?vq24) rfl (by kernel_rfl) (by kernel_rfl) (by kernel_rfl) (fun _ _ _ h => h) (Or.inl ⟨by rfl, ?hq24⟩) (by assumption) ?rq24
    case hq24 => (intro w hSw; go_simp; try with_reducible rfl)
    try dsimp only [Act.put, List.getElem_toArray, List.getElem_cons_zero, List.getElem_cons_succ]; try simp only [List.setIfInBounds_toArray, List.set_cons_zero, List.set_cons_succ]
    refine wpAnyH_take (i := 13) (oi := _) (v := ?vq25) rfl (by kernel_rfl) (by kernel_rfl) (by kernel_rfl) (fun _ _ _ h => h) (Or.inl ⟨by rfl, ?hq25⟩) (by assumption) ?rq25
    case hq25 => (intro w hSw; go_simp; try with_reducible rfl)
    try dsimp only [Act.put, List.getElem_toArray, List.getElem_cons_zero, List.getElem_cons_succ]; try simp only [List.setIfInBounds_toArray, List.set_cons_zero, List.set_cons_succ]
    refine wpAnyH_take (i := 16) (oi := _) (v := ?vq26) rfl (by kernel_rfl) (by kernel_rfl) (by kernel_rfl) (fun _ _ _ h => h) (Or.inl ⟨by rfl, ?hq26⟩) (by assumption) ?rq26
    case hq26 => (intro w hSw; go_simp; try with_reducible rfl)
    try dsimp only [Act.put, List.getElem_toArray, List.getElem_cons_zero, List.getElem_cons_succ]; try simp only [List.setIfInBounds_toArray, List.set_cons_zero, List.set_cons_succ]
    refine wpAnyH_take (i := 17) (oi := _) (v := ?vq27) rfl (by kernel_rfl) (by kernel_rfl) (by kernel_rfl) (fun _ _ _ h => h) (Or.inl ⟨by rfl, ?hq27⟩) (by assumption) ?rq27
    case hq27 => (intro w hSw; go_simp; try with_reducible rfl)
    try dsimp only [Act.put, List.getElem_toArray, List.getElem_cons_zero, List.getElem_cons_succ]; try simp only [List.setIfInBounds_toArray, List.set_cons_zero, List.set_cons_succ]
    refine wpAnyH_ready (rs := [3]) (by kernel_rfl) (by simp) ?_
    refine AllReadyH.cons (o := _) rfl (fun K hK => ?_) ?_
    · rw [if_pos (by rfl)]
      go_simp
      refine (H1.out _).mono ?_
      rintro e wx ⟨rfl, hbx⟩
      have hb := then_ hb hbx
      clear hbx
      go_wp2_with fail
      refine hK.out _ _ ⟨cell_below hb C0.out, cell_below hb C1.out, cell_below hb C2.out, cell_below hb C4.out⟩ (fun hHeld => ?_)
      clear hK K
      try dsimp only [Act.put, List.getElem_toArray, List.getElem_cons_zero, List.getElem_cons_succ]; try simp only [List.setIfInBounds_toArray, List.set_cons_zero, List.set_cons_succ]
      refine wpAnyH_ready (rs := [7]) (by kernel_rfl) (by simp) ?_
      refine AllReadyH.cons (o := _) rfl (fun K hK => ?_) ?_
      · rw [if_pos (by rfl)]
        go_simp
        refine (H2.out _).mono ?_
        rintro e wx ⟨rfl, hbx⟩
        have hb := then_ hb hbx
        clear hbx
        go_wp2_with fail
        refine hK.out _ _ ⟨cell_below hb C0.out, cell_below hb C1.out, cell_below hb C2.out, cell_below hb C4.out⟩ (fun hHeld => ?_)
        clear hK K
        try dsimp only [Act.put, List.getElem_toArray, List.getElem_cons_zero, List.getElem_cons_succ]; try simp only [List.setIfInBounds_toArray, List.set_cons_zero, List.set_cons_succ]
        refine wpAnyH_take (i := 8) (oi := _) (v := ?vq28) rfl (by kernel_rfl) (by kernel_rfl) (by kernel_rfl) (fun _ _ _ h => h) (Or.inl ⟨by rfl, ?hq28⟩) (by assumption) ?rq28
        case hq28 => (intro w hSw; go_simp; try with_reducible rfl)
        try dsimp only [Act.put, List.getElem_toArray, List.getElem_cons_zero, List.getElem_cons_succ]; try simp only [List.setIfInBounds_toArray, List.set_cons_zero, List.set_cons_succ]
        refine wpAnyH_ready (rs := [11]) (by kernel_rfl) (by simp) ?_
        refine AllReadyH.cons (o := _) rfl (fun K hK => ?_) ?_
        · rw [if_pos (by rfl)]
          go_simp
          refine (H3.out _).mono ?_
          rintro e wx ⟨rfl, hbx⟩
          have hb := then_ hb hbx
          clear hbx
          go_wp2_with fail
          refine hK.out _ _ ⟨cell_below hb C0.out, cell_below hb C1.out, cell_below hb C2.out, cell_below hb C4.out⟩ (fun hHeld => ?_)
          clear hK K
          try dsimp only [Act.put, List.getElem_toArray, List.getElem_cons_zero, List.getElem_cons_succ]; try simp only [List.setIfInBounds_toArray, List.set_cons_zero, List.set_cons_succ]
          refine wpAnyH_take (i := 12) (oi := _) (v := ?vq29) rfl (by kernel_rfl) (by kernel_rfl) (by kernel_rfl) (fun _ _ _ h => h) (Or.inl ⟨by rfl, ?hq29⟩) (by assumption) ?rq29
          case hq29 => (intro w hSw; go_simp; try with_reducible rfl)
          try dsimp only [Act.put, List.getElem_toArray, List.getElem_cons_zero, List.getElem_cons_succ]; try simp only [List.setIfInBounds_toArray, List.set_cons_zero, List.set_cons_succ]
          refine wpAnyH_ready (rs := [14]) (by kernel_rfl) (by simp) ?_
          refine AllReadyH.cons (o := _) rfl (fun K hK => ?_) ?_
          · rw [if_pos (by rfl)]
            go_simp
            refine (H4.out _).mono ?_
            rintro e wx ⟨rfl, hbx⟩
            have hb := then_ hb hbx
            clear hbx
            go_wp2_with fail
            refine hK.out _ _ ⟨cell_below hb C0.out, cell_below hb C1.out, cell_below hb C2.out, cell_below hb C4.out⟩ (fun hHeld => ?_)
            clear hK K
            try dsimp only [Act.put, List.getElem_toArray, List.getElem_cons_zero, List.getElem_cons_succ]; try simp only [List.setIfInBounds_toArray, List.set_cons_zero, List.set_cons_succ]
            refine wpAnyH_take (i := 15) (oi := _) (v := ?vq30) rfl (by kernel_rfl) (by kernel_rfl) (by kernel_rfl) (fun _ _ _ h => h) (Or.inl ⟨by rfl, ?hq30⟩) (by assumption) ?rq30
            case hq30 => (intro w hSw; go_simp; try with_reducible rfl)
            try dsimp only [Act.put, List.getElem_toArray, List.getElem_cons_zero, List.getElem_cons_succ]; try simp only [List.setIfInBounds_toArray, List.set_cons_zero, List.set_cons_succ]
            refine wpAnyH_ready (rs := [18]) (by kernel_rfl) (by simp) ?_
            refine AllReadyH.cons (o := _) rfl (fun K hK => ?_) ?_
            · rw [if_pos (by rfl)]
              go_simp
              refine (H5.out _).mono ?_
              rintro e wx ⟨rfl, hbx⟩
              have hb := then_ hb hbx
              clear hbx
              go_wp2_with fail
              refine hK.out _ _ ⟨cell_below hb C0.out, cell_below hb C1.out, cell_below hb C2.out, cell_below hb C4.out⟩ (fun hHeld => ?_)
              clear hK K
              try dsimp only [Act.put, List.getElem_toArray, List.getElem_cons_zero, List.getElem_cons_succ]; try simp only [List.setIfInBounds_toArray, List.set_cons_zero, List.set_cons_succ]
              refine wpAnyH_take (i := 19) (oi := _) (v := ?vq31) rfl (by kernel_rfl) (by kernel_rfl) (by kernel_rfl) (fun _ _ _ h => h) (Or.inl ⟨by rfl, ?hq31⟩) (by assumption) ?rq31
              case hq31 => (intro w hSw; go_simp; try with_reducible rfl)
              try dsimp only [Act.put, List.getElem_toArray, List.getElem_cons_zero, List.getElem_cons_succ]; try simp only [List.setIfInBounds_toArray, List.set_cons_zero, List.set_cons_succ]
              refine wpAnyH_take (i := 20) (oi := _) (v := ?vq32) rfl (by kernel_rfl) (by kernel_rfl) (by kernel_rfl) (fun _ _ _ h => h) (Or.inl ⟨by rfl, ?hq32⟩) (by assumption) ?rq32
              case hq32 => (intro w hSw; go_simp; try with_reducible rfl)
              try dsimp only [Act.put, List.getElem_toArray, List.getElem_cons_zero, List.getElem_cons_succ]; try simp only [List.setIfInBounds_toArray, List.set_cons_zero, List.set_cons_succ]
              refine wpAnyH_done (by kernel_rfl) ?_ _
              go_wp2
              go_ret
              exact ⟨ret_string (by rw [HF.out, HSB.out]), then_ hbel hb⟩
            exact AllReadyH.nil
          exact AllReadyH.nil
        exact AllReadyH.nil
      exact AllReadyH.nil
    exact AllReadyH.nil
set_option maxRecDepth 100000 in
set_option maxHeartbeats 4000000 in
theorem rRawO_any (o : Ob) (w : World) (hok : o.ok w) (hlen : (objB o).length + 128 ≤ 140737488355328) :
    Calls Try.prog 74 #[.agg o.arr] w (SaysT (objB o) w) := by
  have hl : (ctxB o.ctx.l).length + 4 + (o.sibs.l.flatMap sibB).length = (objB o).length := by unfold objB sibsB; simp only [List.length_append, be_length]; omega
  obtain ⟨c, ⟨A, n, cap, xs⟩⟩ := o
  have hn := hok.2.len
  simp only at hn hl
  have hb0 := (Below.refl w.heap.size w).alloc (Nat.le_refl _) (.cells #[c.v, .slice A n cap] 63)
  have hnn : n ≤ 140737488355328 := by
    have : ∀ xs : List Sib, xs.length ≤ (xs.flatMap sibB).length := by
      intro xs
      induction xs with
      | nil => simp
      | cons x xs ih => rw [List.flatMap_cons, List.length_append, sibB_length, List.length_cons]; omega
    have := this xs; omega
  have HF : Hid (bs (objB ⟨c, ⟨A, n, cap, xs⟩⟩) = bs (ctxB c.l ++ be 4 n ++ xs.flatMap sibB)) := Lib.hid (by unfold objB sibsB; simp only [List.append_assoc]; rw [hn])
  have hsb : bs (ctxB c.l ++ be 4 n) = bs (ctxB c.l) ++ bs (be 4 n) := by rw [bs_append]
  have HR := Lib.hid (fun (W : World) (h : Below w.heap.size w W) => (hok.2.rd).below h)
  have HC1 := Lib.hid (fun (W : World) (h : Below w.heap.size w W) => rCtx_any c W (hok.1.below h) (by have := hlen; omega))
  simp only at HR
  have hx := range_new w #[c.v, .slice A n cap] 63
  have C0 := Lib.hid (rangeAt_cell hx 0 rfl); have C1 := Lib.hid (rangeAt_cell hx 1 rfl)
  simp only [Nat.zero_add] at C0 C1
  simp only [Ob.arr, Sibs.v]
  unfold SaysT
  rw [HF.out]
  have hpl : (ctxB c.l ++ be 4 n).length = (ctxB c.l).length + 4 := by rw [List.length_append, be_length]
  have s1 : (bs (ctxB c.l)).size = (ctxB c.l).length := by rw [bs_size]
  have s2 : (bs (be 4 (n : Int))).size = 4 := by rw [bs_size, be_length]
  have hlen3 : (ctxB c.l).length + 4 + (xs.flatMap sibB).length + 128 ≤ 140737488355328 := by omega
  clear hl hlen hok hx HF
  unfold SaysT at HC1
  generalize ctxB c.l ++ be 4 n = P at hsb hpl ⊢
  generalize (ctxB c.l).length = cl at *
  generalize bs (ctxB c.l) = u1 at *
  have hcv : ∃ A n k, c.v = .slice A n k := ⟨_, _, _, rfl⟩
  generalize c.v = cv at *
  obtain ⟨cA, cn, ck, rfl⟩ := hcv
  have H2 := Lib.hid (fun W => refCount_any (n : Int) W)
  generalize bs (be 4 (n : Int)) = u2 at *
  have q1 : ¬ 9223372036854775807 < u1.size + u2.size := by omega
  have z : u1.size + u2.size ≤ 140737488355328 := by omega
  have HN := Lib.hid hn; have HLEN := Lib.hid hlen3; have HPL := Lib.hid hpl; have HSB := Lib.hid hsb; have HB0 := Lib.hid hb0
  clear hn hlen3 hpl hsb hb0 s1 s2
  have hb : Below (w.alloc (.cells #[.slice cA cn ck, .slice A n cap] 63)).heap.size (w.alloc (.cells #[.slice cA cn ck, .slice A n cap] 63)) (w.alloc (.cells #[.slice cA cn ck, .slice A n cap] 63)).drew := (Below.refl _ _).drew
  go_enter Try.func74, Try.ntmps74
  go_wp2
  refine wp_region_held_drew (S := (fun W => W.cell? ⟨w.heap.size, 0, none⟩ = some (.slice cA cn ck) ∧ W.cell? ⟨w.heap.size, 1, none⟩ = some (.slice A n cap))) (by kernel_rfl) ⟨C0.out, C1.out⟩ (fun hHeld => ?_)
  refine wpAnyH_take (i := 0) (oi := _) (v := ?vq33) rfl (by kernel_rfl) (by kernel_rfl) (by kernel_rfl) (fun _ _ _ h => h) (Or.inl ⟨by rfl, ?hq33⟩) (by assumption) ?rq33
  case hq33 => (intro w hSw; go_simp; try with_reducible rfl)
  try dsimp only [Act.put, List.getElem_toArray, List.getElem_cons_zero, List.getElem_cons_succ]; try simp only [List.setIfInBounds_toArray, List.set_cons_zero, List.set_cons_succ]
  refine wpAnyH_take (i := 1) (oi := _) (v := ?vq34) rfl (by kernel_rfl) (by kernel_rfl) (by kernel_rfl) (fun _ _ _ h => h) (Or.inl ⟨by rfl, ?hq34⟩) (by assumption) ?rq34
  case hq34 => (intro w hSw; go_simp; try with_reducible rfl)
  try dsimp only [Act.put, List.getElem_toArray, List.getElem_cons_zero, List.getElem_cons_succ]; try simp only [List.setIfInBounds_toArray, List.set_cons_zero, List.set_cons_succ]
  refine wpAnyH_take (i := 3) (oi := _) (v := ?vq35) rfl (by kernel_rfl) (by kernel_rfl) (by kernel_rfl) (fun _ _ _ h => h) (Or.inl ⟨by rfl, ?hq35⟩) (by assumption) ?rq35
  case hq35 => (intro w hSw; go_simp; try with_reducible rfl)
  try dsimp only [Act.put, List.getElem_toArray, List.getElem_cons_zero, List.getElem_cons_succ]; try simp only [List.setIfInBounds_toArray, List.set_cons_zero, List.set_cons_succ]
  refine wpAnyH_take (i := 4) (oi := _) (v := ?vq36) rfl (by kernel_rfl) (by kernel_rfl) (by kernel_rfl) (fun _ _ _ h => h) (Or.inl ⟨by rfl, ?hq36⟩) (by assumption) ?rq36
  case hq36 => (intro w hSw; go_simp; try with_reducible rfl)
  try dsimp only [Act.put, List.getElem_toArray, List.getElem_cons_zero, List.getElem_cons_succ]; try simp only [List.setIfInBounds_toArray, List.set_cons_zero, List.set_cons_succ]
  refine wpAnyH_take (i := 5) (oi := _) (v := ?vq37) rfl (by kernel_rfl) (by kernel_rfl) (by kernel_rfl) (fun _ _ _ h => h) (Or.inl ⟨by rfl, ?hq37⟩) (by assumption) ?rq37
  case hq37 => (intro w hSw; go_simp; try with_reducible rfl)
  try dsimp only [Act.put, List.getElem_toArray, List.getElem_cons_zero, List.getElem_cons_succ]; try simp only [List.setIfInBounds_toArray, List.set_cons_zero, List.set_cons_succ]
  refine wpAnyH_ready (rs := [2]) (by kernel_rfl) (by simp) ?_
  refine AllReadyH.cons (o := _) rfl (fun K hK => ?_) ?_
  · rw [if_pos (by rfl)]
    go_simp
    refine (HC1.out _ (then_ HB0.out hb)).mono ?_
    rintro e wx ⟨rfl, hbx⟩
    have hb := then_ hb hbx
    clear hbx
    go_wp2_with fail
    refine hK.out _ _ ⟨cell_below hb C0.out, cell_below hb C1.out⟩ (fun hHeld => ?_)
    clear hK K
    try dsimp only [Act.put, List.getElem_toArray, List.getElem_cons_zero, List.getElem_cons_succ]; try simp only [List.setIfInBounds_toArray, List.set_cons_zero, List.set_cons_succ]
    refine wpAnyH_ready (rs := [6]) (by kernel_rfl) (by simp) ?_
    refine AllReadyH.cons (o := _) rfl (fun K hK => ?_) ?_
    · rw [if_pos (by rfl)]
      go_simp
      refine (H2.out _).mono ?_
      rintro e wx ⟨rfl, hbx⟩
      have hb := then_ hb hbx
      clear hbx
      go_wp2_with fail
      refine hK.out _ _ ⟨cell_below hb C0.out, cell_below hb C1.out⟩ (fun hHeld => ?_)
      clear hK K
      try dsimp only [Act.put, List.getElem_toArray, List.getElem_cons_zero, List.getElem_cons_succ]; try simp only [List.setIfInBounds_toArray, List.set_cons_zero, List.set_cons_succ]
      refine wpAnyH_take (i := 7) (oi := _) (v := ?vq38) rfl (by kernel_rfl) (by kernel_rfl) (by kernel_rfl) (fun _ _ _ h => h) (Or.inl ⟨by rfl, ?hq38⟩) (by assumption) ?rq38
      case hq38 => (intro w hSw; go_simp; try with_reducible rfl)
      try dsimp only [Act.put, List.getElem_toArray, List.getElem_cons_zero, List.getElem_cons_succ]; try simp only [List.setIfInBounds_toArray, List.set_cons_zero, List.set_cons_succ]
      refine wpAnyH_take (i := 8) (oi := _) (v := ?vq39) rfl (by kernel_rfl) (by kernel_rfl) (by kernel_rfl) (fun _ _ _ h => h) (Or.inl ⟨by rfl, ?hq39⟩) (by assumption) ?rq39
      case hq39 => (intro w hSw; go_simp; try with_reducible rfl)
      try dsimp only [Act.put, List.getElem_toArray, List.getElem_cons_zero, List.getElem_cons_succ]; try simp only [List.setIfInBounds_toArray, List.set_cons_zero, List.set_cons_succ]
      refine wpAnyH_done (by kernel_rfl) ?_ _
      have C1 := Lib.hid (cell_below hb C1.out)
      have HB := Lib.hid (then_ HB0.out hb)
      have HZ := Lib.hid HB0.out.size
      clear hb HB0 C0 HC1 H2
      rw [← HSB.out]
      clear q1 z HSB
      rename World => wq
      have c1 := C1.out
      go_wp2
      go_loopw [3, 4] (fun s j wr => ∃ q : Nat, q ≤ n ∧ j = .int .i64 q ∧ s = .string (bs (P ++ (xs.take q).flatMap sibB)) ∧ Below wq.heap.size wq wr) (fun _ j _ => n - (intOf j).toNat)
      case atStart => exact ⟨0, Nat.zero_le _, rfl, by simp, Below.refl _ _⟩
      case round =>
        clear c1
        obtain ⟨q, hq, rfl, rfl, hbq⟩ := hrel
        have c1 := cell_below hbq C1.out
        by_cases hqm : q < n
        · have hx2 : q < xs.length := by have := HN.out; omega
          obtain ⟨b2, off2, rfl, hrg⟩ := row_sib.at_ ((HR.out wq HB.out).below hbq) q hx2
          have hst : bs (P ++ (xs.take (q + 1)).flatMap sibB) = bs (P ++ (xs.take q).flatMap sibB) ++ bs (sibB xs[q]) := by
            rw [flat_step sibB xs q hx2, ← List.append_assoc]; simp only [bs_append, List.append_assoc]
          have hle := flat_take_le sibB xs q hx2
          have hs2 : (bs (P ++ (xs.take q).flatMap sibB)).size = cl + 4 + ((xs.take q).flatMap sibB).length := by
            have := HPL.out
            rw [bs_size, List.length_append]; omega
          have hs3 : (bs (sibB xs[q])).size = (sibB xs[q]).length := by rw [bs_size]
          have hs4 : (sibB xs[q]).length + 64 ≤ 140737488355328 := by have := HLEN.out; omega
          have z2 : ¬ 9223372036854775807 < (bs (P ++ (xs.take q).flatMap sibB)).size + (bs (sibB xs[q])).size := by have := HLEN.out; omega
          have z3 : (bs (P ++ (xs.take q).flatMap sibB)).size + (bs (sibB xs[q])).size ≤ 140737488355328 := by have := HLEN.out; omega
          generalize xs[q] = y at *
          have H8 := Lib.hid (fun W => rSib_any y W hs4)
          obtain ⟨⟨nd, dn⟩, vl, gn, tm⟩ := y
          simp only [Sib.arr] at hrg H8
          unfold SaysT at H8
          generalize bs (sibB ⟨⟨nd, dn⟩, vl, gn, tm⟩) = u8 at *
          generalize bs (P ++ (xs.take q).flatMap sibB) = s2 at *
          have HST := Lib.hid hst
          clear hst hs2 hs3 hs4 hle
          have d0 := rangeAt_cell hrg 0 rfl; have d1 := rangeAt_cell hrg 1 rfl; have d2 := rangeAt_cell hrg 2 rfl; have d3 := rangeAt_cell hrg 3 rfl; have d4 := rangeAt_cell hrg 4 rfl
          simp only [Nat.add_zero] at d0
          clear hrg
          go_wp2_with fail
          refine (H8.out _).mono ?_
          rintro e wy ⟨rfl, hby⟩
          go_wp2
          go_roundw
          case rel => exact ⟨q + 1, by omega, by go_num, by rw [HST.out], then_ hbq hby⟩
          case measure => simp [intOf]; omega
        · obtain rfl : q = n := by omega
          rw [List.take_of_length_le (by have := HN.out; omega)]
          generalize hfin : bs (P ++ xs.flatMap sibB) = fin
          have HFIN := Lib.hid hfin
          clear hfin
          go_wp2
          go_ret
          exact ⟨ret_string HFIN.out.symm, then_ HB.out hbq⟩
    exact AllReadyH.nil
  exact AllReadyH.nil
set_option maxRecDepth 100000 in
theorem rDigest_any (o : Ob) (w : World) (hr : o.ok w) (hlen : (objB o).length + 128 ≤ 1099511627776) :
    Calls Try.prog 63 #[.agg o.arr] w fun e w' => e = .returned (.string (digO o)) ∧ Below w.heap.size w w' := by
  have hb0 := (Below.refl w.heap.size w).alloc (Nat.le_refl _) (.cells #[o.ctx.v, o.sibs.v] 63)
  have HW := Lib.hid (rRawO_any o _ (hr.below hb0) (by omega))
  have HB := Lib.hid hb0
  have x0 := range_new w #[o.ctx.v, o.sibs.v] 63
  have c0 := rangeAt_cell x0 0 rfl; have c1 := rangeAt_cell x0 1 rfl
  have HS := Lib.hid (fun W => refSum_any (bs (objB o)) W (by rw [bs_size]; omega))
  clear hr hlen x0 hb0
  have hcv : ∃ A n k, o.ctx.v = .slice A n k := ⟨_, _, _, rfl⟩
  have hsv : ∃ A n k, o.sibs.v = .slice A n k := ⟨_, _, _, rfl⟩
  simp only [Ob.arr] at HW ⊢
  unfold digO
  rw [← wbytes_sum (objB o)]
  generalize o.ctx.v = cv at *
  generalize o.sibs.v = sv at *
  obtain ⟨cA, cn, ck, rfl⟩ := hcv
  obtain ⟨sA, sn, sk, rfl⟩ := hsv
  go_enter Try.func63, Try.ntmps63
  go_wp2_with fail
  refine HW.out.mono ?_
  rintro e w1 ⟨rfl, hb1⟩
  rw [wbytes_sum] at *
  have HB := Lib.hid (then_ HB.out hb1)
  clear hb1
  go_wp2_with fail
  refine (HS.out _).mono ?_
  rintro e w2 ⟨rfl, hb2⟩
  go_wp2
  go_ret
  exact ⟨rfl, then_ HB.out hb2⟩
end Go.Proofs.Ytgmafnpkhmlnnaa
