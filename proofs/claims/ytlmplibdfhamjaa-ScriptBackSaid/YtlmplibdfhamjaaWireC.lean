/- Entries read of bytes: the code's and the document's. -/
import Derived.Test.YtlmplibdfhamjaaWireB
import Derived.Test.YtlmplibdfhamjaaSet4
import Derived.Test.YtlmplibdfhamjaaOctS
attribute [local go_sem ↓] Go.wp_at_zero Go.wp_at_succ
namespace Go.Proofs.Ytlmplibdfhamjaa
open Go.RowKit Go.Mem Go.Num
set_option linter.unusedVariables false
set_option linter.unusedSimpArgs false

/-- an entry, by a reader's machine -/
def rdEnt (st : St) : Ent × St :=
  (⟨bs (rdText st).1, ⟨(rdNum 8 (rdText st).2).1, bs (rdText (rdNum 8 (rdText st).2).2).1, bs (rdText (rdText (rdNum 8 (rdText st).2).2).2).1⟩⟩, (rdText (rdText (rdNum 8 (rdText st).2).2).2).2)
theorem rdEnt_len (st : St) : (rdEnt st).2.1.length ≤ st.1.length :=
  Nat.le_trans (rdText_len _).1 (Nat.le_trans (rdText_len _).1 (Nat.le_trans (rdNum_len 8 _) (rdText_len st).1))
theorem only_new {b g : Nat} {w w' : World} (h : Only b w w') (hg : w.heap.size ≤ g) (i : Nat) (u : Value) : Only b w (w'.setCell ⟨g, i, none⟩ u) :=
  ⟨h.os, h.tape, h.output, by simpa [World.setCell] using h.size, fun k hk hn => (Below.heap_setCell w' _ u k (fun e => by simp only at e; omega)).trans (h.block k hk hn)⟩
theorem rdo_set {b g : Nat} {st : St} {w : World} (h : RdO b st w) (hg : b ≠ g) (i : Nat) (u : Value) : RdO b st (w.setCell ⟨g, i, none⟩ u) := (Below.heap_setCell w _ u b (fun e => hg (by simpa using e))).trans h
/-- a reader's box, the result's block, the block of what is read -/
structure RB (b : Nat) (w W : World) (x : Array Value) : Prop where
  only : Only b w W
  p : W.heap[w.heap.size]? = some (.cells #[.pointer (some ⟨b, 0, none⟩)] 128 (0, 0))
  r : W.heap[w.heap.size + 1]? = some (.cells #[.string ⟨#[]⟩, .int .i64 0, .string ⟨#[]⟩, .string ⟨#[]⟩] 47 (0, 0))
  x : W.heap[w.heap.size + 1 + 1]? = some (.cells x 47 (0, 0))
theorem RB.call {b : Nat} {w W W' : World} {x : Array Value} (h : RB b w W x) (hb : b < w.heap.size) (ho : Only b W W') : RB b w W' x :=
  ⟨h.only.then_ ho, (ho.block _ (Array.getElem?_eq_some_iff.1 h.p).1 (fun e => by injection e; omega)).trans h.p, (ho.block _ (Array.getElem?_eq_some_iff.1 h.r).1 (fun e => by injection e; omega)).trans h.r, (ho.block _ (Array.getElem?_eq_some_iff.1 h.x).1 (fun e => by injection e; omega)).trans h.x⟩
theorem RB.drew {b : Nat} {w W : World} {x : Array Value} (h : RB b w W x) : RB b w W.drew x := ⟨h.only.drew, h.p, h.r, h.x⟩
theorem RB.set {b : Nat} {w W : World} {x : Array Value} (h : RB b w W x) (i : Nat) (u : Value) : RB b w (W.setCell ⟨w.heap.size + 1 + 1, i, none⟩ u) (x.setIfInBounds i u) :=
  ⟨only_new h.only (by omega) i u, (heap_setCell_other W _ _ u (by simp; omega)).trans h.p, (heap_setCell_other W _ _ u (by simp)).trans h.r, heap_setCell_same W _ i _ _ u h.x⟩
theorem RB.cells {b : Nat} {w W : World} {a0 a1 a2 a3 : Value} (h : RB b w W #[a0, a1, a2, a3]) : W.cell? ⟨w.heap.size, 0, none⟩ = some (.pointer (some ⟨b, 0, none⟩)) ∧ W.cell? ⟨w.heap.size + 1 + 1, 0, none⟩ = some a0 ∧ W.cell? ⟨w.heap.size + 1 + 1, 1, none⟩ = some a1 ∧ W.cell? ⟨w.heap.size + 1 + 1, 2, none⟩ = some a2 ∧ W.cell? ⟨w.heap.size + 1 + 1, 3, none⟩ = some a3 ∧
    W.frozen? ⟨w.heap.size + 1 + 1, 0, none⟩ = false ∧ W.frozen? ⟨w.heap.size + 1 + 1, 1, none⟩ = false ∧ W.frozen? ⟨w.heap.size + 1 + 1, 2, none⟩ = false ∧ W.frozen? ⟨w.heap.size + 1 + 1, 3, none⟩ = false :=
  ⟨cell_of_row _ _ _ _ _ _ h.p, cell_of_row _ _ _ _ _ _ h.x, cell_of_row _ _ _ _ _ _ h.x, cell_of_row _ _ _ _ _ _ h.x, cell_of_row _ _ _ _ _ _ h.x, frozen_of_row _ _ _ _ _ h.x, frozen_of_row _ _ _ _ _ h.x, frozen_of_row _ _ _ _ _ h.x, frozen_of_row _ _ _ _ _ h.x⟩
theorem RB.box {b : Nat} {w W : World} {x : Array Value} (h : RB b w W x) : W.cell? ⟨w.heap.size, 0, none⟩ = some (.pointer (some ⟨b, 0, none⟩)) := cell_of_row _ _ _ _ _ _ h.p
theorem RB.res {b : Nat} {w W : World} {x : Array Value} (h : RB b w W x) : W.cell? ⟨w.heap.size + 1, 0, none⟩ = some (.string ⟨#[]⟩) ∧ W.cell? ⟨w.heap.size + 1, 1, none⟩ = some (.int .i64 0) ∧ W.cell? ⟨w.heap.size + 1, 2, none⟩ = some (.string ⟨#[]⟩) ∧ W.cell? ⟨w.heap.size + 1, 3, none⟩ = some (.string ⟨#[]⟩) ∧
    W.frozen? ⟨w.heap.size + 1, 0, none⟩ = false ∧ W.frozen? ⟨w.heap.size + 1, 1, none⟩ = false ∧ W.frozen? ⟨w.heap.size + 1, 2, none⟩ = false ∧ W.frozen? ⟨w.heap.size + 1, 3, none⟩ = false :=
  ⟨cell_of_row _ _ _ _ _ _ h.r, cell_of_row _ _ _ _ _ _ h.r, cell_of_row _ _ _ _ _ _ h.r, cell_of_row _ _ _ _ _ _ h.r, frozen_of_row _ _ _ _ _ h.r, frozen_of_row _ _ _ _ _ h.r, frozen_of_row _ _ _ _ _ h.r, frozen_of_row _ _ _ _ _ h.r⟩
def z4 : Array Value := #[.string ⟨#[]⟩, .int .i64 0, .string ⟨#[]⟩, .string ⟨#[]⟩]
set_option maxRecDepth 100000 in
set_option maxHeartbeats 4000000 in
theorem rEntry_any (b : Nat) (st : St) (w : World) (h : RdO b st w) (hs : st.1.length ≤ 140737488355328) :
    Calls Try.prog 89 #[.agg #[.pointer (some ⟨b, 0, none⟩)]] w fun e w' => e = .returned (.agg (rdEnt st).1.arr) ∧ RdO b (rdEnt st).2 w' ∧ Only b w w' := by
  have hbw : b < w.heap.size := h.lt
  have l1 := (rdText_len st).1
  have l2 := rdNum_len 8 (rdText st).2
  have l3 := (rdText_len (rdNum 8 (rdText st).2).2).1
  have t1 := fun W hW => rText_any b st W hW hs
  have t2 := fun W hW => rInt_any b (rdText st).2 W hW (by omega)
  have t3 := fun W hW => rText_any b (rdNum 8 (rdText st).2).2 W hW (by omega)
  have t4 := fun W hW => rText_any b (rdText (rdNum 8 (rdText st).2).2).2 W hW (by omega)
  have HE : Hid (∀ W, RdO b (rdText (rdText (rdNum 8 (rdText st).2).2).2).2 W → RdO b (rdEnt st).2 W) := Lib.hid fun W h => h
  have HV : Hid ((rdEnt st).1.arr = #[.string (bs (rdText st).1), .int .i64 (rdNum 8 (rdText st).2).1, .string (bs (rdText (rdNum 8 (rdText st).2).2).1), .string (bs (rdText (rdText (rdNum 8 (rdText st).2).2).2).1)]) := Lib.hid rfl
  generalize bs (rdText (rdText (rdNum 8 (rdText st).2).2).2).1 = v4 at t4 HV
  generalize (rdText (rdText (rdNum 8 (rdText st).2).2).2).2 = s4 at t4 HE
  generalize bs (rdText (rdNum 8 (rdText st).2).2).1 = v3 at t3 HV
  generalize (rdText (rdNum 8 (rdText st).2).2).2 = s3 at t3 t4
  generalize (rdNum 8 (rdText st).2).1 = v2 at t2 HV
  generalize (rdNum 8 (rdText st).2).2 = s2 at t2 t3
  generalize bs (rdText st).1 = v1 at t1 HV
  generalize (rdText st).2 = s1 at t1 t2
  have HR := Lib.hid (((show RdO b st (w.alloc (.cells #[.pointer (some ⟨b, 0, none⟩)] 128)) from Two.alloc h _).alloc (.cells z4 47)).alloc (.cells z4 47))
  have hx0 : RB b w (((w.alloc (.cells #[.pointer (some ⟨b, 0, none⟩)] 128)).alloc (.cells z4 47)).alloc (.cells z4 47)) z4 :=
    ⟨((Only.rfl_.alloc _).alloc _).alloc _, (Below.heap_alloc _ _ _ (by simp; omega)).trans (heap_alloc2_old w _ _), (Below.heap_alloc _ _ _ (by simp)).trans (heap_alloc2_new w _ _), by have := heap_alloc_new ((w.alloc (.cells #[.pointer (some ⟨b, 0, none⟩)] 128)).alloc (.cells z4 47)) (.cells z4 47); simpa using this⟩
  have HX := Lib.hid hx0
  have T1 := Lib.hid t1; have T2 := Lib.hid t2; have T3 := Lib.hid t3; have T4 := Lib.hid t4
  clear h hs l1 l2 l3 t1 t2 t3 t4 hx0
  unfold z4 at HX HR
  go_enter Try.func89, Try.ntmps89
  go_wp2
  generalize (((w.alloc (.cells #[.pointer (some ⟨b, 0, none⟩)] 128)).alloc (.cells #[.string ⟨#[]⟩, .int .i64 0, .string ⟨#[]⟩, .string ⟨#[]⟩] 47)).alloc (.cells #[.string ⟨#[]⟩, .int .i64 0, .string ⟨#[]⟩, .string ⟨#[]⟩] 47)) = W0 at HX HR ⊢
  have HX := Lib.hid HX.out.drew
  have HR := Lib.hid (show RdO b st W0.drew from HR.out)
  refine wp_region_held_drew (S := (fun W => W.cell? ⟨w.heap.size, 0, none⟩ = some (.pointer (some ⟨b, 0, none⟩)))) (by kernel_rfl) HX.out.box (fun hHeld => ?_)
  refine wpAnyH_take (i := 0) (oi := _) (v := ?vq9) rfl (by kernel_rfl) (by kernel_rfl) (by kernel_rfl) (fun _ _ _ h => h) (Or.inl ⟨by rfl, ?hq9⟩) (by assumption) ?rq9
  case hq9 => (intro w hSw; go_simp; try with_reducible rfl)
  try dsimp only [Act.put, List.getElem_toArray, List.getElem_cons_zero, List.getElem_cons_succ]; try simp only [List.setIfInBounds_toArray, List.set_cons_zero, List.set_cons_succ]
  refine wpAnyH_take (i := 1) (oi := _) (v := ?vq10) rfl (by kernel_rfl) (by kernel_rfl) (by kernel_rfl) (fun _ _ _ h => h) (Or.inl ⟨by rfl, ?hq10⟩) (by assumption) ?rq10
  case hq10 => (intro w hSw; go_simp; try with_reducible rfl)
  try dsimp only [Act.put, List.getElem_toArray, List.getElem_cons_zero, List.getElem_cons_succ]; try simp only [List.setIfInBounds_toArray, List.set_cons_zero, List.set_cons_succ]
  refine wpAnyH_take (i := 3) (oi := _) (v := ?vq11) rfl (by kernel_rfl) (by kernel_rfl) (by kernel_rfl) (fun _ _ _ h => h) (Or.inl ⟨by rfl, ?hq11⟩) (by assumption) ?rq11
  case hq11 => (intro w hSw; go_simp; try with_reducible rfl)
  try dsimp only [Act.put, List.getElem_toArray, List.getElem_cons_zero, List.getElem_cons_succ]; try simp only [List.setIfInBounds_toArray, List.set_cons_zero, List.set_cons_succ]
  refine wpAnyH_take (i := 4) (oi := _) (v := ?vq12) rfl (by kernel_rfl) (by kernel_rfl) (by kernel_rfl) (fun _ _ _ h => h) (Or.inl ⟨by rfl, ?hq12⟩) (by assumption) ?rq12
  case hq12 => (intro w hSw; go_simp; try with_reducible rfl)
  try dsimp only [Act.put, List.getElem_toArray, List.getElem_cons_zero, List.getElem_cons_succ]; try simp only [List.setIfInBounds_toArray, List.set_cons_zero, List.set_cons_succ]
  refine wpAnyH_ready (rs := [2]) (by kernel_rfl) (by simp) ?_
  refine AllReadyH.cons (o := _) rfl (fun K hK => ?_) ?_
  · rw [if_pos (by rfl)]
    go_simp
    refine (T1.out _ HR.out).mono ?_
    rintro e w1 ⟨rfl, hr1, ho1⟩
    have hx := HX.out.call hbw ho1
    have HX := Lib.hid hx
    have HR := Lib.hid hr1
    clear hx hr1 ho1
    go_wp2_with fail
    refine hK.out _ _ HX.out.box (fun hHeld => ?_)
    clear hK K
    try dsimp only [Act.put, List.getElem_toArray, List.getElem_cons_zero, List.getElem_cons_succ]; try simp only [List.setIfInBounds_toArray, List.set_cons_zero, List.set_cons_succ]
    refine wpAnyH_take (i := 6) (oi := _) (v := ?vq13) rfl (by kernel_rfl) (by kernel_rfl) (by kernel_rfl) (fun _ _ _ h => h) (Or.inl ⟨by rfl, ?hq13⟩) (by assumption) ?rq13
    case hq13 => (intro w hSw; go_simp; try with_reducible rfl)
    try dsimp only [Act.put, List.getElem_toArray, List.getElem_cons_zero, List.getElem_cons_succ]; try simp only [List.setIfInBounds_toArray, List.set_cons_zero, List.set_cons_succ]
    refine wpAnyH_ready (rs := [5]) (by kernel_rfl) (by simp) ?_
    refine AllReadyH.cons (o := _) rfl (fun K hK => ?_) ?_
    · rw [if_pos (by rfl)]
      go_simp
      refine (T2.out _ HR.out).mono ?_
      rintro e w1 ⟨rfl, hr1, ho1⟩
      have hx := HX.out.call hbw ho1
      have HX := Lib.hid hx
      have HR := Lib.hid hr1
      clear hx hr1 ho1
      obtain ⟨-, y0, y1, y2, y3, u0, u1, u2, u3⟩ := HX.out.cells
      go_wp2_with fail
      refine hK.out _ _ HX.out.box (fun hHeld => ?_)
      clear hK K
      try dsimp only [Act.put, List.getElem_toArray, List.getElem_cons_zero, List.getElem_cons_succ]; try simp only [List.setIfInBounds_toArray, List.set_cons_zero, List.set_cons_succ]
      refine wpAnyH_ready (rs := [7]) (by kernel_rfl) (by simp) ?_
      refine AllReadyH.cons (o := _) rfl (fun K hK => ?_) ?_
      · rw [if_pos (by rfl)]
        go_simp
        have hx := HX.out.set 0 (.string v1)
        simp only [List.setIfInBounds_toArray, List.set_cons_zero, List.set_cons_succ] at hx
        have HX := Lib.hid hx
        have HR := Lib.hid (rdo_set HR.out (show b ≠ w.heap.size + 1 + 1 by omega) 0 (.string v1))
        clear hx
        obtain ⟨-, y0, y1, y2, y3, u0, u1, u2, u3⟩ := HX.out.cells
        refine hK.out _ _ HX.out.box (fun hHeld => ?_)
        clear hK K
        try dsimp only [Act.put, List.getElem_toArray, List.getElem_cons_zero, List.getElem_cons_succ]; try simp only [List.setIfInBounds_toArray, List.set_cons_zero, List.set_cons_succ]
        refine wpAnyH_take (i := 8) (oi := _) (v := ?vq14) rfl (by kernel_rfl) (by kernel_rfl) (by kernel_rfl) (fun _ _ _ h => h) (Or.inl ⟨by rfl, ?hq14⟩) (by assumption) ?rq14
        case hq14 => (intro w hSw; go_simp; try with_reducible rfl)
        try dsimp only [Act.put, List.getElem_toArray, List.getElem_cons_zero, List.getElem_cons_succ]; try simp only [List.setIfInBounds_toArray, List.set_cons_zero, List.set_cons_succ]
        refine wpAnyH_take (i := 9) (oi := _) (v := ?vq15) rfl (by kernel_rfl) (by kernel_rfl) (by kernel_rfl) (fun _ _ _ h => h) (Or.inl ⟨by rfl, ?hq15⟩) (by assumption) ?rq15
        case hq15 => (intro w hSw; go_simp; try with_reducible rfl)
        try dsimp only [Act.put, List.getElem_toArray, List.getElem_cons_zero, List.getElem_cons_succ]; try simp only [List.setIfInBounds_toArray, List.set_cons_zero, List.set_cons_succ]
        refine wpAnyH_ready (rs := [10]) (by kernel_rfl) (by simp) ?_
        refine AllReadyH.cons (o := _) rfl (fun K hK => ?_) ?_
        · rw [if_pos (by rfl)]
          go_simp
          have hx := HX.out.set 1 (.int .i64 v2)
          simp only [List.setIfInBounds_toArray, List.set_cons_zero, List.set_cons_succ] at hx
          have HX := Lib.hid hx
          have HR := Lib.hid (rdo_set HR.out (show b ≠ w.heap.size + 1 + 1 by omega) 1 (.int .i64 v2))
          clear hx
          refine hK.out _ _ HX.out.box (fun hHeld => ?_)
          clear hK K
          try dsimp only [Act.put, List.getElem_toArray, List.getElem_cons_zero, List.getElem_cons_succ]; try simp only [List.setIfInBounds_toArray, List.set_cons_zero, List.set_cons_succ]
          refine wpAnyH_done (by kernel_rfl) ?_ _
          go_wp2
          have HX := Lib.hid HX.out.drew
          have HR := Lib.hid (Two.drew HR.out)
          refine wp_region_held_drew (S := (fun W => W.cell? ⟨w.heap.size, 0, none⟩ = some (.pointer (some ⟨b, 0, none⟩)))) (by kernel_rfl) HX.out.box (fun hHeld => ?_)
          refine wpAnyH_take (i := 0) (oi := _) (v := ?vq1) rfl (by kernel_rfl) (by kernel_rfl) (by kernel_rfl) (fun _ _ _ h => h) (Or.inl ⟨by rfl, ?hq1⟩) (by assumption) ?rq1
          case hq1 => (intro w hSw; go_simp; try with_reducible rfl)
          try dsimp only [Act.put, List.getElem_toArray, List.getElem_cons_zero, List.getElem_cons_succ]; try simp only [List.setIfInBounds_toArray, List.set_cons_zero, List.set_cons_succ]
          refine wpAnyH_take (i := 1) (oi := _) (v := ?vq2) rfl (by kernel_rfl) (by kernel_rfl) (by kernel_rfl) (fun _ _ _ h => h) (Or.inl ⟨by rfl, ?hq2⟩) (by assumption) ?rq2
          case hq2 => (intro w hSw; go_simp; try with_reducible rfl)
          try dsimp only [Act.put, List.getElem_toArray, List.getElem_cons_zero, List.getElem_cons_succ]; try simp only [List.setIfInBounds_toArray, List.set_cons_zero, List.set_cons_succ]
          refine wpAnyH_take (i := 3) (oi := _) (v := ?vq3) rfl (by kernel_rfl) (by kernel_rfl) (by kernel_rfl) (fun _ _ _ h => h) (Or.inl ⟨by rfl, ?hq3⟩) (by assumption) ?rq3
          case hq3 => (intro w hSw; go_simp; try with_reducible rfl)
          try dsimp only [Act.put, List.getElem_toArray, List.getElem_cons_zero, List.getElem_cons_succ]; try simp only [List.setIfInBounds_toArray, List.set_cons_zero, List.set_cons_succ]
          refine wpAnyH_take (i := 4) (oi := _) (v := ?vq4) rfl (by kernel_rfl) (by kernel_rfl) (by kernel_rfl) (fun _ _ _ h => h) (Or.inl ⟨by rfl, ?hq4⟩) (by assumption) ?rq4
          case hq4 => (intro w hSw; go_simp; try with_reducible rfl)
          try dsimp only [Act.put, List.getElem_toArray, List.getElem_cons_zero, List.getElem_cons_succ]; try simp only [List.setIfInBounds_toArray, List.set_cons_zero, List.set_cons_succ]
          refine wpAnyH_ready (rs := [2]) (by kernel_rfl) (by simp) ?_
          refine AllReadyH.cons (o := _) rfl (fun K hK => ?_) ?_
          · rw [if_pos (by rfl)]
            go_simp
            refine (T3.out _ HR.out).mono ?_
            rintro e w1 ⟨rfl, hr1, ho1⟩
            have hx := HX.out.call hbw ho1
            have HX := Lib.hid hx
            have HR := Lib.hid hr1
            clear hx hr1 ho1
            go_wp2_with fail
            refine hK.out _ _ HX.out.box (fun hHeld => ?_)
            clear hK K
            try dsimp only [Act.put, List.getElem_toArray, List.getElem_cons_zero, List.getElem_cons_succ]; try simp only [List.setIfInBounds_toArray, List.set_cons_zero, List.set_cons_succ]
            refine wpAnyH_take (i := 6) (oi := _) (v := ?vq5) rfl (by kernel_rfl) (by kernel_rfl) (by kernel_rfl) (fun _ _ _ h => h) (Or.inl ⟨by rfl, ?hq5⟩) (by assumption) ?rq5
            case hq5 => (intro w hSw; go_simp; try with_reducible rfl)
            try dsimp only [Act.put, List.getElem_toArray, List.getElem_cons_zero, List.getElem_cons_succ]; try simp only [List.setIfInBounds_toArray, List.set_cons_zero, List.set_cons_succ]
            refine wpAnyH_take (i := 7) (oi := _) (v := ?vq6) rfl (by kernel_rfl) (by kernel_rfl) (by kernel_rfl) (fun _ _ _ h => h) (Or.inl ⟨by rfl, ?hq6⟩) (by assumption) ?rq6
            case hq6 => (intro w hSw; go_simp; try with_reducible rfl)
            try dsimp only [Act.put, List.getElem_toArray, List.getElem_cons_zero, List.getElem_cons_succ]; try simp only [List.setIfInBounds_toArray, List.set_cons_zero, List.set_cons_succ]
            refine wpAnyH_ready (rs := [5]) (by kernel_rfl) (by simp) ?_
            refine AllReadyH.cons (o := _) rfl (fun K hK => ?_) ?_
            · rw [if_pos (by rfl)]
              go_simp
              refine (T4.out _ HR.out).mono ?_
              rintro e w1 ⟨rfl, hr1, ho1⟩
              have hx := HX.out.call hbw ho1
              have HX := Lib.hid hx
              have HR := Lib.hid hr1
              clear hx hr1 ho1
              obtain ⟨-, y0, y1, y2, y3, u0, u1, u2, u3⟩ := HX.out.cells
              go_wp2_with fail
              refine hK.out _ _ HX.out.box (fun hHeld => ?_)
              clear hK K
              try dsimp only [Act.put, List.getElem_toArray, List.getElem_cons_zero, List.getElem_cons_succ]; try simp only [List.setIfInBounds_toArray, List.set_cons_zero, List.set_cons_succ]
              refine wpAnyH_ready (rs := [8]) (by kernel_rfl) (by simp) ?_
              refine AllReadyH.cons (o := _) rfl (fun K hK => ?_) ?_
              · rw [if_pos (by rfl)]
                go_simp
                have hx := HX.out.set 2 (.string v3)
                simp only [List.setIfInBounds_toArray, List.set_cons_zero, List.set_cons_succ] at hx
                have HX := Lib.hid hx
                have HR := Lib.hid (rdo_set HR.out (show b ≠ w.heap.size + 1 + 1 by omega) 2 (.string v3))
                clear hx
                obtain ⟨-, y0, y1, y2, y3, u0, u1, u2, u3⟩ := HX.out.cells
                refine hK.out _ _ HX.out.box (fun hHeld => ?_)
                clear hK K
                try dsimp only [Act.put, List.getElem_toArray, List.getElem_cons_zero, List.getElem_cons_succ]; try simp only [List.setIfInBounds_toArray, List.set_cons_zero, List.set_cons_succ]
                refine wpAnyH_take (i := 9) (oi := _) (v := ?vq7) rfl (by kernel_rfl) (by kernel_rfl) (by kernel_rfl) (fun _ _ _ h => h) (Or.inl ⟨by rfl, ?hq7⟩) (by assumption) ?rq7
                case hq7 => (intro w hSw; go_simp; try with_reducible rfl)
                try dsimp only [Act.put, List.getElem_toArray, List.getElem_cons_zero, List.getElem_cons_succ]; try simp only [List.setIfInBounds_toArray, List.set_cons_zero, List.set_cons_succ]
                refine wpAnyH_take (i := 10) (oi := _) (v := ?vq8) rfl (by kernel_rfl) (by kernel_rfl) (by kernel_rfl) (fun _ _ _ h => h) (Or.inl ⟨by rfl, ?hq8⟩) (by assumption) ?rq8
                case hq8 => (intro w hSw; go_simp; try with_reducible rfl)
                try dsimp only [Act.put, List.getElem_toArray, List.getElem_cons_zero, List.getElem_cons_succ]; try simp only [List.setIfInBounds_toArray, List.set_cons_zero, List.set_cons_succ]
                refine wpAnyH_ready (rs := [11]) (by kernel_rfl) (by simp) ?_
                refine AllReadyH.cons (o := _) rfl (fun K hK => ?_) ?_
                · rw [if_pos (by rfl)]
                  go_simp
                  have hx := HX.out.set 3 (.string v4)
                  simp only [List.setIfInBounds_toArray, List.set_cons_zero, List.set_cons_succ] at hx
                  have HX := Lib.hid hx
                  have HR := Lib.hid (rdo_set HR.out (show b ≠ w.heap.size + 1 + 1 by omega) 3 (.string v4))
                  clear hx
                  refine hK.out _ _ HX.out.box (fun hHeld => ?_)
                  clear hK K
                  try dsimp only [Act.put, List.getElem_toArray, List.getElem_cons_zero, List.getElem_cons_succ]; try simp only [List.setIfInBounds_toArray, List.set_cons_zero, List.set_cons_succ]
                  refine wpAnyH_done (by kernel_rfl) ?_ _
                  obtain ⟨-, y0, y1, y2, y3, u0, u1, u2, u3⟩ := HX.out.cells
                  obtain ⟨r0, r1, r2, r3, q0, q1, q2, q3⟩ := HX.out.res
                  go_wp2
                  refine bodyPost_ret (results_cell_row rfl _ _ (w.heap.size + 1) _ #[.string v1, .int .i64 v2, .string v3, .string v4] (0, 0) _ rfl (set4 HX.out.r _ _ _ _) Try.underlying47 rfl row_ent.hi) rfl ⟨by rw [HV.out], HE.out _ ?_, ?_⟩
                  · have hne : b ≠ w.heap.size + 1 := by omega
                    exact rdo_set (rdo_set (rdo_set (rdo_set HR.out hne _ _) hne _ _) hne _ _) hne _ _
                  · exact only_new (only_new (only_new (only_new HX.out.only (by omega) _ _) (by omega) _ _) (by omega) _ _) (by omega) _ _
                exact AllReadyH.nil
              exact AllReadyH.nil
            exact AllReadyH.nil
          exact AllReadyH.nil
        exact AllReadyH.nil
      exact AllReadyH.nil
    exact AllReadyH.nil
  exact AllReadyH.nil
end Go.Proofs.Ytlmplibdfhamjaa
