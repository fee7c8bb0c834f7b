/- The leaves of items, by the code and by the document. -/
import Derived.Test.YtgmafnpkhmlnnaaObjR
import Derived.Test.YtgmafnpkhmlnnaaTreeF
attribute [local go_sem ↓] Go.wp_at_zero Go.wp_at_succ
namespace Go.Proofs.Ytgmafnpkhmlnnaa
open Go.RowKit Go.Mem Go.Num
set_option linter.unusedVariables false
set_option linter.unusedSimpArgs false

def itemc (l : List Item) : List Value := l.flatMap fun m => m.arr.toList
def leafO (x : Item) : Leaf := ⟨x.place, digO x.obj⟩
theorem leafO_step (l : List Item) (k : Nat) (h : k < l.length) : (l.take (k + 1)).map leafO = (l.take k).map leafO ++ [leafO l[k]] := by
  rw [List.take_succ_eq_append_getElem h, List.map_append]; rfl
theorem cell_grown {w w' : World} {g : Option Nat} (hg : w.grownBy w' g) {p : Addr} {u : Value} (h : w.cell? p = some u) (hne : some p.block ≠ g) : w'.cell? p = some u :=
  (World.cell?_of_block (a := p) (hg.block p.block (World.block_lt_of_cell? w p h) hne)).trans h
set_option maxRecDepth 100000 in
set_option maxHeartbeats 4000000 in
theorem leaves_any (A : Option Addr) (n c : Nat) (l : List Item) (w : World) (hr : Rd w A (itemc l)) (hn : l.length = n) (hm : n ≤ 1000) (hok : ∀ m ∈ l, m.ok w ∧ (objB m.obj).length + 128 ≤ 1099511627776) :
    Calls Try.prog 48 #[.slice A n c] w (MakesL (l.map leafO) w) := by
  have HR := Lib.hid hr; have HN := Lib.hid hn; have HOK := Lib.hid hok
  clear hr hn hok
  go_enter Try.func48, Try.ntmps48
  go_wp2
  go_loopw [3, 8] (fun v i wr => ∃ k : Nat, k ≤ n ∧ i = .int .i64 k ∧ Hid (wr.ownsRow w.heap.size 48 2 v k (leafc ((l.take k).map leafO))) ∧ Below w.heap.size w wr) (fun _ i _ => n - (intOf i).toNat)
  case atStart => exact ⟨0, Nat.zero_le _, rfl, Lib.hid (World.ownsRow_nil _ _ _ _), Below.refl _ _⟩
  case round =>
    obtain ⟨k, hk, rfl, HO, hbel⟩ := hrel
    by_cases hlt : k < n
    · have hx : k < l.length := by have := HN.out; omega
      obtain ⟨b, off, rfl, hrg⟩ := row_item.at_ (HR.out.below hbel) k hx
      have hs := HOK.out l[k] (List.getElem_mem hx)
      have HS := Lib.hid (leafO_step l k hx)
      have HD := Lib.hid (fun (W : World) (h : Below w.heap.size w W) => digest_any l[k].obj W (hs.1.2.below h) hs.2)
      clear hs
      generalize (l.take k).map leafO = u at HO HS
      generalize l[k] = s at hrg HS HD
      obtain ⟨p, ⟨cx, sb⟩⟩ := s
      rw [show leafO ⟨p, ⟨cx, sb⟩⟩ = ⟨p, digO ⟨cx, sb⟩⟩ from rfl] at HS
      simp only [Ob.arr] at HD
      generalize digO ⟨cx, sb⟩ = d at HS HD
      have d0 : wr.cell? ⟨b, off + k * 3, none⟩ = some (.string p) := rangeAt_cell hrg 0 rfl
      have d1 : wr.cell? ⟨b, off + k * 3 + 1, none⟩ = some cx.v := rangeAt_cell hrg 1 rfl
      have d2 : wr.cell? ⟨b, off + k * 3 + 2, none⟩ = some sb.v := rangeAt_cell hrg 2 rfl
      clear hrg
      have hcv : ∃ A n k, cx.v = .slice A n k := ⟨_, _, _, rfl⟩
      have hsv : ∃ A n k, sb.v = .slice A n k := ⟨_, _, _, rfl⟩
      generalize cx.v = cv at *
      generalize sb.v = sv at *
      obtain ⟨cA, cn, ck, rfl⟩ := hcv
      obtain ⟨sA, sn, sk, rfl⟩ := hsv
      have hx0 := range_new wr #[.string p, .slice cA cn ck, .slice sA sn sk] 65
      have c0 := rangeAt_cell hx0 0 rfl; have c1 := rangeAt_cell hx0 1 rfl; have c2 := rangeAt_cell hx0 2 rfl
      simp only [Nat.zero_add] at c0 c1 c2
      have C0 := Lib.hid c0; have C1 := Lib.hid c1; have C2 := Lib.hid c2
      clear c0 c1 c2 hx0
      have HO1 := Lib.hid (HO.out.alloc (.cells #[.string p, .slice cA cn ck, .slice sA sn sk] 65))
      have HB1 := Lib.hid (hbel.alloc hbel.size (.cells #[.string p, .slice cA cn ck, .slice sA sn sk] 65))
      have HLT := Lib.hid (fun g (h : Value.ownBlock u3 = some g) => (HO.out.lt g h).2)
      have HZ := Lib.hid hbel.size
      clear HO hbel
      go_wp2
      clear d0 d1 d2
      generalize wr.alloc (.cells #[.string p, .slice cA cn ck, .slice sA sn sk] 65) = w1 at *
      generalize wr.heap.size = z at *
      have hb : Below w1.heap.size w1 w1.drew := (Below.refl _ _).drew
      refine wp_region_held_drew (S := (fun W => W.cell? ⟨z, 0, none⟩ = some (.string p) ∧ W.cell? ⟨z, 1, none⟩ = some (.slice cA cn ck) ∧ W.cell? ⟨z, 2, none⟩ = some (.slice sA sn sk))) (by kernel_rfl) ⟨C0.out, C1.out, C2.out⟩ (fun hHeld => ?_)
      refine wpAnyH_take (i := 0) (oi := _) (v := ?vq1) rfl (by kernel_rfl) (by kernel_rfl) (by kernel_rfl) (fun _ _ _ h => h) (Or.inl ⟨by rfl, ?hq1⟩) (by assumption) ?rq1
      case hq1 => (intro w hSw; go_simp; try with_reducible rfl)
      try dsimp only [Act.put, List.getElem_toArray, List.getElem_cons_zero, List.getElem_cons_succ]; try simp only [List.setIfInBounds_toArray, List.set_cons_zero, List.set_cons_succ]
      refine wpAnyH_take (i := 1) (oi := _) (v := ?vq2) rfl (by kernel_rfl) (by kernel_rfl) (by kernel_rfl) (fun _ _ _ h => h) (Or.inl ⟨by rfl, ?hq2⟩) (by assumption) ?rq2
      case hq2 => (intro w hSw; go_simp; try with_reducible rfl)
      try dsimp only [Act.put, List.getElem_toArray, List.getElem_cons_zero, List.getElem_cons_succ]; try simp only [List.setIfInBounds_toArray, List.set_cons_zero, List.set_cons_succ]
      refine wpAnyH_take (i := 2) (oi := _) (v := ?vq3) rfl (by kernel_rfl) (by kernel_rfl) (by kernel_rfl) (fun _ _ _ h => h) (Or.inl ⟨by rfl, ?hq3⟩) (by assumption) ?rq3
      case hq3 => (intro w hSw; go_simp; try with_reducible rfl)
      try dsimp only [Act.put, List.getElem_toArray, List.getElem_cons_zero, List.getElem_cons_succ]; try simp only [List.setIfInBounds_toArray, List.set_cons_zero, List.set_cons_succ]
      refine wpAnyH_take (i := 3) (oi := _) (v := ?vq4) rfl (by kernel_rfl) (by kernel_rfl) (by kernel_rfl) (fun _ _ _ h => h) (Or.inl ⟨by rfl, ?hq4⟩) (by assumption) ?rq4
      case hq4 => (intro w hSw; go_simp; try with_reducible rfl)
      try dsimp only [Act.put, List.getElem_toArray, List.getElem_cons_zero, List.getElem_cons_succ]; try simp only [List.setIfInBounds_toArray, List.set_cons_zero, List.set_cons_succ]
      refine wpAnyH_take (i := 4) (oi := _) (v := ?vq5) rfl (by kernel_rfl) (by kernel_rfl) (by kernel_rfl) (fun _ _ _ h => h) (Or.inl ⟨by rfl, ?hq5⟩) (by assumption) ?rq5
      case hq5 => (intro w hSw; go_simp; try with_reducible rfl)
      try dsimp only [Act.put, List.getElem_toArray, List.getElem_cons_zero, List.getElem_cons_succ]; try simp only [List.setIfInBounds_toArray, List.set_cons_zero, List.set_cons_succ]
      refine wpAnyH_ready (rs := [5]) (by kernel_rfl) (by simp) ?_
      refine AllReadyH.cons (o := _) rfl (fun K hK => ?_) ?_
      · rw [if_pos (by rfl)]
        go_simp
        refine (HD.out _ (HB1.out.trans (hb.mono HB1.out.size))).mono ?_
        rintro e wx ⟨rfl, hbx⟩
        have hb := then_ hb hbx
        clear hbx
        go_wp2_with fail
        refine hK.out _ _ ⟨cell_below hb C0.out, cell_below hb C1.out, cell_below hb C2.out⟩ (fun hHeld => ?_)
        clear hK K
        try dsimp only [Act.put, List.getElem_toArray, List.getElem_cons_zero, List.getElem_cons_succ]; try simp only [List.setIfInBounds_toArray, List.set_cons_zero, List.set_cons_succ]
        refine wpAnyH_take (i := 6) (oi := _) (v := ?vq6) rfl (by kernel_rfl) (by kernel_rfl) (by kernel_rfl) (fun _ _ _ h => h) (Or.inl ⟨by rfl, ?hq6⟩) (by assumption) ?rq6
        case hq6 => (intro w hSw; go_simp; try with_reducible rfl)
        try dsimp only [Act.put, List.getElem_toArray, List.getElem_cons_zero, List.getElem_cons_succ]; try simp only [List.setIfInBounds_toArray, List.set_cons_zero, List.set_cons_succ]
        refine wpAnyH_ready (rs := [7]) (by kernel_rfl) (by simp) ?_
        refine AllReadyH.cons (o := _) rfl (fun K hK => ?_) ?_
        · rw [if_pos (by rfl)]
          go_simp
          have hb9 := Lib.hid hb
          have hal := (Below.refl wx.heap.size wx).alloc (Nat.le_refl _) (.cells #[.string p, .string d] 48)
          have hb := then_ hb hal
          refine hK.out _ _ ⟨cell_below hb C0.out, cell_below hb C1.out, cell_below hb C2.out⟩ (fun hHeld => ?_)
          clear hK K
          try dsimp only [Act.put, List.getElem_toArray, List.getElem_cons_zero, List.getElem_cons_succ]; try simp only [List.setIfInBounds_toArray, List.set_cons_zero, List.set_cons_succ]
          refine wpAnyH_ready (rs := [8]) (by kernel_rfl) (by simp) ?_
          refine AllReadyH.cons (o := _) rfl (fun K hK => ?_) ?_
          · refine step_app el_leaf (by rfl) (.tmp 12) (.tmp 19) (by rfl) w.heap.size _ k (leafc u) (by rfl) ((own_below HO1.out hb9.out).alloc _) (some ⟨wx.heap.size, 0, none⟩) 1 1 [.string p, .string d] (by rfl) rfl (Rd.new wx #[.string p, .string d] _) (by intro u hu; simp at hu; rcases hu with rfl | rfl <;> rfl) (by unfold maxLen; omega) (by omega) (by have h8 := HB1.out.size; have h9 := hb.size; omega) ?_
            intro v6 w6 hown6 hbel6 hg6 _
            have HB6 := Lib.hid ((HB1.out.trans (hb.mono HB1.out.size)).trans hbel6)
            have HO6 := Lib.hid hown6
            refine hK.out _ _ ⟨cell_grown hg6 (cell_below hb C0.out) (fun e => by have := HLT.out z e.symm; omega), cell_grown hg6 (cell_below hb C1.out) (fun e => by have := HLT.out z e.symm; omega), cell_grown hg6 (cell_below hb C2.out) (fun e => by have := HLT.out z e.symm; omega)⟩ (fun hHeld => ?_)
            clear hK K
            try dsimp only [Act.put, List.getElem_toArray, List.getElem_cons_zero, List.getElem_cons_succ]; try simp only [List.setIfInBounds_toArray, List.set_cons_zero, List.set_cons_succ]
            refine wpAnyH_take (i := 9) (oi := _) (v := ?vq7) rfl (by kernel_rfl) (by kernel_rfl) (by kernel_rfl) (fun _ _ _ h => h) (Or.inl ⟨by rfl, ?hq7⟩) (by assumption) ?rq7
            case hq7 => (intro w hSw; go_simp; try with_reducible rfl)
            try dsimp only [Act.put, List.getElem_toArray, List.getElem_cons_zero, List.getElem_cons_succ]; try simp only [List.setIfInBounds_toArray, List.set_cons_zero, List.set_cons_succ]
            refine wpAnyH_done (by kernel_rfl) ?_ _
            clear hown6 hbel6 hg6
            go_wp2
            go_roundw
            case rel => exact ⟨k + 1, by omega, by go_num, Lib.hid (by rw [HS.out, leafc_app]; exact HO6.out), HB6.out⟩
            case measure => simp [intOf]; omega
          exact AllReadyH.nil
        exact AllReadyH.nil
      exact AllReadyH.nil
    · obtain rfl : k = n := by omega
      have hfull : l.take k = l := List.take_of_length_le (by rw [HN.out]; omega)
      rw [hfull] at HO
      have HN2 := Lib.hid (show (l.map leafO).length = k by rw [List.length_map]; exact HN.out)
      clear hfull
      go_wp2
      go_ret
      exact ⟨_, rfl, by rw [HN2.out]; exact HO.out, hbel⟩
set_option maxRecDepth 100000 in
set_option maxHeartbeats 4000000 in
theorem rleaves_any (A : Option Addr) (n c : Nat) (l : List Item) (w : World) (hr : Rd w A (itemc l)) (hn : l.length = n) (hm : n ≤ 1000) (hok : ∀ m ∈ l, m.ok w ∧ (objB m.obj).length + 128 ≤ 1099511627776) :
    Calls Try.prog 49 #[.slice A n c] w (MakesL (l.map leafO) w) := by
  have HR := Lib.hid hr; have HN := Lib.hid hn; have HOK := Lib.hid hok
  clear hr hn hok
  go_enter Try.func49, Try.ntmps49
  go_wp2
  go_loopw [3, 4] (fun v i wr => ∃ k : Nat, k ≤ n ∧ i = .int .i64 k ∧ Hid (wr.ownsRow w.heap.size 48 2 v k (leafc ((l.take k).map leafO))) ∧ Below w.heap.size w wr) (fun _ i _ => n - (intOf i).toNat)
  case atStart => exact ⟨0, Nat.zero_le _, rfl, Lib.hid (World.ownsRow_nil _ _ _ _), Below.refl _ _⟩
  case round =>
    obtain ⟨k, hk, rfl, HO, hbel⟩ := hrel
    by_cases hlt : k < n
    · have hx : k < l.length := by have := HN.out; omega
      obtain ⟨b, off, rfl, hrg⟩ := row_item.at_ HR.out k hx
      have hs := HOK.out l[k] (List.getElem_mem hx)
      have HS := Lib.hid (leafO_step l k hx)
      have HD := Lib.hid (fun (W : World) (h : Below w.heap.size w W) => rDigest_any l[k].obj W (hs.1.2.below h) hs.2)
      clear hs
      generalize (l.take k).map leafO = u at HO HS
      generalize l[k] = s at hrg HS HD
      obtain ⟨p, ⟨cx, sb⟩⟩ := s
      rw [show leafO ⟨p, ⟨cx, sb⟩⟩ = ⟨p, digO ⟨cx, sb⟩⟩ from rfl] at HS
      simp only [Ob.arr] at HD
      generalize digO ⟨cx, sb⟩ = d at HS HD
      have d0 : w.cell? ⟨b, off + k * 3, none⟩ = some (.string p) := rangeAt_cell hrg 0 rfl
      have d1 : w.cell? ⟨b, off + k * 3 + 1, none⟩ = some cx.v := rangeAt_cell hrg 1 rfl
      have d2 : w.cell? ⟨b, off + k * 3 + 2, none⟩ = some sb.v := rangeAt_cell hrg 2 rfl
      clear hrg
      have hcv : ∃ A n k, cx.v = .slice A n k := ⟨_, _, _, rfl⟩
      have hsv : ∃ A n k, sb.v = .slice A n k := ⟨_, _, _, rfl⟩
      generalize cx.v = cv at *
      generalize sb.v = sv at *
      obtain ⟨cA, cn, ck, rfl⟩ := hcv
      obtain ⟨sA, sn, sk, rfl⟩ := hsv
      have C0 := Lib.hid (cell_below hbel d0); have C1 := Lib.hid (cell_below hbel d1); have C2 := Lib.hid (cell_below hbel d2)
      have D0 := Lib.hid d0; have D1 := Lib.hid d1; have D2 := Lib.hid d2
      have HO1 := HO
      have HB1 := Lib.hid hbel
      have hki0 : (0 : Int) ≤ (k : Int) := by omega
      have hkin : (k : Int) < (n : Int) := by omega
      clear d0 d1 d2 HO hbel
      go_wp2
      have hb : Below wr.heap.size wr wr.drew := (Below.refl _ _).drew
      refine wp_region_held_drew (S := (fun W => W.cell? ⟨b, off + k * 3, none⟩ = some (.string p) ∧ W.cell? ⟨b, off + k * 3 + 1, none⟩ = some (.slice cA cn ck) ∧ W.cell? ⟨b, off + k * 3 + 2, none⟩ = some (.slice sA sn sk))) (by kernel_rfl) ⟨C0.out, C1.out, C2.out⟩ (fun hHeld => ?_)
      refine wpAnyH_take (i := 0) (oi := _) (v := ?vq8) rfl (by kernel_rfl) (by kernel_rfl) (by kernel_rfl) (fun _ _ _ h => h) (Or.inl ⟨by rfl, ?hq8⟩) (by assumption) ?rq8
      case hq8 => (intro w hSw; go_simp; try with_reducible rfl)
      try dsimp only [Act.put, List.getElem_toArray, List.getElem_cons_zero, List.getElem_cons_succ]; try simp only [List.setIfInBounds_toArray, List.set_cons_zero, List.set_cons_succ]
      refine wpAnyH_take (i := 1) (oi := _) (v := ?vq9) rfl (by kernel_rfl) (by kernel_rfl) (by kernel_rfl) (fun _ _ _ h => h) (Or.inl ⟨by rfl, ?hq9⟩) (by assumption) ?rq9
      case hq9 => (intro w hSw; go_simp; try with_reducible rfl)
      try dsimp only [Act.put, List.getElem_toArray, List.getElem_cons_zero, List.getElem_cons_succ]; try simp only [List.setIfInBounds_toArray, List.set_cons_zero, List.set_cons_succ]
      refine wpAnyH_take (i := 2) (oi := _) (v := ?vq10) rfl (by kernel_rfl) (by kernel_rfl) (by kernel_rfl) (fun _ _ _ h => h) (Or.inl ⟨by rfl, ?hq10⟩) (by assumption) ?rq10
      case hq10 => (intro w hSw; go_simp; try with_reducible rfl)
      try dsimp only [Act.put, List.getElem_toArray, List.getElem_cons_zero, List.getElem_cons_succ]; try simp only [List.setIfInBounds_toArray, List.set_cons_zero, List.set_cons_succ]
      refine wpAnyH_take (i := 3) (oi := _) (v := ?vq11) rfl (by kernel_rfl) (by kernel_rfl) (by kernel_rfl) (fun _ _ _ h => h) (Or.inl ⟨by rfl, ?hq11⟩) (by assumption) ?rq11
      case hq11 => (intro w hSw; go_simp; try with_reducible rfl)
      try dsimp only [Act.put, List.getElem_toArray, List.getElem_cons_zero, List.getElem_cons_succ]; try simp only [List.setIfInBounds_toArray, List.set_cons_zero, List.set_cons_succ]
      refine wpAnyH_take (i := 4) (oi := _) (v := ?vq12) rfl (by kernel_rfl) (by kernel_rfl) (by kernel_rfl) (fun _ _ _ h => h) (Or.inl ⟨by rfl, ?hq12⟩) (by assumption) ?rq12
      case hq12 => (intro w hSw; go_simp; try with_reducible rfl)
      try dsimp only [Act.put, List.getElem_toArray, List.getElem_cons_zero, List.getElem_cons_succ]; try simp only [List.setIfInBounds_toArray, List.set_cons_zero, List.set_cons_succ]
      refine wpAnyH_take (i := 5) (oi := _) (v := ?vq13) rfl (by kernel_rfl) (by kernel_rfl) (by kernel_rfl) (fun _ _ _ h => h) (Or.inl ⟨by rfl, ?hq13⟩) (by assumption) ?rq13
      case hq13 => (intro w hSw; go_simp; try with_reducible rfl)
      try dsimp only [Act.put, List.getElem_toArray, List.getElem_cons_zero, List.getElem_cons_succ]; try simp only [List.setIfInBounds_toArray, List.set_cons_zero, List.set_cons_succ]
      refine wpAnyH_take (i := 6) (oi := _) (v := ?vq14) rfl (by kernel_rfl) (by kernel_rfl) (by kernel_rfl) (fun _ _ _ h => h) (Or.inl ⟨by rfl, ?hq14⟩) (by assumption) ?rq14
      case hq14 => (intro w hSw; go_simp; try with_reducible rfl)
      try dsimp only [Act.put, List.getElem_toArray, List.getElem_cons_zero, List.getElem_cons_succ]; try simp only [List.setIfInBounds_toArray, List.set_cons_zero, List.set_cons_succ]
      refine wpAnyH_take (i := 7) (oi := _) (v := ?vq15) rfl (by kernel_rfl) (by kernel_rfl) (by kernel_rfl) (fun _ _ _ h => h) (Or.inl ⟨by rfl, ?hq15⟩) (by assumption) ?rq15
      case hq15 => (intro w hSw; go_simp; try with_reducible rfl)
      try dsimp only [Act.put, List.getElem_toArray, List.getElem_cons_zero, List.getElem_cons_succ]; try simp only [List.setIfInBounds_toArray, List.set_cons_zero, List.set_cons_succ]
      refine wpAnyH_take (i := 8) (oi := _) (v := ?vq16) rfl (by kernel_rfl) (by kernel_rfl) (by kernel_rfl) (fun _ _ _ h => h) (Or.inl ⟨by rfl, ?hq16⟩) (by assumption) ?rq16
      case hq16 => (intro w hSw; go_simp; try with_reducible rfl)
      try dsimp only [Act.put, List.getElem_toArray, List.getElem_cons_zero, List.getElem_cons_succ]; try simp only [List.setIfInBounds_toArray, List.set_cons_zero, List.set_cons_succ]
      refine wpAnyH_take (i := 9) (oi := _) (v := ?vq17) rfl (by kernel_rfl) (by kernel_rfl) (by kernel_rfl) (fun _ _ _ h => h) (Or.inl ⟨by rfl, ?hq17⟩) (by assumption) ?rq17
      case hq17 => (intro w hSw; go_simp; try with_reducible rfl)
      try dsimp only [Act.put, List.getElem_toArray, List.getElem_cons_zero, List.getElem_cons_succ]; try simp only [List.setIfInBounds_toArray, List.set_cons_zero, List.set_cons_succ]
      refine wpAnyH_take (i := 10) (oi := _) (v := ?vq18) rfl (by kernel_rfl) (by kernel_rfl) (by kernel_rfl) (fun _ _ _ h => h) (Or.inl ⟨by rfl, ?hq18⟩) (by assumption) ?rq18
      case hq18 => (intro w hSw; go_simp; try with_reducible rfl)
      try dsimp only [Act.put, List.getElem_toArray, List.getElem_cons_zero, List.getElem_cons_succ]; try simp only [List.setIfInBounds_toArray, List.set_cons_zero, List.set_cons_succ]
      refine wpAnyH_ready (rs := [11]) (by kernel_rfl) (by simp) ?_
      refine AllReadyH.cons (o := _) rfl (fun K hK => ?_) ?_
      · rw [if_pos (by rfl)]
        go_simp
        refine (HD.out _ (HB1.out.trans (hb.mono HB1.out.size))).mono ?_
        rintro e wx ⟨rfl, hbx⟩
        have hb := then_ hb hbx
        clear hbx
        go_wp2_with fail
        refine hK.out _ _ ⟨cell_below hb C0.out, cell_below hb C1.out, cell_below hb C2.out⟩ (fun hHeld => ?_)
        clear hK K
        try dsimp only [Act.put, List.getElem_toArray, List.getElem_cons_zero, List.getElem_cons_succ]; try simp only [List.setIfInBounds_toArray, List.set_cons_zero, List.set_cons_succ]
        refine wpAnyH_take (i := 12) (oi := _) (v := ?vq19) rfl (by kernel_rfl) (by kernel_rfl) (by kernel_rfl) (fun _ _ _ h => h) (Or.inl ⟨by rfl, ?hq19⟩) (by assumption) ?rq19
        case hq19 => (intro w hSw; go_simp; try with_reducible rfl)
        try dsimp only [Act.put, List.getElem_toArray, List.getElem_cons_zero, List.getElem_cons_succ]; try simp only [List.setIfInBounds_toArray, List.set_cons_zero, List.set_cons_succ]
        refine wpAnyH_ready (rs := [13]) (by kernel_rfl) (by simp) ?_
        refine AllReadyH.cons (o := _) rfl (fun K hK => ?_) ?_
        · rw [if_pos (by rfl)]
          go_simp
          have hb9 := Lib.hid hb
          have hal := (Below.refl wx.heap.size wx).alloc (Nat.le_refl _) (.cells #[.string p, .string d] 48)
          have hb := then_ hb hal
          refine hK.out _ _ ⟨cell_below hb C0.out, cell_below hb C1.out, cell_below hb C2.out⟩ (fun hHeld => ?_)
          clear hK K
          try dsimp only [Act.put, List.getElem_toArray, List.getElem_cons_zero, List.getElem_cons_succ]; try simp only [List.setIfInBounds_toArray, List.set_cons_zero, List.set_cons_succ]
          refine wpAnyH_ready (rs := [14]) (by kernel_rfl) (by simp) ?_
          refine AllReadyH.cons (o := _) rfl (fun K hK => ?_) ?_
          · refine step_app el_leaf (by rfl) (.tmp 11) (.tmp 24) (by rfl) w.heap.size _ k (leafc u) (by rfl) ((own_below HO1.out hb9.out).alloc _) (some ⟨wx.heap.size, 0, none⟩) 1 1 [.string p, .string d] (by rfl) rfl (Rd.new wx #[.string p, .string d] _) (by intro u hu; simp at hu; rcases hu with rfl | rfl <;> rfl) (by unfold maxLen; omega) (by omega) (by have h8 := HB1.out.size; have h9 := hb.size; omega) ?_
            intro v6 w6 hown6 hbel6 hg6 _
            have HB6 := Lib.hid ((HB1.out.trans (hb.mono HB1.out.size)).trans hbel6)
            have HO6 := Lib.hid hown6
            refine hK.out _ _ ⟨cell_below HB6.out D0.out, cell_below HB6.out D1.out, cell_below HB6.out D2.out⟩ (fun hHeld => ?_)
            clear hK K
            try dsimp only [Act.put, List.getElem_toArray, List.getElem_cons_zero, List.getElem_cons_succ]; try simp only [List.setIfInBounds_toArray, List.set_cons_zero, List.set_cons_succ]
            refine wpAnyH_take (i := 15) (oi := _) (v := ?vq20) rfl (by kernel_rfl) (by kernel_rfl) (by kernel_rfl) (fun _ _ _ h => h) (Or.inl ⟨by rfl, ?hq20⟩) (by assumption) ?rq20
            case hq20 => (intro w hSw; go_simp; try with_reducible rfl)
            try dsimp only [Act.put, List.getElem_toArray, List.getElem_cons_zero, List.getElem_cons_succ]; try simp only [List.setIfInBounds_toArray, List.set_cons_zero, List.set_cons_succ]
            refine wpAnyH_done (by kernel_rfl) ?_ _
            clear hown6 hbel6 hg6
            go_wp2
            go_roundw
            case rel => exact ⟨k + 1, by omega, by go_num, Lib.hid (by rw [HS.out, leafc_app]; exact HO6.out), HB6.out⟩
            case measure => simp [intOf]; omega
          exact AllReadyH.nil
        exact AllReadyH.nil
      exact AllReadyH.nil
    · obtain rfl : k = n := by omega
      have hfull : l.take k = l := List.take_of_length_le (by rw [HN.out]; omega)
      rw [hfull] at HO
      have HN2 := Lib.hid (show (l.map leafO).length = k by rw [List.length_map]; exact HN.out)
      clear hfull
      go_wp2
      go_ret
      exact ⟨_, rfl, by rw [HN2.out]; exact HO.out, hbel⟩
end Go.Proofs.Ytgmafnpkhmlnnaa
