/- The walk of ProofIs. -/
import Derived.Test.YtgmafnpkhmlnnaaTriO
attribute [local go_sem ↓] Go.wp_at_zero Go.wp_at_succ
namespace Go.Proofs.Ytgmafnpkhmlnnaa
open Go.RowKit Go.Mem Go.Num Go.Tri
set_option linter.unusedVariables false
set_option linter.unusedSimpArgs false

/-- a contract that turns nothing -/
theorem quietC {f : FuncId} {args : Array Value} {w : World} {v : Value} (h : Calls Try.prog f args w fun e w' => e = .returned v ∧ w = w') : Calls Try.prog f args w fun e w' => e = .returned v ∧ Below w.heap.size w w' :=
  h.mono fun e w' ⟨h1, h2⟩ => ⟨h1, by subst h2; exact Below.refl _ _⟩
theorem range_blk {W : World} {g : Nat} {cs : Array Value} {t : TypeId} (h : W.heap[g]? = some (.cells cs t (0, 0))) : W.rangeAt g 0 cs.toList := fun j v hj => by
  rw [Nat.zero_add, cell_of_row _ _ _ _ _ _ h]; simpa using hj
/-- what the last part reads: two numbers in a block, levels in another -/
structure Rds (W : World) (nb lb b0 o0 c0 : Nat) (z0 z1 : Int) (cs : Array Value) (x : ByteArray) : Prop where
  n0 : W.cell? ⟨nb, 0, none⟩ = some (.int .i64 z0)
  n1 : W.cell? ⟨nb, 1, none⟩ = some (.int .i64 z1)
  bl : W.heap[lb]? = some (.cells cs 44 (0, 0))
  r0 : W.cell? ⟨lb, 0, none⟩ = some (.slice (some ⟨b0, o0, none⟩) 1 c0)
  r1 : W.cell? ⟨b0, o0, none⟩ = some (.string x)
theorem heap_below {W W' : World} {g : Nat} {o : Obj} (hb : Below W.heap.size W W') (h : W.heap[g]? = some o) : W'.heap[g]? = some o := (hb.block g (Array.getElem?_eq_some_iff.1 h).1).trans h
theorem Rds.below {W W' : World} {nb lb b0 o0 c0 : Nat} {z0 z1 : Int} {cs : Array Value} {x : ByteArray} (h : Rds W nb lb b0 o0 c0 z0 z1 cs x) (hb : Below W.heap.size W W') : Rds W' nb lb b0 o0 c0 z0 z1 cs x :=
  ⟨cell_below hb h.n0, cell_below hb h.n1, heap_below hb h.bl, cell_below hb h.r0, cell_below hb h.r1⟩
set_option maxRecDepth 100000 in
set_option maxHeartbeats 16000000 in
theorem proofIs_walk (A : Option Addr) (n c : Nat) (a : List Leaf) (B : Option Addr) (m d : Nat) (b : List Leaf) (nn : Int × Int) (w : World)
    (hr : Rd w A (leafc a)) (hn : a.length = n) (hm : n ≤ maxLen) (hok : ∀ m ∈ a, m.ok w) (hr2 : Rd w B (leafc b)) (hn2 : b.length = m) (hm2 : m ≤ maxLen) (hok2 : ∀ m ∈ b, m.ok w) :
    Calls Try.prog 6 #[.slice A n c, .slice B m d, .agg (arr2i nn)] w fun e w' => e = .returned (.bool true) ∧ Below w.heap.size w w' := by
  obtain ⟨z0, z1⟩ := nn
  have hb0 := (Below.refl w.heap.size w).alloc (Nat.le_refl _) (.cells #[.int .i64 z0, .int .i64 z1] 43)
  have hn0 : (w.alloc (.cells #[.int .i64 z0, .int .i64 z1] 43)).cell? ⟨w.heap.size, 0, none⟩ = some (.int .i64 z0) := by rw [World.cell?_alloc_at _ _ _ _ rfl]; rfl
  have hn1 : (w.alloc (.cells #[.int .i64 z0, .int .i64 z1] 43)).cell? ⟨w.heap.size, 1, none⟩ = some (.int .i64 z1) := by rw [World.cell?_alloc_at _ _ _ _ rfl]; rfl
  have HR := Lib.hid (hr.below hb0); have HN := Lib.hid hn; have HR2 := Lib.hid (hr2.below hb0); have HN2 := Lib.hid hn2
  have HF1 := Lib.hid (few49_any A n c a (w.alloc (.cells #[.int .i64 z0, .int .i64 z1] 43)) (hr.below hb0) hn hm (fun x hx => Leaf.ok.below (hok x hx) hb0))
  have HF2 := Lib.hid (fun W (h : Below w.heap.size w W) => few49_any B m d b W (hr2.below h) hn2 hm2 (fun x hx => Leaf.ok.below (hok2 x hx) h))
  have HNN := Lib.hid (And.intro hn0 hn1); have HB0 := Lib.hid hb0
  clear hr hn hok hr2 hn2 hok2 hm hm2 hn0 hn1 hb0
  unfold arr2i
  simp only
  go_enter Try.func6, Try.ntmps6
  go_wp2_with fail
  generalize w.alloc (.cells #[.int .i64 z0, .int .i64 z1] 43) = W0 at HR HR2 HF1 HNN HB0 ⊢
  refine HF1.out.mono ?_
  rintro e w1 ⟨few, hfew, rfl, hb1⟩
  have HB1 := Lib.hid (then_ HB0.out hb1)
  cases few
  · clear hfew hb1
    go_wp2_with fail
    refine (fin49 w w1 HB1.out).mono ?_
    rintro e w2 ⟨rfl, hb2⟩
    go_wp2
    go_ret
    exact ⟨rfl, hb2⟩
  have HL := Lib.hid (hfew rfl)
  have HNN := Lib.hid (And.intro (cell_below hb1 HNN.out.1) (cell_below hb1 HNN.out.2)); have HR := Lib.hid (HR.out.below hb1); have HR2 := Lib.hid (HR2.out.below hb1)
  clear hfew hb1
  go_wp2_with fail
  refine (HF2.out _ HB1.out).mono ?_
  rintro e w2 ⟨few, hfew, rfl, hb2⟩
  have HB := Lib.hid (then_ HB1.out hb2)
  cases few
  · clear hfew hb2
    go_wp2_with fail
    refine (fin49 w w2 HB.out).mono ?_
    rintro e w3 ⟨rfl, hb3⟩
    go_wp2
    go_ret
    exact ⟨rfl, hb3⟩
  have HL2 := Lib.hid (hfew rfl)
  have HNN := Lib.hid (And.intro (cell_below hb2 HNN.out.1) (cell_below hb2 HNN.out.2)); have HR := Lib.hid (HR.out.below hb2); have HR2 := Lib.hid (HR2.out.below hb2)
  clear hfew hb2 HF1 HF2 HB1 HB0
  have hn : n ≤ 1000 := by have := HL.out.1; rw [HN.out] at this; omega
  have hm : m ≤ 1000 := by have := HL2.out.1; rw [HN2.out] at this; omega
  generalize w.heap.size = nb at HNN ⊢
  go_wp2_with fail
  refine (build_any A n c a w2 HR.out HN.out hn HL.out.2).mono ?_
  rintro e w3 ⟨ta, rfl, hT, hb1⟩
  have HTA := Lib.hid hT
  have HNN := Lib.hid (And.intro (cell_below hb1 HNN.out.1) (cell_below hb1 HNN.out.2)); have HR := Lib.hid (HR.out.below hb1); have HR2 := Lib.hid (HR2.out.below hb1); have HB := Lib.hid (then_ HB.out hb1)
  clear hb1 hT
  go_wp2_with fail
  refine (build_any B m d b w3 HR2.out HN2.out hm HL2.out.2).mono ?_
  rintro e w4 ⟨tb, rfl, hT, hb1⟩
  have HTB := Lib.hid hT; have HTA := Lib.hid (HTA.out.below hb1)
  have HNN := Lib.hid (And.intro (cell_below hb1 HNN.out.1) (cell_below hb1 HNN.out.2)); have HR := Lib.hid (HR.out.below hb1); have HR2 := Lib.hid (HR2.out.below hb1); have HB := Lib.hid (then_ HB.out hb1)
  clear hb1 hT
  go_wp2_with fail
  refine (trieUnlike_any ta tb a b w4 HTA.out HTB.out).mono ?_
  rintro e w5 ⟨v5, rfl, hown, hb1⟩
  have HRU := Lib.hid (fun (csa csb : Array Value) (b1 b2 : Nat) (W : World) (h1 : AgS W b1 9 7 csa levN (levV a)) (h2 : AgS W b2 9 7 csb levN (levV b)) => rUnlike_any a b b1 b2 csa csb W h1 h2)
  unfold UnR at HRU
  have HBIG := Lib.hid (unH_big (nodeL a) (nodeL b) 6 0)
  generalize unH (nodeL a) (nodeL b) 6 0 = u at hown HRU HBIG ⊢
  obtain ⟨p, cnt⟩ := u
  simp only at hown HRU HBIG ⊢
  have hpl : p.length ≤ 64 := HBIG.out.2
  generalize hpn : p.length = pl at hown hpl HRU
  have HPN := Lib.hid hpn
  obtain ⟨A5, c5, rfl⟩ := own_form hown
  have HU := Lib.hid (Rd.of_own hown)
  have HTA := Lib.hid (HTA.out.below hb1)
  have HNN := Lib.hid (And.intro (cell_below hb1 HNN.out.1) (cell_below hb1 HNN.out.2)); have HR := Lib.hid (HR.out.below hb1); have HR2 := Lib.hid (HR2.out.below hb1); have HB := Lib.hid (then_ HB.out hb1)
  clear hb1 hown hpn HTB HBIG
  go_wp2_with fail
  refine (levels_any A n c a w5 HR.out HN.out hn HL.out.2).mono ?_
  rintro e w6 ⟨cs, rfl, hAg, hb1⟩
  have HU := Lib.hid (HU.out.below hb1); have HTA := Lib.hid (HTA.out.below hb1)
  have HNN := Lib.hid (And.intro (cell_below hb1 HNN.out.1) (cell_below hb1 HNN.out.2)); have HR := Lib.hid (HR.out.below hb1); have HR2 := Lib.hid (HR2.out.below hb1); have HB := Lib.hid (then_ HB.out hb1)
  have HI := Lib.hid (show (Try.prog.info? 44).map (·.size) = some cs.size by rw [hAg.1]; kernel_rfl)
  have HZ := Lib.hid hAg.1
  have H1' : Hid (∀ u ∈ cs.toList, u.oneCell' = true) := Lib.hid (by
    obtain ⟨h1, vs, h2, h3⟩ := hAg
    have := one_ags h1 h2 h3; rw [Array.all_eq_true] at this; intro u hu; obtain ⟨j, hj, rfl⟩ := List.mem_iff_getElem.1 hu; exact this j (by simpa using hj))
  have HAG := Lib.hid hAg
  clear hb1 hAg
  have hb3 := (Below.refl w6.heap.size w6).alloc (Nat.le_refl _) (.cells cs 44)
  have HBL := Lib.hid (heap_alloc_new w6 (.cells cs 44))
  have HAG := Lib.hid (HAG.out.below hb3); have HU := Lib.hid (HU.out.below hb3); have HTA := Lib.hid (HTA.out.below hb3)
  have HNN := Lib.hid (And.intro (cell_below hb3 HNN.out.1) (cell_below hb3 HNN.out.2)); have HR := Lib.hid (HR.out.below hb3); have HR2 := Lib.hid (HR2.out.below hb3); have HB := Lib.hid (then_ HB.out hb3)
  clear hb3
  go_wp2_with (refine wpList_store_new (by rfl) (.tmp 11) (.tmp 36) (by rfl) w6 _ _ (by rfl) cs (by rfl) (by rfl) (by rw [HZ.out]; rfl) HI.out H1'.out ?_)
  generalize w6.alloc (.cells cs 44) = W7 at HAG HU HTA HNN HR HR2 HB HBL ⊢
  generalize w6.heap.size = lb at HBL ⊢
  generalize w5.heap.size = bs1 at HAG
  clear HZ H1'
  have HLB := Lib.hid (fun W (h : Below W7.heap.size W7 W) => levels_any B m d b W (HR2.out.below h) HN2.out hm HL2.out.2)
  have hb : Below W7.heap.size W7 W7.drew := (Below.refl _ _).drew
  refine wp_region_held_drew (S := (fun W => W.heap[lb]? = some (.cells cs 44 (0, 0)))) (by kernel_rfl) HBL.out (fun hHeld => ?_)
  refine wpAnyH_take (i := 0) (oi := _) (v := _) rfl (by kernel_rfl) (by kernel_rfl) (by kernel_rfl) (fun _ _ _ h => h) (wp_load_arr (w := w) (by rfl) _ rfl lb 0 rfl cs (fun w hSw => (range_blk hSw)) ⟨_, Try.underlying44, rfl⟩ HI.out) (by assumption) ?_
  try dsimp only [Act.put, List.getElem_toArray, List.getElem_cons_zero, List.getElem_cons_succ]; try simp only [List.setIfInBounds_toArray, List.set_cons_zero, List.set_cons_succ]
  refine wpAnyH_take (i := 1) (oi := _) (v := ?vq396) rfl (by kernel_rfl) (by kernel_rfl) (by kernel_rfl) (fun _ _ _ h => h) (Or.inl ⟨by rfl, ?hq396⟩) (by assumption) ?rq396
  case hq396 => (intro w hSw; go_simp; try with_reducible rfl)
  try dsimp only [Act.put, List.getElem_toArray, List.getElem_cons_zero, List.getElem_cons_succ]; try simp only [List.setIfInBounds_toArray, List.set_cons_zero, List.set_cons_succ]
  refine wpAnyH_ready (rs := [2]) (by kernel_rfl) (by simp) ?_
  refine AllReadyH.cons (o := _) rfl (fun K hK => ?_) ?_
  · rw [if_pos (by rfl)]
    go_simp
    refine (HLB.out _ hb).mono ?_
    rintro e wx ⟨csB, rfl, hAgB, hbx⟩
    have HAGB := Lib.hid hAgB
    clear hAgB
    have hb := then_ hb hbx
    clear hbx
    go_wp2_with fail
    refine hK.out _ _ (heap_below hb HBL.out) (fun hHeld => ?_)
    clear hK K
    try dsimp only [Act.put, List.getElem_toArray, List.getElem_cons_zero, List.getElem_cons_succ]; try simp only [List.setIfInBounds_toArray, List.set_cons_zero, List.set_cons_succ]
    refine wpAnyH_ready (rs := [3]) (by kernel_rfl) (by simp) ?_
    refine AllReadyH.cons (o := _) rfl (fun K hK => ?_) ?_
    · rw [if_pos (by rfl)]
      go_simp
      refine (HRU.out cs csB bs1 _ _ (HAG.out.below hb) HAGB.out).mono ?_
      rintro e wx ⟨v6, rfl, hown, hbx⟩
      obtain ⟨A6, c6, rfl⟩ := own_form hown
      have HU6 := Lib.hid (Rd.of_own hown)
      clear hown
      have hb := then_ hb hbx
      clear hbx
      go_wp2_with fail
      refine hK.out _ _ (heap_below hb HBL.out) (fun hHeld => ?_)
      clear hK K
      try dsimp only [Act.put, List.getElem_toArray, List.getElem_cons_zero, List.getElem_cons_succ]; try simp only [List.setIfInBounds_toArray, List.set_cons_zero, List.set_cons_succ]
      refine wpAnyH_take (i := 4) (oi := _) (v := ?vq397) rfl (by kernel_rfl) (by kernel_rfl) (by kernel_rfl) (fun _ _ _ h => h) (Or.inl ⟨by rfl, ?hq397⟩) (by assumption) ?rq397
      case hq397 => (intro w hSw; go_simp; try with_reducible rfl)
      try dsimp only [Act.put, List.getElem_toArray, List.getElem_cons_zero, List.getElem_cons_succ]; try simp only [List.setIfInBounds_toArray, List.set_cons_zero, List.set_cons_succ]
      refine wpAnyH_take (i := 5) (oi := _) (v := ?vq398) rfl (by kernel_rfl) (by kernel_rfl) (by kernel_rfl) (fun _ _ _ h => h) (Or.inl ⟨by rfl, ?hq398⟩) (by assumption) ?rq398
      case hq398 => (intro w hSw; go_simp; try with_reducible rfl)
      try dsimp only [Act.put, List.getElem_toArray, List.getElem_cons_zero, List.getElem_cons_succ]; try simp only [List.setIfInBounds_toArray, List.set_cons_zero, List.set_cons_succ]
      refine wpAnyH_take (i := 6) (oi := _) (v := ?vq399) rfl (by kernel_rfl) (by kernel_rfl) (by kernel_rfl) (fun _ _ _ h => h) (Or.inl ⟨by rfl, ?hq399⟩) (by assumption) ?rq399
      case hq399 => (intro w hSw; go_simp; try with_reducible rfl)
      try dsimp only [Act.put, List.getElem_toArray, List.getElem_cons_zero, List.getElem_cons_succ]; try simp only [List.setIfInBounds_toArray, List.set_cons_zero, List.set_cons_succ]
      refine wpAnyH_take (i := 7) (oi := _) (v := ?vq400) rfl (by kernel_rfl) (by kernel_rfl) (by kernel_rfl) (fun _ _ _ h => h) (Or.inl ⟨by rfl, ?hq400⟩) (by assumption) ?rq400
      case hq400 => (intro w hSw; go_simp; try with_reducible rfl)
      try dsimp only [Act.put, List.getElem_toArray, List.getElem_cons_zero, List.getElem_cons_succ]; try simp only [List.setIfInBounds_toArray, List.set_cons_zero, List.set_cons_succ]
      refine wpAnyH_take (i := 8) (oi := _) (v := ?vq401) rfl (by kernel_rfl) (by kernel_rfl) (by kernel_rfl) (fun _ _ _ h => h) (Or.inl ⟨by rfl, ?hq401⟩) (by assumption) ?rq401
      case hq401 => (intro w hSw; go_simp; try with_reducible rfl)
      try dsimp only [Act.put, List.getElem_toArray, List.getElem_cons_zero, List.getElem_cons_succ]; try simp only [List.setIfInBounds_toArray, List.set_cons_zero, List.set_cons_succ]
      refine wpAnyH_done (by kernel_rfl) ?_ _
      have HAG := Lib.hid (HAG.out.below hb); have HU := Lib.hid (HU.out.below hb); have HTA := Lib.hid (HTA.out.below hb)
      have HNN := Lib.hid (And.intro (cell_below hb HNN.out.1) (cell_below hb HNN.out.2)); have HR := Lib.hid (HR.out.below hb); have HB := Lib.hid (then_ HB.out hb); have HBL := Lib.hid (heap_below hb HBL.out)
      clear HAGB HLB HRU HR2 HN2 HL2
      obtain ⟨b0, o0, c0, hr0, hr1⟩ := ag_at HAG.out HBL.out (L := 0) (i := 0) (by decide) (by decide)
      have hr0 : _ = some (Value.slice (some ⟨b0, o0, none⟩) 1 c0) := hr0
      have hr1 : _ = some (Value.string (rootT a)) := hr1
      have HR01 := Lib.hid (And.intro hr0 hr1)
      clear hr0 hr1 hb
      rename World => W9
      go_wp2_with fail
      by_cases hc1 : z0 < 0
      · have HAO := Lib.hid (atL_out a (lv := z0) (ix := z1) (by omega))
        have hd1 : decide (z0 ≥ 0) = false := by simp; omega
        have hd2 : decide (0 ≤ z0) = false := by simp; omega
        go_wp2_with fail
        refine wp_region_held_drew (S := (fun W => W.cell? ⟨nb, 0, none⟩ = some (.int .i64 z0) ∧ W.cell? ⟨nb, 1, none⟩ = some (.int .i64 z1))) (by kernel_rfl) HNN.out (fun hHeld => ?_)
        refine wpAnyH_take (i := 0) (oi := _) (v := ?vq55) rfl (by kernel_rfl) (by kernel_rfl) (by kernel_rfl) (fun _ _ _ h => h) (Or.inl ⟨by rfl, ?hq55⟩) (by assumption) ?rq55
        case hq55 => (intro w hSw; go_simp; try with_reducible rfl)
        try dsimp only [Act.put, List.getElem_toArray, List.getElem_cons_zero, List.getElem_cons_succ]; try simp only [List.setIfInBounds_toArray, List.set_cons_zero, List.set_cons_succ]
        refine wpAnyH_take (i := 1) (oi := _) (v := ?vq56) rfl (by kernel_rfl) (by kernel_rfl) (by kernel_rfl) (fun _ _ _ h => h) (Or.inl ⟨by rfl, ?hq56⟩) (by assumption) ?rq56
        case hq56 => (intro w hSw; go_simp; try with_reducible rfl)
        try dsimp only [Act.put, List.getElem_toArray, List.getElem_cons_zero, List.getElem_cons_succ]; try simp only [List.setIfInBounds_toArray, List.set_cons_zero, List.set_cons_succ]
        refine wpAnyH_take (i := 2) (oi := _) (v := ?vq57) rfl (by kernel_rfl) (by kernel_rfl) (by kernel_rfl) (fun _ _ _ h => h) (Or.inl ⟨by rfl, ?hq57⟩) (by assumption) ?rq57
        case hq57 => (intro w hSw; go_simp; try with_reducible rfl)
        try dsimp only [Act.put, List.getElem_toArray, List.getElem_cons_zero, List.getElem_cons_succ]; try simp only [List.setIfInBounds_toArray, List.set_cons_zero, List.set_cons_succ]
        refine wpAnyH_take (i := 3) (oi := _) (v := ?vq58) rfl (by kernel_rfl) (by kernel_rfl) (by kernel_rfl) (fun _ _ _ h => h) (Or.inl ⟨by rfl, ?hq58⟩) (by assumption) ?rq58
        case hq58 => (intro w hSw; go_simp; try with_reducible rfl)
        try dsimp only [Act.put, List.getElem_toArray, List.getElem_cons_zero, List.getElem_cons_succ]; try simp only [List.setIfInBounds_toArray, List.set_cons_zero, List.set_cons_succ]
        refine wpAnyH_take (i := 4) (oi := _) (v := undef) rfl (by kernel_rfl) (by kernel_rfl) (by kernel_rfl) (fun _ _ _ h => h) (Or.inr ⟨by rfl, rfl⟩) (by assumption) ?_
        try dsimp only [Act.put, List.getElem_toArray, List.getElem_cons_zero, List.getElem_cons_succ]; try simp only [List.setIfInBounds_toArray, List.set_cons_zero, List.set_cons_succ]
        refine wpAnyH_take (i := 5) (oi := _) (v := undef) rfl (by kernel_rfl) (by kernel_rfl) (by kernel_rfl) (fun _ _ _ h => h) (Or.inr ⟨by rfl, rfl⟩) (by assumption) ?_
        try dsimp only [Act.put, List.getElem_toArray, List.getElem_cons_zero, List.getElem_cons_succ]; try simp only [List.setIfInBounds_toArray, List.set_cons_zero, List.set_cons_succ]
        refine wpAnyH_take (i := 6) (oi := _) (v := undef) rfl (by kernel_rfl) (by kernel_rfl) (by kernel_rfl) (fun _ _ _ h => h) (Or.inr ⟨by rfl, rfl⟩) (by assumption) ?_
        try dsimp only [Act.put, List.getElem_toArray, List.getElem_cons_zero, List.getElem_cons_succ]; try simp only [List.setIfInBounds_toArray, List.set_cons_zero, List.set_cons_succ]
        refine wpAnyH_take (i := 7) (oi := _) (v := ?vq62) rfl (by kernel_rfl) (by kernel_rfl) (by kernel_rfl) (fun _ _ _ h => h) (Or.inl ⟨by rfl, ?hq62⟩) (by assumption) ?rq62
        case hq62 => (intro w hSw; go_simp; try with_reducible rfl)
        try dsimp only [Act.put, List.getElem_toArray, List.getElem_cons_zero, List.getElem_cons_succ]; try simp only [List.setIfInBounds_toArray, List.set_cons_zero, List.set_cons_succ]
        refine wpAnyH_take (i := 8) (oi := _) (v := ?vq63) rfl (by kernel_rfl) (by kernel_rfl) (by kernel_rfl) (fun _ _ _ h => h) (Or.inl ⟨by rfl, ?hq63⟩) (by assumption) ?rq63
        case hq63 => (intro w hSw; go_simp; try with_reducible rfl)
        try dsimp only [Act.put, List.getElem_toArray, List.getElem_cons_zero, List.getElem_cons_succ]; try simp only [List.setIfInBounds_toArray, List.set_cons_zero, List.set_cons_succ]
        refine wpAnyH_take (i := 9) (oi := _) (v := undef) rfl (by kernel_rfl) (by kernel_rfl) (by kernel_rfl) (fun _ _ _ h => h) (Or.inr ⟨by rfl, rfl⟩) (by assumption) ?_
        try dsimp only [Act.put, List.getElem_toArray, List.getElem_cons_zero, List.getElem_cons_succ]; try simp only [List.setIfInBounds_toArray, List.set_cons_zero, List.set_cons_succ]
        refine wpAnyH_take (i := 10) (oi := _) (v := undef) rfl (by kernel_rfl) (by kernel_rfl) (by kernel_rfl) (fun _ _ _ h => h) (Or.inr ⟨by rfl, rfl⟩) (by assumption) ?_
        try dsimp only [Act.put, List.getElem_toArray, List.getElem_cons_zero, List.getElem_cons_succ]; try simp only [List.setIfInBounds_toArray, List.set_cons_zero, List.set_cons_succ]
        refine wpAnyH_take (i := 11) (oi := _) (v := undef) rfl (by kernel_rfl) (by kernel_rfl) (by kernel_rfl) (fun _ _ _ h => h) (Or.inr ⟨by rfl, rfl⟩) (by assumption) ?_
        try dsimp only [Act.put, List.getElem_toArray, List.getElem_cons_zero, List.getElem_cons_succ]; try simp only [List.setIfInBounds_toArray, List.set_cons_zero, List.set_cons_succ]
        refine wpAnyH_take (i := 12) (oi := _) (v := ?vq67) rfl (by kernel_rfl) (by kernel_rfl) (by kernel_rfl) (fun _ _ _ h => h) (Or.inl ⟨by rfl, ?hq67⟩) (by assumption) ?rq67
        case hq67 => (intro w hSw; go_simp; try with_reducible rfl)
        try dsimp only [Act.put, List.getElem_toArray, List.getElem_cons_zero, List.getElem_cons_succ]; try simp only [List.setIfInBounds_toArray, List.set_cons_zero, List.set_cons_succ]
        refine wpAnyH_take (i := 13) (oi := _) (v := ?vq68) rfl (by kernel_rfl) (by kernel_rfl) (by kernel_rfl) (fun _ _ _ h => h) (Or.inl ⟨by rfl, ?hq68⟩) (by assumption) ?rq68
        case hq68 => (intro w hSw; go_simp; try with_reducible rfl)
        try dsimp only [Act.put, List.getElem_toArray, List.getElem_cons_zero, List.getElem_cons_succ]; try simp only [List.setIfInBounds_toArray, List.set_cons_zero, List.set_cons_succ]
        refine wpAnyH_take (i := 14) (oi := _) (v := undef) rfl (by kernel_rfl) (by kernel_rfl) (by kernel_rfl) (fun _ _ _ h => h) (Or.inr ⟨by rfl, rfl⟩) (by assumption) ?_
        try dsimp only [Act.put, List.getElem_toArray, List.getElem_cons_zero, List.getElem_cons_succ]; try simp only [List.setIfInBounds_toArray, List.set_cons_zero, List.set_cons_succ]
        refine wpAnyH_take (i := 15) (oi := _) (v := undef) rfl (by kernel_rfl) (by kernel_rfl) (by kernel_rfl) (fun _ _ _ h => h) (Or.inr ⟨by rfl, rfl⟩) (by assumption) ?_
        try dsimp only [Act.put, List.getElem_toArray, List.getElem_cons_zero, List.getElem_cons_succ]; try simp only [List.setIfInBounds_toArray, List.set_cons_zero, List.set_cons_succ]
        refine wpAnyH_take (i := 16) (oi := _) (v := undef) rfl (by kernel_rfl) (by kernel_rfl) (by kernel_rfl) (fun _ _ _ h => h) (Or.inr ⟨by rfl, rfl⟩) (by assumption) ?_
        try dsimp only [Act.put, List.getElem_toArray, List.getElem_cons_zero, List.getElem_cons_succ]; try simp only [List.setIfInBounds_toArray, List.set_cons_zero, List.set_cons_succ]
        refine wpAnyH_take (i := 17) (oi := _) (v := undef) rfl (by kernel_rfl) (by kernel_rfl) (by kernel_rfl) (fun _ _ _ h => h) (Or.inr ⟨by rfl, rfl⟩) (by assumption) ?_
        try dsimp only [Act.put, List.getElem_toArray, List.getElem_cons_zero, List.getElem_cons_succ]; try simp only [List.setIfInBounds_toArray, List.set_cons_zero, List.set_cons_succ]
        refine wpAnyH_take (i := 18) (oi := _) (v := undef) rfl (by kernel_rfl) (by kernel_rfl) (by kernel_rfl) (fun _ _ _ h => h) (Or.inr ⟨by rfl, rfl⟩) (by assumption) ?_
        try dsimp only [Act.put, List.getElem_toArray, List.getElem_cons_zero, List.getElem_cons_succ]; try simp only [List.setIfInBounds_toArray, List.set_cons_zero, List.set_cons_succ]
        refine wpAnyH_take (i := 19) (oi := _) (v := undef) rfl (by kernel_rfl) (by kernel_rfl) (by kernel_rfl) (fun _ _ _ h => h) (Or.inr ⟨by rfl, rfl⟩) (by assumption) ?_
        try dsimp only [Act.put, List.getElem_toArray, List.getElem_cons_zero, List.getElem_cons_succ]; try simp only [List.setIfInBounds_toArray, List.set_cons_zero, List.set_cons_succ]
        refine wpAnyH_take (i := 20) (oi := _) (v := undef) rfl (by kernel_rfl) (by kernel_rfl) (by kernel_rfl) (fun _ _ _ h => h) (Or.inr ⟨by rfl, rfl⟩) (by assumption) ?_
        try dsimp only [Act.put, List.getElem_toArray, List.getElem_cons_zero, List.getElem_cons_succ]; try simp only [List.setIfInBounds_toArray, List.set_cons_zero, List.set_cons_succ]
        refine wpAnyH_take (i := 21) (oi := _) (v := undef) rfl (by kernel_rfl) (by kernel_rfl) (by kernel_rfl) (fun _ _ _ h => h) (Or.inr ⟨by rfl, rfl⟩) (by assumption) ?_
        try dsimp only [Act.put, List.getElem_toArray, List.getElem_cons_zero, List.getElem_cons_succ]; try simp only [List.setIfInBounds_toArray, List.set_cons_zero, List.set_cons_succ]
        refine wpAnyH_take (i := 22) (oi := _) (v := ?vq77) rfl (by kernel_rfl) (by kernel_rfl) (by kernel_rfl) (fun _ _ _ h => h) (Or.inl ⟨by rfl, ?hq77⟩) (by assumption) ?rq77
        case hq77 => (intro w hSw; go_simp; try with_reducible rfl)
        try dsimp only [Act.put, List.getElem_toArray, List.getElem_cons_zero, List.getElem_cons_succ]; try simp only [List.setIfInBounds_toArray, List.set_cons_zero, List.set_cons_succ]
        refine wpAnyH_done (by kernel_rfl) ?_ _
        have HAG := Lib.hid (HAG.out.below (Below.refl _ _).drew); have HU := Lib.hid (HU.out.below (Below.refl _ _).drew); have HU6 := Lib.hid (HU6.out.below (Below.refl _ _).drew); have HTA := Lib.hid (HTA.out.below (Below.refl _ _).drew)
        have HNN := Lib.hid (And.intro (cell_below (Below.refl _ _).drew HNN.out.1) (cell_below (Below.refl _ _).drew HNN.out.2)); have HR := Lib.hid (HR.out.below (Below.refl _ _).drew); have HB := Lib.hid HB.out.drew; have HBL := Lib.hid (heap_below (Below.refl _ _).drew HBL.out); have HR01 := Lib.hid (And.intro (cell_below (Below.refl _ _).drew HR01.out.1) (cell_below (Below.refl _ _).drew HR01.out.2))
        generalize W9.drew = W8 at HAG HU HU6 HTA HNN HR HB HBL HR01 ⊢
        have HCE := Lib.hid (fun W (h : Below W8.heap.size W8 W) => (⟨heap_below h HBL.out, cell_below h HNN.out.1, cell_below h HNN.out.2, cell_below h HR01.out.1, cell_below h HR01.out.2⟩ : W.heap[lb]? = some (.cells cs 44 (0, 0)) ∧ W.cell? ⟨nb, 0, none⟩ = some (.int .i64 z0) ∧ W.cell? ⟨nb, 1, none⟩ = some (.int .i64 z1) ∧ W.cell? ⟨lb, 0, none⟩ = some (.slice (some ⟨b0, o0, none⟩) 1 c0) ∧ W.cell? ⟨b0, o0, none⟩ = some (.string (rootT a))))
        clear HNN HBL HR01
        go_wp2_with fail
        have HAT := Lib.hid (fun W (h : Below W8.heap.size W8 W) => quietC (at_any ta a z0 z1 W (HTA.out.below h)))
        rw [HAO.out] at HAT
        clear HAO
        have HPR := Lib.hid (fun W (h : Below W8.heap.size W8 W) => prove_any ta a z0 W (HTA.out.below h))
        have HPD := Lib.hid (fun W (h : Below W8.heap.size W8 W) => rProve_any a bs1 cs z0 W (HAG.out.below h))
        have hprl : (proveL a z0).length ≤ 64 := by unfold proveL; split <;> simp [wayL_len]
        generalize proveL a z0 = pr at HPR HPD hprl
        have HIN := Lib.hid (fun W (h : Below W8.heap.size W8 W) => pin_any A n c a z0 W (HR.out.below h) HN.out hn HL.out.2)
        have HID := Lib.hid (fun W (h : Below W8.heap.size W8 W) => rin_any A n c a z0 W (HR.out.below h) HN.out hn HL.out.2)
        have hinl : (inL (bktB z0) a).length ≤ 1000 := Nat.le_trans (inL_len _ _) (by have := HN.out; omega)
        generalize inL (bktB z0) a = own at HIN HID hinl
        have HRT := Lib.hid (fun W (h : Below W8.heap.size W8 W) => trieRoot_any ta a W (HTA.out.below h))
        generalize rootT a = x at HRT HCE
        have HPRL := Lib.hid hprl; have HINL := Lib.hid hinl
        clear HAG HTA hprl hinl
        go_wp2_with fail
        go_loopw [15] (fun i wr => ∃ j : Nat, j ≤ n ∧ i = .int .i64 j ∧ Below W8.heap.size W8 wr) (fun i _ => n - (intOf i).toNat)
        case atStart => exact ⟨0, Nat.zero_le _, rfl, Below.refl _ _⟩
        case round =>
          obtain ⟨j, hj, rfl, hbel⟩ := hrel
          by_cases hlt : j < n
          · have hx : j < a.length := by have := HN.out; omega
            obtain ⟨b, off, rfl, hrg⟩ := row_leaf.at_ HR.out j hx
            have hs := HL.out.2 a[j] (List.getElem_mem hx)
            generalize a[j] = s at hrg hs
            obtain ⟨sp, sd⟩ := s
            have HG0 := Lib.hid (cell_below hbel (show W8.cell? ⟨b, off + j * 2, none⟩ = some (.string sp) from rangeAt_cell hrg 0 rfl))
            have HX := Lib.hid (fun W => bucket_any sp W (by have := hs.1; simp only at this; omega))
            have HY := Lib.hid (fun W => rbucket_any sp W (by have := hs.1; simp only at this; omega))
            generalize bktOf sp = g at HX HY
            have hgg : ((g : Int) != (g : Int)) = false := by simp
            have hjn : (j : Int) < (n : Int) := by omega
            have hj0 : (0 : Int) ≤ (j : Int) := by omega
            clear hs hrg
            have hb : Below wr.heap.size wr wr.drew := (Below.refl _ _).drew
            go_wp2_with fail
            refine wp_region_held_drew (S := (fun W => W.cell? ⟨b, off + j * 2, none⟩ = some (.string sp))) (by kernel_rfl) HG0.out (fun hHeld => ?_)
            refine wpAnyH_take (i := 0) (oi := _) (v := ?vq1) rfl (by kernel_rfl) (by kernel_rfl) (by kernel_rfl) (fun _ _ _ h => h) (Or.inl ⟨by rfl, ?hq1⟩) (by assumption) ?rq1
            case hq1 => (intro w hSw; go_simp; try with_reducible rfl)
            try dsimp only [Act.put, List.getElem_toArray, List.getElem_cons_zero, List.getElem_cons_succ]; try simp only [List.setIfInBounds_toArray, List.set_cons_zero, List.set_cons_succ]
            refine wpAnyH_take (i := 1) (oi := _) (v := ?vq2) rfl (by kernel_rfl) (by kernel_rfl) (by kernel_rfl) (fun _ _ _ h => h) (Or.inl ⟨by rfl, ?hq2⟩) (by assumption) ?rq2
            case hq2 => (intro w hSw; go_simp; try with_reducible rfl)
            try dsimp only [Act.put, List.getElem_toArray, List.getElem_cons_zero, List.getElem_cons_succ]; try simp only [List.setIfInBounds_toArray, List.set_cons_zero, List.set_cons_succ]
            refine wpAnyH_take (i := 2) (oi := _) (v := ?vq3) rfl (by kernel_rfl) (by kernel_rfl) (by kernel_rfl) (fun _ _ _ h => h) (Or.inl ⟨by rfl, ?hq3⟩) (by assumption) ?rq3
            case hq3 => (intro w hSw; go_simp; try with_reducible rfl)
            try dsimp only [Act.put, List.getElem_toArray, List.getElem_cons_zero, List.getElem_cons_succ]; try simp only [List.setIfInBounds_toArray, List.set_cons_zero, List.set_cons_succ]
            refine wpAnyH_take (i := 3) (oi := _) (v := ?vq4) rfl (by kernel_rfl) (by kernel_rfl) (by kernel_rfl) (fun _ _ _ h => h) (Or.inl ⟨by rfl, ?hq4⟩) (by assumption) ?rq4
            case hq4 => (intro w hSw; go_simp; try with_reducible rfl)
            try dsimp only [Act.put, List.getElem_toArray, List.getElem_cons_zero, List.getElem_cons_succ]; try simp only [List.setIfInBounds_toArray, List.set_cons_zero, List.set_cons_succ]
            refine wpAnyH_take (i := 4) (oi := _) (v := ?vq5) rfl (by kernel_rfl) (by kernel_rfl) (by kernel_rfl) (fun _ _ _ h => h) (Or.inl ⟨by rfl, ?hq5⟩) (by assumption) ?rq5
            case hq5 => (intro w hSw; go_simp; try with_reducible rfl)
            try dsimp only [Act.put, List.getElem_toArray, List.getElem_cons_zero, List.getElem_cons_succ]; try simp only [List.setIfInBounds_toArray, List.set_cons_zero, List.set_cons_succ]
            refine wpAnyH_take (i := 6) (oi := _) (v := ?vq6) rfl (by kernel_rfl) (by kernel_rfl) (by kernel_rfl) (fun _ _ _ h => h) (Or.inl ⟨by rfl, ?hq6⟩) (by assumption) ?rq6
            case hq6 => (intro w hSw; go_simp; try with_reducible rfl)
            try dsimp only [Act.put, List.getElem_toArray, List.getElem_cons_zero, List.getElem_cons_succ]; try simp only [List.setIfInBounds_toArray, List.set_cons_zero, List.set_cons_succ]
            refine wpAnyH_take (i := 7) (oi := _) (v := ?vq7) rfl (by kernel_rfl) (by kernel_rfl) (by kernel_rfl) (fun _ _ _ h => h) (Or.inl ⟨by rfl, ?hq7⟩) (by assumption) ?rq7
            case hq7 => (intro w hSw; go_simp; try with_reducible rfl)
            try dsimp only [Act.put, List.getElem_toArray, List.getElem_cons_zero, List.getElem_cons_succ]; try simp only [List.setIfInBounds_toArray, List.set_cons_zero, List.set_cons_succ]
            refine wpAnyH_take (i := 8) (oi := _) (v := ?vq8) rfl (by kernel_rfl) (by kernel_rfl) (by kernel_rfl) (fun _ _ _ h => h) (Or.inl ⟨by rfl, ?hq8⟩) (by assumption) ?rq8
            case hq8 => (intro w hSw; go_simp; try with_reducible rfl)
            try dsimp only [Act.put, List.getElem_toArray, List.getElem_cons_zero, List.getElem_cons_succ]; try simp only [List.setIfInBounds_toArray, List.set_cons_zero, List.set_cons_succ]
            refine wpAnyH_take (i := 9) (oi := _) (v := ?vq9) rfl (by kernel_rfl) (by kernel_rfl) (by kernel_rfl) (fun _ _ _ h => h) (Or.inl ⟨by rfl, ?hq9⟩) (by assumption) ?rq9
            case hq9 => (intro w hSw; go_simp; try with_reducible rfl)
            try dsimp only [Act.put, List.getElem_toArray, List.getElem_cons_zero, List.getElem_cons_succ]; try simp only [List.setIfInBounds_toArray, List.set_cons_zero, List.set_cons_succ]
            refine wpAnyH_take (i := 10) (oi := _) (v := ?vq10) rfl (by kernel_rfl) (by kernel_rfl) (by kernel_rfl) (fun _ _ _ h => h) (Or.inl ⟨by rfl, ?hq10⟩) (by assumption) ?rq10
            case hq10 => (intro w hSw; go_simp; try with_reducible rfl)
            try dsimp only [Act.put, List.getElem_toArray, List.getElem_cons_zero, List.getElem_cons_succ]; try simp only [List.setIfInBounds_toArray, List.set_cons_zero, List.set_cons_succ]
            refine wpAnyH_ready (rs := [5]) (by kernel_rfl) (by simp) ?_
            refine AllReadyH.cons (o := _) rfl (fun K hK => ?_) ?_
            · rw [if_pos (by rfl)]
              go_simp
              refine (HX.out _).mono ?_
              rintro e wx ⟨rfl, hbx⟩
              have hb := then_ hb hbx
              clear hbx
              go_wp2_with fail
              refine hK.out _ _ (cell_below hb HG0.out) (fun hHeld => ?_)
              clear hK K
              try dsimp only [Act.put, List.getElem_toArray, List.getElem_cons_zero, List.getElem_cons_succ]; try simp only [List.setIfInBounds_toArray, List.set_cons_zero, List.set_cons_succ]
              refine wpAnyH_ready (rs := [11]) (by kernel_rfl) (by simp) ?_
              refine AllReadyH.cons (o := _) rfl (fun K hK => ?_) ?_
              · rw [if_pos (by rfl)]
                go_simp
                refine (HY.out _).mono ?_
                rintro e wx ⟨rfl, hbx⟩
                have hb := then_ hb hbx
                clear hbx
                go_wp2_with fail
                refine hK.out _ _ (cell_below hb HG0.out) (fun hHeld => ?_)
                clear hK K
                try dsimp only [Act.put, List.getElem_toArray, List.getElem_cons_zero, List.getElem_cons_succ]; try simp only [List.setIfInBounds_toArray, List.set_cons_zero, List.set_cons_succ]
                refine wpAnyH_take (i := 12) (oi := _) (v := ?vq11) rfl (by kernel_rfl) (by kernel_rfl) (by kernel_rfl) (fun _ _ _ h => h) (Or.inl ⟨by rfl, ?hq11⟩) (by assumption) ?rq11
                case hq11 => (intro w hSw; go_simp; try with_reducible rfl)
                try dsimp only [Act.put, List.getElem_toArray, List.getElem_cons_zero, List.getElem_cons_succ]; try simp only [List.setIfInBounds_toArray, List.set_cons_zero, List.set_cons_succ]
                refine wpAnyH_done (by kernel_rfl) ?_ _
                go_wp2
                go_roundw
                case rel => exact ⟨j + 1, by omega, by go_num, then_ hbel hb⟩
                case measure => simp [intOf]; omega
              exact AllReadyH.nil
            exact AllReadyH.nil
          · have hjn : (n : Int) ≤ (j : Int) := by omega
            have hb : Below wr.heap.size wr wr.drew := (Below.refl _ _).drew
            have HC := Lib.hid (fun W (h : Below wr.heap.size wr W) => HCE.out W (then_ hbel h)); have HBW := Lib.hid (then_ HB.out hbel); have HB8 := Lib.hid hbel
            have hxx : (x.toList == x.toList) = true := by simp
            clear hlt hbel
            go_wp2_with fail
            refine wp_region_held_drew (S := (fun W => W.heap[lb]? = some (.cells cs 44 (0, 0)) ∧ W.cell? ⟨nb, 0, none⟩ = some (.int .i64 z0) ∧ W.cell? ⟨nb, 1, none⟩ = some (.int .i64 z1) ∧ W.cell? ⟨lb, 0, none⟩ = some (.slice (some ⟨b0, o0, none⟩) 1 c0) ∧ W.cell? ⟨b0, o0, none⟩ = some (.string x))) (by kernel_rfl) (HC.out _ (Below.refl _ _).drew) (fun hHeld => ?_)
            refine wpAnyH_take (i := 0) (oi := _) (v := ?vq12) rfl (by kernel_rfl) (by kernel_rfl) (by kernel_rfl) (fun _ _ _ h => h) (Or.inl ⟨by rfl, ?hq12⟩) (by assumption) ?rq12
            case hq12 => (intro w hSw; go_simp; try with_reducible rfl)
            try dsimp only [Act.put, List.getElem_toArray, List.getElem_cons_zero, List.getElem_cons_succ]; try simp only [List.setIfInBounds_toArray, List.set_cons_zero, List.set_cons_succ]
            refine wpAnyH_take (i := 1) (oi := _) (v := ?vq13) rfl (by kernel_rfl) (by kernel_rfl) (by kernel_rfl) (fun _ _ _ h => h) (Or.inl ⟨by rfl, ?hq13⟩) (by assumption) ?rq13
            case hq13 => (intro w hSw; go_simp; try with_reducible rfl)
            try dsimp only [Act.put, List.getElem_toArray, List.getElem_cons_zero, List.getElem_cons_succ]; try simp only [List.setIfInBounds_toArray, List.set_cons_zero, List.set_cons_succ]
            refine wpAnyH_ready (rs := [2]) (by kernel_rfl) (by simp) ?_
            refine AllReadyH.cons (o := _) rfl (fun K hK => ?_) ?_
            · rw [if_pos (by rfl)]
              go_simp
              refine (sameInts_any A5 pl c5 p A6 pl c6 p _ (HU.out.below (then_ HB8.out hb)) HPN.out (by omega) (HU6.out.below (then_ HB8.out hb)) HPN.out (by omega)).mono ?_
              rintro e wx ⟨rfl, hbx⟩
              rw [show decide (p = p) = true by simp]
              have hb := then_ hb hbx
              clear hbx
              go_wp2_with fail
              refine hK.out _ _ (HC.out _ hb) (fun hHeld => ?_)
              clear hK K
              try dsimp only [Act.put, List.getElem_toArray, List.getElem_cons_zero, List.getElem_cons_succ]; try simp only [List.setIfInBounds_toArray, List.set_cons_zero, List.set_cons_succ]
              refine wpAnyH_take (i := 3) (oi := _) (v := ?vq14) rfl (by kernel_rfl) (by kernel_rfl) (by kernel_rfl) (fun _ _ _ h => h) (Or.inl ⟨by rfl, ?hq14⟩) (by assumption) ?rq14
              case hq14 => (intro w hSw; go_simp; try with_reducible rfl)
              try dsimp only [Act.put, List.getElem_toArray, List.getElem_cons_zero, List.getElem_cons_succ]; try simp only [List.setIfInBounds_toArray, List.set_cons_zero, List.set_cons_succ]
              refine wpAnyH_take (i := 4) (oi := _) (v := ?vq15) rfl (by kernel_rfl) (by kernel_rfl) (by kernel_rfl) (fun _ _ _ h => h) (Or.inl ⟨by rfl, ?hq15⟩) (by assumption) ?rq15
              case hq15 => (intro w hSw; go_simp; try with_reducible rfl)
              try dsimp only [Act.put, List.getElem_toArray, List.getElem_cons_zero, List.getElem_cons_succ]; try simp only [List.setIfInBounds_toArray, List.set_cons_zero, List.set_cons_succ]
              refine wpAnyH_take (i := 5) (oi := _) (v := ?vq16) rfl (by kernel_rfl) (by kernel_rfl) (by kernel_rfl) (fun _ _ _ h => h) (Or.inl ⟨by rfl, ?hq16⟩) (by assumption) ?rq16
              case hq16 => (intro w hSw; go_simp; try with_reducible rfl)
              try dsimp only [Act.put, List.getElem_toArray, List.getElem_cons_zero, List.getElem_cons_succ]; try simp only [List.setIfInBounds_toArray, List.set_cons_zero, List.set_cons_succ]
              refine wpAnyH_take (i := 6) (oi := _) (v := ?vq17) rfl (by kernel_rfl) (by kernel_rfl) (by kernel_rfl) (fun _ _ _ h => h) (Or.inl ⟨by rfl, ?hq17⟩) (by assumption) ?rq17
              case hq17 => (intro w hSw; go_simp; try with_reducible rfl)
              try dsimp only [Act.put, List.getElem_toArray, List.getElem_cons_zero, List.getElem_cons_succ]; try simp only [List.setIfInBounds_toArray, List.set_cons_zero, List.set_cons_succ]
              refine wpAnyH_take (i := 7) (oi := _) (v := ?vq18) rfl (by kernel_rfl) (by kernel_rfl) (by kernel_rfl) (fun _ _ _ h => h) (Or.inl ⟨by rfl, ?hq18⟩) (by assumption) ?rq18
              case hq18 => (intro w hSw; go_simp; try with_reducible rfl)
              try dsimp only [Act.put, List.getElem_toArray, List.getElem_cons_zero, List.getElem_cons_succ]; try simp only [List.setIfInBounds_toArray, List.set_cons_zero, List.set_cons_succ]
              refine wpAnyH_take (i := 8) (oi := _) (v := ?vq19) rfl (by kernel_rfl) (by kernel_rfl) (by kernel_rfl) (fun _ _ _ h => h) (Or.inl ⟨by rfl, ?hq19⟩) (by assumption) ?rq19
              case hq19 => (intro w hSw; go_simp; try with_reducible rfl)
              try dsimp only [Act.put, List.getElem_toArray, List.getElem_cons_zero, List.getElem_cons_succ]; try simp only [List.setIfInBounds_toArray, List.set_cons_zero, List.set_cons_succ]
              refine wpAnyH_take (i := 9) (oi := _) (v := ?vq20) rfl (by kernel_rfl) (by kernel_rfl) (by kernel_rfl) (fun _ _ _ h => h) (Or.inl ⟨by rfl, ?hq20⟩) (by assumption) ?rq20
              case hq20 => (intro w hSw; go_simp; try with_reducible rfl)
              try dsimp only [Act.put, List.getElem_toArray, List.getElem_cons_zero, List.getElem_cons_succ]; try simp only [List.setIfInBounds_toArray, List.set_cons_zero, List.set_cons_succ]
              refine wpAnyH_take (i := 10) (oi := _) (v := ?vq21) rfl (by kernel_rfl) (by kernel_rfl) (by kernel_rfl) (fun _ _ _ h => h) (Or.inl ⟨by rfl, ?hq21⟩) (by assumption) ?rq21
              case hq21 => (intro w hSw; go_simp; try with_reducible rfl)
              try dsimp only [Act.put, List.getElem_toArray, List.getElem_cons_zero, List.getElem_cons_succ]; try simp only [List.setIfInBounds_toArray, List.set_cons_zero, List.set_cons_succ]
              refine wpAnyH_take (i := 11) (oi := _) (v := ?vq22) rfl (by kernel_rfl) (by kernel_rfl) (by kernel_rfl) (fun _ _ _ h => h) (Or.inl ⟨by rfl, ?hq22⟩) (by assumption) ?rq22
              case hq22 => (intro w hSw; go_simp; try with_reducible rfl)
              try dsimp only [Act.put, List.getElem_toArray, List.getElem_cons_zero, List.getElem_cons_succ]; try simp only [List.setIfInBounds_toArray, List.set_cons_zero, List.set_cons_succ]
              refine wpAnyH_take (i := 12) (oi := _) (v := ?vq23) rfl (by kernel_rfl) (by kernel_rfl) (by kernel_rfl) (fun _ _ _ h => h) (Or.inl ⟨by rfl, ?hq23⟩) (by assumption) ?rq23
              case hq23 => (intro w hSw; go_simp; try with_reducible rfl)
              try dsimp only [Act.put, List.getElem_toArray, List.getElem_cons_zero, List.getElem_cons_succ]; try simp only [List.setIfInBounds_toArray, List.set_cons_zero, List.set_cons_succ]
              refine wpAnyH_take (i := 13) (oi := _) (v := ?vq24) rfl (by kernel_rfl) (by kernel_rfl) (by kernel_rfl) (fun _ _ _ h => h) (Or.inl ⟨by rfl, ?hq24⟩) (by assumption) ?rq24
              case hq24 => (intro w hSw; go_simp; try with_reducible rfl)
              try dsimp only [Act.put, List.getElem_toArray, List.getElem_cons_zero, List.getElem_cons_succ]; try simp only [List.setIfInBounds_toArray, List.set_cons_zero, List.set_cons_succ]
              refine wpAnyH_take (i := 15) (oi := _) (v := ?vq25) rfl (by kernel_rfl) (by kernel_rfl) (by kernel_rfl) (fun _ _ _ h => h) (Or.inl ⟨by rfl, ?hq25⟩) (by assumption) ?rq25
              case hq25 => (intro w hSw; go_simp; try with_reducible rfl)
              try dsimp only [Act.put, List.getElem_toArray, List.getElem_cons_zero, List.getElem_cons_succ]; try simp only [List.setIfInBounds_toArray, List.set_cons_zero, List.set_cons_succ]
              refine wpAnyH_ready (rs := [14]) (by kernel_rfl) (by simp) ?_
              refine AllReadyH.cons (o := _) rfl (fun K hK => ?_) ?_
              · rw [if_pos (by rfl)]
                go_simp
                refine (HAT.out _ (then_ HB8.out hb)).mono ?_
                rintro e wx ⟨rfl, hbx⟩
                have hb := then_ hb hbx
                clear hbx
                go_wp2_with fail
                refine hK.out _ _ (HC.out _ hb) (fun hHeld => ?_)
                clear hK K
                try dsimp only [Act.put, List.getElem_toArray, List.getElem_cons_zero, List.getElem_cons_succ]; try simp only [List.setIfInBounds_toArray, List.set_cons_zero, List.set_cons_succ]
                refine wpAnyH_take (i := 16) (oi := _) (v := ?vq26) rfl (by kernel_rfl) (by kernel_rfl) (by kernel_rfl) (fun _ _ _ h => h) (Or.inl ⟨by rfl, ?hq26⟩) (by assumption) ?rq26
                case hq26 => (intro w hSw; go_simp; try with_reducible rfl)
                try dsimp only [Act.put, List.getElem_toArray, List.getElem_cons_zero, List.getElem_cons_succ]; try simp only [List.setIfInBounds_toArray, List.set_cons_zero, List.set_cons_succ]
                refine wpAnyH_take (i := 17) (oi := _) (v := ?vq27) rfl (by kernel_rfl) (by kernel_rfl) (by kernel_rfl) (fun _ _ _ h => h) (Or.inl ⟨by rfl, ?hq27⟩) (by assumption) ?rq27
                case hq27 => (intro w hSw; go_simp; try with_reducible rfl)
                try dsimp only [Act.put, List.getElem_toArray, List.getElem_cons_zero, List.getElem_cons_succ]; try simp only [List.setIfInBounds_toArray, List.set_cons_zero, List.set_cons_succ]
                refine wpAnyH_take (i := 18) (oi := _) (v := ?vq28) rfl (by kernel_rfl) (by kernel_rfl) (by kernel_rfl) (fun _ _ _ h => h) (Or.inl ⟨by rfl, ?hq28⟩) (by assumption) ?rq28
                case hq28 => (intro w hSw; go_simp; try with_reducible rfl)
                try dsimp only [Act.put, List.getElem_toArray, List.getElem_cons_zero, List.getElem_cons_succ]; try simp only [List.setIfInBounds_toArray, List.set_cons_zero, List.set_cons_succ]
                refine wpAnyH_take (i := 19) (oi := _) (v := ?vq29) rfl (by kernel_rfl) (by kernel_rfl) (by kernel_rfl) (fun _ _ _ h => h) (Or.inl ⟨by rfl, ?hq29⟩) (by assumption) ?rq29
                case hq29 => (intro w hSw; go_simp; try with_reducible rfl)
                try dsimp only [Act.put, List.getElem_toArray, List.getElem_cons_zero, List.getElem_cons_succ]; try simp only [List.setIfInBounds_toArray, List.set_cons_zero, List.set_cons_succ]
                refine wpAnyH_take (i := 21) (oi := _) (v := ?vq30) rfl (by kernel_rfl) (by kernel_rfl) (by kernel_rfl) (fun _ _ _ h => h) (Or.inl ⟨by rfl, ?hq30⟩) (by assumption) ?rq30
                case hq30 => (intro w hSw; go_simp; try with_reducible rfl)
                try dsimp only [Act.put, List.getElem_toArray, List.getElem_cons_zero, List.getElem_cons_succ]; try simp only [List.setIfInBounds_toArray, List.set_cons_zero, List.set_cons_succ]
                refine wpAnyH_take (i := 22) (oi := _) (v := ?vq31) rfl (by kernel_rfl) (by kernel_rfl) (by kernel_rfl) (fun _ _ _ h => h) (Or.inl ⟨by rfl, ?hq31⟩) (by assumption) ?rq31
                case hq31 => (intro w hSw; go_simp; try with_reducible rfl)
                try dsimp only [Act.put, List.getElem_toArray, List.getElem_cons_zero, List.getElem_cons_succ]; try simp only [List.setIfInBounds_toArray, List.set_cons_zero, List.set_cons_succ]
                refine wpAnyH_take (i := 23) (oi := _) (v := ?vq32) rfl (by kernel_rfl) (by kernel_rfl) (by kernel_rfl) (fun _ _ _ h => h) (Or.inl ⟨by rfl, ?hq32⟩) (by assumption) ?rq32
                case hq32 => (intro w hSw; go_simp; try with_reducible rfl)
                try dsimp only [Act.put, List.getElem_toArray, List.getElem_cons_zero, List.getElem_cons_succ]; try simp only [List.setIfInBounds_toArray, List.set_cons_zero, List.set_cons_succ]
                refine wpAnyH_take (i := 24) (oi := _) (v := ?vq33) rfl (by kernel_rfl) (by kernel_rfl) (by kernel_rfl) (fun _ _ _ h => h) (Or.inl ⟨by rfl, ?hq33⟩) (by assumption) ?rq33
                case hq33 => (intro w hSw; go_simp; try with_reducible rfl)
                try dsimp only [Act.put, List.getElem_toArray, List.getElem_cons_zero, List.getElem_cons_succ]; try simp only [List.setIfInBounds_toArray, List.set_cons_zero, List.set_cons_succ]
                refine wpAnyH_ready (rs := [20]) (by kernel_rfl) (by simp) ?_
                refine AllReadyH.cons (o := _) rfl (fun K hK => ?_) ?_
                · rw [if_pos (by rfl)]
                  go_simp
                  refine (quietC (HRT.out _ (then_ HB8.out hb))).mono ?_
                  rintro e wx ⟨rfl, hbx⟩
                  have hb := then_ hb hbx
                  clear hbx
                  go_wp2_with fail
                  refine hK.out _ _ (HC.out _ hb) (fun hHeld => ?_)
                  clear hK K
                  try dsimp only [Act.put, List.getElem_toArray, List.getElem_cons_zero, List.getElem_cons_succ]; try simp only [List.setIfInBounds_toArray, List.set_cons_zero, List.set_cons_succ]
                  refine wpAnyH_take (i := 25) (oi := _) (v := ?vq34) rfl (by kernel_rfl) (by kernel_rfl) (by kernel_rfl) (fun _ _ _ h => h) (Or.inl ⟨by rfl, ?hq34⟩) (by assumption) ?rq34
                  case hq34 => (intro w hSw; go_simp; try with_reducible rfl)
                  try dsimp only [Act.put, List.getElem_toArray, List.getElem_cons_zero, List.getElem_cons_succ]; try simp only [List.setIfInBounds_toArray, List.set_cons_zero, List.set_cons_succ]
                  refine wpAnyH_take (i := 26) (oi := _) (v := ?vq35) rfl (by kernel_rfl) (by kernel_rfl) (by kernel_rfl) (fun _ _ _ h => h) (Or.inl ⟨by rfl, ?hq35⟩) (by assumption) ?rq35
                  case hq35 => (intro w hSw; go_simp; try with_reducible rfl)
                  try dsimp only [Act.put, List.getElem_toArray, List.getElem_cons_zero, List.getElem_cons_succ]; try simp only [List.setIfInBounds_toArray, List.set_cons_zero, List.set_cons_succ]
                  refine wpAnyH_take (i := 27) (oi := _) (v := ?vq36) rfl (by kernel_rfl) (by kernel_rfl) (by kernel_rfl) (fun _ _ _ h => h) (Or.inl ⟨by rfl, ?hq36⟩) (by assumption) ?rq36
                  case hq36 => (intro w hSw; go_simp; try with_reducible rfl)
                  try dsimp only [Act.put, List.getElem_toArray, List.getElem_cons_zero, List.getElem_cons_succ]; try simp only [List.setIfInBounds_toArray, List.set_cons_zero, List.set_cons_succ]
                  refine wpAnyH_take (i := 28) (oi := _) (v := ?vq37) rfl (by kernel_rfl) (by kernel_rfl) (by kernel_rfl) (fun _ _ _ h => h) (Or.inl ⟨by rfl, ?hq37⟩) (by assumption) ?rq37
                  case hq37 => (intro w hSw; go_simp; try with_reducible rfl)
                  try dsimp only [Act.put, List.getElem_toArray, List.getElem_cons_zero, List.getElem_cons_succ]; try simp only [List.setIfInBounds_toArray, List.set_cons_zero, List.set_cons_succ]
                  refine wpAnyH_take (i := 29) (oi := _) (v := ?vq38) rfl (by kernel_rfl) (by kernel_rfl) (by kernel_rfl) (fun _ _ _ h => h) (Or.inl ⟨by rfl, ?hq38⟩) (by assumption) ?rq38
                  case hq38 => (intro w hSw; go_simp; try with_reducible rfl)
                  try dsimp only [Act.put, List.getElem_toArray, List.getElem_cons_zero, List.getElem_cons_succ]; try simp only [List.setIfInBounds_toArray, List.set_cons_zero, List.set_cons_succ]
                  refine wpAnyH_take (i := 30) (oi := _) (v := ?vq39) rfl (by kernel_rfl) (by kernel_rfl) (by kernel_rfl) (fun _ _ _ h => h) (Or.inl ⟨by rfl, ?hq39⟩) (by assumption) ?rq39
                  case hq39 => (intro w hSw; go_simp; try with_reducible rfl)
                  try dsimp only [Act.put, List.getElem_toArray, List.getElem_cons_zero, List.getElem_cons_succ]; try simp only [List.setIfInBounds_toArray, List.set_cons_zero, List.set_cons_succ]
                  refine wpAnyH_take (i := 32) (oi := _) (v := _) rfl (by kernel_rfl) (by kernel_rfl) (by kernel_rfl) (fun _ _ _ h => h) (wp_load_arr (w := w) (by rfl) _ rfl lb 0 rfl cs (fun w hSw => (range_blk hSw.1)) ⟨_, Try.underlying44, rfl⟩ HI.out) (by assumption) ?_
                  try dsimp only [Act.put, List.getElem_toArray, List.getElem_cons_zero, List.getElem_cons_succ]; try simp only [List.setIfInBounds_toArray, List.set_cons_zero, List.set_cons_succ]
                  refine wpAnyH_take (i := 33) (oi := _) (v := ?vq41) rfl (by kernel_rfl) (by kernel_rfl) (by kernel_rfl) (fun _ _ _ h => h) (Or.inl ⟨by rfl, ?hq41⟩) (by assumption) ?rq41
                  case hq41 => (intro w hSw; go_simp; try with_reducible rfl)
                  try dsimp only [Act.put, List.getElem_toArray, List.getElem_cons_zero, List.getElem_cons_succ]; try simp only [List.setIfInBounds_toArray, List.set_cons_zero, List.set_cons_succ]
                  refine wpAnyH_take (i := 34) (oi := _) (v := ?vq42) rfl (by kernel_rfl) (by kernel_rfl) (by kernel_rfl) (fun _ _ _ h => h) (Or.inl ⟨by rfl, ?hq42⟩) (by assumption) ?rq42
                  case hq42 => (intro w hSw; go_simp; try with_reducible rfl)
                  try dsimp only [Act.put, List.getElem_toArray, List.getElem_cons_zero, List.getElem_cons_succ]; try simp only [List.setIfInBounds_toArray, List.set_cons_zero, List.set_cons_succ]
                  refine wpAnyH_ready (rs := [31]) (by kernel_rfl) (by simp) ?_
                  refine AllReadyH.cons (o := _) rfl (fun K hK => ?_) ?_
                  · rw [if_pos (by rfl)]
                    go_simp
                    refine (HPR.out _ (then_ HB8.out hb)).mono ?_
                    rintro e wx ⟨v31, rfl, hown, hbx⟩
                    obtain ⟨A31, c31, rfl⟩ := own_form hown
                    have HP31 := Lib.hid (Rd.of_own hown)
                    clear hown
                    have hb := then_ hb hbx
                    clear hbx
                    go_wp2_with fail
                    refine hK.out _ _ (HC.out _ hb) (fun hHeld => ?_)
                    clear hK K
                    try dsimp only [Act.put, List.getElem_toArray, List.getElem_cons_zero, List.getElem_cons_succ]; try simp only [List.setIfInBounds_toArray, List.set_cons_zero, List.set_cons_succ]
                    refine wpAnyH_ready (rs := [35]) (by kernel_rfl) (by simp) ?_
                    refine AllReadyH.cons (o := _) rfl (fun K hK => ?_) ?_
                    · rw [if_pos (by rfl)]
                      go_simp
                      refine (HPD.out _ (then_ HB8.out hb)).mono ?_
                      rintro e wx ⟨v35, rfl, hown, hbx⟩
                      obtain ⟨A35, c35, rfl⟩ := own_form hown
                      have HP35 := Lib.hid (Rd.of_own hown)
                      have HP31 := Lib.hid (HP31.out.below hbx)
                      clear hown
                      have hb := then_ hb hbx
                      clear hbx
                      go_wp2_with fail
                      refine hK.out _ _ (HC.out _ hb) (fun hHeld => ?_)
                      clear hK K
                      try dsimp only [Act.put, List.getElem_toArray, List.getElem_cons_zero, List.getElem_cons_succ]; try simp only [List.setIfInBounds_toArray, List.set_cons_zero, List.set_cons_succ]
                      refine wpAnyH_ready (rs := [36]) (by kernel_rfl) (by simp) ?_
                      refine AllReadyH.cons (o := _) rfl (fun K hK => ?_) ?_
                      · rw [if_pos (by rfl)]
                        go_simp
                        refine (sameTexts_any A31 pr.length c31 pr A35 pr.length c35 pr _ HP31.out rfl (by have := HPRL.out; unfold maxLen; omega) HP35.out rfl (by have := HPRL.out; unfold maxLen; omega)).mono ?_
                        rintro e wx ⟨rfl, hbx⟩
                        rw [show decide (pr = pr) = true by simp]
                        have hb := then_ hb hbx
                        clear hbx
                        go_wp2_with fail
                        refine hK.out _ _ (HC.out _ hb) (fun hHeld => ?_)
                        clear hK K
                        try dsimp only [Act.put, List.getElem_toArray, List.getElem_cons_zero, List.getElem_cons_succ]; try simp only [List.setIfInBounds_toArray, List.set_cons_zero, List.set_cons_succ]
                        refine wpAnyH_take (i := 37) (oi := _) (v := ?vq43) rfl (by kernel_rfl) (by kernel_rfl) (by kernel_rfl) (fun _ _ _ h => h) (Or.inl ⟨by rfl, ?hq43⟩) (by assumption) ?rq43
                        case hq43 => (intro w hSw; go_simp; try with_reducible rfl)
                        try dsimp only [Act.put, List.getElem_toArray, List.getElem_cons_zero, List.getElem_cons_succ]; try simp only [List.setIfInBounds_toArray, List.set_cons_zero, List.set_cons_succ]
                        refine wpAnyH_take (i := 38) (oi := _) (v := ?vq44) rfl (by kernel_rfl) (by kernel_rfl) (by kernel_rfl) (fun _ _ _ h => h) (Or.inl ⟨by rfl, ?hq44⟩) (by assumption) ?rq44
                        case hq44 => (intro w hSw; go_simp; try with_reducible rfl)
                        try dsimp only [Act.put, List.getElem_toArray, List.getElem_cons_zero, List.getElem_cons_succ]; try simp only [List.setIfInBounds_toArray, List.set_cons_zero, List.set_cons_succ]
                        refine wpAnyH_take (i := 39) (oi := _) (v := ?vq45) rfl (by kernel_rfl) (by kernel_rfl) (by kernel_rfl) (fun _ _ _ h => h) (Or.inl ⟨by rfl, ?hq45⟩) (by assumption) ?rq45
                        case hq45 => (intro w hSw; go_simp; try with_reducible rfl)
                        try dsimp only [Act.put, List.getElem_toArray, List.getElem_cons_zero, List.getElem_cons_succ]; try simp only [List.setIfInBounds_toArray, List.set_cons_zero, List.set_cons_succ]
                        refine wpAnyH_take (i := 40) (oi := _) (v := ?vq46) rfl (by kernel_rfl) (by kernel_rfl) (by kernel_rfl) (fun _ _ _ h => h) (Or.inl ⟨by rfl, ?hq46⟩) (by assumption) ?rq46
                        case hq46 => (intro w hSw; go_simp; try with_reducible rfl)
                        try dsimp only [Act.put, List.getElem_toArray, List.getElem_cons_zero, List.getElem_cons_succ]; try simp only [List.setIfInBounds_toArray, List.set_cons_zero, List.set_cons_succ]
                        refine wpAnyH_take (i := 41) (oi := _) (v := ?vq47) rfl (by kernel_rfl) (by kernel_rfl) (by kernel_rfl) (fun _ _ _ h => h) (Or.inl ⟨by rfl, ?hq47⟩) (by assumption) ?rq47
                        case hq47 => (intro w hSw; go_simp; try with_reducible rfl)
                        try dsimp only [Act.put, List.getElem_toArray, List.getElem_cons_zero, List.getElem_cons_succ]; try simp only [List.setIfInBounds_toArray, List.set_cons_zero, List.set_cons_succ]
                        refine wpAnyH_take (i := 43) (oi := _) (v := ?vq48) rfl (by kernel_rfl) (by kernel_rfl) (by kernel_rfl) (fun _ _ _ h => h) (Or.inl ⟨by rfl, ?hq48⟩) (by assumption) ?rq48
                        case hq48 => (intro w hSw; go_simp; try with_reducible rfl)
                        try dsimp only [Act.put, List.getElem_toArray, List.getElem_cons_zero, List.getElem_cons_succ]; try simp only [List.setIfInBounds_toArray, List.set_cons_zero, List.set_cons_succ]
                        refine wpAnyH_take (i := 44) (oi := _) (v := ?vq49) rfl (by kernel_rfl) (by kernel_rfl) (by kernel_rfl) (fun _ _ _ h => h) (Or.inl ⟨by rfl, ?hq49⟩) (by assumption) ?rq49
                        case hq49 => (intro w hSw; go_simp; try with_reducible rfl)
                        try dsimp only [Act.put, List.getElem_toArray, List.getElem_cons_zero, List.getElem_cons_succ]; try simp only [List.setIfInBounds_toArray, List.set_cons_zero, List.set_cons_succ]
                        refine wpAnyH_take (i := 45) (oi := _) (v := ?vq50) rfl (by kernel_rfl) (by kernel_rfl) (by kernel_rfl) (fun _ _ _ h => h) (Or.inl ⟨by rfl, ?hq50⟩) (by assumption) ?rq50
                        case hq50 => (intro w hSw; go_simp; try with_reducible rfl)
                        try dsimp only [Act.put, List.getElem_toArray, List.getElem_cons_zero, List.getElem_cons_succ]; try simp only [List.setIfInBounds_toArray, List.set_cons_zero, List.set_cons_succ]
                        refine wpAnyH_ready (rs := [42]) (by kernel_rfl) (by simp) ?_
                        refine AllReadyH.cons (o := _) rfl (fun K hK => ?_) ?_
                        · rw [if_pos (by rfl)]
                          go_simp
                          refine (HIN.out _ (then_ HB8.out hb)).mono ?_
                          rintro e wx ⟨v42, rfl, hown, hbx⟩
                          obtain ⟨A42, c42, rfl⟩ := own_form hown
                          have HP42 := Lib.hid (Rd.of_own hown)
                          clear hown
                          have hb := then_ hb hbx
                          clear hbx
                          go_wp2_with fail
                          refine hK.out _ _ (HC.out _ hb) (fun hHeld => ?_)
                          clear hK K
                          try dsimp only [Act.put, List.getElem_toArray, List.getElem_cons_zero, List.getElem_cons_succ]; try simp only [List.setIfInBounds_toArray, List.set_cons_zero, List.set_cons_succ]
                          refine wpAnyH_ready (rs := [46]) (by kernel_rfl) (by simp) ?_
                          refine AllReadyH.cons (o := _) rfl (fun K hK => ?_) ?_
                          · rw [if_pos (by rfl)]
                            go_simp
                            refine (HID.out _ (then_ HB8.out hb)).mono ?_
                            rintro e wx ⟨v46, rfl, hown, hbx⟩
                            obtain ⟨A46, c46, rfl⟩ := own_form hown
                            have HP46 := Lib.hid (Rd.of_own hown)
                            have HP42 := Lib.hid (HP42.out.below hbx)
                            clear hown
                            have hb := then_ hb hbx
                            clear hbx
                            go_wp2_with fail
                            refine hK.out _ _ (HC.out _ hb) (fun hHeld => ?_)
                            clear hK K
                            try dsimp only [Act.put, List.getElem_toArray, List.getElem_cons_zero, List.getElem_cons_succ]; try simp only [List.setIfInBounds_toArray, List.set_cons_zero, List.set_cons_succ]
                            refine wpAnyH_ready (rs := [47]) (by kernel_rfl) (by simp) ?_
                            refine AllReadyH.cons (o := _) rfl (fun K hK => ?_) ?_
                            · rw [if_pos (by rfl)]
                              go_simp
                              refine (sameL_any A42 own.length c42 own A46 own.length c46 own _ HP42.out rfl (by have := HINL.out; unfold maxLen; omega) HP46.out rfl (by have := HINL.out; unfold maxLen; omega)).mono ?_
                              rintro e wx ⟨qs, hqs, rfl, hbx⟩
                              have hqt : qs = true := hqs.2 rfl
                              subst hqt
                              clear hqs
                              have hb := then_ hb hbx
                              clear hbx
                              go_wp2_with fail
                              refine hK.out _ _ (HC.out _ hb) (fun hHeld => ?_)
                              clear hK K
                              try dsimp only [Act.put, List.getElem_toArray, List.getElem_cons_zero, List.getElem_cons_succ]; try simp only [List.setIfInBounds_toArray, List.set_cons_zero, List.set_cons_succ]
                              refine wpAnyH_take (i := 48) (oi := _) (v := ?vq51) rfl (by kernel_rfl) (by kernel_rfl) (by kernel_rfl) (fun _ _ _ h => h) (Or.inl ⟨by rfl, ?hq51⟩) (by assumption) ?rq51
                              case hq51 => (intro w hSw; go_simp; try with_reducible rfl)
                              try dsimp only [Act.put, List.getElem_toArray, List.getElem_cons_zero, List.getElem_cons_succ]; try simp only [List.setIfInBounds_toArray, List.set_cons_zero, List.set_cons_succ]
                              refine wpAnyH_take (i := 49) (oi := _) (v := ?vq52) rfl (by kernel_rfl) (by kernel_rfl) (by kernel_rfl) (fun _ _ _ h => h) (Or.inl ⟨by rfl, ?hq52⟩) (by assumption) ?rq52
                              case hq52 => (intro w hSw; go_simp; try with_reducible rfl)
                              try dsimp only [Act.put, List.getElem_toArray, List.getElem_cons_zero, List.getElem_cons_succ]; try simp only [List.setIfInBounds_toArray, List.set_cons_zero, List.set_cons_succ]
                              refine wpAnyH_ready (rs := [50]) (by kernel_rfl) (by simp) ?_
                              refine AllReadyH.cons (o := _) rfl (fun K hK => ?_) ?_
                              · rw [if_pos (by rfl)]
                                go_simp
                                refine (awake49_any _).mono ?_
                                rintro e wx ⟨rfl, hbx⟩
                                have hb := then_ hb hbx
                                clear hbx
                                go_wp2_with fail
                                refine hK.out _ _ (HC.out _ hb) (fun hHeld => ?_)
                                clear hK K
                                try dsimp only [Act.put, List.getElem_toArray, List.getElem_cons_zero, List.getElem_cons_succ]; try simp only [List.setIfInBounds_toArray, List.set_cons_zero, List.set_cons_succ]
                                refine wpAnyH_take (i := 51) (oi := _) (v := ?vq53) rfl (by kernel_rfl) (by kernel_rfl) (by kernel_rfl) (fun _ _ _ h => h) (Or.inl ⟨by rfl, ?hq53⟩) (by assumption) ?rq53
                                case hq53 => (intro w hSw; go_simp; try with_reducible rfl)
                                try dsimp only [Act.put, List.getElem_toArray, List.getElem_cons_zero, List.getElem_cons_succ]; try simp only [List.setIfInBounds_toArray, List.set_cons_zero, List.set_cons_succ]
                                refine wpAnyH_take (i := 52) (oi := _) (v := ?vq54) rfl (by kernel_rfl) (by kernel_rfl) (by kernel_rfl) (fun _ _ _ h => h) (Or.inl ⟨by rfl, ?hq54⟩) (by assumption) ?rq54
                                case hq54 => (intro w hSw; go_simp; try with_reducible rfl)
                                try dsimp only [Act.put, List.getElem_toArray, List.getElem_cons_zero, List.getElem_cons_succ]; try simp only [List.setIfInBounds_toArray, List.set_cons_zero, List.set_cons_succ]
                                refine wpAnyH_done (by kernel_rfl) ?_ _
                                go_wp2
                                go_ret
                                exact ⟨rfl, then_ HBW.out hb⟩
                              exact AllReadyH.nil
                            exact AllReadyH.nil
                          exact AllReadyH.nil
                        exact AllReadyH.nil
                      exact AllReadyH.nil
                    exact AllReadyH.nil
                  exact AllReadyH.nil
                exact AllReadyH.nil
              exact AllReadyH.nil
            exact AllReadyH.nil
      have hz0 : 0 ≤ z0 := by omega
      have hd1 : decide (z0 ≥ 0) = true := by simp; omega
      have hd2 : decide (0 ≤ z0) = true := by simp; omega
      clear hc1
      by_cases hc2 : 6 < z0
      · have HAO := Lib.hid (atL_out a (lv := z0) (ix := z1) (by omega))
        have hd3 : decide (z0 ≤ 6) = false := by simp; omega
        go_wp2_with fail
        refine wp_region_held_drew (S := (fun W => W.cell? ⟨nb, 0, none⟩ = some (.int .i64 z0) ∧ W.cell? ⟨nb, 1, none⟩ = some (.int .i64 z1))) (by kernel_rfl) HNN.out (fun hHeld => ?_)
        refine wpAnyH_take (i := 0) (oi := _) (v := ?vq132) rfl (by kernel_rfl) (by kernel_rfl) (by kernel_rfl) (fun _ _ _ h => h) (Or.inl ⟨by rfl, ?hq132⟩) (by assumption) ?rq132
        case hq132 => (intro w hSw; go_simp; try with_reducible rfl)
        try dsimp only [Act.put, List.getElem_toArray, List.getElem_cons_zero, List.getElem_cons_succ]; try simp only [List.setIfInBounds_toArray, List.set_cons_zero, List.set_cons_succ]
        refine wpAnyH_take (i := 1) (oi := _) (v := ?vq133) rfl (by kernel_rfl) (by kernel_rfl) (by kernel_rfl) (fun _ _ _ h => h) (Or.inl ⟨by rfl, ?hq133⟩) (by assumption) ?rq133
        case hq133 => (intro w hSw; go_simp; try with_reducible rfl)
        try dsimp only [Act.put, List.getElem_toArray, List.getElem_cons_zero, List.getElem_cons_succ]; try simp only [List.setIfInBounds_toArray, List.set_cons_zero, List.set_cons_succ]
        refine wpAnyH_take (i := 2) (oi := _) (v := ?vq134) rfl (by kernel_rfl) (by kernel_rfl) (by kernel_rfl) (fun _ _ _ h => h) (Or.inl ⟨by rfl, ?hq134⟩) (by assumption) ?rq134
        case hq134 => (intro w hSw; go_simp; try with_reducible rfl)
        try dsimp only [Act.put, List.getElem_toArray, List.getElem_cons_zero, List.getElem_cons_succ]; try simp only [List.setIfInBounds_toArray, List.set_cons_zero, List.set_cons_succ]
        refine wpAnyH_take (i := 3) (oi := _) (v := ?vq135) rfl (by kernel_rfl) (by kernel_rfl) (by kernel_rfl) (fun _ _ _ h => h) (Or.inl ⟨by rfl, ?hq135⟩) (by assumption) ?rq135
        case hq135 => (intro w hSw; go_simp; try with_reducible rfl)
        try dsimp only [Act.put, List.getElem_toArray, List.getElem_cons_zero, List.getElem_cons_succ]; try simp only [List.setIfInBounds_toArray, List.set_cons_zero, List.set_cons_succ]
        refine wpAnyH_take (i := 4) (oi := _) (v := ?vq136) rfl (by kernel_rfl) (by kernel_rfl) (by kernel_rfl) (fun _ _ _ h => h) (Or.inl ⟨by rfl, ?hq136⟩) (by assumption) ?rq136
        case hq136 => (intro w hSw; go_simp; try with_reducible rfl)
        try dsimp only [Act.put, List.getElem_toArray, List.getElem_cons_zero, List.getElem_cons_succ]; try simp only [List.setIfInBounds_toArray, List.set_cons_zero, List.set_cons_succ]
        refine wpAnyH_take (i := 5) (oi := _) (v := ?vq137) rfl (by kernel_rfl) (by kernel_rfl) (by kernel_rfl) (fun _ _ _ h => h) (Or.inl ⟨by rfl, ?hq137⟩) (by assumption) ?rq137
        case hq137 => (intro w hSw; go_simp; try with_reducible rfl)
        try dsimp only [Act.put, List.getElem_toArray, List.getElem_cons_zero, List.getElem_cons_succ]; try simp only [List.setIfInBounds_toArray, List.set_cons_zero, List.set_cons_succ]
        refine wpAnyH_take (i := 6) (oi := _) (v := ?vq138) rfl (by kernel_rfl) (by kernel_rfl) (by kernel_rfl) (fun _ _ _ h => h) (Or.inl ⟨by rfl, ?hq138⟩) (by assumption) ?rq138
        case hq138 => (intro w hSw; go_simp; try with_reducible rfl)
        try dsimp only [Act.put, List.getElem_toArray, List.getElem_cons_zero, List.getElem_cons_succ]; try simp only [List.setIfInBounds_toArray, List.set_cons_zero, List.set_cons_succ]
        refine wpAnyH_take (i := 7) (oi := _) (v := ?vq139) rfl (by kernel_rfl) (by kernel_rfl) (by kernel_rfl) (fun _ _ _ h => h) (Or.inl ⟨by rfl, ?hq139⟩) (by assumption) ?rq139
        case hq139 => (intro w hSw; go_simp; try with_reducible rfl)
        try dsimp only [Act.put, List.getElem_toArray, List.getElem_cons_zero, List.getElem_cons_succ]; try simp only [List.setIfInBounds_toArray, List.set_cons_zero, List.set_cons_succ]
        refine wpAnyH_take (i := 8) (oi := _) (v := ?vq140) rfl (by kernel_rfl) (by kernel_rfl) (by kernel_rfl) (fun _ _ _ h => h) (Or.inl ⟨by rfl, ?hq140⟩) (by assumption) ?rq140
        case hq140 => (intro w hSw; go_simp; try with_reducible rfl)
        try dsimp only [Act.put, List.getElem_toArray, List.getElem_cons_zero, List.getElem_cons_succ]; try simp only [List.setIfInBounds_toArray, List.set_cons_zero, List.set_cons_succ]
        refine wpAnyH_take (i := 9) (oi := _) (v := undef) rfl (by kernel_rfl) (by kernel_rfl) (by kernel_rfl) (fun _ _ _ h => h) (Or.inr ⟨by rfl, rfl⟩) (by assumption) ?_
        try dsimp only [Act.put, List.getElem_toArray, List.getElem_cons_zero, List.getElem_cons_succ]; try simp only [List.setIfInBounds_toArray, List.set_cons_zero, List.set_cons_succ]
        refine wpAnyH_take (i := 10) (oi := _) (v := undef) rfl (by kernel_rfl) (by kernel_rfl) (by kernel_rfl) (fun _ _ _ h => h) (Or.inr ⟨by rfl, rfl⟩) (by assumption) ?_
        try dsimp only [Act.put, List.getElem_toArray, List.getElem_cons_zero, List.getElem_cons_succ]; try simp only [List.setIfInBounds_toArray, List.set_cons_zero, List.set_cons_succ]
        refine wpAnyH_take (i := 11) (oi := _) (v := undef) rfl (by kernel_rfl) (by kernel_rfl) (by kernel_rfl) (fun _ _ _ h => h) (Or.inr ⟨by rfl, rfl⟩) (by assumption) ?_
        try dsimp only [Act.put, List.getElem_toArray, List.getElem_cons_zero, List.getElem_cons_succ]; try simp only [List.setIfInBounds_toArray, List.set_cons_zero, List.set_cons_succ]
        refine wpAnyH_take (i := 12) (oi := _) (v := ?vq144) rfl (by kernel_rfl) (by kernel_rfl) (by kernel_rfl) (fun _ _ _ h => h) (Or.inl ⟨by rfl, ?hq144⟩) (by assumption) ?rq144
        case hq144 => (intro w hSw; go_simp; try with_reducible rfl)
        try dsimp only [Act.put, List.getElem_toArray, List.getElem_cons_zero, List.getElem_cons_succ]; try simp only [List.setIfInBounds_toArray, List.set_cons_zero, List.set_cons_succ]
        refine wpAnyH_take (i := 13) (oi := _) (v := ?vq145) rfl (by kernel_rfl) (by kernel_rfl) (by kernel_rfl) (fun _ _ _ h => h) (Or.inl ⟨by rfl, ?hq145⟩) (by assumption) ?rq145
        case hq145 => (intro w hSw; go_simp; try with_reducible rfl)
        try dsimp only [Act.put, List.getElem_toArray, List.getElem_cons_zero, List.getElem_cons_succ]; try simp only [List.setIfInBounds_toArray, List.set_cons_zero, List.set_cons_succ]
        refine wpAnyH_take (i := 14) (oi := _) (v := undef) rfl (by kernel_rfl) (by kernel_rfl) (by kernel_rfl) (fun _ _ _ h => h) (Or.inr ⟨by rfl, rfl⟩) (by assumption) ?_
        try dsimp only [Act.put, List.getElem_toArray, List.getElem_cons_zero, List.getElem_cons_succ]; try simp only [List.setIfInBounds_toArray, List.set_cons_zero, List.set_cons_succ]
        refine wpAnyH_take (i := 15) (oi := _) (v := undef) rfl (by kernel_rfl) (by kernel_rfl) (by kernel_rfl) (fun _ _ _ h => h) (Or.inr ⟨by rfl, rfl⟩) (by assumption) ?_
        try dsimp only [Act.put, List.getElem_toArray, List.getElem_cons_zero, List.getElem_cons_succ]; try simp only [List.setIfInBounds_toArray, List.set_cons_zero, List.set_cons_succ]
        refine wpAnyH_take (i := 16) (oi := _) (v := undef) rfl (by kernel_rfl) (by kernel_rfl) (by kernel_rfl) (fun _ _ _ h => h) (Or.inr ⟨by rfl, rfl⟩) (by assumption) ?_
        try dsimp only [Act.put, List.getElem_toArray, List.getElem_cons_zero, List.getElem_cons_succ]; try simp only [List.setIfInBounds_toArray, List.set_cons_zero, List.set_cons_succ]
        refine wpAnyH_take (i := 17) (oi := _) (v := undef) rfl (by kernel_rfl) (by kernel_rfl) (by kernel_rfl) (fun _ _ _ h => h) (Or.inr ⟨by rfl, rfl⟩) (by assumption) ?_
        try dsimp only [Act.put, List.getElem_toArray, List.getElem_cons_zero, List.getElem_cons_succ]; try simp only [List.setIfInBounds_toArray, List.set_cons_zero, List.set_cons_succ]
        refine wpAnyH_take (i := 18) (oi := _) (v := undef) rfl (by kernel_rfl) (by kernel_rfl) (by kernel_rfl) (fun _ _ _ h => h) (Or.inr ⟨by rfl, rfl⟩) (by assumption) ?_
        try dsimp only [Act.put, List.getElem_toArray, List.getElem_cons_zero, List.getElem_cons_succ]; try simp only [List.setIfInBounds_toArray, List.set_cons_zero, List.set_cons_succ]
        refine wpAnyH_take (i := 19) (oi := _) (v := undef) rfl (by kernel_rfl) (by kernel_rfl) (by kernel_rfl) (fun _ _ _ h => h) (Or.inr ⟨by rfl, rfl⟩) (by assumption) ?_
        try dsimp only [Act.put, List.getElem_toArray, List.getElem_cons_zero, List.getElem_cons_succ]; try simp only [List.setIfInBounds_toArray, List.set_cons_zero, List.set_cons_succ]
        refine wpAnyH_take (i := 20) (oi := _) (v := undef) rfl (by kernel_rfl) (by kernel_rfl) (by kernel_rfl) (fun _ _ _ h => h) (Or.inr ⟨by rfl, rfl⟩) (by assumption) ?_
        try dsimp only [Act.put, List.getElem_toArray, List.getElem_cons_zero, List.getElem_cons_succ]; try simp only [List.setIfInBounds_toArray, List.set_cons_zero, List.set_cons_succ]
        refine wpAnyH_take (i := 21) (oi := _) (v := undef) rfl (by kernel_rfl) (by kernel_rfl) (by kernel_rfl) (fun _ _ _ h => h) (Or.inr ⟨by rfl, rfl⟩) (by assumption) ?_
        try dsimp only [Act.put, List.getElem_toArray, List.getElem_cons_zero, List.getElem_cons_succ]; try simp only [List.setIfInBounds_toArray, List.set_cons_zero, List.set_cons_succ]
        refine wpAnyH_take (i := 22) (oi := _) (v := ?vq154) rfl (by kernel_rfl) (by kernel_rfl) (by kernel_rfl) (fun _ _ _ h => h) (Or.inl ⟨by rfl, ?hq154⟩) (by assumption) ?rq154
        case hq154 => (intro w hSw; go_simp; try with_reducible rfl)
        try dsimp only [Act.put, List.getElem_toArray, List.getElem_cons_zero, List.getElem_cons_succ]; try simp only [List.setIfInBounds_toArray, List.set_cons_zero, List.set_cons_succ]
        refine wpAnyH_done (by kernel_rfl) ?_ _
        have HAG := Lib.hid (HAG.out.below (Below.refl _ _).drew); have HU := Lib.hid (HU.out.below (Below.refl _ _).drew); have HU6 := Lib.hid (HU6.out.below (Below.refl _ _).drew); have HTA := Lib.hid (HTA.out.below (Below.refl _ _).drew)
        have HNN := Lib.hid (And.intro (cell_below (Below.refl _ _).drew HNN.out.1) (cell_below (Below.refl _ _).drew HNN.out.2)); have HR := Lib.hid (HR.out.below (Below.refl _ _).drew); have HB := Lib.hid HB.out.drew; have HBL := Lib.hid (heap_below (Below.refl _ _).drew HBL.out); have HR01 := Lib.hid (And.intro (cell_below (Below.refl _ _).drew HR01.out.1) (cell_below (Below.refl _ _).drew HR01.out.2))
        generalize W9.drew = W8 at HAG HU HU6 HTA HNN HR HB HBL HR01 ⊢
        have HCE := Lib.hid (fun W (h : Below W8.heap.size W8 W) => (⟨heap_below h HBL.out, cell_below h HNN.out.1, cell_below h HNN.out.2, cell_below h HR01.out.1, cell_below h HR01.out.2⟩ : W.heap[lb]? = some (.cells cs 44 (0, 0)) ∧ W.cell? ⟨nb, 0, none⟩ = some (.int .i64 z0) ∧ W.cell? ⟨nb, 1, none⟩ = some (.int .i64 z1) ∧ W.cell? ⟨lb, 0, none⟩ = some (.slice (some ⟨b0, o0, none⟩) 1 c0) ∧ W.cell? ⟨b0, o0, none⟩ = some (.string (rootT a))))
        clear HNN HBL HR01
        go_wp2_with fail
        have HAT := Lib.hid (fun W (h : Below W8.heap.size W8 W) => quietC (at_any ta a z0 z1 W (HTA.out.below h)))
        rw [HAO.out] at HAT
        clear HAO
        have HPR := Lib.hid (fun W (h : Below W8.heap.size W8 W) => prove_any ta a z0 W (HTA.out.below h))
        have HPD := Lib.hid (fun W (h : Below W8.heap.size W8 W) => rProve_any a bs1 cs z0 W (HAG.out.below h))
        have hprl : (proveL a z0).length ≤ 64 := by unfold proveL; split <;> simp [wayL_len]
        generalize proveL a z0 = pr at HPR HPD hprl
        have HIN := Lib.hid (fun W (h : Below W8.heap.size W8 W) => pin_any A n c a z0 W (HR.out.below h) HN.out hn HL.out.2)
        have HID := Lib.hid (fun W (h : Below W8.heap.size W8 W) => rin_any A n c a z0 W (HR.out.below h) HN.out hn HL.out.2)
        have hinl : (inL (bktB z0) a).length ≤ 1000 := Nat.le_trans (inL_len _ _) (by have := HN.out; omega)
        generalize inL (bktB z0) a = own at HIN HID hinl
        have HRT := Lib.hid (fun W (h : Below W8.heap.size W8 W) => trieRoot_any ta a W (HTA.out.below h))
        generalize rootT a = x at HRT HCE
        have HPRL := Lib.hid hprl; have HINL := Lib.hid hinl
        clear HAG HTA hprl hinl
        go_wp2_with fail
        go_loopw [15] (fun i wr => ∃ j : Nat, j ≤ n ∧ i = .int .i64 j ∧ Below W8.heap.size W8 wr) (fun i _ => n - (intOf i).toNat)
        case atStart => exact ⟨0, Nat.zero_le _, rfl, Below.refl _ _⟩
        case round =>
          obtain ⟨j, hj, rfl, hbel⟩ := hrel
          by_cases hlt : j < n
          · have hx : j < a.length := by have := HN.out; omega
            obtain ⟨b, off, rfl, hrg⟩ := row_leaf.at_ HR.out j hx
            have hs := HL.out.2 a[j] (List.getElem_mem hx)
            generalize a[j] = s at hrg hs
            obtain ⟨sp, sd⟩ := s
            have HG0 := Lib.hid (cell_below hbel (show W8.cell? ⟨b, off + j * 2, none⟩ = some (.string sp) from rangeAt_cell hrg 0 rfl))
            have HX := Lib.hid (fun W => bucket_any sp W (by have := hs.1; simp only at this; omega))
            have HY := Lib.hid (fun W => rbucket_any sp W (by have := hs.1; simp only at this; omega))
            generalize bktOf sp = g at HX HY
            have hgg : ((g : Int) != (g : Int)) = false := by simp
            have hjn : (j : Int) < (n : Int) := by omega
            have hj0 : (0 : Int) ≤ (j : Int) := by omega
            clear hs hrg
            have hb : Below wr.heap.size wr wr.drew := (Below.refl _ _).drew
            go_wp2_with fail
            refine wp_region_held_drew (S := (fun W => W.cell? ⟨b, off + j * 2, none⟩ = some (.string sp))) (by kernel_rfl) HG0.out (fun hHeld => ?_)
            refine wpAnyH_take (i := 0) (oi := _) (v := ?vq78) rfl (by kernel_rfl) (by kernel_rfl) (by kernel_rfl) (fun _ _ _ h => h) (Or.inl ⟨by rfl, ?hq78⟩) (by assumption) ?rq78
            case hq78 => (intro w hSw; go_simp; try with_reducible rfl)
            try dsimp only [Act.put, List.getElem_toArray, List.getElem_cons_zero, List.getElem_cons_succ]; try simp only [List.setIfInBounds_toArray, List.set_cons_zero, List.set_cons_succ]
            refine wpAnyH_take (i := 1) (oi := _) (v := ?vq79) rfl (by kernel_rfl) (by kernel_rfl) (by kernel_rfl) (fun _ _ _ h => h) (Or.inl ⟨by rfl, ?hq79⟩) (by assumption) ?rq79
            case hq79 => (intro w hSw; go_simp; try with_reducible rfl)
            try dsimp only [Act.put, List.getElem_toArray, List.getElem_cons_zero, List.getElem_cons_succ]; try simp only [List.setIfInBounds_toArray, List.set_cons_zero, List.set_cons_succ]
            refine wpAnyH_take (i := 2) (oi := _) (v := ?vq80) rfl (by kernel_rfl) (by kernel_rfl) (by kernel_rfl) (fun _ _ _ h => h) (Or.inl ⟨by rfl, ?hq80⟩) (by assumption) ?rq80
            case hq80 => (intro w hSw; go_simp; try with_reducible rfl)
            try dsimp only [Act.put, List.getElem_toArray, List.getElem_cons_zero, List.getElem_cons_succ]; try simp only [List.setIfInBounds_toArray, List.set_cons_zero, List.set_cons_succ]
            refine wpAnyH_take (i := 3) (oi := _) (v := ?vq81) rfl (by kernel_rfl) (by kernel_rfl) (by kernel_rfl) (fun _ _ _ h => h) (Or.inl ⟨by rfl, ?hq81⟩) (by assumption) ?rq81
            case hq81 => (intro w hSw; go_simp; try with_reducible rfl)
            try dsimp only [Act.put, List.getElem_toArray, List.getElem_cons_zero, List.getElem_cons_succ]; try simp only [List.setIfInBounds_toArray, List.set_cons_zero, List.set_cons_succ]
            refine wpAnyH_take (i := 4) (oi := _) (v := ?vq82) rfl (by kernel_rfl) (by kernel_rfl) (by kernel_rfl) (fun _ _ _ h => h) (Or.inl ⟨by rfl, ?hq82⟩) (by assumption) ?rq82
            case hq82 => (intro w hSw; go_simp; try with_reducible rfl)
            try dsimp only [Act.put, List.getElem_toArray, List.getElem_cons_zero, List.getElem_cons_succ]; try simp only [List.setIfInBounds_toArray, List.set_cons_zero, List.set_cons_succ]
            refine wpAnyH_take (i := 6) (oi := _) (v := ?vq83) rfl (by kernel_rfl) (by kernel_rfl) (by kernel_rfl) (fun _ _ _ h => h) (Or.inl ⟨by rfl, ?hq83⟩) (by assumption) ?rq83
            case hq83 => (intro w hSw; go_simp; try with_reducible rfl)
            try dsimp only [Act.put, List.getElem_toArray, List.getElem_cons_zero, List.getElem_cons_succ]; try simp only [List.setIfInBounds_toArray, List.set_cons_zero, List.set_cons_succ]
            refine wpAnyH_take (i := 7) (oi := _) (v := ?vq84) rfl (by kernel_rfl) (by kernel_rfl) (by kernel_rfl) (fun _ _ _ h => h) (Or.inl ⟨by rfl, ?hq84⟩) (by assumption) ?rq84
            case hq84 => (intro w hSw; go_simp; try with_reducible rfl)
            try dsimp only [Act.put, List.getElem_toArray, List.getElem_cons_zero, List.getElem_cons_succ]; try simp only [List.setIfInBounds_toArray, List.set_cons_zero, List.set_cons_succ]
            refine wpAnyH_take (i := 8) (oi := _) (v := ?vq85) rfl (by kernel_rfl) (by kernel_rfl) (by kernel_rfl) (fun _ _ _ h => h) (Or.inl ⟨by rfl, ?hq85⟩) (by assumption) ?rq85
            case hq85 => (intro w hSw; go_simp; try with_reducible rfl)
            try dsimp only [Act.put, List.getElem_toArray, List.getElem_cons_zero, List.getElem_cons_succ]; try simp only [List.setIfInBounds_toArray, List.set_cons_zero, List.set_cons_succ]
            refine wpAnyH_take (i := 9) (oi := _) (v := ?vq86) rfl (by kernel_rfl) (by kernel_rfl) (by kernel_rfl) (fun _ _ _ h => h) (Or.inl ⟨by rfl, ?hq86⟩) (by assumption) ?rq86
            case hq86 => (intro w hSw; go_simp; try with_reducible rfl)
            try dsimp only [Act.put, List.getElem_toArray, List.getElem_cons_zero, List.getElem_cons_succ]; try simp only [List.setIfInBounds_toArray, List.set_cons_zero, List.set_cons_succ]
            refine wpAnyH_take (i := 10) (oi := _) (v := ?vq87) rfl (by kernel_rfl) (by kernel_rfl) (by kernel_rfl) (fun _ _ _ h => h) (Or.inl ⟨by rfl, ?hq87⟩) (by assumption) ?rq87
            case hq87 => (intro w hSw; go_simp; try with_reducible rfl)
            try dsimp only [Act.put, List.getElem_toArray, List.getElem_cons_zero, List.getElem_cons_succ]; try simp only [List.setIfInBounds_toArray, List.set_cons_zero, List.set_cons_succ]
            refine wpAnyH_ready (rs := [5]) (by kernel_rfl) (by simp) ?_
            refine AllReadyH.cons (o := _) rfl (fun K hK => ?_) ?_
            · rw [if_pos (by rfl)]
              go_simp
              refine (HX.out _).mono ?_
              rintro e wx ⟨rfl, hbx⟩
              have hb := then_ hb hbx
              clear hbx
              go_wp2_with fail
              refine hK.out _ _ (cell_below hb HG0.out) (fun hHeld => ?_)
              clear hK K
              try dsimp only [Act.put, List.getElem_toArray, List.getElem_cons_zero, List.getElem_cons_succ]; try simp only [List.setIfInBounds_toArray, List.set_cons_zero, List.set_cons_succ]
              refine wpAnyH_ready (rs := [11]) (by kernel_rfl) (by simp) ?_
              refine AllReadyH.cons (o := _) rfl (fun K hK => ?_) ?_
              · rw [if_pos (by rfl)]
                go_simp
                refine (HY.out _).mono ?_
                rintro e wx ⟨rfl, hbx⟩
                have hb := then_ hb hbx
                clear hbx
                go_wp2_with fail
                refine hK.out _ _ (cell_below hb HG0.out) (fun hHeld => ?_)
                clear hK K
                try dsimp only [Act.put, List.getElem_toArray, List.getElem_cons_zero, List.getElem_cons_succ]; try simp only [List.setIfInBounds_toArray, List.set_cons_zero, List.set_cons_succ]
                refine wpAnyH_take (i := 12) (oi := _) (v := ?vq88) rfl (by kernel_rfl) (by kernel_rfl) (by kernel_rfl) (fun _ _ _ h => h) (Or.inl ⟨by rfl, ?hq88⟩) (by assumption) ?rq88
                case hq88 => (intro w hSw; go_simp; try with_reducible rfl)
                try dsimp only [Act.put, List.getElem_toArray, List.getElem_cons_zero, List.getElem_cons_succ]; try simp only [List.setIfInBounds_toArray, List.set_cons_zero, List.set_cons_succ]
                refine wpAnyH_done (by kernel_rfl) ?_ _
                go_wp2
                go_roundw
                case rel => exact ⟨j + 1, by omega, by go_num, then_ hbel hb⟩
                case measure => simp [intOf]; omega
              exact AllReadyH.nil
            exact AllReadyH.nil
          · have hjn : (n : Int) ≤ (j : Int) := by omega
            have hb : Below wr.heap.size wr wr.drew := (Below.refl _ _).drew
            have HC := Lib.hid (fun W (h : Below wr.heap.size wr W) => HCE.out W (then_ hbel h)); have HBW := Lib.hid (then_ HB.out hbel); have HB8 := Lib.hid hbel
            have hxx : (x.toList == x.toList) = true := by simp
            clear hlt hbel
            go_wp2_with fail
            refine wp_region_held_drew (S := (fun W => W.heap[lb]? = some (.cells cs 44 (0, 0)) ∧ W.cell? ⟨nb, 0, none⟩ = some (.int .i64 z0) ∧ W.cell? ⟨nb, 1, none⟩ = some (.int .i64 z1) ∧ W.cell? ⟨lb, 0, none⟩ = some (.slice (some ⟨b0, o0, none⟩) 1 c0) ∧ W.cell? ⟨b0, o0, none⟩ = some (.string x))) (by kernel_rfl) (HC.out _ (Below.refl _ _).drew) (fun hHeld => ?_)
            refine wpAnyH_take (i := 0) (oi := _) (v := ?vq89) rfl (by kernel_rfl) (by kernel_rfl) (by kernel_rfl) (fun _ _ _ h => h) (Or.inl ⟨by rfl, ?hq89⟩) (by assumption) ?rq89
            case hq89 => (intro w hSw; go_simp; try with_reducible rfl)
            try dsimp only [Act.put, List.getElem_toArray, List.getElem_cons_zero, List.getElem_cons_succ]; try simp only [List.setIfInBounds_toArray, List.set_cons_zero, List.set_cons_succ]
            refine wpAnyH_take (i := 1) (oi := _) (v := ?vq90) rfl (by kernel_rfl) (by kernel_rfl) (by kernel_rfl) (fun _ _ _ h => h) (Or.inl ⟨by rfl, ?hq90⟩) (by assumption) ?rq90
            case hq90 => (intro w hSw; go_simp; try with_reducible rfl)
            try dsimp only [Act.put, List.getElem_toArray, List.getElem_cons_zero, List.getElem_cons_succ]; try simp only [List.setIfInBounds_toArray, List.set_cons_zero, List.set_cons_succ]
            refine wpAnyH_ready (rs := [2]) (by kernel_rfl) (by simp) ?_
            refine AllReadyH.cons (o := _) rfl (fun K hK => ?_) ?_
            · rw [if_pos (by rfl)]
              go_simp
              refine (sameInts_any A5 pl c5 p A6 pl c6 p _ (HU.out.below (then_ HB8.out hb)) HPN.out (by omega) (HU6.out.below (then_ HB8.out hb)) HPN.out (by omega)).mono ?_
              rintro e wx ⟨rfl, hbx⟩
              rw [show decide (p = p) = true by simp]
              have hb := then_ hb hbx
              clear hbx
              go_wp2_with fail
              refine hK.out _ _ (HC.out _ hb) (fun hHeld => ?_)
              clear hK K
              try dsimp only [Act.put, List.getElem_toArray, List.getElem_cons_zero, List.getElem_cons_succ]; try simp only [List.setIfInBounds_toArray, List.set_cons_zero, List.set_cons_succ]
              refine wpAnyH_take (i := 3) (oi := _) (v := ?vq91) rfl (by kernel_rfl) (by kernel_rfl) (by kernel_rfl) (fun _ _ _ h => h) (Or.inl ⟨by rfl, ?hq91⟩) (by assumption) ?rq91
              case hq91 => (intro w hSw; go_simp; try with_reducible rfl)
              try dsimp only [Act.put, List.getElem_toArray, List.getElem_cons_zero, List.getElem_cons_succ]; try simp only [List.setIfInBounds_toArray, List.set_cons_zero, List.set_cons_succ]
              refine wpAnyH_take (i := 4) (oi := _) (v := ?vq92) rfl (by kernel_rfl) (by kernel_rfl) (by kernel_rfl) (fun _ _ _ h => h) (Or.inl ⟨by rfl, ?hq92⟩) (by assumption) ?rq92
              case hq92 => (intro w hSw; go_simp; try with_reducible rfl)
              try dsimp only [Act.put, List.getElem_toArray, List.getElem_cons_zero, List.getElem_cons_succ]; try simp only [List.setIfInBounds_toArray, List.set_cons_zero, List.set_cons_succ]
              refine wpAnyH_take (i := 5) (oi := _) (v := ?vq93) rfl (by kernel_rfl) (by kernel_rfl) (by kernel_rfl) (fun _ _ _ h => h) (Or.inl ⟨by rfl, ?hq93⟩) (by assumption) ?rq93
              case hq93 => (intro w hSw; go_simp; try with_reducible rfl)
              try dsimp only [Act.put, List.getElem_toArray, List.getElem_cons_zero, List.getElem_cons_succ]; try simp only [List.setIfInBounds_toArray, List.set_cons_zero, List.set_cons_succ]
              refine wpAnyH_take (i := 6) (oi := _) (v := ?vq94) rfl (by kernel_rfl) (by kernel_rfl) (by kernel_rfl) (fun _ _ _ h => h) (Or.inl ⟨by rfl, ?hq94⟩) (by assumption) ?rq94
              case hq94 => (intro w hSw; go_simp; try with_reducible rfl)
              try dsimp only [Act.put, List.getElem_toArray, List.getElem_cons_zero, List.getElem_cons_succ]; try simp only [List.setIfInBounds_toArray, List.set_cons_zero, List.set_cons_succ]
              refine wpAnyH_take (i := 7) (oi := _) (v := ?vq95) rfl (by kernel_rfl) (by kernel_rfl) (by kernel_rfl) (fun _ _ _ h => h) (Or.inl ⟨by rfl, ?hq95⟩) (by assumption) ?rq95
              case hq95 => (intro w hSw; go_simp; try with_reducible rfl)
              try dsimp only [Act.put, List.getElem_toArray, List.getElem_cons_zero, List.getElem_cons_succ]; try simp only [List.setIfInBounds_toArray, List.set_cons_zero, List.set_cons_succ]
              refine wpAnyH_take (i := 8) (oi := _) (v := ?vq96) rfl (by kernel_rfl) (by kernel_rfl) (by kernel_rfl) (fun _ _ _ h => h) (Or.inl ⟨by rfl, ?hq96⟩) (by assumption) ?rq96
              case hq96 => (intro w hSw; go_simp; try with_reducible rfl)
              try dsimp only [Act.put, List.getElem_toArray, List.getElem_cons_zero, List.getElem_cons_succ]; try simp only [List.setIfInBounds_toArray, List.set_cons_zero, List.set_cons_succ]
              refine wpAnyH_take (i := 9) (oi := _) (v := ?vq97) rfl (by kernel_rfl) (by kernel_rfl) (by kernel_rfl) (fun _ _ _ h => h) (Or.inl ⟨by rfl, ?hq97⟩) (by assumption) ?rq97
              case hq97 => (intro w hSw; go_simp; try with_reducible rfl)
              try dsimp only [Act.put, List.getElem_toArray, List.getElem_cons_zero, List.getElem_cons_succ]; try simp only [List.setIfInBounds_toArray, List.set_cons_zero, List.set_cons_succ]
              refine wpAnyH_take (i := 10) (oi := _) (v := ?vq98) rfl (by kernel_rfl) (by kernel_rfl) (by kernel_rfl) (fun _ _ _ h => h) (Or.inl ⟨by rfl, ?hq98⟩) (by assumption) ?rq98
              case hq98 => (intro w hSw; go_simp; try with_reducible rfl)
              try dsimp only [Act.put, List.getElem_toArray, List.getElem_cons_zero, List.getElem_cons_succ]; try simp only [List.setIfInBounds_toArray, List.set_cons_zero, List.set_cons_succ]
              refine wpAnyH_take (i := 11) (oi := _) (v := ?vq99) rfl (by kernel_rfl) (by kernel_rfl) (by kernel_rfl) (fun _ _ _ h => h) (Or.inl ⟨by rfl, ?hq99⟩) (by assumption) ?rq99
              case hq99 => (intro w hSw; go_simp; try with_reducible rfl)
              try dsimp only [Act.put, List.getElem_toArray, List.getElem_cons_zero, List.getElem_cons_succ]; try simp only [List.setIfInBounds_toArray, List.set_cons_zero, List.set_cons_succ]
              refine wpAnyH_take (i := 12) (oi := _) (v := ?vq100) rfl (by kernel_rfl) (by kernel_rfl) (by kernel_rfl) (fun _ _ _ h => h) (Or.inl ⟨by rfl, ?hq100⟩) (by assumption) ?rq100
              case hq100 => (intro w hSw; go_simp; try with_reducible rfl)
              try dsimp only [Act.put, List.getElem_toArray, List.getElem_cons_zero, List.getElem_cons_succ]; try simp only [List.setIfInBounds_toArray, List.set_cons_zero, List.set_cons_succ]
              refine wpAnyH_take (i := 13) (oi := _) (v := ?vq101) rfl (by kernel_rfl) (by kernel_rfl) (by kernel_rfl) (fun _ _ _ h => h) (Or.inl ⟨by rfl, ?hq101⟩) (by assumption) ?rq101
              case hq101 => (intro w hSw; go_simp; try with_reducible rfl)
              try dsimp only [Act.put, List.getElem_toArray, List.getElem_cons_zero, List.getElem_cons_succ]; try simp only [List.setIfInBounds_toArray, List.set_cons_zero, List.set_cons_succ]
              refine wpAnyH_take (i := 15) (oi := _) (v := ?vq102) rfl (by kernel_rfl) (by kernel_rfl) (by kernel_rfl) (fun _ _ _ h => h) (Or.inl ⟨by rfl, ?hq102⟩) (by assumption) ?rq102
              case hq102 => (intro w hSw; go_simp; try with_reducible rfl)
              try dsimp only [Act.put, List.getElem_toArray, List.getElem_cons_zero, List.getElem_cons_succ]; try simp only [List.setIfInBounds_toArray, List.set_cons_zero, List.set_cons_succ]
              refine wpAnyH_ready (rs := [14]) (by kernel_rfl) (by simp) ?_
              refine AllReadyH.cons (o := _) rfl (fun K hK => ?_) ?_
              · rw [if_pos (by rfl)]
                go_simp
                refine (HAT.out _ (then_ HB8.out hb)).mono ?_
                rintro e wx ⟨rfl, hbx⟩
                have hb := then_ hb hbx
                clear hbx
                go_wp2_with fail
                refine hK.out _ _ (HC.out _ hb) (fun hHeld => ?_)
                clear hK K
                try dsimp only [Act.put, List.getElem_toArray, List.getElem_cons_zero, List.getElem_cons_succ]; try simp only [List.setIfInBounds_toArray, List.set_cons_zero, List.set_cons_succ]
                refine wpAnyH_take (i := 16) (oi := _) (v := ?vq103) rfl (by kernel_rfl) (by kernel_rfl) (by kernel_rfl) (fun _ _ _ h => h) (Or.inl ⟨by rfl, ?hq103⟩) (by assumption) ?rq103
                case hq103 => (intro w hSw; go_simp; try with_reducible rfl)
                try dsimp only [Act.put, List.getElem_toArray, List.getElem_cons_zero, List.getElem_cons_succ]; try simp only [List.setIfInBounds_toArray, List.set_cons_zero, List.set_cons_succ]
                refine wpAnyH_take (i := 17) (oi := _) (v := ?vq104) rfl (by kernel_rfl) (by kernel_rfl) (by kernel_rfl) (fun _ _ _ h => h) (Or.inl ⟨by rfl, ?hq104⟩) (by assumption) ?rq104
                case hq104 => (intro w hSw; go_simp; try with_reducible rfl)
                try dsimp only [Act.put, List.getElem_toArray, List.getElem_cons_zero, List.getElem_cons_succ]; try simp only [List.setIfInBounds_toArray, List.set_cons_zero, List.set_cons_succ]
                refine wpAnyH_take (i := 18) (oi := _) (v := ?vq105) rfl (by kernel_rfl) (by kernel_rfl) (by kernel_rfl) (fun _ _ _ h => h) (Or.inl ⟨by rfl, ?hq105⟩) (by assumption) ?rq105
                case hq105 => (intro w hSw; go_simp; try with_reducible rfl)
                try dsimp only [Act.put, List.getElem_toArray, List.getElem_cons_zero, List.getElem_cons_succ]; try simp only [List.setIfInBounds_toArray, List.set_cons_zero, List.set_cons_succ]
                refine wpAnyH_take (i := 19) (oi := _) (v := ?vq106) rfl (by kernel_rfl) (by kernel_rfl) (by kernel_rfl) (fun _ _ _ h => h) (Or.inl ⟨by rfl, ?hq106⟩) (by assumption) ?rq106
                case hq106 => (intro w hSw; go_simp; try with_reducible rfl)
                try dsimp only [Act.put, List.getElem_toArray, List.getElem_cons_zero, List.getElem_cons_succ]; try simp only [List.setIfInBounds_toArray, List.set_cons_zero, List.set_cons_succ]
                refine wpAnyH_take (i := 21) (oi := _) (v := ?vq107) rfl (by kernel_rfl) (by kernel_rfl) (by kernel_rfl) (fun _ _ _ h => h) (Or.inl ⟨by rfl, ?hq107⟩) (by assumption) ?rq107
                case hq107 => (intro w hSw; go_simp; try with_reducible rfl)
                try dsimp only [Act.put, List.getElem_toArray, List.getElem_cons_zero, List.getElem_cons_succ]; try simp only [List.setIfInBounds_toArray, List.set_cons_zero, List.set_cons_succ]
                refine wpAnyH_take (i := 22) (oi := _) (v := ?vq108) rfl (by kernel_rfl) (by kernel_rfl) (by kernel_rfl) (fun _ _ _ h => h) (Or.inl ⟨by rfl, ?hq108⟩) (by assumption) ?rq108
                case hq108 => (intro w hSw; go_simp; try with_reducible rfl)
                try dsimp only [Act.put, List.getElem_toArray, List.getElem_cons_zero, List.getElem_cons_succ]; try simp only [List.setIfInBounds_toArray, List.set_cons_zero, List.set_cons_succ]
                refine wpAnyH_take (i := 23) (oi := _) (v := ?vq109) rfl (by kernel_rfl) (by kernel_rfl) (by kernel_rfl) (fun _ _ _ h => h) (Or.inl ⟨by rfl, ?hq109⟩) (by assumption) ?rq109
                case hq109 => (intro w hSw; go_simp; try with_reducible rfl)
                try dsimp only [Act.put, List.getElem_toArray, List.getElem_cons_zero, List.getElem_cons_succ]; try simp only [List.setIfInBounds_toArray, List.set_cons_zero, List.set_cons_succ]
                refine wpAnyH_take (i := 24) (oi := _) (v := ?vq110) rfl (by kernel_rfl) (by kernel_rfl) (by kernel_rfl) (fun _ _ _ h => h) (Or.inl ⟨by rfl, ?hq110⟩) (by assumption) ?rq110
                case hq110 => (intro w hSw; go_simp; try with_reducible rfl)
                try dsimp only [Act.put, List.getElem_toArray, List.getElem_cons_zero, List.getElem_cons_succ]; try simp only [List.setIfInBounds_toArray, List.set_cons_zero, List.set_cons_succ]
                refine wpAnyH_ready (rs := [20]) (by kernel_rfl) (by simp) ?_
                refine AllReadyH.cons (o := _) rfl (fun K hK => ?_) ?_
                · rw [if_pos (by rfl)]
                  go_simp
                  refine (quietC (HRT.out _ (then_ HB8.out hb))).mono ?_
                  rintro e wx ⟨rfl, hbx⟩
                  have hb := then_ hb hbx
                  clear hbx
                  go_wp2_with fail
                  refine hK.out _ _ (HC.out _ hb) (fun hHeld => ?_)
                  clear hK K
                  try dsimp only [Act.put, List.getElem_toArray, List.getElem_cons_zero, List.getElem_cons_succ]; try simp only [List.setIfInBounds_toArray, List.set_cons_zero, List.set_cons_succ]
                  refine wpAnyH_take (i := 25) (oi := _) (v := ?vq111) rfl (by kernel_rfl) (by kernel_rfl) (by kernel_rfl) (fun _ _ _ h => h) (Or.inl ⟨by rfl, ?hq111⟩) (by assumption) ?rq111
                  case hq111 => (intro w hSw; go_simp; try with_reducible rfl)
                  try dsimp only [Act.put, List.getElem_toArray, List.getElem_cons_zero, List.getElem_cons_succ]; try simp only [List.setIfInBounds_toArray, List.set_cons_zero, List.set_cons_succ]
                  refine wpAnyH_take (i := 26) (oi := _) (v := ?vq112) rfl (by kernel_rfl) (by kernel_rfl) (by kernel_rfl) (fun _ _ _ h => h) (Or.inl ⟨by rfl, ?hq112⟩) (by assumption) ?rq112
                  case hq112 => (intro w hSw; go_simp; try with_reducible rfl)
                  try dsimp only [Act.put, List.getElem_toArray, List.getElem_cons_zero, List.getElem_cons_succ]; try simp only [List.setIfInBounds_toArray, List.set_cons_zero, List.set_cons_succ]
                  refine wpAnyH_take (i := 27) (oi := _) (v := ?vq113) rfl (by kernel_rfl) (by kernel_rfl) (by kernel_rfl) (fun _ _ _ h => h) (Or.inl ⟨by rfl, ?hq113⟩) (by assumption) ?rq113
                  case hq113 => (intro w hSw; go_simp; try with_reducible rfl)
                  try dsimp only [Act.put, List.getElem_toArray, List.getElem_cons_zero, List.getElem_cons_succ]; try simp only [List.setIfInBounds_toArray, List.set_cons_zero, List.set_cons_succ]
                  refine wpAnyH_take (i := 28) (oi := _) (v := ?vq114) rfl (by kernel_rfl) (by kernel_rfl) (by kernel_rfl) (fun _ _ _ h => h) (Or.inl ⟨by rfl, ?hq114⟩) (by assumption) ?rq114
                  case hq114 => (intro w hSw; go_simp; try with_reducible rfl)
                  try dsimp only [Act.put, List.getElem_toArray, List.getElem_cons_zero, List.getElem_cons_succ]; try simp only [List.setIfInBounds_toArray, List.set_cons_zero, List.set_cons_succ]
                  refine wpAnyH_take (i := 29) (oi := _) (v := ?vq115) rfl (by kernel_rfl) (by kernel_rfl) (by kernel_rfl) (fun _ _ _ h => h) (Or.inl ⟨by rfl, ?hq115⟩) (by assumption) ?rq115
                  case hq115 => (intro w hSw; go_simp; try with_reducible rfl)
                  try dsimp only [Act.put, List.getElem_toArray, List.getElem_cons_zero, List.getElem_cons_succ]; try simp only [List.setIfInBounds_toArray, List.set_cons_zero, List.set_cons_succ]
                  refine wpAnyH_take (i := 30) (oi := _) (v := ?vq116) rfl (by kernel_rfl) (by kernel_rfl) (by kernel_rfl) (fun _ _ _ h => h) (Or.inl ⟨by rfl, ?hq116⟩) (by assumption) ?rq116
                  case hq116 => (intro w hSw; go_simp; try with_reducible rfl)
                  try dsimp only [Act.put, List.getElem_toArray, List.getElem_cons_zero, List.getElem_cons_succ]; try simp only [List.setIfInBounds_toArray, List.set_cons_zero, List.set_cons_succ]
                  refine wpAnyH_take (i := 32) (oi := _) (v := _) rfl (by kernel_rfl) (by kernel_rfl) (by kernel_rfl) (fun _ _ _ h => h) (wp_load_arr (w := w) (by rfl) _ rfl lb 0 rfl cs (fun w hSw => (range_blk hSw.1)) ⟨_, Try.underlying44, rfl⟩ HI.out) (by assumption) ?_
                  try dsimp only [Act.put, List.getElem_toArray, List.getElem_cons_zero, List.getElem_cons_succ]; try simp only [List.setIfInBounds_toArray, List.set_cons_zero, List.set_cons_succ]
                  refine wpAnyH_take (i := 33) (oi := _) (v := ?vq118) rfl (by kernel_rfl) (by kernel_rfl) (by kernel_rfl) (fun _ _ _ h => h) (Or.inl ⟨by rfl, ?hq118⟩) (by assumption) ?rq118
                  case hq118 => (intro w hSw; go_simp; try with_reducible rfl)
                  try dsimp only [Act.put, List.getElem_toArray, List.getElem_cons_zero, List.getElem_cons_succ]; try simp only [List.setIfInBounds_toArray, List.set_cons_zero, List.set_cons_succ]
                  refine wpAnyH_take (i := 34) (oi := _) (v := ?vq119) rfl (by kernel_rfl) (by kernel_rfl) (by kernel_rfl) (fun _ _ _ h => h) (Or.inl ⟨by rfl, ?hq119⟩) (by assumption) ?rq119
                  case hq119 => (intro w hSw; go_simp; try with_reducible rfl)
                  try dsimp only [Act.put, List.getElem_toArray, List.getElem_cons_zero, List.getElem_cons_succ]; try simp only [List.setIfInBounds_toArray, List.set_cons_zero, List.set_cons_succ]
                  refine wpAnyH_ready (rs := [31]) (by kernel_rfl) (by simp) ?_
                  refine AllReadyH.cons (o := _) rfl (fun K hK => ?_) ?_
                  · rw [if_pos (by rfl)]
                    go_simp
                    refine (HPR.out _ (then_ HB8.out hb)).mono ?_
                    rintro e wx ⟨v31, rfl, hown, hbx⟩
                    obtain ⟨A31, c31, rfl⟩ := own_form hown
                    have HP31 := Lib.hid (Rd.of_own hown)
                    clear hown
                    have hb := then_ hb hbx
                    clear hbx
                    go_wp2_with fail
                    refine hK.out _ _ (HC.out _ hb) (fun hHeld => ?_)
                    clear hK K
                    try dsimp only [Act.put, List.getElem_toArray, List.getElem_cons_zero, List.getElem_cons_succ]; try simp only [List.setIfInBounds_toArray, List.set_cons_zero, List.set_cons_succ]
                    refine wpAnyH_ready (rs := [35]) (by kernel_rfl) (by simp) ?_
                    refine AllReadyH.cons (o := _) rfl (fun K hK => ?_) ?_
                    · rw [if_pos (by rfl)]
                      go_simp
                      refine (HPD.out _ (then_ HB8.out hb)).mono ?_
                      rintro e wx ⟨v35, rfl, hown, hbx⟩
                      obtain ⟨A35, c35, rfl⟩ := own_form hown
                      have HP35 := Lib.hid (Rd.of_own hown)
                      have HP31 := Lib.hid (HP31.out.below hbx)
                      clear hown
                      have hb := then_ hb hbx
                      clear hbx
                      go_wp2_with fail
                      refine hK.out _ _ (HC.out _ hb) (fun hHeld => ?_)
                      clear hK K
                      try dsimp only [Act.put, List.getElem_toArray, List.getElem_cons_zero, List.getElem_cons_succ]; try simp only [List.setIfInBounds_toArray, List.set_cons_zero, List.set_cons_succ]
                      refine wpAnyH_ready (rs := [36]) (by kernel_rfl) (by simp) ?_
                      refine AllReadyH.cons (o := _) rfl (fun K hK => ?_) ?_
                      · rw [if_pos (by rfl)]
                        go_simp
                        refine (sameTexts_any A31 pr.length c31 pr A35 pr.length c35 pr _ HP31.out rfl (by have := HPRL.out; unfold maxLen; omega) HP35.out rfl (by have := HPRL.out; unfold maxLen; omega)).mono ?_
                        rintro e wx ⟨rfl, hbx⟩
                        rw [show decide (pr = pr) = true by simp]
                        have hb := then_ hb hbx
                        clear hbx
                        go_wp2_with fail
                        refine hK.out _ _ (HC.out _ hb) (fun hHeld => ?_)
                        clear hK K
                        try dsimp only [Act.put, List.getElem_toArray, List.getElem_cons_zero, List.getElem_cons_succ]; try simp only [List.setIfInBounds_toArray, List.set_cons_zero, List.set_cons_succ]
                        refine wpAnyH_take (i := 37) (oi := _) (v := ?vq120) rfl (by kernel_rfl) (by kernel_rfl) (by kernel_rfl) (fun _ _ _ h => h) (Or.inl ⟨by rfl, ?hq120⟩) (by assumption) ?rq120
                        case hq120 => (intro w hSw; go_simp; try with_reducible rfl)
                        try dsimp only [Act.put, List.getElem_toArray, List.getElem_cons_zero, List.getElem_cons_succ]; try simp only [List.setIfInBounds_toArray, List.set_cons_zero, List.set_cons_succ]
                        refine wpAnyH_take (i := 38) (oi := _) (v := ?vq121) rfl (by kernel_rfl) (by kernel_rfl) (by kernel_rfl) (fun _ _ _ h => h) (Or.inl ⟨by rfl, ?hq121⟩) (by assumption) ?rq121
                        case hq121 => (intro w hSw; go_simp; try with_reducible rfl)
                        try dsimp only [Act.put, List.getElem_toArray, List.getElem_cons_zero, List.getElem_cons_succ]; try simp only [List.setIfInBounds_toArray, List.set_cons_zero, List.set_cons_succ]
                        refine wpAnyH_take (i := 39) (oi := _) (v := ?vq122) rfl (by kernel_rfl) (by kernel_rfl) (by kernel_rfl) (fun _ _ _ h => h) (Or.inl ⟨by rfl, ?hq122⟩) (by assumption) ?rq122
                        case hq122 => (intro w hSw; go_simp; try with_reducible rfl)
                        try dsimp only [Act.put, List.getElem_toArray, List.getElem_cons_zero, List.getElem_cons_succ]; try simp only [List.setIfInBounds_toArray, List.set_cons_zero, List.set_cons_succ]
                        refine wpAnyH_take (i := 40) (oi := _) (v := ?vq123) rfl (by kernel_rfl) (by kernel_rfl) (by kernel_rfl) (fun _ _ _ h => h) (Or.inl ⟨by rfl, ?hq123⟩) (by assumption) ?rq123
                        case hq123 => (intro w hSw; go_simp; try with_reducible rfl)
                        try dsimp only [Act.put, List.getElem_toArray, List.getElem_cons_zero, List.getElem_cons_succ]; try simp only [List.setIfInBounds_toArray, List.set_cons_zero, List.set_cons_succ]
                        refine wpAnyH_take (i := 41) (oi := _) (v := ?vq124) rfl (by kernel_rfl) (by kernel_rfl) (by kernel_rfl) (fun _ _ _ h => h) (Or.inl ⟨by rfl, ?hq124⟩) (by assumption) ?rq124
                        case hq124 => (intro w hSw; go_simp; try with_reducible rfl)
                        try dsimp only [Act.put, List.getElem_toArray, List.getElem_cons_zero, List.getElem_cons_succ]; try simp only [List.setIfInBounds_toArray, List.set_cons_zero, List.set_cons_succ]
                        refine wpAnyH_take (i := 43) (oi := _) (v := ?vq125) rfl (by kernel_rfl) (by kernel_rfl) (by kernel_rfl) (fun _ _ _ h => h) (Or.inl ⟨by rfl, ?hq125⟩) (by assumption) ?rq125
                        case hq125 => (intro w hSw; go_simp; try with_reducible rfl)
                        try dsimp only [Act.put, List.getElem_toArray, List.getElem_cons_zero, List.getElem_cons_succ]; try simp only [List.setIfInBounds_toArray, List.set_cons_zero, List.set_cons_succ]
                        refine wpAnyH_take (i := 44) (oi := _) (v := ?vq126) rfl (by kernel_rfl) (by kernel_rfl) (by kernel_rfl) (fun _ _ _ h => h) (Or.inl ⟨by rfl, ?hq126⟩) (by assumption) ?rq126
                        case hq126 => (intro w hSw; go_simp; try with_reducible rfl)
                        try dsimp only [Act.put, List.getElem_toArray, List.getElem_cons_zero, List.getElem_cons_succ]; try simp only [List.setIfInBounds_toArray, List.set_cons_zero, List.set_cons_succ]
                        refine wpAnyH_take (i := 45) (oi := _) (v := ?vq127) rfl (by kernel_rfl) (by kernel_rfl) (by kernel_rfl) (fun _ _ _ h => h) (Or.inl ⟨by rfl, ?hq127⟩) (by assumption) ?rq127
                        case hq127 => (intro w hSw; go_simp; try with_reducible rfl)
                        try dsimp only [Act.put, List.getElem_toArray, List.getElem_cons_zero, List.getElem_cons_succ]; try simp only [List.setIfInBounds_toArray, List.set_cons_zero, List.set_cons_succ]
                        refine wpAnyH_ready (rs := [42]) (by kernel_rfl) (by simp) ?_
                        refine AllReadyH.cons (o := _) rfl (fun K hK => ?_) ?_
                        · rw [if_pos (by rfl)]
                          go_simp
                          refine (HIN.out _ (then_ HB8.out hb)).mono ?_
                          rintro e wx ⟨v42, rfl, hown, hbx⟩
                          obtain ⟨A42, c42, rfl⟩ := own_form hown
                          have HP42 := Lib.hid (Rd.of_own hown)
                          clear hown
                          have hb := then_ hb hbx
                          clear hbx
                          go_wp2_with fail
                          refine hK.out _ _ (HC.out _ hb) (fun hHeld => ?_)
                          clear hK K
                          try dsimp only [Act.put, List.getElem_toArray, List.getElem_cons_zero, List.getElem_cons_succ]; try simp only [List.setIfInBounds_toArray, List.set_cons_zero, List.set_cons_succ]
                          refine wpAnyH_ready (rs := [46]) (by kernel_rfl) (by simp) ?_
                          refine AllReadyH.cons (o := _) rfl (fun K hK => ?_) ?_
                          · rw [if_pos (by rfl)]
                            go_simp
                            refine (HID.out _ (then_ HB8.out hb)).mono ?_
                            rintro e wx ⟨v46, rfl, hown, hbx⟩
                            obtain ⟨A46, c46, rfl⟩ := own_form hown
                            have HP46 := Lib.hid (Rd.of_own hown)
                            have HP42 := Lib.hid (HP42.out.below hbx)
                            clear hown
                            have hb := then_ hb hbx
                            clear hbx
                            go_wp2_with fail
                            refine hK.out _ _ (HC.out _ hb) (fun hHeld => ?_)
                            clear hK K
                            try dsimp only [Act.put, List.getElem_toArray, List.getElem_cons_zero, List.getElem_cons_succ]; try simp only [List.setIfInBounds_toArray, List.set_cons_zero, List.set_cons_succ]
                            refine wpAnyH_ready (rs := [47]) (by kernel_rfl) (by simp) ?_
                            refine AllReadyH.cons (o := _) rfl (fun K hK => ?_) ?_
                            · rw [if_pos (by rfl)]
                              go_simp
                              refine (sameL_any A42 own.length c42 own A46 own.length c46 own _ HP42.out rfl (by have := HINL.out; unfold maxLen; omega) HP46.out rfl (by have := HINL.out; unfold maxLen; omega)).mono ?_
                              rintro e wx ⟨qs, hqs, rfl, hbx⟩
                              have hqt : qs = true := hqs.2 rfl
                              subst hqt
                              clear hqs
                              have hb := then_ hb hbx
                              clear hbx
                              go_wp2_with fail
                              refine hK.out _ _ (HC.out _ hb) (fun hHeld => ?_)
                              clear hK K
                              try dsimp only [Act.put, List.getElem_toArray, List.getElem_cons_zero, List.getElem_cons_succ]; try simp only [List.setIfInBounds_toArray, List.set_cons_zero, List.set_cons_succ]
                              refine wpAnyH_take (i := 48) (oi := _) (v := ?vq128) rfl (by kernel_rfl) (by kernel_rfl) (by kernel_rfl) (fun _ _ _ h => h) (Or.inl ⟨by rfl, ?hq128⟩) (by assumption) ?rq128
                              case hq128 => (intro w hSw; go_simp; try with_reducible rfl)
                              try dsimp only [Act.put, List.getElem_toArray, List.getElem_cons_zero, List.getElem_cons_succ]; try simp only [List.setIfInBounds_toArray, List.set_cons_zero, List.set_cons_succ]
                              refine wpAnyH_take (i := 49) (oi := _) (v := ?vq129) rfl (by kernel_rfl) (by kernel_rfl) (by kernel_rfl) (fun _ _ _ h => h) (Or.inl ⟨by rfl, ?hq129⟩) (by assumption) ?rq129
                              case hq129 => (intro w hSw; go_simp; try with_reducible rfl)
                              try dsimp only [Act.put, List.getElem_toArray, List.getElem_cons_zero, List.getElem_cons_succ]; try simp only [List.setIfInBounds_toArray, List.set_cons_zero, List.set_cons_succ]
                              refine wpAnyH_ready (rs := [50]) (by kernel_rfl) (by simp) ?_
                              refine AllReadyH.cons (o := _) rfl (fun K hK => ?_) ?_
                              · rw [if_pos (by rfl)]
                                go_simp
                                refine (awake49_any _).mono ?_
                                rintro e wx ⟨rfl, hbx⟩
                                have hb := then_ hb hbx
                                clear hbx
                                go_wp2_with fail
                                refine hK.out _ _ (HC.out _ hb) (fun hHeld => ?_)
                                clear hK K
                                try dsimp only [Act.put, List.getElem_toArray, List.getElem_cons_zero, List.getElem_cons_succ]; try simp only [List.setIfInBounds_toArray, List.set_cons_zero, List.set_cons_succ]
                                refine wpAnyH_take (i := 51) (oi := _) (v := ?vq130) rfl (by kernel_rfl) (by kernel_rfl) (by kernel_rfl) (fun _ _ _ h => h) (Or.inl ⟨by rfl, ?hq130⟩) (by assumption) ?rq130
                                case hq130 => (intro w hSw; go_simp; try with_reducible rfl)
                                try dsimp only [Act.put, List.getElem_toArray, List.getElem_cons_zero, List.getElem_cons_succ]; try simp only [List.setIfInBounds_toArray, List.set_cons_zero, List.set_cons_succ]
                                refine wpAnyH_take (i := 52) (oi := _) (v := ?vq131) rfl (by kernel_rfl) (by kernel_rfl) (by kernel_rfl) (fun _ _ _ h => h) (Or.inl ⟨by rfl, ?hq131⟩) (by assumption) ?rq131
                                case hq131 => (intro w hSw; go_simp; try with_reducible rfl)
                                try dsimp only [Act.put, List.getElem_toArray, List.getElem_cons_zero, List.getElem_cons_succ]; try simp only [List.setIfInBounds_toArray, List.set_cons_zero, List.set_cons_succ]
                                refine wpAnyH_done (by kernel_rfl) ?_ _
                                go_wp2
                                go_ret
                                exact ⟨rfl, then_ HBW.out hb⟩
                              exact AllReadyH.nil
                            exact AllReadyH.nil
                          exact AllReadyH.nil
                        exact AllReadyH.nil
                      exact AllReadyH.nil
                    exact AllReadyH.nil
                  exact AllReadyH.nil
                exact AllReadyH.nil
              exact AllReadyH.nil
            exact AllReadyH.nil
      have hz6 : z0 ≤ 6 := by omega
      have hd3 : decide (z0 ≤ 6) = true := by simp; omega
      clear hc2
      by_cases hc3 : z1 < 0
      · have HAO := Lib.hid (atL_out a (lv := z0) (ix := z1) (by omega))
        have hd4 : decide (z1 ≥ 0) = false := by simp; omega
        have hd5 : decide (0 ≤ z1) = false := by simp; omega
        go_wp2_with fail
        refine wp_region_held_drew (S := (fun W => W.cell? ⟨nb, 0, none⟩ = some (.int .i64 z0) ∧ W.cell? ⟨nb, 1, none⟩ = some (.int .i64 z1))) (by kernel_rfl) HNN.out (fun hHeld => ?_)
        refine wpAnyH_take (i := 0) (oi := _) (v := ?vq209) rfl (by kernel_rfl) (by kernel_rfl) (by kernel_rfl) (fun _ _ _ h => h) (Or.inl ⟨by rfl, ?hq209⟩) (by assumption) ?rq209
        case hq209 => (intro w hSw; go_simp; try with_reducible rfl)
        try dsimp only [Act.put, List.getElem_toArray, List.getElem_cons_zero, List.getElem_cons_succ]; try simp only [List.setIfInBounds_toArray, List.set_cons_zero, List.set_cons_succ]
        refine wpAnyH_take (i := 1) (oi := _) (v := ?vq210) rfl (by kernel_rfl) (by kernel_rfl) (by kernel_rfl) (fun _ _ _ h => h) (Or.inl ⟨by rfl, ?hq210⟩) (by assumption) ?rq210
        case hq210 => (intro w hSw; go_simp; try with_reducible rfl)
        try dsimp only [Act.put, List.getElem_toArray, List.getElem_cons_zero, List.getElem_cons_succ]; try simp only [List.setIfInBounds_toArray, List.set_cons_zero, List.set_cons_succ]
        refine wpAnyH_take (i := 2) (oi := _) (v := ?vq211) rfl (by kernel_rfl) (by kernel_rfl) (by kernel_rfl) (fun _ _ _ h => h) (Or.inl ⟨by rfl, ?hq211⟩) (by assumption) ?rq211
        case hq211 => (intro w hSw; go_simp; try with_reducible rfl)
        try dsimp only [Act.put, List.getElem_toArray, List.getElem_cons_zero, List.getElem_cons_succ]; try simp only [List.setIfInBounds_toArray, List.set_cons_zero, List.set_cons_succ]
        refine wpAnyH_take (i := 3) (oi := _) (v := ?vq212) rfl (by kernel_rfl) (by kernel_rfl) (by kernel_rfl) (fun _ _ _ h => h) (Or.inl ⟨by rfl, ?hq212⟩) (by assumption) ?rq212
        case hq212 => (intro w hSw; go_simp; try with_reducible rfl)
        try dsimp only [Act.put, List.getElem_toArray, List.getElem_cons_zero, List.getElem_cons_succ]; try simp only [List.setIfInBounds_toArray, List.set_cons_zero, List.set_cons_succ]
        refine wpAnyH_take (i := 4) (oi := _) (v := ?vq213) rfl (by kernel_rfl) (by kernel_rfl) (by kernel_rfl) (fun _ _ _ h => h) (Or.inl ⟨by rfl, ?hq213⟩) (by assumption) ?rq213
        case hq213 => (intro w hSw; go_simp; try with_reducible rfl)
        try dsimp only [Act.put, List.getElem_toArray, List.getElem_cons_zero, List.getElem_cons_succ]; try simp only [List.setIfInBounds_toArray, List.set_cons_zero, List.set_cons_succ]
        refine wpAnyH_take (i := 5) (oi := _) (v := ?vq214) rfl (by kernel_rfl) (by kernel_rfl) (by kernel_rfl) (fun _ _ _ h => h) (Or.inl ⟨by rfl, ?hq214⟩) (by assumption) ?rq214
        case hq214 => (intro w hSw; go_simp; try with_reducible rfl)
        try dsimp only [Act.put, List.getElem_toArray, List.getElem_cons_zero, List.getElem_cons_succ]; try simp only [List.setIfInBounds_toArray, List.set_cons_zero, List.set_cons_succ]
        refine wpAnyH_take (i := 6) (oi := _) (v := ?vq215) rfl (by kernel_rfl) (by kernel_rfl) (by kernel_rfl) (fun _ _ _ h => h) (Or.inl ⟨by rfl, ?hq215⟩) (by assumption) ?rq215
        case hq215 => (intro w hSw; go_simp; try with_reducible rfl)
        try dsimp only [Act.put, List.getElem_toArray, List.getElem_cons_zero, List.getElem_cons_succ]; try simp only [List.setIfInBounds_toArray, List.set_cons_zero, List.set_cons_succ]
        refine wpAnyH_take (i := 7) (oi := _) (v := ?vq216) rfl (by kernel_rfl) (by kernel_rfl) (by kernel_rfl) (fun _ _ _ h => h) (Or.inl ⟨by rfl, ?hq216⟩) (by assumption) ?rq216
        case hq216 => (intro w hSw; go_simp; try with_reducible rfl)
        try dsimp only [Act.put, List.getElem_toArray, List.getElem_cons_zero, List.getElem_cons_succ]; try simp only [List.setIfInBounds_toArray, List.set_cons_zero, List.set_cons_succ]
        refine wpAnyH_take (i := 8) (oi := _) (v := ?vq217) rfl (by kernel_rfl) (by kernel_rfl) (by kernel_rfl) (fun _ _ _ h => h) (Or.inl ⟨by rfl, ?hq217⟩) (by assumption) ?rq217
        case hq217 => (intro w hSw; go_simp; try with_reducible rfl)
        try dsimp only [Act.put, List.getElem_toArray, List.getElem_cons_zero, List.getElem_cons_succ]; try simp only [List.setIfInBounds_toArray, List.set_cons_zero, List.set_cons_succ]
        refine wpAnyH_take (i := 9) (oi := _) (v := ?vq218) rfl (by kernel_rfl) (by kernel_rfl) (by kernel_rfl) (fun _ _ _ h => h) (Or.inl ⟨by rfl, ?hq218⟩) (by assumption) ?rq218
        case hq218 => (intro w hSw; go_simp; try with_reducible rfl)
        try dsimp only [Act.put, List.getElem_toArray, List.getElem_cons_zero, List.getElem_cons_succ]; try simp only [List.setIfInBounds_toArray, List.set_cons_zero, List.set_cons_succ]
        refine wpAnyH_take (i := 10) (oi := _) (v := ?vq219) rfl (by kernel_rfl) (by kernel_rfl) (by kernel_rfl) (fun _ _ _ h => h) (Or.inl ⟨by rfl, ?hq219⟩) (by assumption) ?rq219
        case hq219 => (intro w hSw; go_simp; try with_reducible rfl)
        try dsimp only [Act.put, List.getElem_toArray, List.getElem_cons_zero, List.getElem_cons_succ]; try simp only [List.setIfInBounds_toArray, List.set_cons_zero, List.set_cons_succ]
        refine wpAnyH_take (i := 11) (oi := _) (v := ?vq220) rfl (by kernel_rfl) (by kernel_rfl) (by kernel_rfl) (fun _ _ _ h => h) (Or.inl ⟨by rfl, ?hq220⟩) (by assumption) ?rq220
        case hq220 => (intro w hSw; go_simp; try with_reducible rfl)
        try dsimp only [Act.put, List.getElem_toArray, List.getElem_cons_zero, List.getElem_cons_succ]; try simp only [List.setIfInBounds_toArray, List.set_cons_zero, List.set_cons_succ]
        refine wpAnyH_take (i := 12) (oi := _) (v := ?vq221) rfl (by kernel_rfl) (by kernel_rfl) (by kernel_rfl) (fun _ _ _ h => h) (Or.inl ⟨by rfl, ?hq221⟩) (by assumption) ?rq221
        case hq221 => (intro w hSw; go_simp; try with_reducible rfl)
        try dsimp only [Act.put, List.getElem_toArray, List.getElem_cons_zero, List.getElem_cons_succ]; try simp only [List.setIfInBounds_toArray, List.set_cons_zero, List.set_cons_succ]
        refine wpAnyH_take (i := 13) (oi := _) (v := ?vq222) rfl (by kernel_rfl) (by kernel_rfl) (by kernel_rfl) (fun _ _ _ h => h) (Or.inl ⟨by rfl, ?hq222⟩) (by assumption) ?rq222
        case hq222 => (intro w hSw; go_simp; try with_reducible rfl)
        try dsimp only [Act.put, List.getElem_toArray, List.getElem_cons_zero, List.getElem_cons_succ]; try simp only [List.setIfInBounds_toArray, List.set_cons_zero, List.set_cons_succ]
        refine wpAnyH_take (i := 14) (oi := _) (v := undef) rfl (by kernel_rfl) (by kernel_rfl) (by kernel_rfl) (fun _ _ _ h => h) (Or.inr ⟨by rfl, rfl⟩) (by assumption) ?_
        try dsimp only [Act.put, List.getElem_toArray, List.getElem_cons_zero, List.getElem_cons_succ]; try simp only [List.setIfInBounds_toArray, List.set_cons_zero, List.set_cons_succ]
        refine wpAnyH_take (i := 15) (oi := _) (v := undef) rfl (by kernel_rfl) (by kernel_rfl) (by kernel_rfl) (fun _ _ _ h => h) (Or.inr ⟨by rfl, rfl⟩) (by assumption) ?_
        try dsimp only [Act.put, List.getElem_toArray, List.getElem_cons_zero, List.getElem_cons_succ]; try simp only [List.setIfInBounds_toArray, List.set_cons_zero, List.set_cons_succ]
        refine wpAnyH_take (i := 16) (oi := _) (v := undef) rfl (by kernel_rfl) (by kernel_rfl) (by kernel_rfl) (fun _ _ _ h => h) (Or.inr ⟨by rfl, rfl⟩) (by assumption) ?_
        try dsimp only [Act.put, List.getElem_toArray, List.getElem_cons_zero, List.getElem_cons_succ]; try simp only [List.setIfInBounds_toArray, List.set_cons_zero, List.set_cons_succ]
        refine wpAnyH_take (i := 17) (oi := _) (v := undef) rfl (by kernel_rfl) (by kernel_rfl) (by kernel_rfl) (fun _ _ _ h => h) (Or.inr ⟨by rfl, rfl⟩) (by assumption) ?_
        try dsimp only [Act.put, List.getElem_toArray, List.getElem_cons_zero, List.getElem_cons_succ]; try simp only [List.setIfInBounds_toArray, List.set_cons_zero, List.set_cons_succ]
        refine wpAnyH_take (i := 18) (oi := _) (v := undef) rfl (by kernel_rfl) (by kernel_rfl) (by kernel_rfl) (fun _ _ _ h => h) (Or.inr ⟨by rfl, rfl⟩) (by assumption) ?_
        try dsimp only [Act.put, List.getElem_toArray, List.getElem_cons_zero, List.getElem_cons_succ]; try simp only [List.setIfInBounds_toArray, List.set_cons_zero, List.set_cons_succ]
        refine wpAnyH_take (i := 19) (oi := _) (v := undef) rfl (by kernel_rfl) (by kernel_rfl) (by kernel_rfl) (fun _ _ _ h => h) (Or.inr ⟨by rfl, rfl⟩) (by assumption) ?_
        try dsimp only [Act.put, List.getElem_toArray, List.getElem_cons_zero, List.getElem_cons_succ]; try simp only [List.setIfInBounds_toArray, List.set_cons_zero, List.set_cons_succ]
        refine wpAnyH_take (i := 20) (oi := _) (v := undef) rfl (by kernel_rfl) (by kernel_rfl) (by kernel_rfl) (fun _ _ _ h => h) (Or.inr ⟨by rfl, rfl⟩) (by assumption) ?_
        try dsimp only [Act.put, List.getElem_toArray, List.getElem_cons_zero, List.getElem_cons_succ]; try simp only [List.setIfInBounds_toArray, List.set_cons_zero, List.set_cons_succ]
        refine wpAnyH_take (i := 21) (oi := _) (v := undef) rfl (by kernel_rfl) (by kernel_rfl) (by kernel_rfl) (fun _ _ _ h => h) (Or.inr ⟨by rfl, rfl⟩) (by assumption) ?_
        try dsimp only [Act.put, List.getElem_toArray, List.getElem_cons_zero, List.getElem_cons_succ]; try simp only [List.setIfInBounds_toArray, List.set_cons_zero, List.set_cons_succ]
        refine wpAnyH_take (i := 22) (oi := _) (v := ?vq231) rfl (by kernel_rfl) (by kernel_rfl) (by kernel_rfl) (fun _ _ _ h => h) (Or.inl ⟨by rfl, ?hq231⟩) (by assumption) ?rq231
        case hq231 => (intro w hSw; go_simp; try with_reducible rfl)
        try dsimp only [Act.put, List.getElem_toArray, List.getElem_cons_zero, List.getElem_cons_succ]; try simp only [List.setIfInBounds_toArray, List.set_cons_zero, List.set_cons_succ]
        refine wpAnyH_done (by kernel_rfl) ?_ _
        have HAG := Lib.hid (HAG.out.below (Below.refl _ _).drew); have HU := Lib.hid (HU.out.below (Below.refl _ _).drew); have HU6 := Lib.hid (HU6.out.below (Below.refl _ _).drew); have HTA := Lib.hid (HTA.out.below (Below.refl _ _).drew)
        have HNN := Lib.hid (And.intro (cell_below (Below.refl _ _).drew HNN.out.1) (cell_below (Below.refl _ _).drew HNN.out.2)); have HR := Lib.hid (HR.out.below (Below.refl _ _).drew); have HB := Lib.hid HB.out.drew; have HBL := Lib.hid (heap_below (Below.refl _ _).drew HBL.out); have HR01 := Lib.hid (And.intro (cell_below (Below.refl _ _).drew HR01.out.1) (cell_below (Below.refl _ _).drew HR01.out.2))
        generalize W9.drew = W8 at HAG HU HU6 HTA HNN HR HB HBL HR01 ⊢
        have HCE := Lib.hid (fun W (h : Below W8.heap.size W8 W) => (⟨heap_below h HBL.out, cell_below h HNN.out.1, cell_below h HNN.out.2, cell_below h HR01.out.1, cell_below h HR01.out.2⟩ : W.heap[lb]? = some (.cells cs 44 (0, 0)) ∧ W.cell? ⟨nb, 0, none⟩ = some (.int .i64 z0) ∧ W.cell? ⟨nb, 1, none⟩ = some (.int .i64 z1) ∧ W.cell? ⟨lb, 0, none⟩ = some (.slice (some ⟨b0, o0, none⟩) 1 c0) ∧ W.cell? ⟨b0, o0, none⟩ = some (.string (rootT a))))
        clear HNN HBL HR01
        go_wp2_with fail
        have HAT := Lib.hid (fun W (h : Below W8.heap.size W8 W) => quietC (at_any ta a z0 z1 W (HTA.out.below h)))
        rw [HAO.out] at HAT
        clear HAO
        have HPR := Lib.hid (fun W (h : Below W8.heap.size W8 W) => prove_any ta a z0 W (HTA.out.below h))
        have HPD := Lib.hid (fun W (h : Below W8.heap.size W8 W) => rProve_any a bs1 cs z0 W (HAG.out.below h))
        have hprl : (proveL a z0).length ≤ 64 := by unfold proveL; split <;> simp [wayL_len]
        generalize proveL a z0 = pr at HPR HPD hprl
        have HIN := Lib.hid (fun W (h : Below W8.heap.size W8 W) => pin_any A n c a z0 W (HR.out.below h) HN.out hn HL.out.2)
        have HID := Lib.hid (fun W (h : Below W8.heap.size W8 W) => rin_any A n c a z0 W (HR.out.below h) HN.out hn HL.out.2)
        have hinl : (inL (bktB z0) a).length ≤ 1000 := Nat.le_trans (inL_len _ _) (by have := HN.out; omega)
        generalize inL (bktB z0) a = own at HIN HID hinl
        have HRT := Lib.hid (fun W (h : Below W8.heap.size W8 W) => trieRoot_any ta a W (HTA.out.below h))
        generalize rootT a = x at HRT HCE
        have HPRL := Lib.hid hprl; have HINL := Lib.hid hinl
        clear HAG HTA hprl hinl
        go_wp2_with fail
        go_loopw [15] (fun i wr => ∃ j : Nat, j ≤ n ∧ i = .int .i64 j ∧ Below W8.heap.size W8 wr) (fun i _ => n - (intOf i).toNat)
        case atStart => exact ⟨0, Nat.zero_le _, rfl, Below.refl _ _⟩
        case round =>
          obtain ⟨j, hj, rfl, hbel⟩ := hrel
          by_cases hlt : j < n
          · have hx : j < a.length := by have := HN.out; omega
            obtain ⟨b, off, rfl, hrg⟩ := row_leaf.at_ HR.out j hx
            have hs := HL.out.2 a[j] (List.getElem_mem hx)
            generalize a[j] = s at hrg hs
            obtain ⟨sp, sd⟩ := s
            have HG0 := Lib.hid (cell_below hbel (show W8.cell? ⟨b, off + j * 2, none⟩ = some (.string sp) from rangeAt_cell hrg 0 rfl))
            have HX := Lib.hid (fun W => bucket_any sp W (by have := hs.1; simp only at this; omega))
            have HY := Lib.hid (fun W => rbucket_any sp W (by have := hs.1; simp only at this; omega))
            generalize bktOf sp = g at HX HY
            have hgg : ((g : Int) != (g : Int)) = false := by simp
            have hjn : (j : Int) < (n : Int) := by omega
            have hj0 : (0 : Int) ≤ (j : Int) := by omega
            clear hs hrg
            have hb : Below wr.heap.size wr wr.drew := (Below.refl _ _).drew
            go_wp2_with fail
            refine wp_region_held_drew (S := (fun W => W.cell? ⟨b, off + j * 2, none⟩ = some (.string sp))) (by kernel_rfl) HG0.out (fun hHeld => ?_)
            refine wpAnyH_take (i := 0) (oi := _) (v := ?vq155) rfl (by kernel_rfl) (by kernel_rfl) (by kernel_rfl) (fun _ _ _ h => h) (Or.inl ⟨by rfl, ?hq155⟩) (by assumption) ?rq155
            case hq155 => (intro w hSw; go_simp; try with_reducible rfl)
            try dsimp only [Act.put, List.getElem_toArray, List.getElem_cons_zero, List.getElem_cons_succ]; try simp only [List.setIfInBounds_toArray, List.set_cons_zero, List.set_cons_succ]
            refine wpAnyH_take (i := 1) (oi := _) (v := ?vq156) rfl (by kernel_rfl) (by kernel_rfl) (by kernel_rfl) (fun _ _ _ h => h) (Or.inl ⟨by rfl, ?hq156⟩) (by assumption) ?rq156
            case hq156 => (intro w hSw; go_simp; try with_reducible rfl)
            try dsimp only [Act.put, List.getElem_toArray, List.getElem_cons_zero, List.getElem_cons_succ]; try simp only [List.setIfInBounds_toArray, List.set_cons_zero, List.set_cons_succ]
            refine wpAnyH_take (i := 2) (oi := _) (v := ?vq157) rfl (by kernel_rfl) (by kernel_rfl) (by kernel_rfl) (fun _ _ _ h => h) (Or.inl ⟨by rfl, ?hq157⟩) (by assumption) ?rq157
            case hq157 => (intro w hSw; go_simp; try with_reducible rfl)
            try dsimp only [Act.put, List.getElem_toArray, List.getElem_cons_zero, List.getElem_cons_succ]; try simp only [List.setIfInBounds_toArray, List.set_cons_zero, List.set_cons_succ]
            refine wpAnyH_take (i := 3) (oi := _) (v := ?vq158) rfl (by kernel_rfl) (by kernel_rfl) (by kernel_rfl) (fun _ _ _ h => h) (Or.inl ⟨by rfl, ?hq158⟩) (by assumption) ?rq158
            case hq158 => (intro w hSw; go_simp; try with_reducible rfl)
            try dsimp only [Act.put, List.getElem_toArray, List.getElem_cons_zero, List.getElem_cons_succ]; try simp only [List.setIfInBounds_toArray, List.set_cons_zero, List.set_cons_succ]
            refine wpAnyH_take (i := 4) (oi := _) (v := ?vq159) rfl (by kernel_rfl) (by kernel_rfl) (by kernel_rfl) (fun _ _ _ h => h) (Or.inl ⟨by rfl, ?hq159⟩) (by assumption) ?rq159
            case hq159 => (intro w hSw; go_simp; try with_reducible rfl)
            try dsimp only [Act.put, List.getElem_toArray, List.getElem_cons_zero, List.getElem_cons_succ]; try simp only [List.setIfInBounds_toArray, List.set_cons_zero, List.set_cons_succ]
            refine wpAnyH_take (i := 6) (oi := _) (v := ?vq160) rfl (by kernel_rfl) (by kernel_rfl) (by kernel_rfl) (fun _ _ _ h => h) (Or.inl ⟨by rfl, ?hq160⟩) (by assumption) ?rq160
            case hq160 => (intro w hSw; go_simp; try with_reducible rfl)
            try dsimp only [Act.put, List.getElem_toArray, List.getElem_cons_zero, List.getElem_cons_succ]; try simp only [List.setIfInBounds_toArray, List.set_cons_zero, List.set_cons_succ]
            refine wpAnyH_take (i := 7) (oi := _) (v := ?vq161) rfl (by kernel_rfl) (by kernel_rfl) (by kernel_rfl) (fun _ _ _ h => h) (Or.inl ⟨by rfl, ?hq161⟩) (by assumption) ?rq161
            case hq161 => (intro w hSw; go_simp; try with_reducible rfl)
            try dsimp only [Act.put, List.getElem_toArray, List.getElem_cons_zero, List.getElem_cons_succ]; try simp only [List.setIfInBounds_toArray, List.set_cons_zero, List.set_cons_succ]
            refine wpAnyH_take (i := 8) (oi := _) (v := ?vq162) rfl (by kernel_rfl) (by kernel_rfl) (by kernel_rfl) (fun _ _ _ h => h) (Or.inl ⟨by rfl, ?hq162⟩) (by assumption) ?rq162
            case hq162 => (intro w hSw; go_simp; try with_reducible rfl)
            try dsimp only [Act.put, List.getElem_toArray, List.getElem_cons_zero, List.getElem_cons_succ]; try simp only [List.setIfInBounds_toArray, List.set_cons_zero, List.set_cons_succ]
            refine wpAnyH_take (i := 9) (oi := _) (v := ?vq163) rfl (by kernel_rfl) (by kernel_rfl) (by kernel_rfl) (fun _ _ _ h => h) (Or.inl ⟨by rfl, ?hq163⟩) (by assumption) ?rq163
            case hq163 => (intro w hSw; go_simp; try with_reducible rfl)
            try dsimp only [Act.put, List.getElem_toArray, List.getElem_cons_zero, List.getElem_cons_succ]; try simp only [List.setIfInBounds_toArray, List.set_cons_zero, List.set_cons_succ]
            refine wpAnyH_take (i := 10) (oi := _) (v := ?vq164) rfl (by kernel_rfl) (by kernel_rfl) (by kernel_rfl) (fun _ _ _ h => h) (Or.inl ⟨by rfl, ?hq164⟩) (by assumption) ?rq164
            case hq164 => (intro w hSw; go_simp; try with_reducible rfl)
            try dsimp only [Act.put, List.getElem_toArray, List.getElem_cons_zero, List.getElem_cons_succ]; try simp only [List.setIfInBounds_toArray, List.set_cons_zero, List.set_cons_succ]
            refine wpAnyH_ready (rs := [5]) (by kernel_rfl) (by simp) ?_
            refine AllReadyH.cons (o := _) rfl (fun K hK => ?_) ?_
            · rw [if_pos (by rfl)]
              go_simp
              refine (HX.out _).mono ?_
              rintro e wx ⟨rfl, hbx⟩
              have hb := then_ hb hbx
              clear hbx
              go_wp2_with fail
              refine hK.out _ _ (cell_below hb HG0.out) (fun hHeld => ?_)
              clear hK K
              try dsimp only [Act.put, List.getElem_toArray, List.getElem_cons_zero, List.getElem_cons_succ]; try simp only [List.setIfInBounds_toArray, List.set_cons_zero, List.set_cons_succ]
              refine wpAnyH_ready (rs := [11]) (by kernel_rfl) (by simp) ?_
              refine AllReadyH.cons (o := _) rfl (fun K hK => ?_) ?_
              · rw [if_pos (by rfl)]
                go_simp
                refine (HY.out _).mono ?_
                rintro e wx ⟨rfl, hbx⟩
                have hb := then_ hb hbx
                clear hbx
                go_wp2_with fail
                refine hK.out _ _ (cell_below hb HG0.out) (fun hHeld => ?_)
                clear hK K
                try dsimp only [Act.put, List.getElem_toArray, List.getElem_cons_zero, List.getElem_cons_succ]; try simp only [List.setIfInBounds_toArray, List.set_cons_zero, List.set_cons_succ]
                refine wpAnyH_take (i := 12) (oi := _) (v := ?vq165) rfl (by kernel_rfl) (by kernel_rfl) (by kernel_rfl) (fun _ _ _ h => h) (Or.inl ⟨by rfl, ?hq165⟩) (by assumption) ?rq165
                case hq165 => (intro w hSw; go_simp; try with_reducible rfl)
                try dsimp only [Act.put, List.getElem_toArray, List.getElem_cons_zero, List.getElem_cons_succ]; try simp only [List.setIfInBounds_toArray, List.set_cons_zero, List.set_cons_succ]
                refine wpAnyH_done (by kernel_rfl) ?_ _
                go_wp2
                go_roundw
                case rel => exact ⟨j + 1, by omega, by go_num, then_ hbel hb⟩
                case measure => simp [intOf]; omega
              exact AllReadyH.nil
            exact AllReadyH.nil
          · have hjn : (n : Int) ≤ (j : Int) := by omega
            have hb : Below wr.heap.size wr wr.drew := (Below.refl _ _).drew
            have HC := Lib.hid (fun W (h : Below wr.heap.size wr W) => HCE.out W (then_ hbel h)); have HBW := Lib.hid (then_ HB.out hbel); have HB8 := Lib.hid hbel
            have hxx : (x.toList == x.toList) = true := by simp
            clear hlt hbel
            go_wp2_with fail
            refine wp_region_held_drew (S := (fun W => W.heap[lb]? = some (.cells cs 44 (0, 0)) ∧ W.cell? ⟨nb, 0, none⟩ = some (.int .i64 z0) ∧ W.cell? ⟨nb, 1, none⟩ = some (.int .i64 z1) ∧ W.cell? ⟨lb, 0, none⟩ = some (.slice (some ⟨b0, o0, none⟩) 1 c0) ∧ W.cell? ⟨b0, o0, none⟩ = some (.string x))) (by kernel_rfl) (HC.out _ (Below.refl _ _).drew) (fun hHeld => ?_)
            refine wpAnyH_take (i := 0) (oi := _) (v := ?vq166) rfl (by kernel_rfl) (by kernel_rfl) (by kernel_rfl) (fun _ _ _ h => h) (Or.inl ⟨by rfl, ?hq166⟩) (by assumption) ?rq166
            case hq166 => (intro w hSw; go_simp; try with_reducible rfl)
            try dsimp only [Act.put, List.getElem_toArray, List.getElem_cons_zero, List.getElem_cons_succ]; try simp only [List.setIfInBounds_toArray, List.set_cons_zero, List.set_cons_succ]
            refine wpAnyH_take (i := 1) (oi := _) (v := ?vq167) rfl (by kernel_rfl) (by kernel_rfl) (by kernel_rfl) (fun _ _ _ h => h) (Or.inl ⟨by rfl, ?hq167⟩) (by assumption) ?rq167
            case hq167 => (intro w hSw; go_simp; try with_reducible rfl)
            try dsimp only [Act.put, List.getElem_toArray, List.getElem_cons_zero, List.getElem_cons_succ]; try simp only [List.setIfInBounds_toArray, List.set_cons_zero, List.set_cons_succ]
            refine wpAnyH_ready (rs := [2]) (by kernel_rfl) (by simp) ?_
            refine AllReadyH.cons (o := _) rfl (fun K hK => ?_) ?_
            · rw [if_pos (by rfl)]
              go_simp
              refine (sameInts_any A5 pl c5 p A6 pl c6 p _ (HU.out.below (then_ HB8.out hb)) HPN.out (by omega) (HU6.out.below (then_ HB8.out hb)) HPN.out (by omega)).mono ?_
              rintro e wx ⟨rfl, hbx⟩
              rw [show decide (p = p) = true by simp]
              have hb := then_ hb hbx
              clear hbx
              go_wp2_with fail
              refine hK.out _ _ (HC.out _ hb) (fun hHeld => ?_)
              clear hK K
              try dsimp only [Act.put, List.getElem_toArray, List.getElem_cons_zero, List.getElem_cons_succ]; try simp only [List.setIfInBounds_toArray, List.set_cons_zero, List.set_cons_succ]
              refine wpAnyH_take (i := 3) (oi := _) (v := ?vq168) rfl (by kernel_rfl) (by kernel_rfl) (by kernel_rfl) (fun _ _ _ h => h) (Or.inl ⟨by rfl, ?hq168⟩) (by assumption) ?rq168
              case hq168 => (intro w hSw; go_simp; try with_reducible rfl)
              try dsimp only [Act.put, List.getElem_toArray, List.getElem_cons_zero, List.getElem_cons_succ]; try simp only [List.setIfInBounds_toArray, List.set_cons_zero, List.set_cons_succ]
              refine wpAnyH_take (i := 4) (oi := _) (v := ?vq169) rfl (by kernel_rfl) (by kernel_rfl) (by kernel_rfl) (fun _ _ _ h => h) (Or.inl ⟨by rfl, ?hq169⟩) (by assumption) ?rq169
              case hq169 => (intro w hSw; go_simp; try with_reducible rfl)
              try dsimp only [Act.put, List.getElem_toArray, List.getElem_cons_zero, List.getElem_cons_succ]; try simp only [List.setIfInBounds_toArray, List.set_cons_zero, List.set_cons_succ]
              refine wpAnyH_take (i := 5) (oi := _) (v := ?vq170) rfl (by kernel_rfl) (by kernel_rfl) (by kernel_rfl) (fun _ _ _ h => h) (Or.inl ⟨by rfl, ?hq170⟩) (by assumption) ?rq170
              case hq170 => (intro w hSw; go_simp; try with_reducible rfl)
              try dsimp only [Act.put, List.getElem_toArray, List.getElem_cons_zero, List.getElem_cons_succ]; try simp only [List.setIfInBounds_toArray, List.set_cons_zero, List.set_cons_succ]
              refine wpAnyH_take (i := 6) (oi := _) (v := ?vq171) rfl (by kernel_rfl) (by kernel_rfl) (by kernel_rfl) (fun _ _ _ h => h) (Or.inl ⟨by rfl, ?hq171⟩) (by assumption) ?rq171
              case hq171 => (intro w hSw; go_simp; try with_reducible rfl)
              try dsimp only [Act.put, List.getElem_toArray, List.getElem_cons_zero, List.getElem_cons_succ]; try simp only [List.setIfInBounds_toArray, List.set_cons_zero, List.set_cons_succ]
              refine wpAnyH_take (i := 7) (oi := _) (v := ?vq172) rfl (by kernel_rfl) (by kernel_rfl) (by kernel_rfl) (fun _ _ _ h => h) (Or.inl ⟨by rfl, ?hq172⟩) (by assumption) ?rq172
              case hq172 => (intro w hSw; go_simp; try with_reducible rfl)
              try dsimp only [Act.put, List.getElem_toArray, List.getElem_cons_zero, List.getElem_cons_succ]; try simp only [List.setIfInBounds_toArray, List.set_cons_zero, List.set_cons_succ]
              refine wpAnyH_take (i := 8) (oi := _) (v := ?vq173) rfl (by kernel_rfl) (by kernel_rfl) (by kernel_rfl) (fun _ _ _ h => h) (Or.inl ⟨by rfl, ?hq173⟩) (by assumption) ?rq173
              case hq173 => (intro w hSw; go_simp; try with_reducible rfl)
              try dsimp only [Act.put, List.getElem_toArray, List.getElem_cons_zero, List.getElem_cons_succ]; try simp only [List.setIfInBounds_toArray, List.set_cons_zero, List.set_cons_succ]
              refine wpAnyH_take (i := 9) (oi := _) (v := ?vq174) rfl (by kernel_rfl) (by kernel_rfl) (by kernel_rfl) (fun _ _ _ h => h) (Or.inl ⟨by rfl, ?hq174⟩) (by assumption) ?rq174
              case hq174 => (intro w hSw; go_simp; try with_reducible rfl)
              try dsimp only [Act.put, List.getElem_toArray, List.getElem_cons_zero, List.getElem_cons_succ]; try simp only [List.setIfInBounds_toArray, List.set_cons_zero, List.set_cons_succ]
              refine wpAnyH_take (i := 10) (oi := _) (v := ?vq175) rfl (by kernel_rfl) (by kernel_rfl) (by kernel_rfl) (fun _ _ _ h => h) (Or.inl ⟨by rfl, ?hq175⟩) (by assumption) ?rq175
              case hq175 => (intro w hSw; go_simp; try with_reducible rfl)
              try dsimp only [Act.put, List.getElem_toArray, List.getElem_cons_zero, List.getElem_cons_succ]; try simp only [List.setIfInBounds_toArray, List.set_cons_zero, List.set_cons_succ]
              refine wpAnyH_take (i := 11) (oi := _) (v := ?vq176) rfl (by kernel_rfl) (by kernel_rfl) (by kernel_rfl) (fun _ _ _ h => h) (Or.inl ⟨by rfl, ?hq176⟩) (by assumption) ?rq176
              case hq176 => (intro w hSw; go_simp; try with_reducible rfl)
              try dsimp only [Act.put, List.getElem_toArray, List.getElem_cons_zero, List.getElem_cons_succ]; try simp only [List.setIfInBounds_toArray, List.set_cons_zero, List.set_cons_succ]
              refine wpAnyH_take (i := 12) (oi := _) (v := ?vq177) rfl (by kernel_rfl) (by kernel_rfl) (by kernel_rfl) (fun _ _ _ h => h) (Or.inl ⟨by rfl, ?hq177⟩) (by assumption) ?rq177
              case hq177 => (intro w hSw; go_simp; try with_reducible rfl)
              try dsimp only [Act.put, List.getElem_toArray, List.getElem_cons_zero, List.getElem_cons_succ]; try simp only [List.setIfInBounds_toArray, List.set_cons_zero, List.set_cons_succ]
              refine wpAnyH_take (i := 13) (oi := _) (v := ?vq178) rfl (by kernel_rfl) (by kernel_rfl) (by kernel_rfl) (fun _ _ _ h => h) (Or.inl ⟨by rfl, ?hq178⟩) (by assumption) ?rq178
              case hq178 => (intro w hSw; go_simp; try with_reducible rfl)
              try dsimp only [Act.put, List.getElem_toArray, List.getElem_cons_zero, List.getElem_cons_succ]; try simp only [List.setIfInBounds_toArray, List.set_cons_zero, List.set_cons_succ]
              refine wpAnyH_take (i := 15) (oi := _) (v := ?vq179) rfl (by kernel_rfl) (by kernel_rfl) (by kernel_rfl) (fun _ _ _ h => h) (Or.inl ⟨by rfl, ?hq179⟩) (by assumption) ?rq179
              case hq179 => (intro w hSw; go_simp; try with_reducible rfl)
              try dsimp only [Act.put, List.getElem_toArray, List.getElem_cons_zero, List.getElem_cons_succ]; try simp only [List.setIfInBounds_toArray, List.set_cons_zero, List.set_cons_succ]
              refine wpAnyH_ready (rs := [14]) (by kernel_rfl) (by simp) ?_
              refine AllReadyH.cons (o := _) rfl (fun K hK => ?_) ?_
              · rw [if_pos (by rfl)]
                go_simp
                refine (HAT.out _ (then_ HB8.out hb)).mono ?_
                rintro e wx ⟨rfl, hbx⟩
                have hb := then_ hb hbx
                clear hbx
                go_wp2_with fail
                refine hK.out _ _ (HC.out _ hb) (fun hHeld => ?_)
                clear hK K
                try dsimp only [Act.put, List.getElem_toArray, List.getElem_cons_zero, List.getElem_cons_succ]; try simp only [List.setIfInBounds_toArray, List.set_cons_zero, List.set_cons_succ]
                refine wpAnyH_take (i := 16) (oi := _) (v := ?vq180) rfl (by kernel_rfl) (by kernel_rfl) (by kernel_rfl) (fun _ _ _ h => h) (Or.inl ⟨by rfl, ?hq180⟩) (by assumption) ?rq180
                case hq180 => (intro w hSw; go_simp; try with_reducible rfl)
                try dsimp only [Act.put, List.getElem_toArray, List.getElem_cons_zero, List.getElem_cons_succ]; try simp only [List.setIfInBounds_toArray, List.set_cons_zero, List.set_cons_succ]
                refine wpAnyH_take (i := 17) (oi := _) (v := ?vq181) rfl (by kernel_rfl) (by kernel_rfl) (by kernel_rfl) (fun _ _ _ h => h) (Or.inl ⟨by rfl, ?hq181⟩) (by assumption) ?rq181
                case hq181 => (intro w hSw; go_simp; try with_reducible rfl)
                try dsimp only [Act.put, List.getElem_toArray, List.getElem_cons_zero, List.getElem_cons_succ]; try simp only [List.setIfInBounds_toArray, List.set_cons_zero, List.set_cons_succ]
                refine wpAnyH_take (i := 18) (oi := _) (v := ?vq182) rfl (by kernel_rfl) (by kernel_rfl) (by kernel_rfl) (fun _ _ _ h => h) (Or.inl ⟨by rfl, ?hq182⟩) (by assumption) ?rq182
                case hq182 => (intro w hSw; go_simp; try with_reducible rfl)
                try dsimp only [Act.put, List.getElem_toArray, List.getElem_cons_zero, List.getElem_cons_succ]; try simp only [List.setIfInBounds_toArray, List.set_cons_zero, List.set_cons_succ]
                refine wpAnyH_take (i := 19) (oi := _) (v := ?vq183) rfl (by kernel_rfl) (by kernel_rfl) (by kernel_rfl) (fun _ _ _ h => h) (Or.inl ⟨by rfl, ?hq183⟩) (by assumption) ?rq183
                case hq183 => (intro w hSw; go_simp; try with_reducible rfl)
                try dsimp only [Act.put, List.getElem_toArray, List.getElem_cons_zero, List.getElem_cons_succ]; try simp only [List.setIfInBounds_toArray, List.set_cons_zero, List.set_cons_succ]
                refine wpAnyH_take (i := 21) (oi := _) (v := ?vq184) rfl (by kernel_rfl) (by kernel_rfl) (by kernel_rfl) (fun _ _ _ h => h) (Or.inl ⟨by rfl, ?hq184⟩) (by assumption) ?rq184
                case hq184 => (intro w hSw; go_simp; try with_reducible rfl)
                try dsimp only [Act.put, List.getElem_toArray, List.getElem_cons_zero, List.getElem_cons_succ]; try simp only [List.setIfInBounds_toArray, List.set_cons_zero, List.set_cons_succ]
                refine wpAnyH_take (i := 22) (oi := _) (v := ?vq185) rfl (by kernel_rfl) (by kernel_rfl) (by kernel_rfl) (fun _ _ _ h => h) (Or.inl ⟨by rfl, ?hq185⟩) (by assumption) ?rq185
                case hq185 => (intro w hSw; go_simp; try with_reducible rfl)
                try dsimp only [Act.put, List.getElem_toArray, List.getElem_cons_zero, List.getElem_cons_succ]; try simp only [List.setIfInBounds_toArray, List.set_cons_zero, List.set_cons_succ]
                refine wpAnyH_take (i := 23) (oi := _) (v := ?vq186) rfl (by kernel_rfl) (by kernel_rfl) (by kernel_rfl) (fun _ _ _ h => h) (Or.inl ⟨by rfl, ?hq186⟩) (by assumption) ?rq186
                case hq186 => (intro w hSw; go_simp; try with_reducible rfl)
                try dsimp only [Act.put, List.getElem_toArray, List.getElem_cons_zero, List.getElem_cons_succ]; try simp only [List.setIfInBounds_toArray, List.set_cons_zero, List.set_cons_succ]
                refine wpAnyH_take (i := 24) (oi := _) (v := ?vq187) rfl (by kernel_rfl) (by kernel_rfl) (by kernel_rfl) (fun _ _ _ h => h) (Or.inl ⟨by rfl, ?hq187⟩) (by assumption) ?rq187
                case hq187 => (intro w hSw; go_simp; try with_reducible rfl)
                try dsimp only [Act.put, List.getElem_toArray, List.getElem_cons_zero, List.getElem_cons_succ]; try simp only [List.setIfInBounds_toArray, List.set_cons_zero, List.set_cons_succ]
                refine wpAnyH_ready (rs := [20]) (by kernel_rfl) (by simp) ?_
                refine AllReadyH.cons (o := _) rfl (fun K hK => ?_) ?_
                · rw [if_pos (by rfl)]
                  go_simp
                  refine (quietC (HRT.out _ (then_ HB8.out hb))).mono ?_
                  rintro e wx ⟨rfl, hbx⟩
                  have hb := then_ hb hbx
                  clear hbx
                  go_wp2_with fail
                  refine hK.out _ _ (HC.out _ hb) (fun hHeld => ?_)
                  clear hK K
                  try dsimp only [Act.put, List.getElem_toArray, List.getElem_cons_zero, List.getElem_cons_succ]; try simp only [List.setIfInBounds_toArray, List.set_cons_zero, List.set_cons_succ]
                  refine wpAnyH_take (i := 25) (oi := _) (v := ?vq188) rfl (by kernel_rfl) (by kernel_rfl) (by kernel_rfl) (fun _ _ _ h => h) (Or.inl ⟨by rfl, ?hq188⟩) (by assumption) ?rq188
                  case hq188 => (intro w hSw; go_simp; try with_reducible rfl)
                  try dsimp only [Act.put, List.getElem_toArray, List.getElem_cons_zero, List.getElem_cons_succ]; try simp only [List.setIfInBounds_toArray, List.set_cons_zero, List.set_cons_succ]
                  refine wpAnyH_take (i := 26) (oi := _) (v := ?vq189) rfl (by kernel_rfl) (by kernel_rfl) (by kernel_rfl) (fun _ _ _ h => h) (Or.inl ⟨by rfl, ?hq189⟩) (by assumption) ?rq189
                  case hq189 => (intro w hSw; go_simp; try with_reducible rfl)
                  try dsimp only [Act.put, List.getElem_toArray, List.getElem_cons_zero, List.getElem_cons_succ]; try simp only [List.setIfInBounds_toArray, List.set_cons_zero, List.set_cons_succ]
                  refine wpAnyH_take (i := 27) (oi := _) (v := ?vq190) rfl (by kernel_rfl) (by kernel_rfl) (by kernel_rfl) (fun _ _ _ h => h) (Or.inl ⟨by rfl, ?hq190⟩) (by assumption) ?rq190
                  case hq190 => (intro w hSw; go_simp; try with_reducible rfl)
                  try dsimp only [Act.put, List.getElem_toArray, List.getElem_cons_zero, List.getElem_cons_succ]; try simp only [List.setIfInBounds_toArray, List.set_cons_zero, List.set_cons_succ]
                  refine wpAnyH_take (i := 28) (oi := _) (v := ?vq191) rfl (by kernel_rfl) (by kernel_rfl) (by kernel_rfl) (fun _ _ _ h => h) (Or.inl ⟨by rfl, ?hq191⟩) (by assumption) ?rq191
                  case hq191 => (intro w hSw; go_simp; try with_reducible rfl)
                  try dsimp only [Act.put, List.getElem_toArray, List.getElem_cons_zero, List.getElem_cons_succ]; try simp only [List.setIfInBounds_toArray, List.set_cons_zero, List.set_cons_succ]
                  refine wpAnyH_take (i := 29) (oi := _) (v := ?vq192) rfl (by kernel_rfl) (by kernel_rfl) (by kernel_rfl) (fun _ _ _ h => h) (Or.inl ⟨by rfl, ?hq192⟩) (by assumption) ?rq192
                  case hq192 => (intro w hSw; go_simp; try with_reducible rfl)
                  try dsimp only [Act.put, List.getElem_toArray, List.getElem_cons_zero, List.getElem_cons_succ]; try simp only [List.setIfInBounds_toArray, List.set_cons_zero, List.set_cons_succ]
                  refine wpAnyH_take (i := 30) (oi := _) (v := ?vq193) rfl (by kernel_rfl) (by kernel_rfl) (by kernel_rfl) (fun _ _ _ h => h) (Or.inl ⟨by rfl, ?hq193⟩) (by assumption) ?rq193
                  case hq193 => (intro w hSw; go_simp; try with_reducible rfl)
                  try dsimp only [Act.put, List.getElem_toArray, List.getElem_cons_zero, List.getElem_cons_succ]; try simp only [List.setIfInBounds_toArray, List.set_cons_zero, List.set_cons_succ]
                  refine wpAnyH_take (i := 32) (oi := _) (v := _) rfl (by kernel_rfl) (by kernel_rfl) (by kernel_rfl) (fun _ _ _ h => h) (wp_load_arr (w := w) (by rfl) _ rfl lb 0 rfl cs (fun w hSw => (range_blk hSw.1)) ⟨_, Try.underlying44, rfl⟩ HI.out) (by assumption) ?_
                  try dsimp only [Act.put, List.getElem_toArray, List.getElem_cons_zero, List.getElem_cons_succ]; try simp only [List.setIfInBounds_toArray, List.set_cons_zero, List.set_cons_succ]
                  refine wpAnyH_take (i := 33) (oi := _) (v := ?vq195) rfl (by kernel_rfl) (by kernel_rfl) (by kernel_rfl) (fun _ _ _ h => h) (Or.inl ⟨by rfl, ?hq195⟩) (by assumption) ?rq195
                  case hq195 => (intro w hSw; go_simp; try with_reducible rfl)
                  try dsimp only [Act.put, List.getElem_toArray, List.getElem_cons_zero, List.getElem_cons_succ]; try simp only [List.setIfInBounds_toArray, List.set_cons_zero, List.set_cons_succ]
                  refine wpAnyH_take (i := 34) (oi := _) (v := ?vq196) rfl (by kernel_rfl) (by kernel_rfl) (by kernel_rfl) (fun _ _ _ h => h) (Or.inl ⟨by rfl, ?hq196⟩) (by assumption) ?rq196
                  case hq196 => (intro w hSw; go_simp; try with_reducible rfl)
                  try dsimp only [Act.put, List.getElem_toArray, List.getElem_cons_zero, List.getElem_cons_succ]; try simp only [List.setIfInBounds_toArray, List.set_cons_zero, List.set_cons_succ]
                  refine wpAnyH_ready (rs := [31]) (by kernel_rfl) (by simp) ?_
                  refine AllReadyH.cons (o := _) rfl (fun K hK => ?_) ?_
                  · rw [if_pos (by rfl)]
                    go_simp
                    refine (HPR.out _ (then_ HB8.out hb)).mono ?_
                    rintro e wx ⟨v31, rfl, hown, hbx⟩
                    obtain ⟨A31, c31, rfl⟩ := own_form hown
                    have HP31 := Lib.hid (Rd.of_own hown)
                    clear hown
                    have hb := then_ hb hbx
                    clear hbx
                    go_wp2_with fail
                    refine hK.out _ _ (HC.out _ hb) (fun hHeld => ?_)
                    clear hK K
                    try dsimp only [Act.put, List.getElem_toArray, List.getElem_cons_zero, List.getElem_cons_succ]; try simp only [List.setIfInBounds_toArray, List.set_cons_zero, List.set_cons_succ]
                    refine wpAnyH_ready (rs := [35]) (by kernel_rfl) (by simp) ?_
                    refine AllReadyH.cons (o := _) rfl (fun K hK => ?_) ?_
                    · rw [if_pos (by rfl)]
                      go_simp
                      refine (HPD.out _ (then_ HB8.out hb)).mono ?_
                      rintro e wx ⟨v35, rfl, hown, hbx⟩
                      obtain ⟨A35, c35, rfl⟩ := own_form hown
                      have HP35 := Lib.hid (Rd.of_own hown)
                      have HP31 := Lib.hid (HP31.out.below hbx)
                      clear hown
                      have hb := then_ hb hbx
                      clear hbx
                      go_wp2_with fail
                      refine hK.out _ _ (HC.out _ hb) (fun hHeld => ?_)
                      clear hK K
                      try dsimp only [Act.put, List.getElem_toArray, List.getElem_cons_zero, List.getElem_cons_succ]; try simp only [List.setIfInBounds_toArray, List.set_cons_zero, List.set_cons_succ]
                      refine wpAnyH_ready (rs := [36]) (by kernel_rfl) (by simp) ?_
                      refine AllReadyH.cons (o := _) rfl (fun K hK => ?_) ?_
                      · rw [if_pos (by rfl)]
                        go_simp
                        refine (sameTexts_any A31 pr.length c31 pr A35 pr.length c35 pr _ HP31.out rfl (by have := HPRL.out; unfold maxLen; omega) HP35.out rfl (by have := HPRL.out; unfold maxLen; omega)).mono ?_
                        rintro e wx ⟨rfl, hbx⟩
                        rw [show decide (pr = pr) = true by simp]
                        have hb := then_ hb hbx
                        clear hbx
                        go_wp2_with fail
                        refine hK.out _ _ (HC.out _ hb) (fun hHeld => ?_)
                        clear hK K
                        try dsimp only [Act.put, List.getElem_toArray, List.getElem_cons_zero, List.getElem_cons_succ]; try simp only [List.setIfInBounds_toArray, List.set_cons_zero, List.set_cons_succ]
                        refine wpAnyH_take (i := 37) (oi := _) (v := ?vq197) rfl (by kernel_rfl) (by kernel_rfl) (by kernel_rfl) (fun _ _ _ h => h) (Or.inl ⟨by rfl, ?hq197⟩) (by assumption) ?rq197
                        case hq197 => (intro w hSw; go_simp; try with_reducible rfl)
                        try dsimp only [Act.put, List.getElem_toArray, List.getElem_cons_zero, List.getElem_cons_succ]; try simp only [List.setIfInBounds_toArray, List.set_cons_zero, List.set_cons_succ]
                        refine wpAnyH_take (i := 38) (oi := _) (v := ?vq198) rfl (by kernel_rfl) (by kernel_rfl) (by kernel_rfl) (fun _ _ _ h => h) (Or.inl ⟨by rfl, ?hq198⟩) (by assumption) ?rq198
                        case hq198 => (intro w hSw; go_simp; try with_reducible rfl)
                        try dsimp only [Act.put, List.getElem_toArray, List.getElem_cons_zero, List.getElem_cons_succ]; try simp only [List.setIfInBounds_toArray, List.set_cons_zero, List.set_cons_succ]
                        refine wpAnyH_take (i := 39) (oi := _) (v := ?vq199) rfl (by kernel_rfl) (by kernel_rfl) (by kernel_rfl) (fun _ _ _ h => h) (Or.inl ⟨by rfl, ?hq199⟩) (by assumption) ?rq199
                        case hq199 => (intro w hSw; go_simp; try with_reducible rfl)
                        try dsimp only [Act.put, List.getElem_toArray, List.getElem_cons_zero, List.getElem_cons_succ]; try simp only [List.setIfInBounds_toArray, List.set_cons_zero, List.set_cons_succ]
                        refine wpAnyH_take (i := 40) (oi := _) (v := ?vq200) rfl (by kernel_rfl) (by kernel_rfl) (by kernel_rfl) (fun _ _ _ h => h) (Or.inl ⟨by rfl, ?hq200⟩) (by assumption) ?rq200
                        case hq200 => (intro w hSw; go_simp; try with_reducible rfl)
                        try dsimp only [Act.put, List.getElem_toArray, List.getElem_cons_zero, List.getElem_cons_succ]; try simp only [List.setIfInBounds_toArray, List.set_cons_zero, List.set_cons_succ]
                        refine wpAnyH_take (i := 41) (oi := _) (v := ?vq201) rfl (by kernel_rfl) (by kernel_rfl) (by kernel_rfl) (fun _ _ _ h => h) (Or.inl ⟨by rfl, ?hq201⟩) (by assumption) ?rq201
                        case hq201 => (intro w hSw; go_simp; try with_reducible rfl)
                        try dsimp only [Act.put, List.getElem_toArray, List.getElem_cons_zero, List.getElem_cons_succ]; try simp only [List.setIfInBounds_toArray, List.set_cons_zero, List.set_cons_succ]
                        refine wpAnyH_take (i := 43) (oi := _) (v := ?vq202) rfl (by kernel_rfl) (by kernel_rfl) (by kernel_rfl) (fun _ _ _ h => h) (Or.inl ⟨by rfl, ?hq202⟩) (by assumption) ?rq202
                        case hq202 => (intro w hSw; go_simp; try with_reducible rfl)
                        try dsimp only [Act.put, List.getElem_toArray, List.getElem_cons_zero, List.getElem_cons_succ]; try simp only [List.setIfInBounds_toArray, List.set_cons_zero, List.set_cons_succ]
                        refine wpAnyH_take (i := 44) (oi := _) (v := ?vq203) rfl (by kernel_rfl) (by kernel_rfl) (by kernel_rfl) (fun _ _ _ h => h) (Or.inl ⟨by rfl, ?hq203⟩) (by assumption) ?rq203
                        case hq203 => (intro w hSw; go_simp; try with_reducible rfl)
                        try dsimp only [Act.put, List.getElem_toArray, List.getElem_cons_zero, List.getElem_cons_succ]; try simp only [List.setIfInBounds_toArray, List.set_cons_zero, List.set_cons_succ]
                        refine wpAnyH_take (i := 45) (oi := _) (v := ?vq204) rfl (by kernel_rfl) (by kernel_rfl) (by kernel_rfl) (fun _ _ _ h => h) (Or.inl ⟨by rfl, ?hq204⟩) (by assumption) ?rq204
                        case hq204 => (intro w hSw; go_simp; try with_reducible rfl)
                        try dsimp only [Act.put, List.getElem_toArray, List.getElem_cons_zero, List.getElem_cons_succ]; try simp only [List.setIfInBounds_toArray, List.set_cons_zero, List.set_cons_succ]
                        refine wpAnyH_ready (rs := [42]) (by kernel_rfl) (by simp) ?_
                        refine AllReadyH.cons (o := _) rfl (fun K hK => ?_) ?_
                        · rw [if_pos (by rfl)]
                          go_simp
                          refine (HIN.out _ (then_ HB8.out hb)).mono ?_
                          rintro e wx ⟨v42, rfl, hown, hbx⟩
                          obtain ⟨A42, c42, rfl⟩ := own_form hown
                          have HP42 := Lib.hid (Rd.of_own hown)
                          clear hown
                          have hb := then_ hb hbx
                          clear hbx
                          go_wp2_with fail
                          refine hK.out _ _ (HC.out _ hb) (fun hHeld => ?_)
                          clear hK K
                          try dsimp only [Act.put, List.getElem_toArray, List.getElem_cons_zero, List.getElem_cons_succ]; try simp only [List.setIfInBounds_toArray, List.set_cons_zero, List.set_cons_succ]
                          refine wpAnyH_ready (rs := [46]) (by kernel_rfl) (by simp) ?_
                          refine AllReadyH.cons (o := _) rfl (fun K hK => ?_) ?_
                          · rw [if_pos (by rfl)]
                            go_simp
                            refine (HID.out _ (then_ HB8.out hb)).mono ?_
                            rintro e wx ⟨v46, rfl, hown, hbx⟩
                            obtain ⟨A46, c46, rfl⟩ := own_form hown
                            have HP46 := Lib.hid (Rd.of_own hown)
                            have HP42 := Lib.hid (HP42.out.below hbx)
                            clear hown
                            have hb := then_ hb hbx
                            clear hbx
                            go_wp2_with fail
                            refine hK.out _ _ (HC.out _ hb) (fun hHeld => ?_)
                            clear hK K
                            try dsimp only [Act.put, List.getElem_toArray, List.getElem_cons_zero, List.getElem_cons_succ]; try simp only [List.setIfInBounds_toArray, List.set_cons_zero, List.set_cons_succ]
                            refine wpAnyH_ready (rs := [47]) (by kernel_rfl) (by simp) ?_
                            refine AllReadyH.cons (o := _) rfl (fun K hK => ?_) ?_
                            · rw [if_pos (by rfl)]
                              go_simp
                              refine (sameL_any A42 own.length c42 own A46 own.length c46 own _ HP42.out rfl (by have := HINL.out; unfold maxLen; omega) HP46.out rfl (by have := HINL.out; unfold maxLen; omega)).mono ?_
                              rintro e wx ⟨qs, hqs, rfl, hbx⟩
                              have hqt : qs = true := hqs.2 rfl
                              subst hqt
                              clear hqs
                              have hb := then_ hb hbx
                              clear hbx
                              go_wp2_with fail
                              refine hK.out _ _ (HC.out _ hb) (fun hHeld => ?_)
                              clear hK K
                              try dsimp only [Act.put, List.getElem_toArray, List.getElem_cons_zero, List.getElem_cons_succ]; try simp only [List.setIfInBounds_toArray, List.set_cons_zero, List.set_cons_succ]
                              refine wpAnyH_take (i := 48) (oi := _) (v := ?vq205) rfl (by kernel_rfl) (by kernel_rfl) (by kernel_rfl) (fun _ _ _ h => h) (Or.inl ⟨by rfl, ?hq205⟩) (by assumption) ?rq205
                              case hq205 => (intro w hSw; go_simp; try with_reducible rfl)
                              try dsimp only [Act.put, List.getElem_toArray, List.getElem_cons_zero, List.getElem_cons_succ]; try simp only [List.setIfInBounds_toArray, List.set_cons_zero, List.set_cons_succ]
                              refine wpAnyH_take (i := 49) (oi := _) (v := ?vq206) rfl (by kernel_rfl) (by kernel_rfl) (by kernel_rfl) (fun _ _ _ h => h) (Or.inl ⟨by rfl, ?hq206⟩) (by assumption) ?rq206
                              case hq206 => (intro w hSw; go_simp; try with_reducible rfl)
                              try dsimp only [Act.put, List.getElem_toArray, List.getElem_cons_zero, List.getElem_cons_succ]; try simp only [List.setIfInBounds_toArray, List.set_cons_zero, List.set_cons_succ]
                              refine wpAnyH_ready (rs := [50]) (by kernel_rfl) (by simp) ?_
                              refine AllReadyH.cons (o := _) rfl (fun K hK => ?_) ?_
                              · rw [if_pos (by rfl)]
                                go_simp
                                refine (awake49_any _).mono ?_
                                rintro e wx ⟨rfl, hbx⟩
                                have hb := then_ hb hbx
                                clear hbx
                                go_wp2_with fail
                                refine hK.out _ _ (HC.out _ hb) (fun hHeld => ?_)
                                clear hK K
                                try dsimp only [Act.put, List.getElem_toArray, List.getElem_cons_zero, List.getElem_cons_succ]; try simp only [List.setIfInBounds_toArray, List.set_cons_zero, List.set_cons_succ]
                                refine wpAnyH_take (i := 51) (oi := _) (v := ?vq207) rfl (by kernel_rfl) (by kernel_rfl) (by kernel_rfl) (fun _ _ _ h => h) (Or.inl ⟨by rfl, ?hq207⟩) (by assumption) ?rq207
                                case hq207 => (intro w hSw; go_simp; try with_reducible rfl)
                                try dsimp only [Act.put, List.getElem_toArray, List.getElem_cons_zero, List.getElem_cons_succ]; try simp only [List.setIfInBounds_toArray, List.set_cons_zero, List.set_cons_succ]
                                refine wpAnyH_take (i := 52) (oi := _) (v := ?vq208) rfl (by kernel_rfl) (by kernel_rfl) (by kernel_rfl) (fun _ _ _ h => h) (Or.inl ⟨by rfl, ?hq208⟩) (by assumption) ?rq208
                                case hq208 => (intro w hSw; go_simp; try with_reducible rfl)
                                try dsimp only [Act.put, List.getElem_toArray, List.getElem_cons_zero, List.getElem_cons_succ]; try simp only [List.setIfInBounds_toArray, List.set_cons_zero, List.set_cons_succ]
                                refine wpAnyH_done (by kernel_rfl) ?_ _
                                go_wp2
                                go_ret
                                exact ⟨rfl, then_ HBW.out hb⟩
                              exact AllReadyH.nil
                            exact AllReadyH.nil
                          exact AllReadyH.nil
                        exact AllReadyH.nil
                      exact AllReadyH.nil
                    exact AllReadyH.nil
                  exact AllReadyH.nil
                exact AllReadyH.nil
              exact AllReadyH.nil
            exact AllReadyH.nil
      have hz1 : 0 ≤ z1 := by omega
      have hd4 : decide (z1 ≥ 0) = true := by simp; omega
      have hd5 : decide (0 ≤ z1) = true := by simp; omega
      clear hc3
      obtain ⟨lv, rfl⟩ : ∃ lv : Nat, z0 = lv := ⟨z0.toNat, by omega⟩
      obtain ⟨ix, rfl⟩ : ∃ ix : Nat, z1 = ix := ⟨z1.toNat, by omega⟩
      have hlv : lv < 7 := by omega
      have hlv7 : (lv : Int) < 7 := by omega
      obtain ⟨A2, k2, hsl⟩ : ∃ A2 k2, W9.cell? ⟨lb, lv, none⟩ = some (.slice A2 (2 ^ lv) k2) := by
        obtain ⟨b2, o2, k2, h2, _⟩ := ag_at HAG.out HBL.out (L := lv) (i := 0) hlv (Nat.two_pow_pos _)
        exact ⟨_, _, h2⟩
      by_cases hc4 : ix < 2 ^ lv
      · obtain ⟨b2, o2, k3, h2, h3⟩ := ag_at HAG.out HBL.out (L := lv) (i := ix) hlv hc4
        have h4 := h2.symm.trans hsl
        injection h4 with h4; injection h4 with h4 _ h5
        subst h4 h5
        have HAI := Lib.hid (atL_in a (lv := lv) (ix := ix) (by omega) hc4)
        generalize nodeL a (6 - lv) ix = xn at h3 HAI
        have HQ := Lib.hid hc4; have HH3 := Lib.hid h3
        generalize hq : 2 ^ lv = q at hsl hc4
        have HSL := Lib.hid hsl
        have hiq : (ix : Int) < (q : Int) := by omega
        have hd6 : decide ((ix : Int) < (q : Int)) = true := by simp; omega
        clear h2 h3 hq hc4
        go_wp2_with fail
        refine wp_region_held_drew (S := (fun W => W.cell? ⟨nb, 0, none⟩ = some (.int .i64 (lv : Int)) ∧ W.cell? ⟨nb, 1, none⟩ = some (.int .i64 (ix : Int)) ∧ W.cell? ⟨lb, lv, none⟩ = some (.slice (some ⟨b2, o2, none⟩) q k3))) (by kernel_rfl) ⟨HNN.out.1, HNN.out.2, HSL.out⟩ (fun hHeld => ?_)
        refine wpAnyH_take (i := 0) (oi := _) (v := ?vq295) rfl (by kernel_rfl) (by kernel_rfl) (by kernel_rfl) (fun _ _ _ h => h) (Or.inl ⟨by rfl, ?hq295⟩) (by assumption) ?rq295
        case hq295 => (intro w hSw; go_simp; try with_reducible rfl)
        try dsimp only [Act.put, List.getElem_toArray, List.getElem_cons_zero, List.getElem_cons_succ]; try simp only [List.setIfInBounds_toArray, List.set_cons_zero, List.set_cons_succ]
        refine wpAnyH_take (i := 1) (oi := _) (v := ?vq296) rfl (by kernel_rfl) (by kernel_rfl) (by kernel_rfl) (fun _ _ _ h => h) (Or.inl ⟨by rfl, ?hq296⟩) (by assumption) ?rq296
        case hq296 => (intro w hSw; go_simp; try with_reducible rfl)
        try dsimp only [Act.put, List.getElem_toArray, List.getElem_cons_zero, List.getElem_cons_succ]; try simp only [List.setIfInBounds_toArray, List.set_cons_zero, List.set_cons_succ]
        refine wpAnyH_take (i := 2) (oi := _) (v := ?vq297) rfl (by kernel_rfl) (by kernel_rfl) (by kernel_rfl) (fun _ _ _ h => h) (Or.inl ⟨by rfl, ?hq297⟩) (by assumption) ?rq297
        case hq297 => (intro w hSw; go_simp; try with_reducible rfl)
        try dsimp only [Act.put, List.getElem_toArray, List.getElem_cons_zero, List.getElem_cons_succ]; try simp only [List.setIfInBounds_toArray, List.set_cons_zero, List.set_cons_succ]
        refine wpAnyH_take (i := 3) (oi := _) (v := ?vq298) rfl (by kernel_rfl) (by kernel_rfl) (by kernel_rfl) (fun _ _ _ h => h) (Or.inl ⟨by rfl, ?hq298⟩) (by assumption) ?rq298
        case hq298 => (intro w hSw; go_simp; try with_reducible rfl)
        try dsimp only [Act.put, List.getElem_toArray, List.getElem_cons_zero, List.getElem_cons_succ]; try simp only [List.setIfInBounds_toArray, List.set_cons_zero, List.set_cons_succ]
        refine wpAnyH_take (i := 4) (oi := _) (v := ?vq299) rfl (by kernel_rfl) (by kernel_rfl) (by kernel_rfl) (fun _ _ _ h => h) (Or.inl ⟨by rfl, ?hq299⟩) (by assumption) ?rq299
        case hq299 => (intro w hSw; go_simp; try with_reducible rfl)
        try dsimp only [Act.put, List.getElem_toArray, List.getElem_cons_zero, List.getElem_cons_succ]; try simp only [List.setIfInBounds_toArray, List.set_cons_zero, List.set_cons_succ]
        refine wpAnyH_take (i := 5) (oi := _) (v := ?vq300) rfl (by kernel_rfl) (by kernel_rfl) (by kernel_rfl) (fun _ _ _ h => h) (Or.inl ⟨by rfl, ?hq300⟩) (by assumption) ?rq300
        case hq300 => (intro w hSw; go_simp; try with_reducible rfl)
        try dsimp only [Act.put, List.getElem_toArray, List.getElem_cons_zero, List.getElem_cons_succ]; try simp only [List.setIfInBounds_toArray, List.set_cons_zero, List.set_cons_succ]
        refine wpAnyH_take (i := 6) (oi := _) (v := ?vq301) rfl (by kernel_rfl) (by kernel_rfl) (by kernel_rfl) (fun _ _ _ h => h) (Or.inl ⟨by rfl, ?hq301⟩) (by assumption) ?rq301
        case hq301 => (intro w hSw; go_simp; try with_reducible rfl)
        try dsimp only [Act.put, List.getElem_toArray, List.getElem_cons_zero, List.getElem_cons_succ]; try simp only [List.setIfInBounds_toArray, List.set_cons_zero, List.set_cons_succ]
        refine wpAnyH_take (i := 7) (oi := _) (v := ?vq302) rfl (by kernel_rfl) (by kernel_rfl) (by kernel_rfl) (fun _ _ _ h => h) (Or.inl ⟨by rfl, ?hq302⟩) (by assumption) ?rq302
        case hq302 => (intro w hSw; go_simp; try with_reducible rfl)
        try dsimp only [Act.put, List.getElem_toArray, List.getElem_cons_zero, List.getElem_cons_succ]; try simp only [List.setIfInBounds_toArray, List.set_cons_zero, List.set_cons_succ]
        refine wpAnyH_take (i := 8) (oi := _) (v := ?vq303) rfl (by kernel_rfl) (by kernel_rfl) (by kernel_rfl) (fun _ _ _ h => h) (Or.inl ⟨by rfl, ?hq303⟩) (by assumption) ?rq303
        case hq303 => (intro w hSw; go_simp; try with_reducible rfl)
        try dsimp only [Act.put, List.getElem_toArray, List.getElem_cons_zero, List.getElem_cons_succ]; try simp only [List.setIfInBounds_toArray, List.set_cons_zero, List.set_cons_succ]
        refine wpAnyH_take (i := 9) (oi := _) (v := ?vq304) rfl (by kernel_rfl) (by kernel_rfl) (by kernel_rfl) (fun _ _ _ h => h) (Or.inl ⟨by rfl, ?hq304⟩) (by assumption) ?rq304
        case hq304 => (intro w hSw; go_simp; try with_reducible rfl)
        try dsimp only [Act.put, List.getElem_toArray, List.getElem_cons_zero, List.getElem_cons_succ]; try simp only [List.setIfInBounds_toArray, List.set_cons_zero, List.set_cons_succ]
        refine wpAnyH_take (i := 10) (oi := _) (v := ?vq305) rfl (by kernel_rfl) (by kernel_rfl) (by kernel_rfl) (fun _ _ _ h => h) (Or.inl ⟨by rfl, ?hq305⟩) (by assumption) ?rq305
        case hq305 => (intro w hSw; go_simp; try with_reducible rfl)
        try dsimp only [Act.put, List.getElem_toArray, List.getElem_cons_zero, List.getElem_cons_succ]; try simp only [List.setIfInBounds_toArray, List.set_cons_zero, List.set_cons_succ]
        refine wpAnyH_take (i := 11) (oi := _) (v := ?vq306) rfl (by kernel_rfl) (by kernel_rfl) (by kernel_rfl) (fun _ _ _ h => h) (Or.inl ⟨by rfl, ?hq306⟩) (by assumption) ?rq306
        case hq306 => (intro w hSw; go_simp; try with_reducible rfl)
        try dsimp only [Act.put, List.getElem_toArray, List.getElem_cons_zero, List.getElem_cons_succ]; try simp only [List.setIfInBounds_toArray, List.set_cons_zero, List.set_cons_succ]
        refine wpAnyH_take (i := 12) (oi := _) (v := ?vq307) rfl (by kernel_rfl) (by kernel_rfl) (by kernel_rfl) (fun _ _ _ h => h) (Or.inl ⟨by rfl, ?hq307⟩) (by assumption) ?rq307
        case hq307 => (intro w hSw; go_simp; try with_reducible rfl)
        try dsimp only [Act.put, List.getElem_toArray, List.getElem_cons_zero, List.getElem_cons_succ]; try simp only [List.setIfInBounds_toArray, List.set_cons_zero, List.set_cons_succ]
        refine wpAnyH_take (i := 13) (oi := _) (v := ?vq308) rfl (by kernel_rfl) (by kernel_rfl) (by kernel_rfl) (fun _ _ _ h => h) (Or.inl ⟨by rfl, ?hq308⟩) (by assumption) ?rq308
        case hq308 => (intro w hSw; go_simp; try with_reducible rfl)
        try dsimp only [Act.put, List.getElem_toArray, List.getElem_cons_zero, List.getElem_cons_succ]; try simp only [List.setIfInBounds_toArray, List.set_cons_zero, List.set_cons_succ]
        refine wpAnyH_take (i := 14) (oi := _) (v := ?vq309) rfl (by kernel_rfl) (by kernel_rfl) (by kernel_rfl) (fun _ _ _ h => h) (Or.inl ⟨by rfl, ?hq309⟩) (by assumption) ?rq309
        case hq309 => (intro w hSw; go_simp; try with_reducible rfl)
        try dsimp only [Act.put, List.getElem_toArray, List.getElem_cons_zero, List.getElem_cons_succ]; try simp only [List.setIfInBounds_toArray, List.set_cons_zero, List.set_cons_succ]
        refine wpAnyH_take (i := 15) (oi := _) (v := ?vq310) rfl (by kernel_rfl) (by kernel_rfl) (by kernel_rfl) (fun _ _ _ h => h) (Or.inl ⟨by rfl, ?hq310⟩) (by assumption) ?rq310
        case hq310 => (intro w hSw; go_simp; try with_reducible rfl)
        try dsimp only [Act.put, List.getElem_toArray, List.getElem_cons_zero, List.getElem_cons_succ]; try simp only [List.setIfInBounds_toArray, List.set_cons_zero, List.set_cons_succ]
        refine wpAnyH_take (i := 16) (oi := _) (v := ?vq311) rfl (by kernel_rfl) (by kernel_rfl) (by kernel_rfl) (fun _ _ _ h => h) (Or.inl ⟨by rfl, ?hq311⟩) (by assumption) ?rq311
        case hq311 => (intro w hSw; go_simp; try with_reducible rfl)
        try dsimp only [Act.put, List.getElem_toArray, List.getElem_cons_zero, List.getElem_cons_succ]; try simp only [List.setIfInBounds_toArray, List.set_cons_zero, List.set_cons_succ]
        refine wpAnyH_take (i := 17) (oi := _) (v := ?vq312) rfl (by kernel_rfl) (by kernel_rfl) (by kernel_rfl) (fun _ _ _ h => h) (Or.inl ⟨by rfl, ?hq312⟩) (by assumption) ?rq312
        case hq312 => (intro w hSw; go_simp; try with_reducible rfl)
        try dsimp only [Act.put, List.getElem_toArray, List.getElem_cons_zero, List.getElem_cons_succ]; try simp only [List.setIfInBounds_toArray, List.set_cons_zero, List.set_cons_succ]
        refine wpAnyH_take (i := 18) (oi := _) (v := ?vq313) rfl (by kernel_rfl) (by kernel_rfl) (by kernel_rfl) (fun _ _ _ h => h) (Or.inl ⟨by rfl, ?hq313⟩) (by assumption) ?rq313
        case hq313 => (intro w hSw; go_simp; try with_reducible rfl)
        try dsimp only [Act.put, List.getElem_toArray, List.getElem_cons_zero, List.getElem_cons_succ]; try simp only [List.setIfInBounds_toArray, List.set_cons_zero, List.set_cons_succ]
        refine wpAnyH_take (i := 19) (oi := _) (v := ?vq314) rfl (by kernel_rfl) (by kernel_rfl) (by kernel_rfl) (fun _ _ _ h => h) (Or.inl ⟨by rfl, ?hq314⟩) (by assumption) ?rq314
        case hq314 => (intro w hSw; go_simp; try with_reducible rfl)
        try dsimp only [Act.put, List.getElem_toArray, List.getElem_cons_zero, List.getElem_cons_succ]; try simp only [List.setIfInBounds_toArray, List.set_cons_zero, List.set_cons_succ]
        refine wpAnyH_take (i := 20) (oi := _) (v := ?vq315) rfl (by kernel_rfl) (by kernel_rfl) (by kernel_rfl) (fun _ _ _ h => h) (Or.inl ⟨by rfl, ?hq315⟩) (by assumption) ?rq315
        case hq315 => (intro w hSw; go_simp; try with_reducible rfl)
        try dsimp only [Act.put, List.getElem_toArray, List.getElem_cons_zero, List.getElem_cons_succ]; try simp only [List.setIfInBounds_toArray, List.set_cons_zero, List.set_cons_succ]
        refine wpAnyH_take (i := 21) (oi := _) (v := ?vq316) rfl (by kernel_rfl) (by kernel_rfl) (by kernel_rfl) (fun _ _ _ h => h) (Or.inl ⟨by rfl, ?hq316⟩) (by assumption) ?rq316
        case hq316 => (intro w hSw; go_simp; try with_reducible rfl)
        try dsimp only [Act.put, List.getElem_toArray, List.getElem_cons_zero, List.getElem_cons_succ]; try simp only [List.setIfInBounds_toArray, List.set_cons_zero, List.set_cons_succ]
        refine wpAnyH_take (i := 22) (oi := _) (v := ?vq317) rfl (by kernel_rfl) (by kernel_rfl) (by kernel_rfl) (fun _ _ _ h => h) (Or.inl ⟨by rfl, ?hq317⟩) (by assumption) ?rq317
        case hq317 => (intro w hSw; go_simp; try with_reducible rfl)
        try dsimp only [Act.put, List.getElem_toArray, List.getElem_cons_zero, List.getElem_cons_succ]; try simp only [List.setIfInBounds_toArray, List.set_cons_zero, List.set_cons_succ]
        refine wpAnyH_done (by kernel_rfl) ?_ _
        have HAG := Lib.hid (HAG.out.below (Below.refl _ _).drew); have HU := Lib.hid (HU.out.below (Below.refl _ _).drew); have HU6 := Lib.hid (HU6.out.below (Below.refl _ _).drew); have HTA := Lib.hid (HTA.out.below (Below.refl _ _).drew)
        have HNN := Lib.hid (And.intro (cell_below (Below.refl _ _).drew HNN.out.1) (cell_below (Below.refl _ _).drew HNN.out.2)); have HR := Lib.hid (HR.out.below (Below.refl _ _).drew); have HB := Lib.hid HB.out.drew; have HBL := Lib.hid (heap_below (Below.refl _ _).drew HBL.out); have HR01 := Lib.hid (And.intro (cell_below (Below.refl _ _).drew HR01.out.1) (cell_below (Below.refl _ _).drew HR01.out.2)); have HSL := Lib.hid (cell_below (Below.refl _ _).drew HSL.out); have HH3 := Lib.hid (cell_below (Below.refl _ _).drew HH3.out)
        generalize W9.drew = WB at HAG HU HU6 HTA HNN HR HB HBL HR01 HSL HH3 ⊢
        go_wp2_with fail
        refine wp_region_held_drew (S := (fun W => W.cell? ⟨nb, 0, none⟩ = some (.int .i64 (lv : Int)) ∧ W.cell? ⟨nb, 1, none⟩ = some (.int .i64 (ix : Int)) ∧ W.cell? ⟨lb, lv, none⟩ = some (.slice (some ⟨b2, o2, none⟩) q k3) ∧ W.cell? ⟨b2, o2 + ix, none⟩ = some (.string xn))) (by kernel_rfl) ⟨HNN.out.1, HNN.out.2, HSL.out, HH3.out⟩ (fun hHeld => ?_)
        refine wpAnyH_take (i := 0) (oi := _) (v := ?vq286) rfl (by kernel_rfl) (by kernel_rfl) (by kernel_rfl) (fun _ _ _ h => h) (Or.inl ⟨by rfl, ?hq286⟩) (by assumption) ?rq286
        case hq286 => (intro w hSw; go_simp; try with_reducible rfl)
        try dsimp only [Act.put, List.getElem_toArray, List.getElem_cons_zero, List.getElem_cons_succ]; try simp only [List.setIfInBounds_toArray, List.set_cons_zero, List.set_cons_succ]
        refine wpAnyH_take (i := 1) (oi := _) (v := ?vq287) rfl (by kernel_rfl) (by kernel_rfl) (by kernel_rfl) (fun _ _ _ h => h) (Or.inl ⟨by rfl, ?hq287⟩) (by assumption) ?rq287
        case hq287 => (intro w hSw; go_simp; try with_reducible rfl)
        try dsimp only [Act.put, List.getElem_toArray, List.getElem_cons_zero, List.getElem_cons_succ]; try simp only [List.setIfInBounds_toArray, List.set_cons_zero, List.set_cons_succ]
        refine wpAnyH_take (i := 2) (oi := _) (v := ?vq288) rfl (by kernel_rfl) (by kernel_rfl) (by kernel_rfl) (fun _ _ _ h => h) (Or.inl ⟨by rfl, ?hq288⟩) (by assumption) ?rq288
        case hq288 => (intro w hSw; go_simp; try with_reducible rfl)
        try dsimp only [Act.put, List.getElem_toArray, List.getElem_cons_zero, List.getElem_cons_succ]; try simp only [List.setIfInBounds_toArray, List.set_cons_zero, List.set_cons_succ]
        refine wpAnyH_take (i := 3) (oi := _) (v := ?vq289) rfl (by kernel_rfl) (by kernel_rfl) (by kernel_rfl) (fun _ _ _ h => h) (Or.inl ⟨by rfl, ?hq289⟩) (by assumption) ?rq289
        case hq289 => (intro w hSw; go_simp; try with_reducible rfl)
        try dsimp only [Act.put, List.getElem_toArray, List.getElem_cons_zero, List.getElem_cons_succ]; try simp only [List.setIfInBounds_toArray, List.set_cons_zero, List.set_cons_succ]
        refine wpAnyH_take (i := 4) (oi := _) (v := ?vq290) rfl (by kernel_rfl) (by kernel_rfl) (by kernel_rfl) (fun _ _ _ h => h) (Or.inl ⟨by rfl, ?hq290⟩) (by assumption) ?rq290
        case hq290 => (intro w hSw; go_simp; try with_reducible rfl)
        try dsimp only [Act.put, List.getElem_toArray, List.getElem_cons_zero, List.getElem_cons_succ]; try simp only [List.setIfInBounds_toArray, List.set_cons_zero, List.set_cons_succ]
        refine wpAnyH_take (i := 5) (oi := _) (v := ?vq291) rfl (by kernel_rfl) (by kernel_rfl) (by kernel_rfl) (fun _ _ _ h => h) (Or.inl ⟨by rfl, ?hq291⟩) (by assumption) ?rq291
        case hq291 => (intro w hSw; go_simp; try with_reducible rfl)
        try dsimp only [Act.put, List.getElem_toArray, List.getElem_cons_zero, List.getElem_cons_succ]; try simp only [List.setIfInBounds_toArray, List.set_cons_zero, List.set_cons_succ]
        refine wpAnyH_take (i := 6) (oi := _) (v := ?vq292) rfl (by kernel_rfl) (by kernel_rfl) (by kernel_rfl) (fun _ _ _ h => h) (Or.inl ⟨by rfl, ?hq292⟩) (by assumption) ?rq292
        case hq292 => (intro w hSw; go_simp; try with_reducible rfl)
        try dsimp only [Act.put, List.getElem_toArray, List.getElem_cons_zero, List.getElem_cons_succ]; try simp only [List.setIfInBounds_toArray, List.set_cons_zero, List.set_cons_succ]
        refine wpAnyH_take (i := 7) (oi := _) (v := ?vq293) rfl (by kernel_rfl) (by kernel_rfl) (by kernel_rfl) (fun _ _ _ h => h) (Or.inl ⟨by rfl, ?hq293⟩) (by assumption) ?rq293
        case hq293 => (intro w hSw; go_simp; try with_reducible rfl)
        try dsimp only [Act.put, List.getElem_toArray, List.getElem_cons_zero, List.getElem_cons_succ]; try simp only [List.setIfInBounds_toArray, List.set_cons_zero, List.set_cons_succ]
        refine wpAnyH_take (i := 8) (oi := _) (v := ?vq294) rfl (by kernel_rfl) (by kernel_rfl) (by kernel_rfl) (fun _ _ _ h => h) (Or.inl ⟨by rfl, ?hq294⟩) (by assumption) ?rq294
        case hq294 => (intro w hSw; go_simp; try with_reducible rfl)
        try dsimp only [Act.put, List.getElem_toArray, List.getElem_cons_zero, List.getElem_cons_succ]; try simp only [List.setIfInBounds_toArray, List.set_cons_zero, List.set_cons_succ]
        refine wpAnyH_done (by kernel_rfl) ?_ _
        have HAG := Lib.hid (HAG.out.below (Below.refl _ _).drew); have HU := Lib.hid (HU.out.below (Below.refl _ _).drew); have HU6 := Lib.hid (HU6.out.below (Below.refl _ _).drew); have HTA := Lib.hid (HTA.out.below (Below.refl _ _).drew)
        have HNN := Lib.hid (And.intro (cell_below (Below.refl _ _).drew HNN.out.1) (cell_below (Below.refl _ _).drew HNN.out.2)); have HR := Lib.hid (HR.out.below (Below.refl _ _).drew); have HB := Lib.hid HB.out.drew; have HBL := Lib.hid (heap_below (Below.refl _ _).drew HBL.out); have HR01 := Lib.hid (And.intro (cell_below (Below.refl _ _).drew HR01.out.1) (cell_below (Below.refl _ _).drew HR01.out.2))
        generalize WB.drew = W8 at HAG HU HU6 HTA HNN HR HB HBL HR01 ⊢
        have HCE := Lib.hid (fun W (h : Below W8.heap.size W8 W) => (⟨heap_below h HBL.out, cell_below h HNN.out.1, cell_below h HNN.out.2, cell_below h HR01.out.1, cell_below h HR01.out.2⟩ : W.heap[lb]? = some (.cells cs 44 (0, 0)) ∧ W.cell? ⟨nb, 0, none⟩ = some (.int .i64 (lv : Int)) ∧ W.cell? ⟨nb, 1, none⟩ = some (.int .i64 (ix : Int)) ∧ W.cell? ⟨lb, 0, none⟩ = some (.slice (some ⟨b0, o0, none⟩) 1 c0) ∧ W.cell? ⟨b0, o0, none⟩ = some (.string (rootT a))))
        clear HNN HBL HR01 HSL HH3
        go_wp2_with fail
        have HAT := Lib.hid (fun W (h : Below W8.heap.size W8 W) => quietC (at_any ta a (lv : Int) (ix : Int) W (HTA.out.below h)))
        rw [HAI.out] at HAT
        clear HAI
        have hxn : (xn.toList == xn.toList) = true := by simp
        have HPR := Lib.hid (fun W (h : Below W8.heap.size W8 W) => prove_any ta a (lv : Int) W (HTA.out.below h))
        have HPD := Lib.hid (fun W (h : Below W8.heap.size W8 W) => rProve_any a bs1 cs (lv : Int) W (HAG.out.below h))
        have hprl : (proveL a (lv : Int)).length ≤ 64 := by unfold proveL; split <;> simp [wayL_len]
        generalize proveL a (lv : Int) = pr at HPR HPD hprl
        have HIN := Lib.hid (fun W (h : Below W8.heap.size W8 W) => pin_any A n c a (lv : Int) W (HR.out.below h) HN.out hn HL.out.2)
        have HID := Lib.hid (fun W (h : Below W8.heap.size W8 W) => rin_any A n c a (lv : Int) W (HR.out.below h) HN.out hn HL.out.2)
        have hinl : (inL (bktB (lv : Int)) a).length ≤ 1000 := Nat.le_trans (inL_len _ _) (by have := HN.out; omega)
        generalize inL (bktB (lv : Int)) a = own at HIN HID hinl
        have HRT := Lib.hid (fun W (h : Below W8.heap.size W8 W) => trieRoot_any ta a W (HTA.out.below h))
        generalize rootT a = x at HRT HCE
        have HPRL := Lib.hid hprl; have HINL := Lib.hid hinl
        clear HAG HTA hprl hinl
        go_wp2_with fail
        go_loopw [15] (fun i wr => ∃ j : Nat, j ≤ n ∧ i = .int .i64 j ∧ Below W8.heap.size W8 wr) (fun i _ => n - (intOf i).toNat)
        case atStart => exact ⟨0, Nat.zero_le _, rfl, Below.refl _ _⟩
        case round =>
          obtain ⟨j, hj, rfl, hbel⟩ := hrel
          by_cases hlt : j < n
          · have hx : j < a.length := by have := HN.out; omega
            obtain ⟨b, off, rfl, hrg⟩ := row_leaf.at_ HR.out j hx
            have hs := HL.out.2 a[j] (List.getElem_mem hx)
            generalize a[j] = s at hrg hs
            obtain ⟨sp, sd⟩ := s
            have HG0 := Lib.hid (cell_below hbel (show W8.cell? ⟨b, off + j * 2, none⟩ = some (.string sp) from rangeAt_cell hrg 0 rfl))
            have HX := Lib.hid (fun W => bucket_any sp W (by have := hs.1; simp only at this; omega))
            have HY := Lib.hid (fun W => rbucket_any sp W (by have := hs.1; simp only at this; omega))
            generalize bktOf sp = g at HX HY
            have hgg : ((g : Int) != (g : Int)) = false := by simp
            have hjn : (j : Int) < (n : Int) := by omega
            have hj0 : (0 : Int) ≤ (j : Int) := by omega
            clear hs hrg
            have hb : Below wr.heap.size wr wr.drew := (Below.refl _ _).drew
            go_wp2_with fail
            refine wp_region_held_drew (S := (fun W => W.cell? ⟨b, off + j * 2, none⟩ = some (.string sp))) (by kernel_rfl) HG0.out (fun hHeld => ?_)
            refine wpAnyH_take (i := 0) (oi := _) (v := ?vq232) rfl (by kernel_rfl) (by kernel_rfl) (by kernel_rfl) (fun _ _ _ h => h) (Or.inl ⟨by rfl, ?hq232⟩) (by assumption) ?rq232
            case hq232 => (intro w hSw; go_simp; try with_reducible rfl)
            try dsimp only [Act.put, List.getElem_toArray, List.getElem_cons_zero, List.getElem_cons_succ]; try simp only [List.setIfInBounds_toArray, List.set_cons_zero, List.set_cons_succ]
            refine wpAnyH_take (i := 1) (oi := _) (v := ?vq233) rfl (by kernel_rfl) (by kernel_rfl) (by kernel_rfl) (fun _ _ _ h => h) (Or.inl ⟨by rfl, ?hq233⟩) (by assumption) ?rq233
            case hq233 => (intro w hSw; go_simp; try with_reducible rfl)
            try dsimp only [Act.put, List.getElem_toArray, List.getElem_cons_zero, List.getElem_cons_succ]; try simp only [List.setIfInBounds_toArray, List.set_cons_zero, List.set_cons_succ]
            refine wpAnyH_take (i := 2) (oi := _) (v := ?vq234) rfl (by kernel_rfl) (by kernel_rfl) (by kernel_rfl) (fun _ _ _ h => h) (Or.inl ⟨by rfl, ?hq234⟩) (by assumption) ?rq234
            case hq234 => (intro w hSw; go_simp; try with_reducible rfl)
            try dsimp only [Act.put, List.getElem_toArray, List.getElem_cons_zero, List.getElem_cons_succ]; try simp only [List.setIfInBounds_toArray, List.set_cons_zero, List.set_cons_succ]
            refine wpAnyH_take (i := 3) (oi := _) (v := ?vq235) rfl (by kernel_rfl) (by kernel_rfl) (by kernel_rfl) (fun _ _ _ h => h) (Or.inl ⟨by rfl, ?hq235⟩) (by assumption) ?rq235
            case hq235 => (intro w hSw; go_simp; try with_reducible rfl)
            try dsimp only [Act.put, List.getElem_toArray, List.getElem_cons_zero, List.getElem_cons_succ]; try simp only [List.setIfInBounds_toArray, List.set_cons_zero, List.set_cons_succ]
            refine wpAnyH_take (i := 4) (oi := _) (v := ?vq236) rfl (by kernel_rfl) (by kernel_rfl) (by kernel_rfl) (fun _ _ _ h => h) (Or.inl ⟨by rfl, ?hq236⟩) (by assumption) ?rq236
            case hq236 => (intro w hSw; go_simp; try with_reducible rfl)
            try dsimp only [Act.put, List.getElem_toArray, List.getElem_cons_zero, List.getElem_cons_succ]; try simp only [List.setIfInBounds_toArray, List.set_cons_zero, List.set_cons_succ]
            refine wpAnyH_take (i := 6) (oi := _) (v := ?vq237) rfl (by kernel_rfl) (by kernel_rfl) (by kernel_rfl) (fun _ _ _ h => h) (Or.inl ⟨by rfl, ?hq237⟩) (by assumption) ?rq237
            case hq237 => (intro w hSw; go_simp; try with_reducible rfl)
            try dsimp only [Act.put, List.getElem_toArray, List.getElem_cons_zero, List.getElem_cons_succ]; try simp only [List.setIfInBounds_toArray, List.set_cons_zero, List.set_cons_succ]
            refine wpAnyH_take (i := 7) (oi := _) (v := ?vq238) rfl (by kernel_rfl) (by kernel_rfl) (by kernel_rfl) (fun _ _ _ h => h) (Or.inl ⟨by rfl, ?hq238⟩) (by assumption) ?rq238
            case hq238 => (intro w hSw; go_simp; try with_reducible rfl)
            try dsimp only [Act.put, List.getElem_toArray, List.getElem_cons_zero, List.getElem_cons_succ]; try simp only [List.setIfInBounds_toArray, List.set_cons_zero, List.set_cons_succ]
            refine wpAnyH_take (i := 8) (oi := _) (v := ?vq239) rfl (by kernel_rfl) (by kernel_rfl) (by kernel_rfl) (fun _ _ _ h => h) (Or.inl ⟨by rfl, ?hq239⟩) (by assumption) ?rq239
            case hq239 => (intro w hSw; go_simp; try with_reducible rfl)
            try dsimp only [Act.put, List.getElem_toArray, List.getElem_cons_zero, List.getElem_cons_succ]; try simp only [List.setIfInBounds_toArray, List.set_cons_zero, List.set_cons_succ]
            refine wpAnyH_take (i := 9) (oi := _) (v := ?vq240) rfl (by kernel_rfl) (by kernel_rfl) (by kernel_rfl) (fun _ _ _ h => h) (Or.inl ⟨by rfl, ?hq240⟩) (by assumption) ?rq240
            case hq240 => (intro w hSw; go_simp; try with_reducible rfl)
            try dsimp only [Act.put, List.getElem_toArray, List.getElem_cons_zero, List.getElem_cons_succ]; try simp only [List.setIfInBounds_toArray, List.set_cons_zero, List.set_cons_succ]
            refine wpAnyH_take (i := 10) (oi := _) (v := ?vq241) rfl (by kernel_rfl) (by kernel_rfl) (by kernel_rfl) (fun _ _ _ h => h) (Or.inl ⟨by rfl, ?hq241⟩) (by assumption) ?rq241
            case hq241 => (intro w hSw; go_simp; try with_reducible rfl)
            try dsimp only [Act.put, List.getElem_toArray, List.getElem_cons_zero, List.getElem_cons_succ]; try simp only [List.setIfInBounds_toArray, List.set_cons_zero, List.set_cons_succ]
            refine wpAnyH_ready (rs := [5]) (by kernel_rfl) (by simp) ?_
            refine AllReadyH.cons (o := _) rfl (fun K hK => ?_) ?_
            · rw [if_pos (by rfl)]
              go_simp
              refine (HX.out _).mono ?_
              rintro e wx ⟨rfl, hbx⟩
              have hb := then_ hb hbx
              clear hbx
              go_wp2_with fail
              refine hK.out _ _ (cell_below hb HG0.out) (fun hHeld => ?_)
              clear hK K
              try dsimp only [Act.put, List.getElem_toArray, List.getElem_cons_zero, List.getElem_cons_succ]; try simp only [List.setIfInBounds_toArray, List.set_cons_zero, List.set_cons_succ]
              refine wpAnyH_ready (rs := [11]) (by kernel_rfl) (by simp) ?_
              refine AllReadyH.cons (o := _) rfl (fun K hK => ?_) ?_
              · rw [if_pos (by rfl)]
                go_simp
                refine (HY.out _).mono ?_
                rintro e wx ⟨rfl, hbx⟩
                have hb := then_ hb hbx
                clear hbx
                go_wp2_with fail
                refine hK.out _ _ (cell_below hb HG0.out) (fun hHeld => ?_)
                clear hK K
                try dsimp only [Act.put, List.getElem_toArray, List.getElem_cons_zero, List.getElem_cons_succ]; try simp only [List.setIfInBounds_toArray, List.set_cons_zero, List.set_cons_succ]
                refine wpAnyH_take (i := 12) (oi := _) (v := ?vq242) rfl (by kernel_rfl) (by kernel_rfl) (by kernel_rfl) (fun _ _ _ h => h) (Or.inl ⟨by rfl, ?hq242⟩) (by assumption) ?rq242
                case hq242 => (intro w hSw; go_simp; try with_reducible rfl)
                try dsimp only [Act.put, List.getElem_toArray, List.getElem_cons_zero, List.getElem_cons_succ]; try simp only [List.setIfInBounds_toArray, List.set_cons_zero, List.set_cons_succ]
                refine wpAnyH_done (by kernel_rfl) ?_ _
                go_wp2
                go_roundw
                case rel => exact ⟨j + 1, by omega, by go_num, then_ hbel hb⟩
                case measure => simp [intOf]; omega
              exact AllReadyH.nil
            exact AllReadyH.nil
          · have hjn : (n : Int) ≤ (j : Int) := by omega
            have hb : Below wr.heap.size wr wr.drew := (Below.refl _ _).drew
            have HC := Lib.hid (fun W (h : Below wr.heap.size wr W) => HCE.out W (then_ hbel h)); have HBW := Lib.hid (then_ HB.out hbel); have HB8 := Lib.hid hbel
            have hxx : (x.toList == x.toList) = true := by simp
            clear hlt hbel
            go_wp2_with fail
            refine wp_region_held_drew (S := (fun W => W.heap[lb]? = some (.cells cs 44 (0, 0)) ∧ W.cell? ⟨nb, 0, none⟩ = some (.int .i64 (lv : Int)) ∧ W.cell? ⟨nb, 1, none⟩ = some (.int .i64 (ix : Int)) ∧ W.cell? ⟨lb, 0, none⟩ = some (.slice (some ⟨b0, o0, none⟩) 1 c0) ∧ W.cell? ⟨b0, o0, none⟩ = some (.string x))) (by kernel_rfl) (HC.out _ (Below.refl _ _).drew) (fun hHeld => ?_)
            refine wpAnyH_take (i := 0) (oi := _) (v := ?vq243) rfl (by kernel_rfl) (by kernel_rfl) (by kernel_rfl) (fun _ _ _ h => h) (Or.inl ⟨by rfl, ?hq243⟩) (by assumption) ?rq243
            case hq243 => (intro w hSw; go_simp; try with_reducible rfl)
            try dsimp only [Act.put, List.getElem_toArray, List.getElem_cons_zero, List.getElem_cons_succ]; try simp only [List.setIfInBounds_toArray, List.set_cons_zero, List.set_cons_succ]
            refine wpAnyH_take (i := 1) (oi := _) (v := ?vq244) rfl (by kernel_rfl) (by kernel_rfl) (by kernel_rfl) (fun _ _ _ h => h) (Or.inl ⟨by rfl, ?hq244⟩) (by assumption) ?rq244
            case hq244 => (intro w hSw; go_simp; try with_reducible rfl)
            try dsimp only [Act.put, List.getElem_toArray, List.getElem_cons_zero, List.getElem_cons_succ]; try simp only [List.setIfInBounds_toArray, List.set_cons_zero, List.set_cons_succ]
            refine wpAnyH_ready (rs := [2]) (by kernel_rfl) (by simp) ?_
            refine AllReadyH.cons (o := _) rfl (fun K hK => ?_) ?_
            · rw [if_pos (by rfl)]
              go_simp
              refine (sameInts_any A5 pl c5 p A6 pl c6 p _ (HU.out.below (then_ HB8.out hb)) HPN.out (by omega) (HU6.out.below (then_ HB8.out hb)) HPN.out (by omega)).mono ?_
              rintro e wx ⟨rfl, hbx⟩
              rw [show decide (p = p) = true by simp]
              have hb := then_ hb hbx
              clear hbx
              go_wp2_with fail
              refine hK.out _ _ (HC.out _ hb) (fun hHeld => ?_)
              clear hK K
              try dsimp only [Act.put, List.getElem_toArray, List.getElem_cons_zero, List.getElem_cons_succ]; try simp only [List.setIfInBounds_toArray, List.set_cons_zero, List.set_cons_succ]
              refine wpAnyH_take (i := 3) (oi := _) (v := ?vq245) rfl (by kernel_rfl) (by kernel_rfl) (by kernel_rfl) (fun _ _ _ h => h) (Or.inl ⟨by rfl, ?hq245⟩) (by assumption) ?rq245
              case hq245 => (intro w hSw; go_simp; try with_reducible rfl)
              try dsimp only [Act.put, List.getElem_toArray, List.getElem_cons_zero, List.getElem_cons_succ]; try simp only [List.setIfInBounds_toArray, List.set_cons_zero, List.set_cons_succ]
              refine wpAnyH_take (i := 4) (oi := _) (v := ?vq246) rfl (by kernel_rfl) (by kernel_rfl) (by kernel_rfl) (fun _ _ _ h => h) (Or.inl ⟨by rfl, ?hq246⟩) (by assumption) ?rq246
              case hq246 => (intro w hSw; go_simp; try with_reducible rfl)
              try dsimp only [Act.put, List.getElem_toArray, List.getElem_cons_zero, List.getElem_cons_succ]; try simp only [List.setIfInBounds_toArray, List.set_cons_zero, List.set_cons_succ]
              refine wpAnyH_take (i := 5) (oi := _) (v := ?vq247) rfl (by kernel_rfl) (by kernel_rfl) (by kernel_rfl) (fun _ _ _ h => h) (Or.inl ⟨by rfl, ?hq247⟩) (by assumption) ?rq247
              case hq247 => (intro w hSw; go_simp; try with_reducible rfl)
              try dsimp only [Act.put, List.getElem_toArray, List.getElem_cons_zero, List.getElem_cons_succ]; try simp only [List.setIfInBounds_toArray, List.set_cons_zero, List.set_cons_succ]
              refine wpAnyH_take (i := 6) (oi := _) (v := ?vq248) rfl (by kernel_rfl) (by kernel_rfl) (by kernel_rfl) (fun _ _ _ h => h) (Or.inl ⟨by rfl, ?hq248⟩) (by assumption) ?rq248
              case hq248 => (intro w hSw; go_simp; try with_reducible rfl)
              try dsimp only [Act.put, List.getElem_toArray, List.getElem_cons_zero, List.getElem_cons_succ]; try simp only [List.setIfInBounds_toArray, List.set_cons_zero, List.set_cons_succ]
              refine wpAnyH_take (i := 7) (oi := _) (v := ?vq249) rfl (by kernel_rfl) (by kernel_rfl) (by kernel_rfl) (fun _ _ _ h => h) (Or.inl ⟨by rfl, ?hq249⟩) (by assumption) ?rq249
              case hq249 => (intro w hSw; go_simp; try with_reducible rfl)
              try dsimp only [Act.put, List.getElem_toArray, List.getElem_cons_zero, List.getElem_cons_succ]; try simp only [List.setIfInBounds_toArray, List.set_cons_zero, List.set_cons_succ]
              refine wpAnyH_take (i := 8) (oi := _) (v := ?vq250) rfl (by kernel_rfl) (by kernel_rfl) (by kernel_rfl) (fun _ _ _ h => h) (Or.inl ⟨by rfl, ?hq250⟩) (by assumption) ?rq250
              case hq250 => (intro w hSw; go_simp; try with_reducible rfl)
              try dsimp only [Act.put, List.getElem_toArray, List.getElem_cons_zero, List.getElem_cons_succ]; try simp only [List.setIfInBounds_toArray, List.set_cons_zero, List.set_cons_succ]
              refine wpAnyH_take (i := 9) (oi := _) (v := ?vq251) rfl (by kernel_rfl) (by kernel_rfl) (by kernel_rfl) (fun _ _ _ h => h) (Or.inl ⟨by rfl, ?hq251⟩) (by assumption) ?rq251
              case hq251 => (intro w hSw; go_simp; try with_reducible rfl)
              try dsimp only [Act.put, List.getElem_toArray, List.getElem_cons_zero, List.getElem_cons_succ]; try simp only [List.setIfInBounds_toArray, List.set_cons_zero, List.set_cons_succ]
              refine wpAnyH_take (i := 10) (oi := _) (v := ?vq252) rfl (by kernel_rfl) (by kernel_rfl) (by kernel_rfl) (fun _ _ _ h => h) (Or.inl ⟨by rfl, ?hq252⟩) (by assumption) ?rq252
              case hq252 => (intro w hSw; go_simp; try with_reducible rfl)
              try dsimp only [Act.put, List.getElem_toArray, List.getElem_cons_zero, List.getElem_cons_succ]; try simp only [List.setIfInBounds_toArray, List.set_cons_zero, List.set_cons_succ]
              refine wpAnyH_take (i := 11) (oi := _) (v := ?vq253) rfl (by kernel_rfl) (by kernel_rfl) (by kernel_rfl) (fun _ _ _ h => h) (Or.inl ⟨by rfl, ?hq253⟩) (by assumption) ?rq253
              case hq253 => (intro w hSw; go_simp; try with_reducible rfl)
              try dsimp only [Act.put, List.getElem_toArray, List.getElem_cons_zero, List.getElem_cons_succ]; try simp only [List.setIfInBounds_toArray, List.set_cons_zero, List.set_cons_succ]
              refine wpAnyH_take (i := 12) (oi := _) (v := ?vq254) rfl (by kernel_rfl) (by kernel_rfl) (by kernel_rfl) (fun _ _ _ h => h) (Or.inl ⟨by rfl, ?hq254⟩) (by assumption) ?rq254
              case hq254 => (intro w hSw; go_simp; try with_reducible rfl)
              try dsimp only [Act.put, List.getElem_toArray, List.getElem_cons_zero, List.getElem_cons_succ]; try simp only [List.setIfInBounds_toArray, List.set_cons_zero, List.set_cons_succ]
              refine wpAnyH_take (i := 13) (oi := _) (v := ?vq255) rfl (by kernel_rfl) (by kernel_rfl) (by kernel_rfl) (fun _ _ _ h => h) (Or.inl ⟨by rfl, ?hq255⟩) (by assumption) ?rq255
              case hq255 => (intro w hSw; go_simp; try with_reducible rfl)
              try dsimp only [Act.put, List.getElem_toArray, List.getElem_cons_zero, List.getElem_cons_succ]; try simp only [List.setIfInBounds_toArray, List.set_cons_zero, List.set_cons_succ]
              refine wpAnyH_take (i := 15) (oi := _) (v := ?vq256) rfl (by kernel_rfl) (by kernel_rfl) (by kernel_rfl) (fun _ _ _ h => h) (Or.inl ⟨by rfl, ?hq256⟩) (by assumption) ?rq256
              case hq256 => (intro w hSw; go_simp; try with_reducible rfl)
              try dsimp only [Act.put, List.getElem_toArray, List.getElem_cons_zero, List.getElem_cons_succ]; try simp only [List.setIfInBounds_toArray, List.set_cons_zero, List.set_cons_succ]
              refine wpAnyH_ready (rs := [14]) (by kernel_rfl) (by simp) ?_
              refine AllReadyH.cons (o := _) rfl (fun K hK => ?_) ?_
              · rw [if_pos (by rfl)]
                go_simp
                refine (HAT.out _ (then_ HB8.out hb)).mono ?_
                rintro e wx ⟨rfl, hbx⟩
                have hb := then_ hb hbx
                clear hbx
                go_wp2_with fail
                refine hK.out _ _ (HC.out _ hb) (fun hHeld => ?_)
                clear hK K
                try dsimp only [Act.put, List.getElem_toArray, List.getElem_cons_zero, List.getElem_cons_succ]; try simp only [List.setIfInBounds_toArray, List.set_cons_zero, List.set_cons_succ]
                refine wpAnyH_take (i := 16) (oi := _) (v := ?vq257) rfl (by kernel_rfl) (by kernel_rfl) (by kernel_rfl) (fun _ _ _ h => h) (Or.inl ⟨by rfl, ?hq257⟩) (by assumption) ?rq257
                case hq257 => (intro w hSw; go_simp; try with_reducible rfl)
                try dsimp only [Act.put, List.getElem_toArray, List.getElem_cons_zero, List.getElem_cons_succ]; try simp only [List.setIfInBounds_toArray, List.set_cons_zero, List.set_cons_succ]
                refine wpAnyH_take (i := 17) (oi := _) (v := ?vq258) rfl (by kernel_rfl) (by kernel_rfl) (by kernel_rfl) (fun _ _ _ h => h) (Or.inl ⟨by rfl, ?hq258⟩) (by assumption) ?rq258
                case hq258 => (intro w hSw; go_simp; try with_reducible rfl)
                try dsimp only [Act.put, List.getElem_toArray, List.getElem_cons_zero, List.getElem_cons_succ]; try simp only [List.setIfInBounds_toArray, List.set_cons_zero, List.set_cons_succ]
                refine wpAnyH_take (i := 18) (oi := _) (v := ?vq259) rfl (by kernel_rfl) (by kernel_rfl) (by kernel_rfl) (fun _ _ _ h => h) (Or.inl ⟨by rfl, ?hq259⟩) (by assumption) ?rq259
                case hq259 => (intro w hSw; go_simp; try with_reducible rfl)
                try dsimp only [Act.put, List.getElem_toArray, List.getElem_cons_zero, List.getElem_cons_succ]; try simp only [List.setIfInBounds_toArray, List.set_cons_zero, List.set_cons_succ]
                refine wpAnyH_take (i := 19) (oi := _) (v := ?vq260) rfl (by kernel_rfl) (by kernel_rfl) (by kernel_rfl) (fun _ _ _ h => h) (Or.inl ⟨by rfl, ?hq260⟩) (by assumption) ?rq260
                case hq260 => (intro w hSw; go_simp; try with_reducible rfl)
                try dsimp only [Act.put, List.getElem_toArray, List.getElem_cons_zero, List.getElem_cons_succ]; try simp only [List.setIfInBounds_toArray, List.set_cons_zero, List.set_cons_succ]
                refine wpAnyH_take (i := 21) (oi := _) (v := ?vq261) rfl (by kernel_rfl) (by kernel_rfl) (by kernel_rfl) (fun _ _ _ h => h) (Or.inl ⟨by rfl, ?hq261⟩) (by assumption) ?rq261
                case hq261 => (intro w hSw; go_simp; try with_reducible rfl)
                try dsimp only [Act.put, List.getElem_toArray, List.getElem_cons_zero, List.getElem_cons_succ]; try simp only [List.setIfInBounds_toArray, List.set_cons_zero, List.set_cons_succ]
                refine wpAnyH_take (i := 22) (oi := _) (v := ?vq262) rfl (by kernel_rfl) (by kernel_rfl) (by kernel_rfl) (fun _ _ _ h => h) (Or.inl ⟨by rfl, ?hq262⟩) (by assumption) ?rq262
                case hq262 => (intro w hSw; go_simp; try with_reducible rfl)
                try dsimp only [Act.put, List.getElem_toArray, List.getElem_cons_zero, List.getElem_cons_succ]; try simp only [List.setIfInBounds_toArray, List.set_cons_zero, List.set_cons_succ]
                refine wpAnyH_take (i := 23) (oi := _) (v := ?vq263) rfl (by kernel_rfl) (by kernel_rfl) (by kernel_rfl) (fun _ _ _ h => h) (Or.inl ⟨by rfl, ?hq263⟩) (by assumption) ?rq263
                case hq263 => (intro w hSw; go_simp; try with_reducible rfl)
                try dsimp only [Act.put, List.getElem_toArray, List.getElem_cons_zero, List.getElem_cons_succ]; try simp only [List.setIfInBounds_toArray, List.set_cons_zero, List.set_cons_succ]
                refine wpAnyH_take (i := 24) (oi := _) (v := ?vq264) rfl (by kernel_rfl) (by kernel_rfl) (by kernel_rfl) (fun _ _ _ h => h) (Or.inl ⟨by rfl, ?hq264⟩) (by assumption) ?rq264
                case hq264 => (intro w hSw; go_simp; try with_reducible rfl)
                try dsimp only [Act.put, List.getElem_toArray, List.getElem_cons_zero, List.getElem_cons_succ]; try simp only [List.setIfInBounds_toArray, List.set_cons_zero, List.set_cons_succ]
                refine wpAnyH_ready (rs := [20]) (by kernel_rfl) (by simp) ?_
                refine AllReadyH.cons (o := _) rfl (fun K hK => ?_) ?_
                · rw [if_pos (by rfl)]
                  go_simp
                  refine (quietC (HRT.out _ (then_ HB8.out hb))).mono ?_
                  rintro e wx ⟨rfl, hbx⟩
                  have hb := then_ hb hbx
                  clear hbx
                  go_wp2_with fail
                  refine hK.out _ _ (HC.out _ hb) (fun hHeld => ?_)
                  clear hK K
                  try dsimp only [Act.put, List.getElem_toArray, List.getElem_cons_zero, List.getElem_cons_succ]; try simp only [List.setIfInBounds_toArray, List.set_cons_zero, List.set_cons_succ]
                  refine wpAnyH_take (i := 25) (oi := _) (v := ?vq265) rfl (by kernel_rfl) (by kernel_rfl) (by kernel_rfl) (fun _ _ _ h => h) (Or.inl ⟨by rfl, ?hq265⟩) (by assumption) ?rq265
                  case hq265 => (intro w hSw; go_simp; try with_reducible rfl)
                  try dsimp only [Act.put, List.getElem_toArray, List.getElem_cons_zero, List.getElem_cons_succ]; try simp only [List.setIfInBounds_toArray, List.set_cons_zero, List.set_cons_succ]
                  refine wpAnyH_take (i := 26) (oi := _) (v := ?vq266) rfl (by kernel_rfl) (by kernel_rfl) (by kernel_rfl) (fun _ _ _ h => h) (Or.inl ⟨by rfl, ?hq266⟩) (by assumption) ?rq266
                  case hq266 => (intro w hSw; go_simp; try with_reducible rfl)
                  try dsimp only [Act.put, List.getElem_toArray, List.getElem_cons_zero, List.getElem_cons_succ]; try simp only [List.setIfInBounds_toArray, List.set_cons_zero, List.set_cons_succ]
                  refine wpAnyH_take (i := 27) (oi := _) (v := ?vq267) rfl (by kernel_rfl) (by kernel_rfl) (by kernel_rfl) (fun _ _ _ h => h) (Or.inl ⟨by rfl, ?hq267⟩) (by assumption) ?rq267
                  case hq267 => (intro w hSw; go_simp; try with_reducible rfl)
                  try dsimp only [Act.put, List.getElem_toArray, List.getElem_cons_zero, List.getElem_cons_succ]; try simp only [List.setIfInBounds_toArray, List.set_cons_zero, List.set_cons_succ]
                  refine wpAnyH_take (i := 28) (oi := _) (v := ?vq268) rfl (by kernel_rfl) (by kernel_rfl) (by kernel_rfl) (fun _ _ _ h => h) (Or.inl ⟨by rfl, ?hq268⟩) (by assumption) ?rq268
                  case hq268 => (intro w hSw; go_simp; try with_reducible rfl)
                  try dsimp only [Act.put, List.getElem_toArray, List.getElem_cons_zero, List.getElem_cons_succ]; try simp only [List.setIfInBounds_toArray, List.set_cons_zero, List.set_cons_succ]
                  refine wpAnyH_take (i := 29) (oi := _) (v := ?vq269) rfl (by kernel_rfl) (by kernel_rfl) (by kernel_rfl) (fun _ _ _ h => h) (Or.inl ⟨by rfl, ?hq269⟩) (by assumption) ?rq269
                  case hq269 => (intro w hSw; go_simp; try with_reducible rfl)
                  try dsimp only [Act.put, List.getElem_toArray, List.getElem_cons_zero, List.getElem_cons_succ]; try simp only [List.setIfInBounds_toArray, List.set_cons_zero, List.set_cons_succ]
                  refine wpAnyH_take (i := 30) (oi := _) (v := ?vq270) rfl (by kernel_rfl) (by kernel_rfl) (by kernel_rfl) (fun _ _ _ h => h) (Or.inl ⟨by rfl, ?hq270⟩) (by assumption) ?rq270
                  case hq270 => (intro w hSw; go_simp; try with_reducible rfl)
                  try dsimp only [Act.put, List.getElem_toArray, List.getElem_cons_zero, List.getElem_cons_succ]; try simp only [List.setIfInBounds_toArray, List.set_cons_zero, List.set_cons_succ]
                  refine wpAnyH_take (i := 32) (oi := _) (v := _) rfl (by kernel_rfl) (by kernel_rfl) (by kernel_rfl) (fun _ _ _ h => h) (wp_load_arr (w := w) (by rfl) _ rfl lb 0 rfl cs (fun w hSw => (range_blk hSw.1)) ⟨_, Try.underlying44, rfl⟩ HI.out) (by assumption) ?_
                  try dsimp only [Act.put, List.getElem_toArray, List.getElem_cons_zero, List.getElem_cons_succ]; try simp only [List.setIfInBounds_toArray, List.set_cons_zero, List.set_cons_succ]
                  refine wpAnyH_take (i := 33) (oi := _) (v := ?vq272) rfl (by kernel_rfl) (by kernel_rfl) (by kernel_rfl) (fun _ _ _ h => h) (Or.inl ⟨by rfl, ?hq272⟩) (by assumption) ?rq272
                  case hq272 => (intro w hSw; go_simp; try with_reducible rfl)
                  try dsimp only [Act.put, List.getElem_toArray, List.getElem_cons_zero, List.getElem_cons_succ]; try simp only [List.setIfInBounds_toArray, List.set_cons_zero, List.set_cons_succ]
                  refine wpAnyH_take (i := 34) (oi := _) (v := ?vq273) rfl (by kernel_rfl) (by kernel_rfl) (by kernel_rfl) (fun _ _ _ h => h) (Or.inl ⟨by rfl, ?hq273⟩) (by assumption) ?rq273
                  case hq273 => (intro w hSw; go_simp; try with_reducible rfl)
                  try dsimp only [Act.put, List.getElem_toArray, List.getElem_cons_zero, List.getElem_cons_succ]; try simp only [List.setIfInBounds_toArray, List.set_cons_zero, List.set_cons_succ]
                  refine wpAnyH_ready (rs := [31]) (by kernel_rfl) (by simp) ?_
                  refine AllReadyH.cons (o := _) rfl (fun K hK => ?_) ?_
                  · rw [if_pos (by rfl)]
                    go_simp
                    refine (HPR.out _ (then_ HB8.out hb)).mono ?_
                    rintro e wx ⟨v31, rfl, hown, hbx⟩
                    obtain ⟨A31, c31, rfl⟩ := own_form hown
                    have HP31 := Lib.hid (Rd.of_own hown)
                    clear hown
                    have hb := then_ hb hbx
                    clear hbx
                    go_wp2_with fail
                    refine hK.out _ _ (HC.out _ hb) (fun hHeld => ?_)
                    clear hK K
                    try dsimp only [Act.put, List.getElem_toArray, List.getElem_cons_zero, List.getElem_cons_succ]; try simp only [List.setIfInBounds_toArray, List.set_cons_zero, List.set_cons_succ]
                    refine wpAnyH_ready (rs := [35]) (by kernel_rfl) (by simp) ?_
                    refine AllReadyH.cons (o := _) rfl (fun K hK => ?_) ?_
                    · rw [if_pos (by rfl)]
                      go_simp
                      refine (HPD.out _ (then_ HB8.out hb)).mono ?_
                      rintro e wx ⟨v35, rfl, hown, hbx⟩
                      obtain ⟨A35, c35, rfl⟩ := own_form hown
                      have HP35 := Lib.hid (Rd.of_own hown)
                      have HP31 := Lib.hid (HP31.out.below hbx)
                      clear hown
                      have hb := then_ hb hbx
                      clear hbx
                      go_wp2_with fail
                      refine hK.out _ _ (HC.out _ hb) (fun hHeld => ?_)
                      clear hK K
                      try dsimp only [Act.put, List.getElem_toArray, List.getElem_cons_zero, List.getElem_cons_succ]; try simp only [List.setIfInBounds_toArray, List.set_cons_zero, List.set_cons_succ]
                      refine wpAnyH_ready (rs := [36]) (by kernel_rfl) (by simp) ?_
                      refine AllReadyH.cons (o := _) rfl (fun K hK => ?_) ?_
                      · rw [if_pos (by rfl)]
                        go_simp
                        refine (sameTexts_any A31 pr.length c31 pr A35 pr.length c35 pr _ HP31.out rfl (by have := HPRL.out; unfold maxLen; omega) HP35.out rfl (by have := HPRL.out; unfold maxLen; omega)).mono ?_
                        rintro e wx ⟨rfl, hbx⟩
                        rw [show decide (pr = pr) = true by simp]
                        have hb := then_ hb hbx
                        clear hbx
                        go_wp2_with fail
                        refine hK.out _ _ (HC.out _ hb) (fun hHeld => ?_)
                        clear hK K
                        try dsimp only [Act.put, List.getElem_toArray, List.getElem_cons_zero, List.getElem_cons_succ]; try simp only [List.setIfInBounds_toArray, List.set_cons_zero, List.set_cons_succ]
                        refine wpAnyH_take (i := 37) (oi := _) (v := ?vq274) rfl (by kernel_rfl) (by kernel_rfl) (by kernel_rfl) (fun _ _ _ h => h) (Or.inl ⟨by rfl, ?hq274⟩) (by assumption) ?rq274
                        case hq274 => (intro w hSw; go_simp; try with_reducible rfl)
                        try dsimp only [Act.put, List.getElem_toArray, List.getElem_cons_zero, List.getElem_cons_succ]; try simp only [List.setIfInBounds_toArray, List.set_cons_zero, List.set_cons_succ]
                        refine wpAnyH_take (i := 38) (oi := _) (v := ?vq275) rfl (by kernel_rfl) (by kernel_rfl) (by kernel_rfl) (fun _ _ _ h => h) (Or.inl ⟨by rfl, ?hq275⟩) (by assumption) ?rq275
                        case hq275 => (intro w hSw; go_simp; try with_reducible rfl)
                        try dsimp only [Act.put, List.getElem_toArray, List.getElem_cons_zero, List.getElem_cons_succ]; try simp only [List.setIfInBounds_toArray, List.set_cons_zero, List.set_cons_succ]
                        refine wpAnyH_take (i := 39) (oi := _) (v := ?vq276) rfl (by kernel_rfl) (by kernel_rfl) (by kernel_rfl) (fun _ _ _ h => h) (Or.inl ⟨by rfl, ?hq276⟩) (by assumption) ?rq276
                        case hq276 => (intro w hSw; go_simp; try with_reducible rfl)
                        try dsimp only [Act.put, List.getElem_toArray, List.getElem_cons_zero, List.getElem_cons_succ]; try simp only [List.setIfInBounds_toArray, List.set_cons_zero, List.set_cons_succ]
                        refine wpAnyH_take (i := 40) (oi := _) (v := ?vq277) rfl (by kernel_rfl) (by kernel_rfl) (by kernel_rfl) (fun _ _ _ h => h) (Or.inl ⟨by rfl, ?hq277⟩) (by assumption) ?rq277
                        case hq277 => (intro w hSw; go_simp; try with_reducible rfl)
                        try dsimp only [Act.put, List.getElem_toArray, List.getElem_cons_zero, List.getElem_cons_succ]; try simp only [List.setIfInBounds_toArray, List.set_cons_zero, List.set_cons_succ]
                        refine wpAnyH_take (i := 41) (oi := _) (v := ?vq278) rfl (by kernel_rfl) (by kernel_rfl) (by kernel_rfl) (fun _ _ _ h => h) (Or.inl ⟨by rfl, ?hq278⟩) (by assumption) ?rq278
                        case hq278 => (intro w hSw; go_simp; try with_reducible rfl)
                        try dsimp only [Act.put, List.getElem_toArray, List.getElem_cons_zero, List.getElem_cons_succ]; try simp only [List.setIfInBounds_toArray, List.set_cons_zero, List.set_cons_succ]
                        refine wpAnyH_take (i := 43) (oi := _) (v := ?vq279) rfl (by kernel_rfl) (by kernel_rfl) (by kernel_rfl) (fun _ _ _ h => h) (Or.inl ⟨by rfl, ?hq279⟩) (by assumption) ?rq279
                        case hq279 => (intro w hSw; go_simp; try with_reducible rfl)
                        try dsimp only [Act.put, List.getElem_toArray, List.getElem_cons_zero, List.getElem_cons_succ]; try simp only [List.setIfInBounds_toArray, List.set_cons_zero, List.set_cons_succ]
                        refine wpAnyH_take (i := 44) (oi := _) (v := ?vq280) rfl (by kernel_rfl) (by kernel_rfl) (by kernel_rfl) (fun _ _ _ h => h) (Or.inl ⟨by rfl, ?hq280⟩) (by assumption) ?rq280
                        case hq280 => (intro w hSw; go_simp; try with_reducible rfl)
                        try dsimp only [Act.put, List.getElem_toArray, List.getElem_cons_zero, List.getElem_cons_succ]; try simp only [List.setIfInBounds_toArray, List.set_cons_zero, List.set_cons_succ]
                        refine wpAnyH_take (i := 45) (oi := _) (v := ?vq281) rfl (by kernel_rfl) (by kernel_rfl) (by kernel_rfl) (fun _ _ _ h => h) (Or.inl ⟨by rfl, ?hq281⟩) (by assumption) ?rq281
                        case hq281 => (intro w hSw; go_simp; try with_reducible rfl)
                        try dsimp only [Act.put, List.getElem_toArray, List.getElem_cons_zero, List.getElem_cons_succ]; try simp only [List.setIfInBounds_toArray, List.set_cons_zero, List.set_cons_succ]
                        refine wpAnyH_ready (rs := [42]) (by kernel_rfl) (by simp) ?_
                        refine AllReadyH.cons (o := _) rfl (fun K hK => ?_) ?_
                        · rw [if_pos (by rfl)]
                          go_simp
                          refine (HIN.out _ (then_ HB8.out hb)).mono ?_
                          rintro e wx ⟨v42, rfl, hown, hbx⟩
                          obtain ⟨A42, c42, rfl⟩ := own_form hown
                          have HP42 := Lib.hid (Rd.of_own hown)
                          clear hown
                          have hb := then_ hb hbx
                          clear hbx
                          go_wp2_with fail
                          refine hK.out _ _ (HC.out _ hb) (fun hHeld => ?_)
                          clear hK K
                          try dsimp only [Act.put, List.getElem_toArray, List.getElem_cons_zero, List.getElem_cons_succ]; try simp only [List.setIfInBounds_toArray, List.set_cons_zero, List.set_cons_succ]
                          refine wpAnyH_ready (rs := [46]) (by kernel_rfl) (by simp) ?_
                          refine AllReadyH.cons (o := _) rfl (fun K hK => ?_) ?_
                          · rw [if_pos (by rfl)]
                            go_simp
                            refine (HID.out _ (then_ HB8.out hb)).mono ?_
                            rintro e wx ⟨v46, rfl, hown, hbx⟩
                            obtain ⟨A46, c46, rfl⟩ := own_form hown
                            have HP46 := Lib.hid (Rd.of_own hown)
                            have HP42 := Lib.hid (HP42.out.below hbx)
                            clear hown
                            have hb := then_ hb hbx
                            clear hbx
                            go_wp2_with fail
                            refine hK.out _ _ (HC.out _ hb) (fun hHeld => ?_)
                            clear hK K
                            try dsimp only [Act.put, List.getElem_toArray, List.getElem_cons_zero, List.getElem_cons_succ]; try simp only [List.setIfInBounds_toArray, List.set_cons_zero, List.set_cons_succ]
                            refine wpAnyH_ready (rs := [47]) (by kernel_rfl) (by simp) ?_
                            refine AllReadyH.cons (o := _) rfl (fun K hK => ?_) ?_
                            · rw [if_pos (by rfl)]
                              go_simp
                              refine (sameL_any A42 own.length c42 own A46 own.length c46 own _ HP42.out rfl (by have := HINL.out; unfold maxLen; omega) HP46.out rfl (by have := HINL.out; unfold maxLen; omega)).mono ?_
                              rintro e wx ⟨qs, hqs, rfl, hbx⟩
                              have hqt : qs = true := hqs.2 rfl
                              subst hqt
                              clear hqs
                              have hb := then_ hb hbx
                              clear hbx
                              go_wp2_with fail
                              refine hK.out _ _ (HC.out _ hb) (fun hHeld => ?_)
                              clear hK K
                              try dsimp only [Act.put, List.getElem_toArray, List.getElem_cons_zero, List.getElem_cons_succ]; try simp only [List.setIfInBounds_toArray, List.set_cons_zero, List.set_cons_succ]
                              refine wpAnyH_take (i := 48) (oi := _) (v := ?vq282) rfl (by kernel_rfl) (by kernel_rfl) (by kernel_rfl) (fun _ _ _ h => h) (Or.inl ⟨by rfl, ?hq282⟩) (by assumption) ?rq282
                              case hq282 => (intro w hSw; go_simp; try with_reducible rfl)
                              try dsimp only [Act.put, List.getElem_toArray, List.getElem_cons_zero, List.getElem_cons_succ]; try simp only [List.setIfInBounds_toArray, List.set_cons_zero, List.set_cons_succ]
                              refine wpAnyH_take (i := 49) (oi := _) (v := ?vq283) rfl (by kernel_rfl) (by kernel_rfl) (by kernel_rfl) (fun _ _ _ h => h) (Or.inl ⟨by rfl, ?hq283⟩) (by assumption) ?rq283
                              case hq283 => (intro w hSw; go_simp; try with_reducible rfl)
                              try dsimp only [Act.put, List.getElem_toArray, List.getElem_cons_zero, List.getElem_cons_succ]; try simp only [List.setIfInBounds_toArray, List.set_cons_zero, List.set_cons_succ]
                              refine wpAnyH_ready (rs := [50]) (by kernel_rfl) (by simp) ?_
                              refine AllReadyH.cons (o := _) rfl (fun K hK => ?_) ?_
                              · rw [if_pos (by rfl)]
                                go_simp
                                refine (awake49_any _).mono ?_
                                rintro e wx ⟨rfl, hbx⟩
                                have hb := then_ hb hbx
                                clear hbx
                                go_wp2_with fail
                                refine hK.out _ _ (HC.out _ hb) (fun hHeld => ?_)
                                clear hK K
                                try dsimp only [Act.put, List.getElem_toArray, List.getElem_cons_zero, List.getElem_cons_succ]; try simp only [List.setIfInBounds_toArray, List.set_cons_zero, List.set_cons_succ]
                                refine wpAnyH_take (i := 51) (oi := _) (v := ?vq284) rfl (by kernel_rfl) (by kernel_rfl) (by kernel_rfl) (fun _ _ _ h => h) (Or.inl ⟨by rfl, ?hq284⟩) (by assumption) ?rq284
                                case hq284 => (intro w hSw; go_simp; try with_reducible rfl)
                                try dsimp only [Act.put, List.getElem_toArray, List.getElem_cons_zero, List.getElem_cons_succ]; try simp only [List.setIfInBounds_toArray, List.set_cons_zero, List.set_cons_succ]
                                refine wpAnyH_take (i := 52) (oi := _) (v := ?vq285) rfl (by kernel_rfl) (by kernel_rfl) (by kernel_rfl) (fun _ _ _ h => h) (Or.inl ⟨by rfl, ?hq285⟩) (by assumption) ?rq285
                                case hq285 => (intro w hSw; go_simp; try with_reducible rfl)
                                try dsimp only [Act.put, List.getElem_toArray, List.getElem_cons_zero, List.getElem_cons_succ]; try simp only [List.setIfInBounds_toArray, List.set_cons_zero, List.set_cons_succ]
                                refine wpAnyH_done (by kernel_rfl) ?_ _
                                go_wp2
                                go_ret
                                exact ⟨rfl, then_ HBW.out hb⟩
                              exact AllReadyH.nil
                            exact AllReadyH.nil
                          exact AllReadyH.nil
                        exact AllReadyH.nil
                      exact AllReadyH.nil
                    exact AllReadyH.nil
                  exact AllReadyH.nil
                exact AllReadyH.nil
              exact AllReadyH.nil
            exact AllReadyH.nil
      · have HAO := Lib.hid (atL_out a (lv := (lv : Int)) (ix := (ix : Int)) (by rw [Int.toNat_natCast]; omega))
        generalize hq : 2 ^ lv = q at hsl hc4
        have hiq : ¬ (ix : Int) < (q : Int) := by omega
        have hd6 : decide ((ix : Int) < (q : Int)) = false := by simp; omega
        clear hq hc4
        go_wp2_with fail
        refine wp_region_held_drew (S := (fun W => W.cell? ⟨nb, 0, none⟩ = some (.int .i64 (lv : Int)) ∧ W.cell? ⟨nb, 1, none⟩ = some (.int .i64 (ix : Int)) ∧ W.cell? ⟨lb, lv, none⟩ = some (.slice A2 q k2))) (by kernel_rfl) ⟨HNN.out.1, HNN.out.2, hsl⟩ (fun hHeld => ?_)
        refine wpAnyH_take (i := 0) (oi := _) (v := ?vq372) rfl (by kernel_rfl) (by kernel_rfl) (by kernel_rfl) (fun _ _ _ h => h) (Or.inl ⟨by rfl, ?hq372⟩) (by assumption) ?rq372
        case hq372 => (intro w hSw; go_simp; try with_reducible rfl)
        try dsimp only [Act.put, List.getElem_toArray, List.getElem_cons_zero, List.getElem_cons_succ]; try simp only [List.setIfInBounds_toArray, List.set_cons_zero, List.set_cons_succ]
        refine wpAnyH_take (i := 1) (oi := _) (v := ?vq373) rfl (by kernel_rfl) (by kernel_rfl) (by kernel_rfl) (fun _ _ _ h => h) (Or.inl ⟨by rfl, ?hq373⟩) (by assumption) ?rq373
        case hq373 => (intro w hSw; go_simp; try with_reducible rfl)
        try dsimp only [Act.put, List.getElem_toArray, List.getElem_cons_zero, List.getElem_cons_succ]; try simp only [List.setIfInBounds_toArray, List.set_cons_zero, List.set_cons_succ]
        refine wpAnyH_take (i := 2) (oi := _) (v := ?vq374) rfl (by kernel_rfl) (by kernel_rfl) (by kernel_rfl) (fun _ _ _ h => h) (Or.inl ⟨by rfl, ?hq374⟩) (by assumption) ?rq374
        case hq374 => (intro w hSw; go_simp; try with_reducible rfl)
        try dsimp only [Act.put, List.getElem_toArray, List.getElem_cons_zero, List.getElem_cons_succ]; try simp only [List.setIfInBounds_toArray, List.set_cons_zero, List.set_cons_succ]
        refine wpAnyH_take (i := 3) (oi := _) (v := ?vq375) rfl (by kernel_rfl) (by kernel_rfl) (by kernel_rfl) (fun _ _ _ h => h) (Or.inl ⟨by rfl, ?hq375⟩) (by assumption) ?rq375
        case hq375 => (intro w hSw; go_simp; try with_reducible rfl)
        try dsimp only [Act.put, List.getElem_toArray, List.getElem_cons_zero, List.getElem_cons_succ]; try simp only [List.setIfInBounds_toArray, List.set_cons_zero, List.set_cons_succ]
        refine wpAnyH_take (i := 4) (oi := _) (v := ?vq376) rfl (by kernel_rfl) (by kernel_rfl) (by kernel_rfl) (fun _ _ _ h => h) (Or.inl ⟨by rfl, ?hq376⟩) (by assumption) ?rq376
        case hq376 => (intro w hSw; go_simp; try with_reducible rfl)
        try dsimp only [Act.put, List.getElem_toArray, List.getElem_cons_zero, List.getElem_cons_succ]; try simp only [List.setIfInBounds_toArray, List.set_cons_zero, List.set_cons_succ]
        refine wpAnyH_take (i := 5) (oi := _) (v := ?vq377) rfl (by kernel_rfl) (by kernel_rfl) (by kernel_rfl) (fun _ _ _ h => h) (Or.inl ⟨by rfl, ?hq377⟩) (by assumption) ?rq377
        case hq377 => (intro w hSw; go_simp; try with_reducible rfl)
        try dsimp only [Act.put, List.getElem_toArray, List.getElem_cons_zero, List.getElem_cons_succ]; try simp only [List.setIfInBounds_toArray, List.set_cons_zero, List.set_cons_succ]
        refine wpAnyH_take (i := 6) (oi := _) (v := ?vq378) rfl (by kernel_rfl) (by kernel_rfl) (by kernel_rfl) (fun _ _ _ h => h) (Or.inl ⟨by rfl, ?hq378⟩) (by assumption) ?rq378
        case hq378 => (intro w hSw; go_simp; try with_reducible rfl)
        try dsimp only [Act.put, List.getElem_toArray, List.getElem_cons_zero, List.getElem_cons_succ]; try simp only [List.setIfInBounds_toArray, List.set_cons_zero, List.set_cons_succ]
        refine wpAnyH_take (i := 7) (oi := _) (v := ?vq379) rfl (by kernel_rfl) (by kernel_rfl) (by kernel_rfl) (fun _ _ _ h => h) (Or.inl ⟨by rfl, ?hq379⟩) (by assumption) ?rq379
        case hq379 => (intro w hSw; go_simp; try with_reducible rfl)
        try dsimp only [Act.put, List.getElem_toArray, List.getElem_cons_zero, List.getElem_cons_succ]; try simp only [List.setIfInBounds_toArray, List.set_cons_zero, List.set_cons_succ]
        refine wpAnyH_take (i := 8) (oi := _) (v := ?vq380) rfl (by kernel_rfl) (by kernel_rfl) (by kernel_rfl) (fun _ _ _ h => h) (Or.inl ⟨by rfl, ?hq380⟩) (by assumption) ?rq380
        case hq380 => (intro w hSw; go_simp; try with_reducible rfl)
        try dsimp only [Act.put, List.getElem_toArray, List.getElem_cons_zero, List.getElem_cons_succ]; try simp only [List.setIfInBounds_toArray, List.set_cons_zero, List.set_cons_succ]
        refine wpAnyH_take (i := 9) (oi := _) (v := ?vq381) rfl (by kernel_rfl) (by kernel_rfl) (by kernel_rfl) (fun _ _ _ h => h) (Or.inl ⟨by rfl, ?hq381⟩) (by assumption) ?rq381
        case hq381 => (intro w hSw; go_simp; try with_reducible rfl)
        try dsimp only [Act.put, List.getElem_toArray, List.getElem_cons_zero, List.getElem_cons_succ]; try simp only [List.setIfInBounds_toArray, List.set_cons_zero, List.set_cons_succ]
        refine wpAnyH_take (i := 10) (oi := _) (v := ?vq382) rfl (by kernel_rfl) (by kernel_rfl) (by kernel_rfl) (fun _ _ _ h => h) (Or.inl ⟨by rfl, ?hq382⟩) (by assumption) ?rq382
        case hq382 => (intro w hSw; go_simp; try with_reducible rfl)
        try dsimp only [Act.put, List.getElem_toArray, List.getElem_cons_zero, List.getElem_cons_succ]; try simp only [List.setIfInBounds_toArray, List.set_cons_zero, List.set_cons_succ]
        refine wpAnyH_take (i := 11) (oi := _) (v := ?vq383) rfl (by kernel_rfl) (by kernel_rfl) (by kernel_rfl) (fun _ _ _ h => h) (Or.inl ⟨by rfl, ?hq383⟩) (by assumption) ?rq383
        case hq383 => (intro w hSw; go_simp; try with_reducible rfl)
        try dsimp only [Act.put, List.getElem_toArray, List.getElem_cons_zero, List.getElem_cons_succ]; try simp only [List.setIfInBounds_toArray, List.set_cons_zero, List.set_cons_succ]
        refine wpAnyH_take (i := 12) (oi := _) (v := ?vq384) rfl (by kernel_rfl) (by kernel_rfl) (by kernel_rfl) (fun _ _ _ h => h) (Or.inl ⟨by rfl, ?hq384⟩) (by assumption) ?rq384
        case hq384 => (intro w hSw; go_simp; try with_reducible rfl)
        try dsimp only [Act.put, List.getElem_toArray, List.getElem_cons_zero, List.getElem_cons_succ]; try simp only [List.setIfInBounds_toArray, List.set_cons_zero, List.set_cons_succ]
        refine wpAnyH_take (i := 13) (oi := _) (v := ?vq385) rfl (by kernel_rfl) (by kernel_rfl) (by kernel_rfl) (fun _ _ _ h => h) (Or.inl ⟨by rfl, ?hq385⟩) (by assumption) ?rq385
        case hq385 => (intro w hSw; go_simp; try with_reducible rfl)
        try dsimp only [Act.put, List.getElem_toArray, List.getElem_cons_zero, List.getElem_cons_succ]; try simp only [List.setIfInBounds_toArray, List.set_cons_zero, List.set_cons_succ]
        refine wpAnyH_take (i := 14) (oi := _) (v := ?vq386) rfl (by kernel_rfl) (by kernel_rfl) (by kernel_rfl) (fun _ _ _ h => h) (Or.inl ⟨by rfl, ?hq386⟩) (by assumption) ?rq386
        case hq386 => (intro w hSw; go_simp; try with_reducible rfl)
        try dsimp only [Act.put, List.getElem_toArray, List.getElem_cons_zero, List.getElem_cons_succ]; try simp only [List.setIfInBounds_toArray, List.set_cons_zero, List.set_cons_succ]
        refine wpAnyH_take (i := 15) (oi := _) (v := ?vq387) rfl (by kernel_rfl) (by kernel_rfl) (by kernel_rfl) (fun _ _ _ h => h) (Or.inl ⟨by rfl, ?hq387⟩) (by assumption) ?rq387
        case hq387 => (intro w hSw; go_simp; try with_reducible rfl)
        try dsimp only [Act.put, List.getElem_toArray, List.getElem_cons_zero, List.getElem_cons_succ]; try simp only [List.setIfInBounds_toArray, List.set_cons_zero, List.set_cons_succ]
        refine wpAnyH_take (i := 16) (oi := _) (v := ?vq388) rfl (by kernel_rfl) (by kernel_rfl) (by kernel_rfl) (fun _ _ _ h => h) (Or.inl ⟨by rfl, ?hq388⟩) (by assumption) ?rq388
        case hq388 => (intro w hSw; go_simp; try with_reducible rfl)
        try dsimp only [Act.put, List.getElem_toArray, List.getElem_cons_zero, List.getElem_cons_succ]; try simp only [List.setIfInBounds_toArray, List.set_cons_zero, List.set_cons_succ]
        refine wpAnyH_take (i := 17) (oi := _) (v := ?vq389) rfl (by kernel_rfl) (by kernel_rfl) (by kernel_rfl) (fun _ _ _ h => h) (Or.inl ⟨by rfl, ?hq389⟩) (by assumption) ?rq389
        case hq389 => (intro w hSw; go_simp; try with_reducible rfl)
        try dsimp only [Act.put, List.getElem_toArray, List.getElem_cons_zero, List.getElem_cons_succ]; try simp only [List.setIfInBounds_toArray, List.set_cons_zero, List.set_cons_succ]
        refine wpAnyH_take (i := 18) (oi := _) (v := ?vq390) rfl (by kernel_rfl) (by kernel_rfl) (by kernel_rfl) (fun _ _ _ h => h) (Or.inl ⟨by rfl, ?hq390⟩) (by assumption) ?rq390
        case hq390 => (intro w hSw; go_simp; try with_reducible rfl)
        try dsimp only [Act.put, List.getElem_toArray, List.getElem_cons_zero, List.getElem_cons_succ]; try simp only [List.setIfInBounds_toArray, List.set_cons_zero, List.set_cons_succ]
        refine wpAnyH_take (i := 19) (oi := _) (v := ?vq391) rfl (by kernel_rfl) (by kernel_rfl) (by kernel_rfl) (fun _ _ _ h => h) (Or.inl ⟨by rfl, ?hq391⟩) (by assumption) ?rq391
        case hq391 => (intro w hSw; go_simp; try with_reducible rfl)
        try dsimp only [Act.put, List.getElem_toArray, List.getElem_cons_zero, List.getElem_cons_succ]; try simp only [List.setIfInBounds_toArray, List.set_cons_zero, List.set_cons_succ]
        refine wpAnyH_take (i := 20) (oi := _) (v := ?vq392) rfl (by kernel_rfl) (by kernel_rfl) (by kernel_rfl) (fun _ _ _ h => h) (Or.inl ⟨by rfl, ?hq392⟩) (by assumption) ?rq392
        case hq392 => (intro w hSw; go_simp; try with_reducible rfl)
        try dsimp only [Act.put, List.getElem_toArray, List.getElem_cons_zero, List.getElem_cons_succ]; try simp only [List.setIfInBounds_toArray, List.set_cons_zero, List.set_cons_succ]
        refine wpAnyH_take (i := 21) (oi := _) (v := ?vq393) rfl (by kernel_rfl) (by kernel_rfl) (by kernel_rfl) (fun _ _ _ h => h) (Or.inl ⟨by rfl, ?hq393⟩) (by assumption) ?rq393
        case hq393 => (intro w hSw; go_simp; try with_reducible rfl)
        try dsimp only [Act.put, List.getElem_toArray, List.getElem_cons_zero, List.getElem_cons_succ]; try simp only [List.setIfInBounds_toArray, List.set_cons_zero, List.set_cons_succ]
        refine wpAnyH_take (i := 22) (oi := _) (v := ?vq394) rfl (by kernel_rfl) (by kernel_rfl) (by kernel_rfl) (fun _ _ _ h => h) (Or.inl ⟨by rfl, ?hq394⟩) (by assumption) ?rq394
        case hq394 => (intro w hSw; go_simp; try with_reducible rfl)
        try dsimp only [Act.put, List.getElem_toArray, List.getElem_cons_zero, List.getElem_cons_succ]; try simp only [List.setIfInBounds_toArray, List.set_cons_zero, List.set_cons_succ]
        refine wpAnyH_done (by kernel_rfl) ?_ _
        clear hsl
        have hd7 : decide (ix < q) = false := by simp; omega
        simp only [hd7]
        clear hd7
        have HAG := Lib.hid (HAG.out.below (Below.refl _ _).drew); have HU := Lib.hid (HU.out.below (Below.refl _ _).drew); have HU6 := Lib.hid (HU6.out.below (Below.refl _ _).drew); have HTA := Lib.hid (HTA.out.below (Below.refl _ _).drew)
        have HNN := Lib.hid (And.intro (cell_below (Below.refl _ _).drew HNN.out.1) (cell_below (Below.refl _ _).drew HNN.out.2)); have HR := Lib.hid (HR.out.below (Below.refl _ _).drew); have HB := Lib.hid HB.out.drew; have HBL := Lib.hid (heap_below (Below.refl _ _).drew HBL.out); have HR01 := Lib.hid (And.intro (cell_below (Below.refl _ _).drew HR01.out.1) (cell_below (Below.refl _ _).drew HR01.out.2))
        generalize W9.drew = W8 at HAG HU HU6 HTA HNN HR HB HBL HR01 ⊢
        have HCE := Lib.hid (fun W (h : Below W8.heap.size W8 W) => (⟨heap_below h HBL.out, cell_below h HNN.out.1, cell_below h HNN.out.2, cell_below h HR01.out.1, cell_below h HR01.out.2⟩ : W.heap[lb]? = some (.cells cs 44 (0, 0)) ∧ W.cell? ⟨nb, 0, none⟩ = some (.int .i64 (lv : Int)) ∧ W.cell? ⟨nb, 1, none⟩ = some (.int .i64 (ix : Int)) ∧ W.cell? ⟨lb, 0, none⟩ = some (.slice (some ⟨b0, o0, none⟩) 1 c0) ∧ W.cell? ⟨b0, o0, none⟩ = some (.string (rootT a))))
        clear HNN HBL HR01
        go_wp2_with fail
        have HAT := Lib.hid (fun W (h : Below W8.heap.size W8 W) => quietC (at_any ta a (lv : Int) (ix : Int) W (HTA.out.below h)))
        rw [HAO.out] at HAT
        clear HAO
        have HPR := Lib.hid (fun W (h : Below W8.heap.size W8 W) => prove_any ta a (lv : Int) W (HTA.out.below h))
        have HPD := Lib.hid (fun W (h : Below W8.heap.size W8 W) => rProve_any a bs1 cs (lv : Int) W (HAG.out.below h))
        have hprl : (proveL a (lv : Int)).length ≤ 64 := by unfold proveL; split <;> simp [wayL_len]
        generalize proveL a (lv : Int) = pr at HPR HPD hprl
        have HIN := Lib.hid (fun W (h : Below W8.heap.size W8 W) => pin_any A n c a (lv : Int) W (HR.out.below h) HN.out hn HL.out.2)
        have HID := Lib.hid (fun W (h : Below W8.heap.size W8 W) => rin_any A n c a (lv : Int) W (HR.out.below h) HN.out hn HL.out.2)
        have hinl : (inL (bktB (lv : Int)) a).length ≤ 1000 := Nat.le_trans (inL_len _ _) (by have := HN.out; omega)
        generalize inL (bktB (lv : Int)) a = own at HIN HID hinl
        have HRT := Lib.hid (fun W (h : Below W8.heap.size W8 W) => trieRoot_any ta a W (HTA.out.below h))
        generalize rootT a = x at HRT HCE
        have HPRL := Lib.hid hprl; have HINL := Lib.hid hinl
        clear HAG HTA hprl hinl
        go_wp2_with fail
        clear hiq hd6
        go_loopw [15] (fun i wr => ∃ j : Nat, j ≤ n ∧ i = .int .i64 j ∧ Below W8.heap.size W8 wr) (fun i _ => n - (intOf i).toNat)
        case atStart => exact ⟨0, Nat.zero_le _, rfl, Below.refl _ _⟩
        case round =>
          obtain ⟨j, hj, rfl, hbel⟩ := hrel
          by_cases hlt : j < n
          · have hx : j < a.length := by have := HN.out; omega
            obtain ⟨b, off, rfl, hrg⟩ := row_leaf.at_ HR.out j hx
            have hs := HL.out.2 a[j] (List.getElem_mem hx)
            generalize a[j] = s at hrg hs
            obtain ⟨sp, sd⟩ := s
            have HG0 := Lib.hid (cell_below hbel (show W8.cell? ⟨b, off + j * 2, none⟩ = some (.string sp) from rangeAt_cell hrg 0 rfl))
            have HX := Lib.hid (fun W => bucket_any sp W (by have := hs.1; simp only at this; omega))
            have HY := Lib.hid (fun W => rbucket_any sp W (by have := hs.1; simp only at this; omega))
            generalize bktOf sp = g at HX HY
            have hgg : ((g : Int) != (g : Int)) = false := by simp
            have hjn : (j : Int) < (n : Int) := by omega
            have hj0 : (0 : Int) ≤ (j : Int) := by omega
            clear hs hrg
            have hb : Below wr.heap.size wr wr.drew := (Below.refl _ _).drew
            go_wp2_with fail
            refine wp_region_held_drew (S := (fun W => W.cell? ⟨b, off + j * 2, none⟩ = some (.string sp))) (by kernel_rfl) HG0.out (fun hHeld => ?_)
            refine wpAnyH_take (i := 0) (oi := _) (v := ?vq318) rfl (by kernel_rfl) (by kernel_rfl) (by kernel_rfl) (fun _ _ _ h => h) (Or.inl ⟨by rfl, ?hq318⟩) (by assumption) ?rq318
            case hq318 => (intro w hSw; go_simp; try with_reducible rfl)
            try dsimp only [Act.put, List.getElem_toArray, List.getElem_cons_zero, List.getElem_cons_succ]; try simp only [List.setIfInBounds_toArray, List.set_cons_zero, List.set_cons_succ]
            refine wpAnyH_take (i := 1) (oi := _) (v := ?vq319) rfl (by kernel_rfl) (by kernel_rfl) (by kernel_rfl) (fun _ _ _ h => h) (Or.inl ⟨by rfl, ?hq319⟩) (by assumption) ?rq319
            case hq319 => (intro w hSw; go_simp; try with_reducible rfl)
            try dsimp only [Act.put, List.getElem_toArray, List.getElem_cons_zero, List.getElem_cons_succ]; try simp only [List.setIfInBounds_toArray, List.set_cons_zero, List.set_cons_succ]
            refine wpAnyH_take (i := 2) (oi := _) (v := ?vq320) rfl (by kernel_rfl) (by kernel_rfl) (by kernel_rfl) (fun _ _ _ h => h) (Or.inl ⟨by rfl, ?hq320⟩) (by assumption) ?rq320
            case hq320 => (intro w hSw; go_simp; try with_reducible rfl)
            try dsimp only [Act.put, List.getElem_toArray, List.getElem_cons_zero, List.getElem_cons_succ]; try simp only [List.setIfInBounds_toArray, List.set_cons_zero, List.set_cons_succ]
            refine wpAnyH_take (i := 3) (oi := _) (v := ?vq321) rfl (by kernel_rfl) (by kernel_rfl) (by kernel_rfl) (fun _ _ _ h => h) (Or.inl ⟨by rfl, ?hq321⟩) (by assumption) ?rq321
            case hq321 => (intro w hSw; go_simp; try with_reducible rfl)
            try dsimp only [Act.put, List.getElem_toArray, List.getElem_cons_zero, List.getElem_cons_succ]; try simp only [List.setIfInBounds_toArray, List.set_cons_zero, List.set_cons_succ]
            refine wpAnyH_take (i := 4) (oi := _) (v := ?vq322) rfl (by kernel_rfl) (by kernel_rfl) (by kernel_rfl) (fun _ _ _ h => h) (Or.inl ⟨by rfl, ?hq322⟩) (by assumption) ?rq322
            case hq322 => (intro w hSw; go_simp; try with_reducible rfl)
            try dsimp only [Act.put, List.getElem_toArray, List.getElem_cons_zero, List.getElem_cons_succ]; try simp only [List.setIfInBounds_toArray, List.set_cons_zero, List.set_cons_succ]
            refine wpAnyH_take (i := 6) (oi := _) (v := ?vq323) rfl (by kernel_rfl) (by kernel_rfl) (by kernel_rfl) (fun _ _ _ h => h) (Or.inl ⟨by rfl, ?hq323⟩) (by assumption) ?rq323
            case hq323 => (intro w hSw; go_simp; try with_reducible rfl)
            try dsimp only [Act.put, List.getElem_toArray, List.getElem_cons_zero, List.getElem_cons_succ]; try simp only [List.setIfInBounds_toArray, List.set_cons_zero, List.set_cons_succ]
            refine wpAnyH_take (i := 7) (oi := _) (v := ?vq324) rfl (by kernel_rfl) (by kernel_rfl) (by kernel_rfl) (fun _ _ _ h => h) (Or.inl ⟨by rfl, ?hq324⟩) (by assumption) ?rq324
            case hq324 => (intro w hSw; go_simp; try with_reducible rfl)
            try dsimp only [Act.put, List.getElem_toArray, List.getElem_cons_zero, List.getElem_cons_succ]; try simp only [List.setIfInBounds_toArray, List.set_cons_zero, List.set_cons_succ]
            refine wpAnyH_take (i := 8) (oi := _) (v := ?vq325) rfl (by kernel_rfl) (by kernel_rfl) (by kernel_rfl) (fun _ _ _ h => h) (Or.inl ⟨by rfl, ?hq325⟩) (by assumption) ?rq325
            case hq325 => (intro w hSw; go_simp; try with_reducible rfl)
            try dsimp only [Act.put, List.getElem_toArray, List.getElem_cons_zero, List.getElem_cons_succ]; try simp only [List.setIfInBounds_toArray, List.set_cons_zero, List.set_cons_succ]
            refine wpAnyH_take (i := 9) (oi := _) (v := ?vq326) rfl (by kernel_rfl) (by kernel_rfl) (by kernel_rfl) (fun _ _ _ h => h) (Or.inl ⟨by rfl, ?hq326⟩) (by assumption) ?rq326
            case hq326 => (intro w hSw; go_simp; try with_reducible rfl)
            try dsimp only [Act.put, List.getElem_toArray, List.getElem_cons_zero, List.getElem_cons_succ]; try simp only [List.setIfInBounds_toArray, List.set_cons_zero, List.set_cons_succ]
            refine wpAnyH_take (i := 10) (oi := _) (v := ?vq327) rfl (by kernel_rfl) (by kernel_rfl) (by kernel_rfl) (fun _ _ _ h => h) (Or.inl ⟨by rfl, ?hq327⟩) (by assumption) ?rq327
            case hq327 => (intro w hSw; go_simp; try with_reducible rfl)
            try dsimp only [Act.put, List.getElem_toArray, List.getElem_cons_zero, List.getElem_cons_succ]; try simp only [List.setIfInBounds_toArray, List.set_cons_zero, List.set_cons_succ]
            refine wpAnyH_ready (rs := [5]) (by kernel_rfl) (by simp) ?_
            refine AllReadyH.cons (o := _) rfl (fun K hK => ?_) ?_
            · rw [if_pos (by rfl)]
              go_simp
              refine (HX.out _).mono ?_
              rintro e wx ⟨rfl, hbx⟩
              have hb := then_ hb hbx
              clear hbx
              go_wp2_with fail
              refine hK.out _ _ (cell_below hb HG0.out) (fun hHeld => ?_)
              clear hK K
              try dsimp only [Act.put, List.getElem_toArray, List.getElem_cons_zero, List.getElem_cons_succ]; try simp only [List.setIfInBounds_toArray, List.set_cons_zero, List.set_cons_succ]
              refine wpAnyH_ready (rs := [11]) (by kernel_rfl) (by simp) ?_
              refine AllReadyH.cons (o := _) rfl (fun K hK => ?_) ?_
              · rw [if_pos (by rfl)]
                go_simp
                refine (HY.out _).mono ?_
                rintro e wx ⟨rfl, hbx⟩
                have hb := then_ hb hbx
                clear hbx
                go_wp2_with fail
                refine hK.out _ _ (cell_below hb HG0.out) (fun hHeld => ?_)
                clear hK K
                try dsimp only [Act.put, List.getElem_toArray, List.getElem_cons_zero, List.getElem_cons_succ]; try simp only [List.setIfInBounds_toArray, List.set_cons_zero, List.set_cons_succ]
                refine wpAnyH_take (i := 12) (oi := _) (v := ?vq328) rfl (by kernel_rfl) (by kernel_rfl) (by kernel_rfl) (fun _ _ _ h => h) (Or.inl ⟨by rfl, ?hq328⟩) (by assumption) ?rq328
                case hq328 => (intro w hSw; go_simp; try with_reducible rfl)
                try dsimp only [Act.put, List.getElem_toArray, List.getElem_cons_zero, List.getElem_cons_succ]; try simp only [List.setIfInBounds_toArray, List.set_cons_zero, List.set_cons_succ]
                refine wpAnyH_done (by kernel_rfl) ?_ _
                go_wp2
                go_roundw
                case rel => exact ⟨j + 1, by omega, by go_num, then_ hbel hb⟩
                case measure => simp [intOf]; omega
              exact AllReadyH.nil
            exact AllReadyH.nil
          · have hjn : (n : Int) ≤ (j : Int) := by omega
            have hb : Below wr.heap.size wr wr.drew := (Below.refl _ _).drew
            have HC := Lib.hid (fun W (h : Below wr.heap.size wr W) => HCE.out W (then_ hbel h)); have HBW := Lib.hid (then_ HB.out hbel); have HB8 := Lib.hid hbel
            have hxx : (x.toList == x.toList) = true := by simp
            clear hlt hbel
            go_wp2_with fail
            refine wp_region_held_drew (S := (fun W => W.heap[lb]? = some (.cells cs 44 (0, 0)) ∧ W.cell? ⟨nb, 0, none⟩ = some (.int .i64 (lv : Int)) ∧ W.cell? ⟨nb, 1, none⟩ = some (.int .i64 (ix : Int)) ∧ W.cell? ⟨lb, 0, none⟩ = some (.slice (some ⟨b0, o0, none⟩) 1 c0) ∧ W.cell? ⟨b0, o0, none⟩ = some (.string x))) (by kernel_rfl) (HC.out _ (Below.refl _ _).drew) (fun hHeld => ?_)
            refine wpAnyH_take (i := 0) (oi := _) (v := ?vq329) rfl (by kernel_rfl) (by kernel_rfl) (by kernel_rfl) (fun _ _ _ h => h) (Or.inl ⟨by rfl, ?hq329⟩) (by assumption) ?rq329
            case hq329 => (intro w hSw; go_simp; try with_reducible rfl)
            try dsimp only [Act.put, List.getElem_toArray, List.getElem_cons_zero, List.getElem_cons_succ]; try simp only [List.setIfInBounds_toArray, List.set_cons_zero, List.set_cons_succ]
            refine wpAnyH_take (i := 1) (oi := _) (v := ?vq330) rfl (by kernel_rfl) (by kernel_rfl) (by kernel_rfl) (fun _ _ _ h => h) (Or.inl ⟨by rfl, ?hq330⟩) (by assumption) ?rq330
            case hq330 => (intro w hSw; go_simp; try with_reducible rfl)
            try dsimp only [Act.put, List.getElem_toArray, List.getElem_cons_zero, List.getElem_cons_succ]; try simp only [List.setIfInBounds_toArray, List.set_cons_zero, List.set_cons_succ]
            refine wpAnyH_ready (rs := [2]) (by kernel_rfl) (by simp) ?_
            refine AllReadyH.cons (o := _) rfl (fun K hK => ?_) ?_
            · rw [if_pos (by rfl)]
              go_simp
              refine (sameInts_any A5 pl c5 p A6 pl c6 p _ (HU.out.below (then_ HB8.out hb)) HPN.out (by omega) (HU6.out.below (then_ HB8.out hb)) HPN.out (by omega)).mono ?_
              rintro e wx ⟨rfl, hbx⟩
              rw [show decide (p = p) = true by simp]
              have hb := then_ hb hbx
              clear hbx
              go_wp2_with fail
              refine hK.out _ _ (HC.out _ hb) (fun hHeld => ?_)
              clear hK K
              try dsimp only [Act.put, List.getElem_toArray, List.getElem_cons_zero, List.getElem_cons_succ]; try simp only [List.setIfInBounds_toArray, List.set_cons_zero, List.set_cons_succ]
              refine wpAnyH_take (i := 3) (oi := _) (v := ?vq331) rfl (by kernel_rfl) (by kernel_rfl) (by kernel_rfl) (fun _ _ _ h => h) (Or.inl ⟨by rfl, ?hq331⟩) (by assumption) ?rq331
              case hq331 => (intro w hSw; go_simp; try with_reducible rfl)
              try dsimp only [Act.put, List.getElem_toArray, List.getElem_cons_zero, List.getElem_cons_succ]; try simp only [List.setIfInBounds_toArray, List.set_cons_zero, List.set_cons_succ]
              refine wpAnyH_take (i := 4) (oi := _) (v := ?vq332) rfl (by kernel_rfl) (by kernel_rfl) (by kernel_rfl) (fun _ _ _ h => h) (Or.inl ⟨by rfl, ?hq332⟩) (by assumption) ?rq332
              case hq332 => (intro w hSw; go_simp; try with_reducible rfl)
              try dsimp only [Act.put, List.getElem_toArray, List.getElem_cons_zero, List.getElem_cons_succ]; try simp only [List.setIfInBounds_toArray, List.set_cons_zero, List.set_cons_succ]
              refine wpAnyH_take (i := 5) (oi := _) (v := ?vq333) rfl (by kernel_rfl) (by kernel_rfl) (by kernel_rfl) (fun _ _ _ h => h) (Or.inl ⟨by rfl, ?hq333⟩) (by assumption) ?rq333
              case hq333 => (intro w hSw; go_simp; try with_reducible rfl)
              try dsimp only [Act.put, List.getElem_toArray, List.getElem_cons_zero, List.getElem_cons_succ]; try simp only [List.setIfInBounds_toArray, List.set_cons_zero, List.set_cons_succ]
              refine wpAnyH_take (i := 6) (oi := _) (v := ?vq334) rfl (by kernel_rfl) (by kernel_rfl) (by kernel_rfl) (fun _ _ _ h => h) (Or.inl ⟨by rfl, ?hq334⟩) (by assumption) ?rq334
              case hq334 => (intro w hSw; go_simp; try with_reducible rfl)
              try dsimp only [Act.put, List.getElem_toArray, List.getElem_cons_zero, List.getElem_cons_succ]; try simp only [List.setIfInBounds_toArray, List.set_cons_zero, List.set_cons_succ]
              refine wpAnyH_take (i := 7) (oi := _) (v := ?vq335) rfl (by kernel_rfl) (by kernel_rfl) (by kernel_rfl) (fun _ _ _ h => h) (Or.inl ⟨by rfl, ?hq335⟩) (by assumption) ?rq335
              case hq335 => (intro w hSw; go_simp; try with_reducible rfl)
              try dsimp only [Act.put, List.getElem_toArray, List.getElem_cons_zero, List.getElem_cons_succ]; try simp only [List.setIfInBounds_toArray, List.set_cons_zero, List.set_cons_succ]
              refine wpAnyH_take (i := 8) (oi := _) (v := ?vq336) rfl (by kernel_rfl) (by kernel_rfl) (by kernel_rfl) (fun _ _ _ h => h) (Or.inl ⟨by rfl, ?hq336⟩) (by assumption) ?rq336
              case hq336 => (intro w hSw; go_simp; try with_reducible rfl)
              try dsimp only [Act.put, List.getElem_toArray, List.getElem_cons_zero, List.getElem_cons_succ]; try simp only [List.setIfInBounds_toArray, List.set_cons_zero, List.set_cons_succ]
              refine wpAnyH_take (i := 9) (oi := _) (v := ?vq337) rfl (by kernel_rfl) (by kernel_rfl) (by kernel_rfl) (fun _ _ _ h => h) (Or.inl ⟨by rfl, ?hq337⟩) (by assumption) ?rq337
              case hq337 => (intro w hSw; go_simp; try with_reducible rfl)
              try dsimp only [Act.put, List.getElem_toArray, List.getElem_cons_zero, List.getElem_cons_succ]; try simp only [List.setIfInBounds_toArray, List.set_cons_zero, List.set_cons_succ]
              refine wpAnyH_take (i := 10) (oi := _) (v := ?vq338) rfl (by kernel_rfl) (by kernel_rfl) (by kernel_rfl) (fun _ _ _ h => h) (Or.inl ⟨by rfl, ?hq338⟩) (by assumption) ?rq338
              case hq338 => (intro w hSw; go_simp; try with_reducible rfl)
              try dsimp only [Act.put, List.getElem_toArray, List.getElem_cons_zero, List.getElem_cons_succ]; try simp only [List.setIfInBounds_toArray, List.set_cons_zero, List.set_cons_succ]
              refine wpAnyH_take (i := 11) (oi := _) (v := ?vq339) rfl (by kernel_rfl) (by kernel_rfl) (by kernel_rfl) (fun _ _ _ h => h) (Or.inl ⟨by rfl, ?hq339⟩) (by assumption) ?rq339
              case hq339 => (intro w hSw; go_simp; try with_reducible rfl)
              try dsimp only [Act.put, List.getElem_toArray, List.getElem_cons_zero, List.getElem_cons_succ]; try simp only [List.setIfInBounds_toArray, List.set_cons_zero, List.set_cons_succ]
              refine wpAnyH_take (i := 12) (oi := _) (v := ?vq340) rfl (by kernel_rfl) (by kernel_rfl) (by kernel_rfl) (fun _ _ _ h => h) (Or.inl ⟨by rfl, ?hq340⟩) (by assumption) ?rq340
              case hq340 => (intro w hSw; go_simp; try with_reducible rfl)
              try dsimp only [Act.put, List.getElem_toArray, List.getElem_cons_zero, List.getElem_cons_succ]; try simp only [List.setIfInBounds_toArray, List.set_cons_zero, List.set_cons_succ]
              refine wpAnyH_take (i := 13) (oi := _) (v := ?vq341) rfl (by kernel_rfl) (by kernel_rfl) (by kernel_rfl) (fun _ _ _ h => h) (Or.inl ⟨by rfl, ?hq341⟩) (by assumption) ?rq341
              case hq341 => (intro w hSw; go_simp; try with_reducible rfl)
              try dsimp only [Act.put, List.getElem_toArray, List.getElem_cons_zero, List.getElem_cons_succ]; try simp only [List.setIfInBounds_toArray, List.set_cons_zero, List.set_cons_succ]
              refine wpAnyH_take (i := 15) (oi := _) (v := ?vq342) rfl (by kernel_rfl) (by kernel_rfl) (by kernel_rfl) (fun _ _ _ h => h) (Or.inl ⟨by rfl, ?hq342⟩) (by assumption) ?rq342
              case hq342 => (intro w hSw; go_simp; try with_reducible rfl)
              try dsimp only [Act.put, List.getElem_toArray, List.getElem_cons_zero, List.getElem_cons_succ]; try simp only [List.setIfInBounds_toArray, List.set_cons_zero, List.set_cons_succ]
              refine wpAnyH_ready (rs := [14]) (by kernel_rfl) (by simp) ?_
              refine AllReadyH.cons (o := _) rfl (fun K hK => ?_) ?_
              · rw [if_pos (by rfl)]
                go_simp
                refine (HAT.out _ (then_ HB8.out hb)).mono ?_
                rintro e wx ⟨rfl, hbx⟩
                have hb := then_ hb hbx
                clear hbx
                go_wp2_with fail
                refine hK.out _ _ (HC.out _ hb) (fun hHeld => ?_)
                clear hK K
                try dsimp only [Act.put, List.getElem_toArray, List.getElem_cons_zero, List.getElem_cons_succ]; try simp only [List.setIfInBounds_toArray, List.set_cons_zero, List.set_cons_succ]
                refine wpAnyH_take (i := 16) (oi := _) (v := ?vq343) rfl (by kernel_rfl) (by kernel_rfl) (by kernel_rfl) (fun _ _ _ h => h) (Or.inl ⟨by rfl, ?hq343⟩) (by assumption) ?rq343
                case hq343 => (intro w hSw; go_simp; try with_reducible rfl)
                try dsimp only [Act.put, List.getElem_toArray, List.getElem_cons_zero, List.getElem_cons_succ]; try simp only [List.setIfInBounds_toArray, List.set_cons_zero, List.set_cons_succ]
                refine wpAnyH_take (i := 17) (oi := _) (v := ?vq344) rfl (by kernel_rfl) (by kernel_rfl) (by kernel_rfl) (fun _ _ _ h => h) (Or.inl ⟨by rfl, ?hq344⟩) (by assumption) ?rq344
                case hq344 => (intro w hSw; go_simp; try with_reducible rfl)
                try dsimp only [Act.put, List.getElem_toArray, List.getElem_cons_zero, List.getElem_cons_succ]; try simp only [List.setIfInBounds_toArray, List.set_cons_zero, List.set_cons_succ]
                refine wpAnyH_take (i := 18) (oi := _) (v := ?vq345) rfl (by kernel_rfl) (by kernel_rfl) (by kernel_rfl) (fun _ _ _ h => h) (Or.inl ⟨by rfl, ?hq345⟩) (by assumption) ?rq345
                case hq345 => (intro w hSw; go_simp; try with_reducible rfl)
                try dsimp only [Act.put, List.getElem_toArray, List.getElem_cons_zero, List.getElem_cons_succ]; try simp only [List.setIfInBounds_toArray, List.set_cons_zero, List.set_cons_succ]
                refine wpAnyH_take (i := 19) (oi := _) (v := ?vq346) rfl (by kernel_rfl) (by kernel_rfl) (by kernel_rfl) (fun _ _ _ h => h) (Or.inl ⟨by rfl, ?hq346⟩) (by assumption) ?rq346
                case hq346 => (intro w hSw; go_simp; try with_reducible rfl)
                try dsimp only [Act.put, List.getElem_toArray, List.getElem_cons_zero, List.getElem_cons_succ]; try simp only [List.setIfInBounds_toArray, List.set_cons_zero, List.set_cons_succ]
                refine wpAnyH_take (i := 21) (oi := _) (v := ?vq347) rfl (by kernel_rfl) (by kernel_rfl) (by kernel_rfl) (fun _ _ _ h => h) (Or.inl ⟨by rfl, ?hq347⟩) (by assumption) ?rq347
                case hq347 => (intro w hSw; go_simp; try with_reducible rfl)
                try dsimp only [Act.put, List.getElem_toArray, List.getElem_cons_zero, List.getElem_cons_succ]; try simp only [List.setIfInBounds_toArray, List.set_cons_zero, List.set_cons_succ]
                refine wpAnyH_take (i := 22) (oi := _) (v := ?vq348) rfl (by kernel_rfl) (by kernel_rfl) (by kernel_rfl) (fun _ _ _ h => h) (Or.inl ⟨by rfl, ?hq348⟩) (by assumption) ?rq348
                case hq348 => (intro w hSw; go_simp; try with_reducible rfl)
                try dsimp only [Act.put, List.getElem_toArray, List.getElem_cons_zero, List.getElem_cons_succ]; try simp only [List.setIfInBounds_toArray, List.set_cons_zero, List.set_cons_succ]
                refine wpAnyH_take (i := 23) (oi := _) (v := ?vq349) rfl (by kernel_rfl) (by kernel_rfl) (by kernel_rfl) (fun _ _ _ h => h) (Or.inl ⟨by rfl, ?hq349⟩) (by assumption) ?rq349
                case hq349 => (intro w hSw; go_simp; try with_reducible rfl)
                try dsimp only [Act.put, List.getElem_toArray, List.getElem_cons_zero, List.getElem_cons_succ]; try simp only [List.setIfInBounds_toArray, List.set_cons_zero, List.set_cons_succ]
                refine wpAnyH_take (i := 24) (oi := _) (v := ?vq350) rfl (by kernel_rfl) (by kernel_rfl) (by kernel_rfl) (fun _ _ _ h => h) (Or.inl ⟨by rfl, ?hq350⟩) (by assumption) ?rq350
                case hq350 => (intro w hSw; go_simp; try with_reducible rfl)
                try dsimp only [Act.put, List.getElem_toArray, List.getElem_cons_zero, List.getElem_cons_succ]; try simp only [List.setIfInBounds_toArray, List.set_cons_zero, List.set_cons_succ]
                refine wpAnyH_ready (rs := [20]) (by kernel_rfl) (by simp) ?_
                refine AllReadyH.cons (o := _) rfl (fun K hK => ?_) ?_
                · rw [if_pos (by rfl)]
                  go_simp
                  refine (quietC (HRT.out _ (then_ HB8.out hb))).mono ?_
                  rintro e wx ⟨rfl, hbx⟩
                  have hb := then_ hb hbx
                  clear hbx
                  go_wp2_with fail
                  refine hK.out _ _ (HC.out _ hb) (fun hHeld => ?_)
                  clear hK K
                  try dsimp only [Act.put, List.getElem_toArray, List.getElem_cons_zero, List.getElem_cons_succ]; try simp only [List.setIfInBounds_toArray, List.set_cons_zero, List.set_cons_succ]
                  refine wpAnyH_take (i := 25) (oi := _) (v := ?vq351) rfl (by kernel_rfl) (by kernel_rfl) (by kernel_rfl) (fun _ _ _ h => h) (Or.inl ⟨by rfl, ?hq351⟩) (by assumption) ?rq351
                  case hq351 => (intro w hSw; go_simp; try with_reducible rfl)
                  try dsimp only [Act.put, List.getElem_toArray, List.getElem_cons_zero, List.getElem_cons_succ]; try simp only [List.setIfInBounds_toArray, List.set_cons_zero, List.set_cons_succ]
                  refine wpAnyH_take (i := 26) (oi := _) (v := ?vq352) rfl (by kernel_rfl) (by kernel_rfl) (by kernel_rfl) (fun _ _ _ h => h) (Or.inl ⟨by rfl, ?hq352⟩) (by assumption) ?rq352
                  case hq352 => (intro w hSw; go_simp; try with_reducible rfl)
                  try dsimp only [Act.put, List.getElem_toArray, List.getElem_cons_zero, List.getElem_cons_succ]; try simp only [List.setIfInBounds_toArray, List.set_cons_zero, List.set_cons_succ]
                  refine wpAnyH_take (i := 27) (oi := _) (v := ?vq353) rfl (by kernel_rfl) (by kernel_rfl) (by kernel_rfl) (fun _ _ _ h => h) (Or.inl ⟨by rfl, ?hq353⟩) (by assumption) ?rq353
                  case hq353 => (intro w hSw; go_simp; try with_reducible rfl)
                  try dsimp only [Act.put, List.getElem_toArray, List.getElem_cons_zero, List.getElem_cons_succ]; try simp only [List.setIfInBounds_toArray, List.set_cons_zero, List.set_cons_succ]
                  refine wpAnyH_take (i := 28) (oi := _) (v := ?vq354) rfl (by kernel_rfl) (by kernel_rfl) (by kernel_rfl) (fun _ _ _ h => h) (Or.inl ⟨by rfl, ?hq354⟩) (by assumption) ?rq354
                  case hq354 => (intro w hSw; go_simp; try with_reducible rfl)
                  try dsimp only [Act.put, List.getElem_toArray, List.getElem_cons_zero, List.getElem_cons_succ]; try simp only [List.setIfInBounds_toArray, List.set_cons_zero, List.set_cons_succ]
                  refine wpAnyH_take (i := 29) (oi := _) (v := ?vq355) rfl (by kernel_rfl) (by kernel_rfl) (by kernel_rfl) (fun _ _ _ h => h) (Or.inl ⟨by rfl, ?hq355⟩) (by assumption) ?rq355
                  case hq355 => (intro w hSw; go_simp; try with_reducible rfl)
                  try dsimp only [Act.put, List.getElem_toArray, List.getElem_cons_zero, List.getElem_cons_succ]; try simp only [List.setIfInBounds_toArray, List.set_cons_zero, List.set_cons_succ]
                  refine wpAnyH_take (i := 30) (oi := _) (v := ?vq356) rfl (by kernel_rfl) (by kernel_rfl) (by kernel_rfl) (fun _ _ _ h => h) (Or.inl ⟨by rfl, ?hq356⟩) (by assumption) ?rq356
                  case hq356 => (intro w hSw; go_simp; try with_reducible rfl)
                  try dsimp only [Act.put, List.getElem_toArray, List.getElem_cons_zero, List.getElem_cons_succ]; try simp only [List.setIfInBounds_toArray, List.set_cons_zero, List.set_cons_succ]
                  refine wpAnyH_take (i := 32) (oi := _) (v := _) rfl (by kernel_rfl) (by kernel_rfl) (by kernel_rfl) (fun _ _ _ h => h) (wp_load_arr (w := w) (by rfl) _ rfl lb 0 rfl cs (fun w hSw => (range_blk hSw.1)) ⟨_, Try.underlying44, rfl⟩ HI.out) (by assumption) ?_
                  try dsimp only [Act.put, List.getElem_toArray, List.getElem_cons_zero, List.getElem_cons_succ]; try simp only [List.setIfInBounds_toArray, List.set_cons_zero, List.set_cons_succ]
                  refine wpAnyH_take (i := 33) (oi := _) (v := ?vq358) rfl (by kernel_rfl) (by kernel_rfl) (by kernel_rfl) (fun _ _ _ h => h) (Or.inl ⟨by rfl, ?hq358⟩) (by assumption) ?rq358
                  case hq358 => (intro w hSw; go_simp; try with_reducible rfl)
                  try dsimp only [Act.put, List.getElem_toArray, List.getElem_cons_zero, List.getElem_cons_succ]; try simp only [List.setIfInBounds_toArray, List.set_cons_zero, List.set_cons_succ]
                  refine wpAnyH_take (i := 34) (oi := _) (v := ?vq359) rfl (by kernel_rfl) (by kernel_rfl) (by kernel_rfl) (fun _ _ _ h => h) (Or.inl ⟨by rfl, ?hq359⟩) (by assumption) ?rq359
                  case hq359 => (intro w hSw; go_simp; try with_reducible rfl)
                  try dsimp only [Act.put, List.getElem_toArray, List.getElem_cons_zero, List.getElem_cons_succ]; try simp only [List.setIfInBounds_toArray, List.set_cons_zero, List.set_cons_succ]
                  refine wpAnyH_ready (rs := [31]) (by kernel_rfl) (by simp) ?_
                  refine AllReadyH.cons (o := _) rfl (fun K hK => ?_) ?_
                  · rw [if_pos (by rfl)]
                    go_simp
                    refine (HPR.out _ (then_ HB8.out hb)).mono ?_
                    rintro e wx ⟨v31, rfl, hown, hbx⟩
                    obtain ⟨A31, c31, rfl⟩ := own_form hown
                    have HP31 := Lib.hid (Rd.of_own hown)
                    clear hown
                    have hb := then_ hb hbx
                    clear hbx
                    go_wp2_with fail
                    refine hK.out _ _ (HC.out _ hb) (fun hHeld => ?_)
                    clear hK K
                    try dsimp only [Act.put, List.getElem_toArray, List.getElem_cons_zero, List.getElem_cons_succ]; try simp only [List.setIfInBounds_toArray, List.set_cons_zero, List.set_cons_succ]
                    refine wpAnyH_ready (rs := [35]) (by kernel_rfl) (by simp) ?_
                    refine AllReadyH.cons (o := _) rfl (fun K hK => ?_) ?_
                    · rw [if_pos (by rfl)]
                      go_simp
                      refine (HPD.out _ (then_ HB8.out hb)).mono ?_
                      rintro e wx ⟨v35, rfl, hown, hbx⟩
                      obtain ⟨A35, c35, rfl⟩ := own_form hown
                      have HP35 := Lib.hid (Rd.of_own hown)
                      have HP31 := Lib.hid (HP31.out.below hbx)
                      clear hown
                      have hb := then_ hb hbx
                      clear hbx
                      go_wp2_with fail
                      refine hK.out _ _ (HC.out _ hb) (fun hHeld => ?_)
                      clear hK K
                      try dsimp only [Act.put, List.getElem_toArray, List.getElem_cons_zero, List.getElem_cons_succ]; try simp only [List.setIfInBounds_toArray, List.set_cons_zero, List.set_cons_succ]
                      refine wpAnyH_ready (rs := [36]) (by kernel_rfl) (by simp) ?_
                      refine AllReadyH.cons (o := _) rfl (fun K hK => ?_) ?_
                      · rw [if_pos (by rfl)]
                        go_simp
                        refine (sameTexts_any A31 pr.length c31 pr A35 pr.length c35 pr _ HP31.out rfl (by have := HPRL.out; unfold maxLen; omega) HP35.out rfl (by have := HPRL.out; unfold maxLen; omega)).mono ?_
                        rintro e wx ⟨rfl, hbx⟩
                        rw [show decide (pr = pr) = true by simp]
                        have hb := then_ hb hbx
                        clear hbx
                        go_wp2_with fail
                        refine hK.out _ _ (HC.out _ hb) (fun hHeld => ?_)
                        clear hK K
                        try dsimp only [Act.put, List.getElem_toArray, List.getElem_cons_zero, List.getElem_cons_succ]; try simp only [List.setIfInBounds_toArray, List.set_cons_zero, List.set_cons_succ]
                        refine wpAnyH_take (i := 37) (oi := _) (v := ?vq360) rfl (by kernel_rfl) (by kernel_rfl) (by kernel_rfl) (fun _ _ _ h => h) (Or.inl ⟨by rfl, ?hq360⟩) (by assumption) ?rq360
                        case hq360 => (intro w hSw; go_simp; try with_reducible rfl)
                        try dsimp only [Act.put, List.getElem_toArray, List.getElem_cons_zero, List.getElem_cons_succ]; try simp only [List.setIfInBounds_toArray, List.set_cons_zero, List.set_cons_succ]
                        refine wpAnyH_take (i := 38) (oi := _) (v := ?vq361) rfl (by kernel_rfl) (by kernel_rfl) (by kernel_rfl) (fun _ _ _ h => h) (Or.inl ⟨by rfl, ?hq361⟩) (by assumption) ?rq361
                        case hq361 => (intro w hSw; go_simp; try with_reducible rfl)
                        try dsimp only [Act.put, List.getElem_toArray, List.getElem_cons_zero, List.getElem_cons_succ]; try simp only [List.setIfInBounds_toArray, List.set_cons_zero, List.set_cons_succ]
                        refine wpAnyH_take (i := 39) (oi := _) (v := ?vq362) rfl (by kernel_rfl) (by kernel_rfl) (by kernel_rfl) (fun _ _ _ h => h) (Or.inl ⟨by rfl, ?hq362⟩) (by assumption) ?rq362
                        case hq362 => (intro w hSw; go_simp; try with_reducible rfl)
                        try dsimp only [Act.put, List.getElem_toArray, List.getElem_cons_zero, List.getElem_cons_succ]; try simp only [List.setIfInBounds_toArray, List.set_cons_zero, List.set_cons_succ]
                        refine wpAnyH_take (i := 40) (oi := _) (v := ?vq363) rfl (by kernel_rfl) (by kernel_rfl) (by kernel_rfl) (fun _ _ _ h => h) (Or.inl ⟨by rfl, ?hq363⟩) (by assumption) ?rq363
                        case hq363 => (intro w hSw; go_simp; try with_reducible rfl)
                        try dsimp only [Act.put, List.getElem_toArray, List.getElem_cons_zero, List.getElem_cons_succ]; try simp only [List.setIfInBounds_toArray, List.set_cons_zero, List.set_cons_succ]
                        refine wpAnyH_take (i := 41) (oi := _) (v := ?vq364) rfl (by kernel_rfl) (by kernel_rfl) (by kernel_rfl) (fun _ _ _ h => h) (Or.inl ⟨by rfl, ?hq364⟩) (by assumption) ?rq364
                        case hq364 => (intro w hSw; go_simp; try with_reducible rfl)
                        try dsimp only [Act.put, List.getElem_toArray, List.getElem_cons_zero, List.getElem_cons_succ]; try simp only [List.setIfInBounds_toArray, List.set_cons_zero, List.set_cons_succ]
                        refine wpAnyH_take (i := 43) (oi := _) (v := ?vq365) rfl (by kernel_rfl) (by kernel_rfl) (by kernel_rfl) (fun _ _ _ h => h) (Or.inl ⟨by rfl, ?hq365⟩) (by assumption) ?rq365
                        case hq365 => (intro w hSw; go_simp; try with_reducible rfl)
                        try dsimp only [Act.put, List.getElem_toArray, List.getElem_cons_zero, List.getElem_cons_succ]; try simp only [List.setIfInBounds_toArray, List.set_cons_zero, List.set_cons_succ]
                        refine wpAnyH_take (i := 44) (oi := _) (v := ?vq366) rfl (by kernel_rfl) (by kernel_rfl) (by kernel_rfl) (fun _ _ _ h => h) (Or.inl ⟨by rfl, ?hq366⟩) (by assumption) ?rq366
                        case hq366 => (intro w hSw; go_simp; try with_reducible rfl)
                        try dsimp only [Act.put, List.getElem_toArray, List.getElem_cons_zero, List.getElem_cons_succ]; try simp only [List.setIfInBounds_toArray, List.set_cons_zero, List.set_cons_succ]
                        refine wpAnyH_take (i := 45) (oi := _) (v := ?vq367) rfl (by kernel_rfl) (by kernel_rfl) (by kernel_rfl) (fun _ _ _ h => h) (Or.inl ⟨by rfl, ?hq367⟩) (by assumption) ?rq367
                        case hq367 => (intro w hSw; go_simp; try with_reducible rfl)
                        try dsimp only [Act.put, List.getElem_toArray, List.getElem_cons_zero, List.getElem_cons_succ]; try simp only [List.setIfInBounds_toArray, List.set_cons_zero, List.set_cons_succ]
                        refine wpAnyH_ready (rs := [42]) (by kernel_rfl) (by simp) ?_
                        refine AllReadyH.cons (o := _) rfl (fun K hK => ?_) ?_
                        · rw [if_pos (by rfl)]
                          go_simp
                          refine (HIN.out _ (then_ HB8.out hb)).mono ?_
                          rintro e wx ⟨v42, rfl, hown, hbx⟩
                          obtain ⟨A42, c42, rfl⟩ := own_form hown
                          have HP42 := Lib.hid (Rd.of_own hown)
                          clear hown
                          have hb := then_ hb hbx
                          clear hbx
                          go_wp2_with fail
                          refine hK.out _ _ (HC.out _ hb) (fun hHeld => ?_)
                          clear hK K
                          try dsimp only [Act.put, List.getElem_toArray, List.getElem_cons_zero, List.getElem_cons_succ]; try simp only [List.setIfInBounds_toArray, List.set_cons_zero, List.set_cons_succ]
                          refine wpAnyH_ready (rs := [46]) (by kernel_rfl) (by simp) ?_
                          refine AllReadyH.cons (o := _) rfl (fun K hK => ?_) ?_
                          · rw [if_pos (by rfl)]
                            go_simp
                            refine (HID.out _ (then_ HB8.out hb)).mono ?_
                            rintro e wx ⟨v46, rfl, hown, hbx⟩
                            obtain ⟨A46, c46, rfl⟩ := own_form hown
                            have HP46 := Lib.hid (Rd.of_own hown)
                            have HP42 := Lib.hid (HP42.out.below hbx)
                            clear hown
                            have hb := then_ hb hbx
                            clear hbx
                            go_wp2_with fail
                            refine hK.out _ _ (HC.out _ hb) (fun hHeld => ?_)
                            clear hK K
                            try dsimp only [Act.put, List.getElem_toArray, List.getElem_cons_zero, List.getElem_cons_succ]; try simp only [List.setIfInBounds_toArray, List.set_cons_zero, List.set_cons_succ]
                            refine wpAnyH_ready (rs := [47]) (by kernel_rfl) (by simp) ?_
                            refine AllReadyH.cons (o := _) rfl (fun K hK => ?_) ?_
                            · rw [if_pos (by rfl)]
                              go_simp
                              refine (sameL_any A42 own.length c42 own A46 own.length c46 own _ HP42.out rfl (by have := HINL.out; unfold maxLen; omega) HP46.out rfl (by have := HINL.out; unfold maxLen; omega)).mono ?_
                              rintro e wx ⟨qs, hqs, rfl, hbx⟩
                              have hqt : qs = true := hqs.2 rfl
                              subst hqt
                              clear hqs
                              have hb := then_ hb hbx
                              clear hbx
                              go_wp2_with fail
                              refine hK.out _ _ (HC.out _ hb) (fun hHeld => ?_)
                              clear hK K
                              try dsimp only [Act.put, List.getElem_toArray, List.getElem_cons_zero, List.getElem_cons_succ]; try simp only [List.setIfInBounds_toArray, List.set_cons_zero, List.set_cons_succ]
                              refine wpAnyH_take (i := 48) (oi := _) (v := ?vq368) rfl (by kernel_rfl) (by kernel_rfl) (by kernel_rfl) (fun _ _ _ h => h) (Or.inl ⟨by rfl, ?hq368⟩) (by assumption) ?rq368
                              case hq368 => (intro w hSw; go_simp; try with_reducible rfl)
                              try dsimp only [Act.put, List.getElem_toArray, List.getElem_cons_zero, List.getElem_cons_succ]; try simp only [List.setIfInBounds_toArray, List.set_cons_zero, List.set_cons_succ]
                              refine wpAnyH_take (i := 49) (oi := _) (v := ?vq369) rfl (by kernel_rfl) (by kernel_rfl) (by kernel_rfl) (fun _ _ _ h => h) (Or.inl ⟨by rfl, ?hq369⟩) (by assumption) ?rq369
                              case hq369 => (intro w hSw; go_simp; try with_reducible rfl)
                              try dsimp only [Act.put, List.getElem_toArray, List.getElem_cons_zero, List.getElem_cons_succ]; try simp only [List.setIfInBounds_toArray, List.set_cons_zero, List.set_cons_succ]
                              refine wpAnyH_ready (rs := [50]) (by kernel_rfl) (by simp) ?_
                              refine AllReadyH.cons (o := _) rfl (fun K hK => ?_) ?_
                              · rw [if_pos (by rfl)]
                                go_simp
                                refine (awake49_any _).mono ?_
                                rintro e wx ⟨rfl, hbx⟩
                                have hb := then_ hb hbx
                                clear hbx
                                go_wp2_with fail
                                refine hK.out _ _ (HC.out _ hb) (fun hHeld => ?_)
                                clear hK K
                                try dsimp only [Act.put, List.getElem_toArray, List.getElem_cons_zero, List.getElem_cons_succ]; try simp only [List.setIfInBounds_toArray, List.set_cons_zero, List.set_cons_succ]
                                refine wpAnyH_take (i := 51) (oi := _) (v := ?vq370) rfl (by kernel_rfl) (by kernel_rfl) (by kernel_rfl) (fun _ _ _ h => h) (Or.inl ⟨by rfl, ?hq370⟩) (by assumption) ?rq370
                                case hq370 => (intro w hSw; go_simp; try with_reducible rfl)
                                try dsimp only [Act.put, List.getElem_toArray, List.getElem_cons_zero, List.getElem_cons_succ]; try simp only [List.setIfInBounds_toArray, List.set_cons_zero, List.set_cons_succ]
                                refine wpAnyH_take (i := 52) (oi := _) (v := ?vq371) rfl (by kernel_rfl) (by kernel_rfl) (by kernel_rfl) (fun _ _ _ h => h) (Or.inl ⟨by rfl, ?hq371⟩) (by assumption) ?rq371
                                case hq371 => (intro w hSw; go_simp; try with_reducible rfl)
                                try dsimp only [Act.put, List.getElem_toArray, List.getElem_cons_zero, List.getElem_cons_succ]; try simp only [List.setIfInBounds_toArray, List.set_cons_zero, List.set_cons_succ]
                                refine wpAnyH_done (by kernel_rfl) ?_ _
                                go_wp2
                                go_ret
                                exact ⟨rfl, then_ HBW.out hb⟩
                              exact AllReadyH.nil
                            exact AllReadyH.nil
                          exact AllReadyH.nil
                        exact AllReadyH.nil
                      exact AllReadyH.nil
                    exact AllReadyH.nil
                  exact AllReadyH.nil
                exact AllReadyH.nil
              exact AllReadyH.nil
            exact AllReadyH.nil
    exact AllReadyH.nil
  exact AllReadyH.nil
end Go.Proofs.Ytgmafnpkhmlnnaa
