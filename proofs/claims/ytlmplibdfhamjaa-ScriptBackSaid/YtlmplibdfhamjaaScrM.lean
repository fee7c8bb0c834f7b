/- ScriptBytes's walk. -/
import Derived.Test.YtlmplibdfhamjaaScrL
import Derived.Test.YtlmplibdfhamjaaScrJ
import Derived.Test.YtlmplibdfhamjaaScrK
attribute [local go_sem ↓] Go.wp_at_zero Go.wp_at_succ
namespace Go.Proofs.Ytlmplibdfhamjaa
open Go.RowKit Go.Mem Go.Num
set_option linter.unusedVariables false
set_option linter.unusedSimpArgs false

/-- a cluster -/
structure Stp where
  m : Mems
  e : Ents
def Stp.arr (x : Stp) : Array Value := setup x.m x.e
def Stp.ok (w : World) (x : Stp) : Prop := x.m.ok w ∧ x.e.ok w
theorem is_mems {H : Type} {enc : TypeId × Value → H} {w : World} {cs : List Value} (h : Is enc Try.prog w 23 cs) : ∃ m : Mems, cs = [.slice m.A m.n m.c] ∧ m.ok w := by
  obtain ⟨A, n, c, rows, h1, h2, h3, h4, h5, h6⟩ := is_slice Try.underlying23 h
  obtain ⟨ms, rfl, hms⟩ := rows_typed (f := (fun m : Memb => m.arr.toList)) (ok := fun m : Memb => m.ok w) rows (fun r hr => is_memb (h4 r hr).2)
  exact ⟨⟨A, n, c, ms⟩, h1, by rw [List.flatMap_def]; exact h3, by simpa using h2, Nat.le_trans h5 h6⟩
theorem is_stp {H : Type} {enc : TypeId × Value → H} {w : World} {cs : List Value} (h : Is enc Try.prog w 26 cs) : ∃ m : Stp, cs = m.arr.toList ∧ m.ok w := by
  obtain ⟨hl, hf⟩ := is_struct Try.underlying26 h
  rw [show Try.prog.cellsOf 26 = 2 by kernel_rfl] at hl
  obtain ⟨c0, r0, rfl, hl0⟩ := cons_of hl
  obtain ⟨c1, r1, rfl, hl1⟩ := cons_of hl0
  obtain rfl := nil_of hl1
  have f0 : Is enc Try.prog w 23 (List.take (Try.prog.cellsOf 23) (List.drop 0 _)) := hf 0 _ rfl
  rw [(show Try.prog.cellsOf 23 = 1 by kernel_rfl)] at f0
  simp only [List.drop_succ_cons, List.drop_zero, List.take_succ_cons, List.take_zero, List.take_nil] at f0
  obtain ⟨a0, h0, w0⟩ := is_mems f0
  simp only [List.cons.injEq, and_true] at h0
  subst h0
  have f1 : Is enc Try.prog w 24 (List.take (Try.prog.cellsOf 24) (List.drop 1 _)) := hf 1 _ rfl
  rw [(show Try.prog.cellsOf 24 = 1 by kernel_rfl)] at f1
  simp only [List.drop_succ_cons, List.drop_zero, List.take_succ_cons, List.take_zero, List.take_nil] at f1
  obtain ⟨a1, h1, w1⟩ := is_ents f1
  simp only [List.cons.injEq, and_true] at h1
  subst h1
  exact ⟨⟨a0, a1⟩, rfl, w0, w1⟩
theorem flat_le {T : Type} (f : T → List UInt8) (B : Nat) : ∀ (l : List T), (∀ x ∈ l, (f x).length ≤ B) → (l.flatMap f).length ≤ l.length * B
  | [], _ => by simp
  | x :: l, h => by
    have h1 := flat_le f B l (fun y hy => h y (by simp [hy]))
    have h2 := h x (by simp)
    rw [List.flatMap_cons, List.length_append, List.length_cons, Nat.add_mul, Nat.one_mul]; omega
theorem small_ctx {c : Ctx} (h : fewCx c) : (ctxB c.l).length ≤ 5236 := by
  obtain ⟨h1, h2⟩ := h
  have h3 := flat_le seenB 436 c.l (fun x hx => by rw [seenB_length]; have := h2 x hx; unfold smallS at this; omega)
  unfold ctxB
  rw [List.length_append, be_length]
  have : c.l.length * 436 ≤ 12 * 436 := Nat.mul_le_mul_right 436 h1
  omega
theorem small_ev {e : Ev} (h : smallV e) : (evB e).length ≤ 7000 := by
  obtain ⟨h1, h2, h3, ⟨c1, c2, c3, c4, c5⟩, ⟨a1, a2, a3, a4, ⟨m1, m2, m3⟩⟩⟩ := h
  have hc := small_ctx c5
  unfold evB headB restB
  split
  · unfold calB; simp only [List.length_append, textB_length, be_length]; omega
  · split
    · unfold admB; simp only [List.length_append, textB_length, be_length, memB_length]; omega
    · simp only [List.length_append, textB_length, be_length, List.length_nil]; omega
theorem few_len {m : Mems} {e : Ents} {x : Evs} (h : fewS m e x) (hm : m.l.length = m.n) (hx : x.l.length = x.n) : (scrB m.l e.l x.l).length ≤ 1000000 := by
  obtain ⟨⟨h1, h2⟩, ⟨h3, h4⟩, ⟨h5, h6⟩⟩ := h
  have a1 := flat_le memB 313 m.l (fun y hy => by rw [memB_length]; have := h2 y hy; unfold smallM at this; omega)
  have a2 := flat_le eB 620 e.l (fun y hy => by rw [eB_length]; have := h4 y hy; unfold small at this; unfold eSize; omega)
  have a3 := flat_le evB 7000 x.l (fun y hy => small_ev (h6 y hy))
  have b1 : m.l.length * 313 ≤ 10 * 313 := Nat.mul_le_mul_right 313 (by omega)
  have b2 : e.l.length * 620 ≤ 20 * 620 := Nat.mul_le_mul_right 620 h3
  have b3 : x.l.length * 7000 ≤ 20 * 7000 := Nat.mul_le_mul_right 7000 (by omega)
  unfold scrB memsB rawB evsB
  simp only [List.length_append, be_length]
  omega
set_option maxRecDepth 100000 in
set_option maxHeartbeats 4000000 in
theorem scriptBytes_walk (sp : Stp) (A : Option Addr) (n c : Nat) (l : List Ev) (w : World) (hsp : sp.ok w) (hr : Rd w A (l.flatMap fun m : Ev => m.arr.toList)) (hn : l.length = n) (hmx : n ≤ maxLen) (hok : ∀ m ∈ l, m.ok w) :
    Calls Try.prog 12 #[.agg sp.arr, .slice A n c] w (TrueW w) := by
  obtain ⟨m, e⟩ := sp
  obtain ⟨hm, he⟩ := hsp
  simp only at hm he
  have hx : Evs.ok w ⟨A, n, c, l⟩ := ⟨hr, hn, hmx, hok⟩
  have hfl : fewS m e ⟨A, n, c, l⟩ → (scrB m.l e.l l).length + 1024 ≤ 140737488355328 := fun h => by have := few_len h hm.len hn; simp only at this; omega
  have h1 := fun (W : World) (hW : Below w.heap.size w W) => few47_any m e ⟨A, n, c, l⟩ W (hm.below hW) (he.below hW) (hx.below hW)
  have h2 := fun (hl : (scrB m.l e.l l).length + 1024 ≤ 140737488355328) (W : World) (hW : Below w.heap.size w W) => sBytes_any m e ⟨A, n, c, l⟩ W (hm.below hW) (he.below hW) (hx.below hW) hl
  have h3 := fun (hl : (scrB m.l e.l l).length + 1024 ≤ 140737488355328) (W : World) (hW : Below w.heap.size w W) => rBytes47_any m e ⟨A, n, c, l⟩ W (hm.below hW) (he.below hW) (hx.below hW) hl
  unfold SaysT at h2 h3
  simp only at h2 h3
  generalize (scrB m.l e.l l).length = N at hfl h2 h3
  generalize bs (scrB m.l e.l l) = t at h2 h3
  generalize fewS m e ⟨A, n, c, l⟩ = P at h1 hfl
  obtain ⟨mA, mn, mc, ms⟩ := m
  obtain ⟨eA, en, ec, es⟩ := e
  simp only [Stp.arr, setup, Evs.v] at *
  clear hm he hx hr hn hmx hok
  have hbel := (Below.refl w.heap.size w).alloc (Nat.le_refl _) (.cells #[.slice mA mn mc, .slice eA en ec] 26)
  have q0 := SBox.new w 26 #[.slice mA mn mc, .slice eA en ec]
  have C0 := Lib.hid (q0.cell 0 rfl); have C1 := Lib.hid (q0.cell 1 rfl)
  simp only [List.getElem_toArray, List.getElem_cons_zero, List.getElem_cons_succ] at C0 C1
  have HBEL := Lib.hid hbel; have HFL := Lib.hid hfl; have H1 := Lib.hid h1; have H2 := Lib.hid h2; have H3 := Lib.hid h3
  clear hbel q0 hfl h1 h2 h3
  have htt : (t.toList == t.toList) = true := by rw [beq_iff_eq]
  go_enter Try.func12, Try.ntmps12
  go_wp2
  generalize w.alloc (.cells #[.slice mA mn mc, .slice eA en ec] 26) = W0 at *
  have hb : Below W0.heap.size W0 W0.drew := (Below.refl _ _).drew
  refine wp_region_held_drew (S := (fun W => W.cell? ⟨w.heap.size, 0, none⟩ = some (.slice mA mn mc) ∧ W.cell? ⟨w.heap.size, 1, none⟩ = some (.slice eA en ec))) (by kernel_rfl) ⟨C0.out, C1.out⟩ (fun hHeld => ?_)
  refine wpAnyH_take (i := 0) (oi := _) (v := ?vq16) rfl (by kernel_rfl) (by kernel_rfl) (by kernel_rfl) (fun _ _ _ h => h) (Or.inl ⟨by rfl, ?hq16⟩) (by assumption) ?rq16
  case hq16 => (intro w hSw; go_simp; try with_reducible rfl)
  try dsimp only [Act.put, List.getElem_toArray, List.getElem_cons_zero, List.getElem_cons_succ]; try simp only [List.setIfInBounds_toArray, List.set_cons_zero, List.set_cons_succ]
  refine wpAnyH_take (i := 1) (oi := _) (v := ?vq17) rfl (by kernel_rfl) (by kernel_rfl) (by kernel_rfl) (fun _ _ _ h => h) (Or.inl ⟨by rfl, ?hq17⟩) (by assumption) ?rq17
  case hq17 => (intro w hSw; go_simp; try with_reducible rfl)
  try dsimp only [Act.put, List.getElem_toArray, List.getElem_cons_zero, List.getElem_cons_succ]; try simp only [List.setIfInBounds_toArray, List.set_cons_zero, List.set_cons_succ]
  refine wpAnyH_ready (rs := [2]) (by kernel_rfl) (by simp) ?_
  refine AllReadyH.cons (o := _) rfl (fun K hK => ?_) ?_
  · rw [if_pos (by rfl)]
    go_simp
    refine (H1.out _ (then_ HBEL.out hb)).mono ?_
    rintro e wx ⟨b, hp, rfl, hbx⟩
    have hb := then_ hb hbx
    clear hbx
    cases b
    · go_wp2_with fail
      refine hK.out _ _ ⟨cell_below hb C0.out, cell_below hb C1.out⟩ (fun hHeld => ?_)
      clear hK K
      try dsimp only [Act.put, List.getElem_toArray, List.getElem_cons_zero, List.getElem_cons_succ]; try simp only [List.setIfInBounds_toArray, List.set_cons_zero, List.set_cons_succ]
      refine wpAnyH_take (i := 3) (oi := _) (v := ?vq3) rfl (by kernel_rfl) (by kernel_rfl) (by kernel_rfl) (fun _ _ _ h => h) (Or.inl ⟨by rfl, ?hq3⟩) (by assumption) ?rq3
      case hq3 => (intro w hSw; go_simp; try with_reducible rfl)
      try dsimp only [Act.put, List.getElem_toArray, List.getElem_cons_zero, List.getElem_cons_succ]; try simp only [List.setIfInBounds_toArray, List.set_cons_zero, List.set_cons_succ]
      refine wpAnyH_take (i := 4) (oi := _) (v := ?vq4) rfl (by kernel_rfl) (by kernel_rfl) (by kernel_rfl) (fun _ _ _ h => h) (Or.inl ⟨by rfl, ?hq4⟩) (by assumption) ?rq4
      case hq4 => (intro w hSw; go_simp; try with_reducible rfl)
      try dsimp only [Act.put, List.getElem_toArray, List.getElem_cons_zero, List.getElem_cons_succ]; try simp only [List.setIfInBounds_toArray, List.set_cons_zero, List.set_cons_succ]
      refine wpAnyH_take (i := 5) (oi := _) (v := undef) rfl (by kernel_rfl) (by kernel_rfl) (by kernel_rfl) (fun _ _ _ h => h) (Or.inr ⟨by rfl, rfl⟩) (by assumption) ?_
      try dsimp only [Act.put, List.getElem_toArray, List.getElem_cons_zero, List.getElem_cons_succ]; try simp only [List.setIfInBounds_toArray, List.set_cons_zero, List.set_cons_succ]
      refine wpAnyH_take (i := 6) (oi := _) (v := undef) rfl (by kernel_rfl) (by kernel_rfl) (by kernel_rfl) (fun _ _ _ h => h) (Or.inr ⟨by rfl, rfl⟩) (by assumption) ?_
      try dsimp only [Act.put, List.getElem_toArray, List.getElem_cons_zero, List.getElem_cons_succ]; try simp only [List.setIfInBounds_toArray, List.set_cons_zero, List.set_cons_succ]
      refine wpAnyH_take (i := 7) (oi := _) (v := undef) rfl (by kernel_rfl) (by kernel_rfl) (by kernel_rfl) (fun _ _ _ h => h) (Or.inr ⟨by rfl, rfl⟩) (by assumption) ?_
      try dsimp only [Act.put, List.getElem_toArray, List.getElem_cons_zero, List.getElem_cons_succ]; try simp only [List.setIfInBounds_toArray, List.set_cons_zero, List.set_cons_succ]
      refine wpAnyH_take (i := 8) (oi := _) (v := undef) rfl (by kernel_rfl) (by kernel_rfl) (by kernel_rfl) (fun _ _ _ h => h) (Or.inr ⟨by rfl, rfl⟩) (by assumption) ?_
      try dsimp only [Act.put, List.getElem_toArray, List.getElem_cons_zero, List.getElem_cons_succ]; try simp only [List.setIfInBounds_toArray, List.set_cons_zero, List.set_cons_succ]
      refine wpAnyH_take (i := 9) (oi := _) (v := undef) rfl (by kernel_rfl) (by kernel_rfl) (by kernel_rfl) (fun _ _ _ h => h) (Or.inr ⟨by rfl, rfl⟩) (by assumption) ?_
      try dsimp only [Act.put, List.getElem_toArray, List.getElem_cons_zero, List.getElem_cons_succ]; try simp only [List.setIfInBounds_toArray, List.set_cons_zero, List.set_cons_succ]
      refine wpAnyH_take (i := 10) (oi := _) (v := undef) rfl (by kernel_rfl) (by kernel_rfl) (by kernel_rfl) (fun _ _ _ h => h) (Or.inr ⟨by rfl, rfl⟩) (by assumption) ?_
      try dsimp only [Act.put, List.getElem_toArray, List.getElem_cons_zero, List.getElem_cons_succ]; try simp only [List.setIfInBounds_toArray, List.set_cons_zero, List.set_cons_succ]
      refine wpAnyH_take (i := 11) (oi := _) (v := undef) rfl (by kernel_rfl) (by kernel_rfl) (by kernel_rfl) (fun _ _ _ h => h) (Or.inr ⟨by rfl, rfl⟩) (by assumption) ?_
      try dsimp only [Act.put, List.getElem_toArray, List.getElem_cons_zero, List.getElem_cons_succ]; try simp only [List.setIfInBounds_toArray, List.set_cons_zero, List.set_cons_succ]
      refine wpAnyH_take (i := 12) (oi := _) (v := ?vq12) rfl (by kernel_rfl) (by kernel_rfl) (by kernel_rfl) (fun _ _ _ h => h) (Or.inl ⟨by rfl, ?hq12⟩) (by assumption) ?rq12
      case hq12 => (intro w hSw; go_simp; try with_reducible rfl)
      try dsimp only [Act.put, List.getElem_toArray, List.getElem_cons_zero, List.getElem_cons_succ]; try simp only [List.setIfInBounds_toArray, List.set_cons_zero, List.set_cons_succ]
      refine wpAnyH_take (i := 13) (oi := _) (v := ?vq13) rfl (by kernel_rfl) (by kernel_rfl) (by kernel_rfl) (fun _ _ _ h => h) (Or.inl ⟨by rfl, ?hq13⟩) (by assumption) ?rq13
      case hq13 => (intro w hSw; go_simp; try with_reducible rfl)
      try dsimp only [Act.put, List.getElem_toArray, List.getElem_cons_zero, List.getElem_cons_succ]; try simp only [List.setIfInBounds_toArray, List.set_cons_zero, List.set_cons_succ]
      refine wpAnyH_ready (rs := [14]) (by kernel_rfl) (by simp) ?_
      refine AllReadyH.cons (o := _) rfl (fun K hK => ?_) ?_
      · rw [if_pos (by rfl)]
        go_simp
        refine (awake47_any _).mono ?_
        rintro e wx ⟨rfl, hbx⟩
        have hb := then_ hb hbx
        clear hbx
        go_wp2_with fail
        refine hK.out _ _ ⟨cell_below hb C0.out, cell_below hb C1.out⟩ (fun hHeld => ?_)
        clear hK K
        try dsimp only [Act.put, List.getElem_toArray, List.getElem_cons_zero, List.getElem_cons_succ]; try simp only [List.setIfInBounds_toArray, List.set_cons_zero, List.set_cons_succ]
        refine wpAnyH_take (i := 15) (oi := _) (v := ?vq14) rfl (by kernel_rfl) (by kernel_rfl) (by kernel_rfl) (fun _ _ _ h => h) (Or.inl ⟨by rfl, ?hq14⟩) (by assumption) ?rq14
        case hq14 => (intro w hSw; go_simp; try with_reducible rfl)
        try dsimp only [Act.put, List.getElem_toArray, List.getElem_cons_zero, List.getElem_cons_succ]; try simp only [List.setIfInBounds_toArray, List.set_cons_zero, List.set_cons_succ]
        refine wpAnyH_take (i := 16) (oi := _) (v := ?vq15) rfl (by kernel_rfl) (by kernel_rfl) (by kernel_rfl) (fun _ _ _ h => h) (Or.inl ⟨by rfl, ?hq15⟩) (by assumption) ?rq15
        case hq15 => (intro w hSw; go_simp; try with_reducible rfl)
        try dsimp only [Act.put, List.getElem_toArray, List.getElem_cons_zero, List.getElem_cons_succ]; try simp only [List.setIfInBounds_toArray, List.set_cons_zero, List.set_cons_succ]
        refine wpAnyH_done (by kernel_rfl) ?_ _
        go_wp2
        go_ret
        exact ⟨rfl, then_ HBEL.out hb⟩
      exact AllReadyH.nil
    have hl := HFL.out (hp rfl)
    have HL := Lib.hid hl; clear hl hp
    go_wp2_with fail
    refine hK.out _ _ ⟨cell_below hb C0.out, cell_below hb C1.out⟩ (fun hHeld => ?_)
    clear hK K
    try dsimp only [Act.put, List.getElem_toArray, List.getElem_cons_zero, List.getElem_cons_succ]; try simp only [List.setIfInBounds_toArray, List.set_cons_zero, List.set_cons_succ]
    refine wpAnyH_take (i := 3) (oi := _) (v := ?vq18) rfl (by kernel_rfl) (by kernel_rfl) (by kernel_rfl) (fun _ _ _ h => h) (Or.inl ⟨by rfl, ?hq18⟩) (by assumption) ?rq18
    case hq18 => (intro w hSw; go_simp; try with_reducible rfl)
    try dsimp only [Act.put, List.getElem_toArray, List.getElem_cons_zero, List.getElem_cons_succ]; try simp only [List.setIfInBounds_toArray, List.set_cons_zero, List.set_cons_succ]
    refine wpAnyH_take (i := 4) (oi := _) (v := ?vq19) rfl (by kernel_rfl) (by kernel_rfl) (by kernel_rfl) (fun _ _ _ h => h) (Or.inl ⟨by rfl, ?hq19⟩) (by assumption) ?rq19
    case hq19 => (intro w hSw; go_simp; try with_reducible rfl)
    try dsimp only [Act.put, List.getElem_toArray, List.getElem_cons_zero, List.getElem_cons_succ]; try simp only [List.setIfInBounds_toArray, List.set_cons_zero, List.set_cons_succ]
    refine wpAnyH_take (i := 5) (oi := _) (v := ?vq20) rfl (by kernel_rfl) (by kernel_rfl) (by kernel_rfl) (fun _ _ _ h => h) (Or.inl ⟨by rfl, ?hq20⟩) (by assumption) ?rq20
    case hq20 => (intro w hSw; go_simp; try with_reducible rfl)
    try dsimp only [Act.put, List.getElem_toArray, List.getElem_cons_zero, List.getElem_cons_succ]; try simp only [List.setIfInBounds_toArray, List.set_cons_zero, List.set_cons_succ]
    refine wpAnyH_take (i := 6) (oi := _) (v := ?vq21) rfl (by kernel_rfl) (by kernel_rfl) (by kernel_rfl) (fun _ _ _ h => h) (Or.inl ⟨by rfl, ?hq21⟩) (by assumption) ?rq21
    case hq21 => (intro w hSw; go_simp; try with_reducible rfl)
    try dsimp only [Act.put, List.getElem_toArray, List.getElem_cons_zero, List.getElem_cons_succ]; try simp only [List.setIfInBounds_toArray, List.set_cons_zero, List.set_cons_succ]
    refine wpAnyH_take (i := 8) (oi := _) (v := ?vq22) rfl (by kernel_rfl) (by kernel_rfl) (by kernel_rfl) (fun _ _ _ h => h) (Or.inl ⟨by rfl, ?hq22⟩) (by assumption) ?rq22
    case hq22 => (intro w hSw; go_simp; try with_reducible rfl)
    try dsimp only [Act.put, List.getElem_toArray, List.getElem_cons_zero, List.getElem_cons_succ]; try simp only [List.setIfInBounds_toArray, List.set_cons_zero, List.set_cons_succ]
    refine wpAnyH_take (i := 9) (oi := _) (v := ?vq23) rfl (by kernel_rfl) (by kernel_rfl) (by kernel_rfl) (fun _ _ _ h => h) (Or.inl ⟨by rfl, ?hq23⟩) (by assumption) ?rq23
    case hq23 => (intro w hSw; go_simp; try with_reducible rfl)
    try dsimp only [Act.put, List.getElem_toArray, List.getElem_cons_zero, List.getElem_cons_succ]; try simp only [List.setIfInBounds_toArray, List.set_cons_zero, List.set_cons_succ]
    refine wpAnyH_ready (rs := [7]) (by kernel_rfl) (by simp) ?_
    refine AllReadyH.cons (o := _) rfl (fun K hK => ?_) ?_
    · rw [if_pos (by rfl)]
      go_simp
      refine (H2.out HL.out _ (then_ HBEL.out hb)).mono ?_
      rintro e wx ⟨rfl, hbx⟩
      have hb := then_ hb hbx
      clear hbx
      go_wp2_with fail
      refine hK.out _ _ ⟨cell_below hb C0.out, cell_below hb C1.out⟩ (fun hHeld => ?_)
      clear hK K
      try dsimp only [Act.put, List.getElem_toArray, List.getElem_cons_zero, List.getElem_cons_succ]; try simp only [List.setIfInBounds_toArray, List.set_cons_zero, List.set_cons_succ]
      refine wpAnyH_ready (rs := [10]) (by kernel_rfl) (by simp) ?_
      refine AllReadyH.cons (o := _) rfl (fun K hK => ?_) ?_
      · rw [if_pos (by rfl)]
        go_simp
        refine (H3.out HL.out _ (then_ HBEL.out hb)).mono ?_
        rintro e wx ⟨rfl, hbx⟩
        have hb := then_ hb hbx
        clear hbx
        go_wp2_with fail
        refine hK.out _ _ ⟨cell_below hb C0.out, cell_below hb C1.out⟩ (fun hHeld => ?_)
        clear hK K
        try dsimp only [Act.put, List.getElem_toArray, List.getElem_cons_zero, List.getElem_cons_succ]; try simp only [List.setIfInBounds_toArray, List.set_cons_zero, List.set_cons_succ]
        refine wpAnyH_take (i := 11) (oi := _) (v := ?vq24) rfl (by kernel_rfl) (by kernel_rfl) (by kernel_rfl) (fun _ _ _ h => h) (Or.inl ⟨by rfl, ?hq24⟩) (by assumption) ?rq24
        case hq24 => (intro w hSw; go_simp; try with_reducible rfl)
        try dsimp only [Act.put, List.getElem_toArray, List.getElem_cons_zero, List.getElem_cons_succ]; try simp only [List.setIfInBounds_toArray, List.set_cons_zero, List.set_cons_succ]
        refine wpAnyH_take (i := 12) (oi := _) (v := ?vq25) rfl (by kernel_rfl) (by kernel_rfl) (by kernel_rfl) (fun _ _ _ h => h) (Or.inl ⟨by rfl, ?hq25⟩) (by assumption) ?rq25
        case hq25 => (intro w hSw; go_simp; try with_reducible rfl)
        try dsimp only [Act.put, List.getElem_toArray, List.getElem_cons_zero, List.getElem_cons_succ]; try simp only [List.setIfInBounds_toArray, List.set_cons_zero, List.set_cons_succ]
        refine wpAnyH_take (i := 13) (oi := _) (v := ?vq26) rfl (by kernel_rfl) (by kernel_rfl) (by kernel_rfl) (fun _ _ _ h => h) (Or.inl ⟨by rfl, ?hq26⟩) (by assumption) ?rq26
        case hq26 => (intro w hSw; go_simp; try with_reducible rfl)
        try dsimp only [Act.put, List.getElem_toArray, List.getElem_cons_zero, List.getElem_cons_succ]; try simp only [List.setIfInBounds_toArray, List.set_cons_zero, List.set_cons_succ]
        refine wpAnyH_ready (rs := [14]) (by kernel_rfl) (by simp) ?_
        refine AllReadyH.cons (o := _) rfl (fun K hK => ?_) ?_
        · rw [if_pos (by rfl)]
          go_simp
          refine (awake47_any _).mono ?_
          rintro e wx ⟨rfl, hbx⟩
          have hb := then_ hb hbx
          clear hbx
          go_wp2_with fail
          refine hK.out _ _ ⟨cell_below hb C0.out, cell_below hb C1.out⟩ (fun hHeld => ?_)
          clear hK K
          try dsimp only [Act.put, List.getElem_toArray, List.getElem_cons_zero, List.getElem_cons_succ]; try simp only [List.setIfInBounds_toArray, List.set_cons_zero, List.set_cons_succ]
          refine wpAnyH_take (i := 15) (oi := _) (v := ?vq27) rfl (by kernel_rfl) (by kernel_rfl) (by kernel_rfl) (fun _ _ _ h => h) (Or.inl ⟨by rfl, ?hq27⟩) (by assumption) ?rq27
          case hq27 => (intro w hSw; go_simp; try with_reducible rfl)
          try dsimp only [Act.put, List.getElem_toArray, List.getElem_cons_zero, List.getElem_cons_succ]; try simp only [List.setIfInBounds_toArray, List.set_cons_zero, List.set_cons_succ]
          refine wpAnyH_take (i := 16) (oi := _) (v := ?vq28) rfl (by kernel_rfl) (by kernel_rfl) (by kernel_rfl) (fun _ _ _ h => h) (Or.inl ⟨by rfl, ?hq28⟩) (by assumption) ?rq28
          case hq28 => (intro w hSw; go_simp; try with_reducible rfl)
          try dsimp only [Act.put, List.getElem_toArray, List.getElem_cons_zero, List.getElem_cons_succ]; try simp only [List.setIfInBounds_toArray, List.set_cons_zero, List.set_cons_succ]
          refine wpAnyH_done (by kernel_rfl) ?_ _
          go_wp2
          go_ret
          exact ⟨rfl, then_ HBEL.out hb⟩
        exact AllReadyH.nil
      exact AllReadyH.nil
    exact AllReadyH.nil
  exact AllReadyH.nil
end Go.Proofs.Ytlmplibdfhamjaa
