/- writer: an answer is taken; what is asked of a writer. -/
import Derived.Test.YtebfmacbdjnhbaaWriterB
attribute [local go_sem ↓] Go.wp_at_zero Go.wp_at_succ
namespace Go.Proofs.Ytebfmacbdjnhbaa
open Go.RowKit Go.Mem
set_option linter.unusedVariables false
theorem own_block {w w' : World} {base n : Nat} {e : TypeId} {sz : Nat} {v : Value} {cs : List Value} (h : w.ownsRow base e sz v n cs) (hb : ∀ k, v.ownBlock = some k → w'.heap[k]? = w.heap[k]?) : w'.ownsRow base e sz v n cs := by
  obtain ⟨h1, h2⟩ := h
  refine ⟨h1, ?_⟩
  rcases h2 with h2 | ⟨g, cap, cur, hv, hg, hh, r⟩
  · exact .inl h2
  · subst hv; exact .inr ⟨g, cap, cur, rfl, hg, (hb g rfl).trans hh, r⟩
theorem enter_answer1 (args : Array Value) (W : World) : Sem.run Try.prog (callFunc 119 args) W = .ok (.enter 119 args) W := by kernel_rfl
theorem enter_Open1 (args : Array Value) (W : World) : Sem.run Try.prog (callFunc 98 args) W = .ok (.enter 98 args) W := by kernel_rfl
theorem answer1_any (x : Ch) (s : ByteArray) (b : Nat) (w : World) (hc : w.cell? ⟨b, 0, none⟩ = some (.string s)) :
    Calls Try.prog 119 #[.agg #[.string x.node, .bool x.prim], .pointer (some ⟨b, 0, none⟩)] w fun e w' => e = .returned (.bool (decide (x.node = s))) ∧ Below w.heap.size w w' := by
  obtain ⟨xn, xp⟩ := x
  have hlt := World.block_lt_of_cell? w _ hc
  simp only at hlt
  have k : ∀ o, (w.alloc o).cell? ⟨b, 0, none⟩ = some (.string s) := fun o => cell_below ((Below.refl _ _).alloc (Nat.le_refl _) o) hc
  have hb := str_beq xn s
  go_enter Try.func119, Try.ntmps119
  go_wp2
  go_ret
  exact ⟨rfl, (Below.refl _ _).alloc (Nat.le_refl _) _⟩
theorem open1_any (x : Ch) (w : World) (base T g M K : Nat) (X : Wt) (b : Nat) (h : WrAt w base T g M K X) (hc : w.cell? ⟨b, 0, none⟩ = some (.pointer (some ⟨g, 0, none⟩))) (hok : txOk x.node) :
    Calls Try.prog 98 #[.agg #[.string x.node, .bool x.prim], .pointer (some ⟨b, 0, none⟩)] w fun e w' => e = .returned (.bool (decide (rep X.f x.node = 0))) ∧ Below w.heap.size w w' := by
  obtain ⟨LA, ln, lc, n, c, hg, hl, hn, hd, hnK, _⟩ := h
  obtain ⟨xn, xp⟩ := x
  simp only at hok
  have c9 : w.cell? ⟨g, 9, none⟩ = some (.map (some M)) := (cell_of_block hg 9).trans rfl
  have k : ∀ o, (w.alloc o).cell? ⟨b, 0, none⟩ = some (.pointer (some ⟨g, 0, none⟩)) := fun o => cell_below ((Below.refl _ _).alloc (Nat.le_refl _) o) hc
  have k9 : ∀ o, (w.alloc o).cell? ⟨g, 9, none⟩ = some (.map (some M)) := fun o => cell_below ((Below.refl _ _).alloc (Nat.le_refl _) o) c9
  have hlook : ∀ o q, (Instr.lookup 98 (.map (some M)) (.string xn) false).run Try.prog ((w.alloc o).drewN q) = .ok (.int .i64 (rep X.f xn)) ((w.alloc o).drewN q) := fun o q => by
    have hd' : DictS ((w.alloc o).drewN q) M n X.f c := (hd.alloc _).block rfl
    exact hd'.look kwS Try.underlying98 Try.underlying3 (zeroI _) xn hok
  have heq : (rep X.f xn == 0) = decide (rep X.f xn = 0) := rfl
  clear hg hl hd hn hnK hok
  go_enter Try.func98, Try.ntmps98
  go_wp2
  go_quiet (fail)
  go_wp2
  go_ret
  exact ⟨rfl, drewN_ ((Below.refl _ _).alloc (Nat.le_refl _) _) _⟩
theorem state_any (w : World) (base T g M K : Nat) (X : Wt) (h : WrAt w base T g M K X) : Calls Try.prog 62 #[.pointer (some ⟨g, 0, none⟩)] w fun e w' => e = .returned (.int .i64 X.state) ∧ w = w' := by
  obtain ⟨LA, ln, lc, n, c, hg, _⟩ := h
  have c11 : w.cell? ⟨g, 11, none⟩ = some (.int .i64 X.state) := (cell_of_block hg 11).trans rfl
  clear hg
  go_enter Try.func62, Try.ntmps62
  go_wp2
  go_ret
  exact ⟨rfl, rfl⟩
theorem err_any (w : World) (base T g M K : Nat) (X : Wt) (h : WrAt w base T g M K X) : Calls Try.prog 63 #[.pointer (some ⟨g, 0, none⟩)] w fun e w' => e = .returned (.int .i64 X.err) ∧ w = w' := by
  obtain ⟨LA, ln, lc, n, c, hg, _⟩ := h
  have c12 : w.cell? ⟨g, 12, none⟩ = some (.int .i64 X.err) := (cell_of_block hg 12).trans rfl
  clear hg
  go_enter Try.func63, Try.ntmps63
  go_wp2
  go_ret
  exact ⟨rfl, rfl⟩
theorem opn_any (w : World) (base T g M K : Nat) (X : Wt) (h : WrAt w base T g M K X) (hm : X.l.length ≤ 1000) (hs : ∀ s ∈ nodes X.l, txOk s) : Calls Try.prog 66 #[.pointer (some ⟨g, 0, none⟩)] w fun e w' => e = .returned (.bool X.opn) ∧ Below w.heap.size w w' := by
  have HW := Lib.hid h
  have hlt := h.lt
  obtain ⟨LA, ln, lc, n, c, hg, hl, hn, _⟩ := h
  have c8 : ∀ o, (w.alloc o).cell? ⟨g, 8, none⟩ = some (.slice LA ln lc) := fun o => cell_below ((Below.refl _ _).alloc (Nat.le_refl _) o) ((cell_of_block hg 8).trans rfl)
  have hr := Rd.of_own hl
  have HL := Lib.hid hn; have HS := Lib.hid hs
  have hopn : X.l.any (fun x => decide (rep X.f x.node = 0)) = X.opn := by unfold Wt.opn nodes; rw [List.any_map]; rfl
  have HOP := Lib.hid hopn
  have hf : FvC Try.prog (w.alloc (.cells #[.pointer (some ⟨g, 0, none⟩)] 86)) 98 #[.pointer (some ⟨w.heap.size, 0, none⟩)] (fun x => decide (rep X.f x.node = 0)) X.l :=
    ⟨enter_Open1, fun W x hb hx => open1_any x W base T g M K X w.heap.size (HW.out.below (((Below.refl _ _).alloc (Nat.le_refl _) _).trans (hb.mono (by simp)))) (by rw [hb.cell (by simp)]; simp) (HS.out _ (List.mem_map_of_mem hx))⟩
  clear hg hl hn hs hopn
  go_enter Try.func66, Try.ntmps66
  go_wp2_with fail
  refine (containsFuncC_any LA ln lc X.l _ _ (fun x => decide (rep X.f x.node = 0)) _ (hr.alloc _) HL.out (by have := HL.out; omega) hf).mono ?_
  rintro e w1 ⟨rfl, hb1⟩
  rw [HOP.out]
  go_wp2
  go_ret
  exact ⟨rfl, ba hb1⟩
theorem wr_put {w w3 : World} {base T g M K n c ln lc : Nat} {LA : Option Addr} {X : Wt} {s : ByteArray} {k : Int} (h2 : w.ownsRow base 71 2 (.slice LA ln lc) ln (X.l.flatMap Ch.cells)) (h3 : X.l.length = ln) (hd : DictS w3 M (n + 1) (fun u => if u = s then some k else X.f u) c)
    (hb : w3.heap[g]? = some (.cells (X.cells (.slice LA ln lc) M) 100 (0, 0))) (hg : w.drew.grownBy w3 (some M)) (hn : n ≤ K) (h1 : g ≠ M) (ho : (Value.slice LA ln lc).ownBlock ≠ some g ∧ (Value.slice LA ln lc).ownBlock ≠ some M) (h4 : base ≤ g) (h5 : base ≤ M ∧ g < T ∧ M < T ∧ ∀ i, (Value.slice LA ln lc).ownBlock = some i → i < T) :
    WrAt w3 base T g M (K + 1) { X with f := upd X.f s k } :=
  ⟨LA, ln, lc, n + 1, c, hb, own_block h2 (fun i hi => hg.block i (h2.lt i hi).2 (fun e => ho.2 (e ▸ hi))), h3, hd, by omega, ⟨h1, ho⟩, h4, h5⟩
theorem WrAt.mono {w : World} {base T g M K K' : Nat} {X : Wt} (h : WrAt w base T g M K X) (hK : K ≤ K') : WrAt w base T g M K' X := by
  obtain ⟨LA, ln, lc, n, c, h1, h2, h3, h4, h5, r⟩ := h
  exact ⟨LA, ln, lc, n, c, h1, h2, h3, h4, by omega, r⟩

theorem mem_nodes (l : List Ch) (s : ByteArray) : l.any (fun x => decide (x.node = s)) = mem s (nodes l) := by unfold mem nodes; rw [List.any_map]; rfl
set_option maxRecDepth 100000 in
set_option maxHeartbeats 2000000 in
theorem answer_any (w : World) (base T g M K : Nat) (X : Wt) (s : ByteArray) (k : Int) (b : Bool) (h : WrAt w base T g M K X) (hm : X.l.length ≤ 1000) (hs : ∀ s ∈ nodes X.l, txOk s) (hK : K ≤ 1000) (hok : txOk s) (hk : (Lit.int .i64 k).wf = true) :
    Calls Try.prog 113 #[.pointer (some ⟨g, 0, none⟩), .string s, .int .i64 k, .bool b] w (LeavesW base T g M (K + 1) (X.ans s k b) w) := by
  have HW := Lib.hid h
  have hlt := h.lt
  obtain ⟨LA, ln, lc, n, c, hg, hl, hn, hd, hnK, ⟨d1, d2, d3⟩, d4, d5⟩ := h
  have hMlt := hd.lt
  have hbel : ∀ o, Below w.heap.size w (w.alloc o) := fun o => (Below.refl _ _).alloc (Nat.le_refl _) o
  have k8 : ∀ o, (w.alloc o).cell? ⟨g, 8, none⟩ = some (.slice LA ln lc) := fun o => cell_below (hbel o) ((cell_of_block hg 8).trans rfl)
  have k9 : ∀ o, (w.alloc o).cell? ⟨g, 9, none⟩ = some (.map (some M)) := fun o => cell_below (hbel o) ((cell_of_block hg 9).trans rfl)
  have hr := Rd.of_own hl
  have HL := Lib.hid hn; have HS := Lib.hid hs; have HD := Lib.hid hd
  have hlook : ∀ o q, (Instr.lookup 98 (.map (some M)) (.string s) false).run Try.prog ((w.alloc o).drewN q) = .ok (.int .i64 (rep X.f s)) ((w.alloc o).drewN q) := fun o q => by
    have hd' : DictS ((w.alloc o).drewN q) M n X.f c := (HD.out.alloc _).block rfl
    exact hd'.look kwS Try.underlying98 Try.underlying3 (zeroI _) s hok
  have heqm := fun W => run_eql_map_nil (P := Try.prog) W 98 9 3 (some M) Try.underlying98
  have hf : FvC Try.prog (w.alloc (.cells #[.string s] 9)) 119 #[.pointer (some ⟨w.heap.size, 0, none⟩)] (fun x => decide (x.node = s)) X.l :=
    ⟨enter_answer1, fun W x hb hx => answer1_any x s w.heap.size W (by rw [hb.cell (by simp)]; simp)⟩
  have hbox : ∀ W, Below (w.alloc (.cells #[.string s] 9)).heap.size (w.alloc (.cells #[.string s] 9)) W → W.cell? ⟨w.heap.size, 0, none⟩ = some (.string s) := fun W hb => by rw [hb.cell (by simp)]; simp
  have HF := Lib.hid hf; have HB := Lib.hid hbox; clear hf hbox hbel
  clear hg hl hn hs hd
  by_cases hrep : rep X.f s = 0
  · have hne : (rep X.f s != 0) = false := by rw [bne_eq_false_iff_eq]; exact hrep
    have HREP := Lib.hid hrep; clear hrep
    go_enter Try.func113, Try.ntmps113
    go_wp2
    go_quiet (fail)
    clear hlook
    go_wp2_with fail
    have hf1 : FvC Try.prog ((w.alloc (.cells #[.string s] 9)).drewN nq) 119 #[.pointer (some ⟨w.heap.size, 0, none⟩)] (fun x => decide (x.node = s)) X.l :=
      ⟨HF.out.enter, fun W x hb hx => HF.out.ask W x ((drewN_ (Below.refl _ _) nq).trans hb) hx⟩
    refine (containsFuncC_any LA ln lc X.l _ _ (fun x => decide (x.node = s)) _ ((hr.alloc _).drewN nq) HL.out (by have := HL.out; omega) hf1).mono ?_
    rintro e w2 ⟨rfl, hb2⟩
    rw [mem_nodes]
    have hbA : Below w.heap.size w w2 := ba ((drewN_ (Below.refl _ _) nq).trans hb2)
    have kb : w2.cell? ⟨w.heap.size, 0, none⟩ = some (.string s) := HB.out _ ((drewN_ (Below.refl _ _) nq).trans hb2)
    have HW2 := Lib.hid (HW.out.below hbA)
    clear hf1 hb2 heqm hne k8 k9 HF HB HD HW
    generalize hmm : mem s (nodes X.l) = mb
    have HM := Lib.hid hmm; clear hmm
    cases mb
    · have HE := Lib.hid (Wt.ans_out (X := X) k b HM.out)
      go_wp2
      go_end0
      rw [HE.out]
      exact ⟨rfl, HW2.out.mono (by omega), Keeps2.of_below hbA⟩
    · have HE := Lib.hid (Wt.ans_in (X := X) k b HREP.out HM.out)
      obtain ⟨LA2, ln2, lc2, n2, c2, hg2, hl2, hn2, hd2, hnK2, ⟨e1, e2, e3⟩, e4, e5⟩ := HW2.out
      have k9 : w2.cell? ⟨g, 9, none⟩ = some (.map (some M)) := (cell_of_block hg2 9).trans rfl
      have hg2l := lt_of_block hg2
      have HG2 := Lib.hid hg2; have HL2 := Lib.hid hl2; have HN2 := Lib.hid hn2; have HD2 := Lib.hid hd2; have HO2 := Lib.hid (And.intro e2 e3)
      clear hg2 hl2 hn2 hd2 e2 e3 HW2 d2 d3
      obtain ⟨fv, hfv⟩ : ∃ v, X.full = v := ⟨_, rfl⟩
      have HFU := Lib.hid hfv; clear hfv
      cases fv
      · go_wp2
        go_still_tail 6, (by kernel_rfl)
        go_wp2_with (at_mapUpdate; refine wpList_dict_put rfl (.tmp 35) (.tmp 36) (.tmp 37) rfl (HD2.out.drew) kwS Try.underlying98 Try.underlying3 (by unfold maxLen; omega) rfl s hok rfl k rfl hk ?_; intro w3 hd3 hg3; have hb3 : w3.heap[g]? = some (.cells (X.cells (.slice LA2 ln2 lc2) M) 100 (0, 0)) := (hg3.block g hg2l (fun e => by injection e with e; exact e1 e)).trans HG2.out; have k10 : w3.cell? ⟨g, 10, none⟩ = some (.bool X.full) := (cell_of_block hb3 10).trans rfl; rw [HFU.out] at k10; have f10 : w3.frozen? ⟨g, 10, none⟩ = false := free_of_block hb3 10; have HW3 := Lib.hid (wr_put HL2.out HN2.out hd3 hb3 hg3 hnK2 e1 HO2.out e4 e5); have HG3 := Lib.hid hg3; clear hd3 hg3 hb3)
        have hW4 : WrAt (w3.setCell ⟨g, 10, none⟩ (.bool b)) base T g M (K + 1) { X with f := upd X.f s k, full := X.full || b } := HW3.out.set 10 _ (fun lv => by simp [Wt.cells, HFU.out]) rfl rfl
        have hk4 : Keeps2 g M w (w3.setCell ⟨g, 10, none⟩ (.bool b)) := ((Keeps2.of_below (hbA.drew)).then_ (Keeps2.grown HG3.out)).then_ (Keeps2.setCell g M 10 _ _)
        refine (decide_any _ base T g M (K + 1) { X with f := upd X.f s k, full := X.full || b } hW4 hm HS.out).mono ?_
        rintro e w5 ⟨rfl, hw5, hk5⟩
        have HW5 := Lib.hid hw5; have HK5 := Lib.hid (hk4.then_ hk5)
        clear hw5 hk4 hk5 hW4
        go_wp2
        go_end0
        rw [HE.out]
        exact ⟨rfl, HW5.out, HK5.out⟩
      · go_wp2
        go_still_tail 6, (by kernel_rfl)
        go_wp2_with (at_mapUpdate; refine wpList_dict_put rfl (.tmp 35) (.tmp 36) (.tmp 37) rfl (HD2.out.drew) kwS Try.underlying98 Try.underlying3 (by unfold maxLen; omega) rfl s hok rfl k rfl hk ?_; intro w3 hd3 hg3; have hb3 : w3.heap[g]? = some (.cells (X.cells (.slice LA2 ln2 lc2) M) 100 (0, 0)) := (hg3.block g hg2l (fun e => by injection e with e; exact e1 e)).trans HG2.out; have k10 : w3.cell? ⟨g, 10, none⟩ = some (.bool X.full) := (cell_of_block hb3 10).trans rfl; rw [HFU.out] at k10; have f10 : w3.frozen? ⟨g, 10, none⟩ = false := free_of_block hb3 10; have HW3 := Lib.hid (wr_put HL2.out HN2.out hd3 hb3 hg3 hnK2 e1 HO2.out e4 e5); have HG3 := Lib.hid hg3; clear hd3 hg3 hb3)
        have hW4 : WrAt (w3.setCell ⟨g, 10, none⟩ (.bool true)) base T g M (K + 1) { X with f := upd X.f s k, full := X.full || b } := HW3.out.set 10 _ (fun lv => by simp [Wt.cells, HFU.out]) rfl rfl
        have hk4 : Keeps2 g M w (w3.setCell ⟨g, 10, none⟩ (.bool true)) := ((Keeps2.of_below (hbA.drew)).then_ (Keeps2.grown HG3.out)).then_ (Keeps2.setCell g M 10 _ _)
        refine (decide_any _ base T g M (K + 1) { X with f := upd X.f s k, full := X.full || b } hW4 hm HS.out).mono ?_
        rintro e w5 ⟨rfl, hw5, hk5⟩
        have HW5 := Lib.hid hw5; have HK5 := Lib.hid (hk4.then_ hk5)
        clear hw5 hk4 hk5 hW4
        go_wp2
        go_end0
        rw [HE.out]
        exact ⟨rfl, HW5.out, HK5.out⟩
  · have hne : (rep X.f s != 0) = true := by rw [bne_iff_ne]; exact hrep
    have HE := Lib.hid (Wt.ans_busy k b hrep); clear hrep
    go_enter Try.func113, Try.ntmps113
    go_wp2
    go_quiet (fail)
    clear hlook
    go_wp2
    go_end0
    rw [HE.out]
    have hb := drewN_ ((Below.refl w.heap.size w).alloc (Nat.le_refl _) (.cells #[.string s] 9)) nq
    exact ⟨rfl, (HW.out.below hb).mono (by omega), Keeps2.of_below hb⟩
end Go.Proofs.Ytebfmacbdjnhbaa
