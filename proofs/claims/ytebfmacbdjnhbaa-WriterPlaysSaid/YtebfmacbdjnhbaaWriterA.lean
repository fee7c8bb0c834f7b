/- writer: functions on lists of choices that ask a function value; a writer in memory; the names that answered so. -/
import Derived.Test.YtebfmacbdjnhbaaWriterP
import Derived.Test.YtebfmacbdjnhbaaDict
import Derived.OneCell
import Derived.Deep.DrawnRows
import Derived.Deep.RegionHeld3
attribute [local go_sem ↓] Go.wp_at_zero Go.wp_at_succ
namespace Go.Proofs.Ytebfmacbdjnhbaa
open Go.RowKit Go.Mem
set_option linter.unusedVariables false
/-- a function value that answers a bool to a choice -/
structure FvC (P : Program) (w : World) (f : FuncId) (caps : Array Value) (p : Ch → Bool) (l : List Ch) : Prop where
  enter : ∀ (args : Array Value) (W : World), Sem.run P (callFunc f args) W = .ok (.enter f args) W
  ask : ∀ W (x : Ch), Below w.heap.size w W → x ∈ l → Calls P f (#[.agg #[.string x.node, .bool x.prim]] ++ caps) W fun e W' => e = .returned (.bool (p x)) ∧ Below W.heap.size W W'
def FoundC (p : Ch → Bool) (l : List Ch) (w : World) (e : Ending) (w' : World) : Prop :=
  Below w.heap.size w w' ∧ ((∃ k : Nat, ∃ h : k < l.length, p l[k] = true ∧ e = .returned (.int .i64 k)) ∨ ((∀ s ∈ l, p s = false) ∧ e = .returned (.int .i64 (-1))))
set_option maxRecDepth 100000 in
set_option maxHeartbeats 400000 in
theorem indexFuncC_any (A : Option Addr) (n c : Nat) (l : List Ch) (f : FuncId) (caps : Array Value) (p : Ch → Bool) (w : World) (hr : Rd w A (l.flatMap Ch.cells)) (hn : l.length = n) (hm : n ≤ 1000000) (hf : FvC Try.prog w f caps p l) :
    Calls Try.prog 116 #[.slice A n c, .func (.func f) #[] caps] w (FoundC p l w) := by
  have HN := Lib.hid hn; clear hn
  go_enter Try.func116, Try.ntmps116
  go_wp2
  go_loopw [8] (fun i wr => ∃ k : Nat, k ≤ n ∧ i = .int .i64 k ∧ (∀ s ∈ l.take k, p s = false) ∧ Below w.heap.size w wr) (fun i _ => n - (intOf i).toNat)
  case atStart => exact ⟨0, Nat.zero_le _, rfl, by simp, Below.refl _ _⟩
  case round =>
    obtain ⟨k, hk, rfl, hnot, hbel⟩ := hrel
    have HNOT := Lib.hid hnot; clear hnot
    by_cases hlt : k < n
    · have hx : k < l.length := by have := HN.out; omega
      obtain ⟨b, off, rfl, hc0, hc1⟩ := ch_row (hr.below hbel) k hx
      have hcall := Lib.hid (hf.ask wr l[k] hbel (List.getElem_mem hx))
      have hcf := hf.enter
      generalize hs : l[k] = s at hc0 hc1 hcall
      have HS := Lib.hid hs; clear hs
      obtain ⟨sn, sp⟩ := s
      simp only at hc0 hc1
      have hi0 : (0 : Int) ≤ (k : Int) := by omega
      have hi1 : (k : Int) < (n : Int) := by omega
      go_wp2_with fail
      refine hcall.out.mono ?_
      rintro e w1 ⟨rfl, hb1⟩
      clear hcf hcall hc0 hc1
      generalize hp : p ⟨sn, sp⟩ = ps
      have HP := Lib.hid hp; clear hp
      cases ps
      · go_wp2
        go_roundw
        case rel => exact ⟨k + 1, by omega, by go_num, fun t ht => by
          rw [take_succ_mem _ _ hx] at ht
          rcases ht with ht | ht
          · exact HNOT.out t ht
          · rw [ht, HS.out]; exact HP.out, then_ hbel hb1⟩
        case measure => simp [intOf]; omega
      · go_wp2
        go_ret
        exact ⟨then_ hbel hb1, .inl ⟨k, hx, by rw [HS.out]; exact HP.out, rfl⟩⟩
    · obtain rfl : k = n := by omega
      go_wp2
      go_ret
      exact ⟨hbel, .inr ⟨fun s hs => HNOT.out s (by rw [← HN.out, List.take_length]; exact hs), rfl⟩⟩
set_option maxRecDepth 100000 in
set_option maxHeartbeats 400000 in
theorem containsFuncC_any (A : Option Addr) (n c : Nat) (l : List Ch) (f : FuncId) (caps : Array Value) (p : Ch → Bool) (w : World) (hr : Rd w A (l.flatMap Ch.cells)) (hn : l.length = n) (hm : n ≤ 1000000) (hf : FvC Try.prog w f caps p l) :
    Calls Try.prog 97 #[.slice A n c, .func (.func f) #[] caps] w fun e w' => e = .returned (.bool (l.any p)) ∧ Below w.heap.size w w' := by
  have HN := Lib.hid hn; clear hn
  go_enter Try.func97, Try.ntmps97
  go_wp2_with fail
  refine (indexFuncC_any A n c l f caps p _ hr HN.out hm hf).mono ?_
  rintro e w1 ⟨hb1, ⟨k, hk, hpk, rfl⟩ | ⟨hall, rfl⟩⟩
  · have h0 : (0 : Int) ≤ (k : Int) := by omega
    have HP := Lib.hid hpk; clear hpk
    go_wp2
    go_ret
    exact ⟨ret_bool (by symm; rw [List.any_eq_true]; exact ⟨_, List.getElem_mem hk, HP.out⟩), hb1⟩
  · have HA := Lib.hid hall; clear hall
    go_wp2
    go_ret
    exact ⟨ret_bool (by symm; rw [List.any_eq_false]; intro s hs; simp [HA.out s hs]), hb1⟩
theorem el_choice : Elem Try.prog 59 71 2 24 := Elem.of (z := .agg #[.string ByteArray.empty, .bool false]) Try.underlying59 (by kernel_rfl) rfl (by decide)
theorem one_choices (l : List Ch) : ∀ u ∈ l.flatMap Ch.cells, u.oneCell' = true := by
  intro u hu
  rw [List.mem_flatMap] at hu
  obtain ⟨x, _, hx⟩ := hu
  simp [Ch.cells] at hx
  rcases hx with rfl | rfl <;> rfl
theorem choices_length (l : List Ch) : (l.flatMap Ch.cells).length = l.length * 2 := by
  induction l with
  | nil => rfl
  | cons x l ih => simp [ih, Ch.cells]; omega
set_option maxRecDepth 100000 in
set_option maxHeartbeats 400000 in
theorem cloneC_any (A : Option Addr) (n c : Nat) (l : List Ch) (w : World) (hr : Rd w A (l.flatMap Ch.cells)) (hn : l.length = n) (hm : n ≤ 1000000) :
    Calls Try.prog 94 #[.slice A n c] w (Makes 71 2 n (l.flatMap Ch.cells) w) := by
  have heq := fun W => Lib.run_eql_slice_nil (P := Try.prog) W 59 71 A n c 0 0 Try.underlying59
  cases A with
  | none =>
    have h0 := hr.none_nil
    have hl : l.length = 0 := by have := choices_length l; rw [h0] at this; simp at this; omega
    obtain rfl : n = 0 := by omega
    have HZ := Lib.hid h0; clear h0 hl hn
    go_enter Try.func94, Try.ntmps94
    go_wp2_with fail
    go_ret
    exact ⟨_, rfl, by rw [HZ.out]; exact World.ownsRow_nil _ _ _ _, Below.refl _ _⟩
  | some a =>
    have hne : Option.isNone (some a) = false := rfl
    have hl : (l.flatMap Ch.cells).length = n * 2 := by rw [choices_length, hn]
    have HL := Lib.hid hl; clear hl hn
    go_enter Try.func94, Try.ntmps94
    go_wp2_with (at_builtin; refine wpList_app el_choice rfl _ _ rfl w.heap.size _ 0 [] rfl (World.ownsRow_made w #[] 0 (Nat.le_refl _) (Nat.zero_le _) rfl) (some a) n c (l.flatMap Ch.cells) rfl HL.out (hr.alloc _) (one_choices _) (by unfold maxLen; omega) (by omega) (by simp) ?_; intro v1 w1 hown1 hbel1 _ _)
    go_ret
    exact ⟨_, rfl, by simpa using hown1, ((Below.refl _ _).alloc (Nat.le_refl _) _).trans hbel1⟩
theorem kwS : Keyw Try.prog 9 txOk Value.string txLit := keyw_string Try.underlying9
theorem zeroI (w : World) : (zeroValue 3).run Try.prog w = .ok (.int .i64 0) w := by kernel_rfl
abbrev DictS (w : World) (b n : Nat) (f : ByteArray → Option Int) (c : Nat) : Prop := Dict Try.prog 9 3 txOk txLit w b n f c
/-- a writer's cells -/
def Wt.cells (X : Wt) (lv : Value) (M : Nat) : Array Value := #[.int .i64 X.p.n, .int .i64 X.p.r, .int .i64 X.p.w, .int .i64 X.p.pr, .int .i64 X.p.pw, .bool X.p.several, .bool X.p.missing, .bool X.p.basic, lv, .map (some M), .bool X.full, .int .i64 X.state, .int .i64 X.err]
/-- block g is a writer X, with at most K replies -/
def WrAt (w : World) (base T g M K : Nat) (X : Wt) : Prop :=
  ∃ (LA : Option Addr) (ln lc n c : Nat), w.heap[g]? = some (.cells (X.cells (.slice LA ln lc) M) 100 (0, 0)) ∧ w.ownsRow base 71 2 (.slice LA ln lc) ln (X.l.flatMap Ch.cells) ∧ X.l.length = ln ∧ DictS w M n X.f c ∧ n ≤ K ∧
    (g ≠ M ∧ (Value.slice LA ln lc).ownBlock ≠ some g ∧ (Value.slice LA ln lc).ownBlock ≠ some M) ∧ (base ≤ g ∧ base ≤ M ∧ g < T ∧ M < T ∧ ∀ i, (Value.slice LA ln lc).ownBlock = some i → i < T)
theorem WrAt.lt {w : World} {base T g M K : Nat} {X : Wt} (h : WrAt w base T g M K X) : g < w.heap.size := by
  obtain ⟨LA, ln, lc, n, c, h1, _⟩ := h
  exact lt_of_block h1
theorem WrAt.below {w w' : World} {base T g M K : Nat} {X : Wt} (h : WrAt w base T g M K X) (hb : Below w.heap.size w w') : WrAt w' base T g M K X := by
  have hlt := h.lt
  obtain ⟨LA, ln, lc, n, c, h1, h2, h3, h4, r⟩ := h
  exact ⟨LA, ln, lc, n, c, (hb.block g hlt).trans h1, own_below h2 hb, h3, h4.below hb, r⟩
theorem cell_of_block {w : World} {b : Nat} {cs : Array Value} {t : TypeId} {z : Nat × Nat} (h : w.heap[b]? = some (.cells cs t z)) (i : Nat) : w.cell? ⟨b, i, none⟩ = cs[i]? := by simp [World.cell?, h]
theorem free_of_block {w : World} {b : Nat} {cs : Array Value} {t : TypeId} (h : w.heap[b]? = some (.cells cs t (0, 0))) (i : Nat) : w.frozen? ⟨b, i, none⟩ = false := by simp [World.frozen?, h]
theorem block_setCell {w : World} {b : Nat} {cs : Array Value} {t : TypeId} (h : w.heap[b]? = some (.cells cs t (0, 0))) (i : Nat) (v : Value) : (w.setCell ⟨b, i, none⟩ v).heap[b]? = some (.cells (cs.setIfInBounds i v) t (0, 0)) := heap_setCell_same w b i cs t v h
theorem namesL_snoc (l : List Ch) (x : Ch) (f : ByteArray → Option Int) (k : Int) : namesL (l ++ [x]) f k = namesL l f k ++ (if rep f x.node = k then [x.node] else []) := by
  unfold namesL nodes; rw [List.map_append, List.filter_append]; by_cases h : rep f x.node = k <;> simp [h]
theorem namesL_le (l : List Ch) (f : ByteArray → Option Int) (k : Int) : (namesL l f k).length ≤ l.length := by
  unfold namesL nodes; exact Nat.le_trans (List.length_filter_le _ _) (by simp)
set_option maxRecDepth 100000 in
set_option maxHeartbeats 1000000 in
theorem names_any (w : World) (base T g M K : Nat) (X : Wt) (k : Int) (h : WrAt w base T g M K X) (hm : X.l.length ≤ 1000) (hs : ∀ s ∈ nodes X.l, txOk s) :
    Calls Try.prog 114 #[.pointer (some ⟨g, 0, none⟩), .int .i64 k] w (GivesT (namesL X.l X.f k) w) := by
  have hlt := h.lt
  obtain ⟨LA, ln, lc, n, c, hg, hl, hn, hd, hnK, _⟩ := h
  have HN := Lib.hid hn; have HS := Lib.hid hs; have HD := Lib.hid hd
  have hr := Rd.of_own hl
  have c8 : w.cell? ⟨g, 8, none⟩ = some (.slice LA ln lc) := (cell_of_block hg 8).trans rfl
  have c9 : w.cell? ⟨g, 9, none⟩ = some (.map (some M)) := (cell_of_block hg 9).trans rfl
  have hln : ln ≤ 1000 := by omega
  clear hn hs hd hg hl hnK hm
  go_enter Try.func114, Try.ntmps114
  go_wp2
  go_loopw [5, 13] (fun a i wr => ∃ j : Nat, j ≤ ln ∧ i = .int .i64 j ∧ wr.ownsRow w.heap.size 9 1 a (namesL (X.l.take j) X.f k).length ((namesL (X.l.take j) X.f k).map Value.string) ∧ Below w.heap.size w wr) (fun _ i _ => ln - (intOf i).toNat)
  case atStart => exact ⟨0, Nat.zero_le _, rfl, World.ownsRow_nil _ _ _ _, Below.refl _ _⟩
  case round =>
    obtain ⟨j, hj, rfl, hown, hbel⟩ := hrel
    by_cases hlj : j < ln
    · have hx : j < X.l.length := by have := HN.out; omega
      obtain ⟨b, off, rfl, hc0, hc1⟩ := ch_row (hr.below hbel) j hx
      have hsn : namesL (X.l.take (j + 1)) X.f k = namesL (X.l.take j) X.f k ++ (if rep X.f X.l[j].node = k then [X.l[j].node] else []) := by
        rw [List.take_succ_eq_append_getElem hx, namesL_snoc]
      have hle : (namesL (X.l.take j) X.f k).length ≤ j := Nat.le_trans (namesL_le _ _ _) (by rw [List.length_take]; omega)
      have hok : txOk X.l[j].node := HS.out _ (List.mem_map_of_mem (List.getElem_mem hx))
      have k9 := cell_below hbel c9
      have k9' : ∀ o, (wr.alloc o).cell? ⟨g, 9, none⟩ = some (.map (some M)) := fun o => cell_below ((Below.refl _ _).alloc (Nat.le_refl _) o) k9
      generalize hcur : namesL (X.l.take j) X.f k = cur at *
      generalize X.l[j] = x at *
      obtain ⟨xn, xp⟩ := x
      simp only at hc0 hc1 hsn hok
      have hlook : ∀ q, (Instr.lookup 98 (.map (some M)) (.string xn) false).run Try.prog ((wr.alloc (.cells #[.string xn, .bool xp] 71)).drewN q) = .ok (.int .i64 (rep X.f xn)) ((wr.alloc (.cells #[.string xn, .bool xp] 71)).drewN q) := fun q => by
        have hd' : DictS ((wr.alloc (.cells #[.string xn, .bool xp] 71)).drewN q) M n X.f c := ((HD.out.below hbel).alloc _).block rfl
        exact hd'.look kwS Try.underlying98 Try.underlying3 (zeroI _) xn hok
      have HSN := Lib.hid hsn; have HO := Lib.hid hown; clear hsn hown hok hcur
      have hi0 : (0 : Int) ≤ (j : Int) := by omega
      have hi1 : (j : Int) < (ln : Int) := by omega
      by_cases hk : rep X.f xn = k
      · have hkb : (rep X.f xn == k) = true := by rw [beq_iff_eq]; exact hk
        have HSN2 : Hid (namesL (X.l.take (j + 1)) X.f k = cur ++ [xn]) := Lib.hid (by rw [HSN.out, if_pos hk])
        clear hk
        go_wp2
        go_quiet (fail)
        have HO1 := Lib.hid (own_drewN (HO.out.alloc (.cells #[.string xn, .bool xp] 71)) nq)
        have hb1 : Below w.heap.size w ((wr.alloc (.cells #[.string xn, .bool xp] 71)).drewN nq) := drewN_ (hbel.alloc hbel.size _) nq
        clear hlook k9' HO
        go_wp2_with (at_builtin; refine wpList_app el_string rfl (.tmp 26) (.tmp 29) rfl w.heap.size _ _ _ rfl (HO1.out.alloc _) (some ⟨_, 0, none⟩) 1 1 [.string xn] rfl rfl (by exact rd_new _ #[.string xn] _ _ (by simp) rfl) (by intro u hu; simp at hu; subst hu; rfl) (by unfold maxLen; omega) (by omega) (by have := hbel.size; simp; omega) ?_; intro v1 w1 hown1 hbel1 _ _)
        go_roundw
        case rel => exact ⟨j + 1, by omega, by go_num, by rw [HSN2.out, List.length_append, List.map_append]; exact hown1, (hb1.alloc hb1.size _).trans hbel1⟩
        case measure => simp [intOf]; omega
      · have hkb : (rep X.f xn == k) = false := by rw [beq_eq_false_iff_ne]; exact hk
        have HSN2 : Hid (namesL (X.l.take (j + 1)) X.f k = cur) := Lib.hid (by rw [HSN.out, if_neg hk, List.append_nil])
        clear hk
        go_wp2
        go_quiet (fail)
        have HO1 := Lib.hid (own_drewN (HO.out.alloc (.cells #[.string xn, .bool xp] 71)) nq)
        have hb1 : Below w.heap.size w ((wr.alloc (.cells #[.string xn, .bool xp] 71)).drewN nq) := drewN_ (hbel.alloc hbel.size _) nq
        clear hlook k9' HO
        go_wp2
        go_roundw
        case rel => exact ⟨j + 1, by omega, by go_num, by rw [HSN2.out]; exact HO1.out, hb1⟩
        case measure => simp [intOf]; omega
    · have HJ : Hid (X.l.take j = X.l) := Lib.hid (List.take_of_length_le (by rw [HN.out]; omega))
      have hge : (ln : Int) ≤ (j : Int) := by omega
      rw [HJ.out] at hown
      have hle : (namesL X.l X.f k).length ≤ 1000 := Nat.le_trans (namesL_le _ _ _) (by rw [HN.out]; exact hln)
      have HO := Lib.hid hown; clear hown
      go_wp2
      go_ret
      exact givesT hbel HO.out rfl (by omega)
end Go.Proofs.Ytebfmacbdjnhbaa
