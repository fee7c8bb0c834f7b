/- Sameness of events by the document: what says the same is told to be the same. -/
import Derived.Test.YtlmplibdfhamjaaScrS
import Derived.Test.YtlmplibdfhamjaaScrR
attribute [local go_sem ↓] Go.wp_at_zero Go.wp_at_succ
namespace Go.Mem
open Go.RowKit
set_option linter.unusedVariables false
theorem wp_load_arr {P : Program} {ty : TypeId} {op : Oper} {a : Act} {w : World} {ops : Array Oper} {S : World → Prop} (hw : Region.wanted op (yielded ops a.tmps) = true) (x : Operand) (ho : op.op = .load ty x)
    (b o : Nat) (hx : a.eval x = .pointer (some ⟨b, o, none⟩)) (c : Array Value) (hS : ∀ w, S w → w.rangeAt b o c.toList) (hd : ∃ d, P.underlying ty = some d ∧ d.isRow = true) (hi : (P.info? ty).map (·.size) = some c.size) : YieldsIf P ops S op (.agg c) a := by
  obtain ⟨d, hu, hd⟩ := hd
  exact yieldsIf_load_mid hw ty x ho b o hx c.toList d hS hu hd (by simpa using hi)
theorem setCells_size (g : Nat) : ∀ (vs : List Value) (o : Nat) (w : World), (w.setCells g o vs).heap.size = w.heap.size
  | [], _, _ => rfl
  | v :: vs, o, w => by rw [World.setCells, setCells_size g vs]; simp
/-- a store of a whole struct into a block that is known whole -/
theorem wp_store_blk {P : Program} {ty : TypeId} {op : Oper} {a : Act} {w : World} {K : Act → World → Prop} {Q : Exit → Act → World → Prop} (x y : Operand) (ho : op.op = .store ty x y)
    (g : Nat) (Z c : Array Value) (t : TypeId) (hg : w.heap[g]? = some (.cells Z t (0, 0))) (hx : a.eval x = .pointer (some ⟨g, 0, none⟩)) (hy : a.eval y = .agg c)
    (hZ : Z.size = c.size) (hi : (P.info? ty).map (·.size) = some c.size) (h1 : ∀ u ∈ c.toList, u.oneCell' = true)
    (h : ∀ w', w'.heap[g]? = some (.cells c t (0, 0)) → (∀ k, k ≠ g → w'.heap[k]? = w.heap[k]?) → w'.heap.size = w.heap.size → (∀ n, n ≤ g → Below n w w') → K (a.put op.dst undef) w') : op.wp P a w K Q := by
  refine wp_store_mid ty x y ho g 0 c hx hy (fun j hj => ?_) hi (Array.all_eq_true_iff_forall_mem.2 fun v hv => h1 v (by simpa using hv)) (h _ ?_ (setCells_other g · · _ _ _) (setCells_size _ _ _ _) (fun n hn => below_setCells hn _ _ _ (Below.refl _ _)))
  · rw [Nat.zero_add]
    refine ⟨?_, frozen_of_row _ _ _ _ _ hg⟩
    rw [cell_of_row _ _ _ _ _ _ hg]; simp [hZ, hj]
  · rw [setCells_row t g _ 0 w Z hg, setL_all _ _ (by simpa using hZ)]
end Go.Mem
namespace Go.Proofs.Ytlmplibdfhamjaa
open Go.RowKit Go.Mem Go.Num
set_option linter.unusedVariables false

abbrev evs (l : List Ev) : List Value := l.flatMap fun m : Ev => m.arr.toList
theorem ev_bare {x y : Ev} (h : x.bare = y.bare) : x.kind = y.kind ∧ x.node = y.node ∧ x.to = y.to ∧ x.lane = y.lane ∧ x.n = y.n ∧ x.call.bare = y.call.bare ∧ x.adm = y.adm := by
  unfold Ev.bare at h; injection h with h1 h2 h3 h4 h5 h6 h7; exact ⟨h1, h2, h3, h4, h5, h6, h7⟩
theorem lt_of_blk {w : World} {g : Nat} {o : Obj} (h : w.heap[g]? = some o) : g < w.heap.size := (Array.getElem?_eq_some_iff.1 h).1
theorem wp_alloc_ev {op : Oper} {a : Act} {w : World} {K : Act → World → Prop} {Q : Exit → Act → World → Prop} (ho : op.op = .alloc 89)
    (h : ∀ w', w'.heap[w.heap.size]? = some (.cells #[.int .i64 0, .string ⟨#[]⟩, .string ⟨#[]⟩, .string ⟨#[]⟩, .int .i64 0, .int .i64 0, .string ⟨#[]⟩, .string ⟨#[]⟩, .string ⟨#[]⟩, .string ⟨#[]⟩, .slice none 0 0, .int .i64 0, .int .i64 0, .string ⟨#[]⟩, .string ⟨#[]⟩, .string ⟨#[]⟩, .string ⟨#[]⟩, .int .i64 0, .string ⟨#[]⟩, .string ⟨#[]⟩, .string ⟨#[]⟩, .bool false] 89 (0, 0)) → (∀ k, k < w.heap.size → w'.heap[k]? = w.heap[k]?) → w'.heap.size = w.heap.size + 1 → (∀ n, n ≤ w.heap.size → Below n w w') → K (a.put op.dst (.pointer (some ⟨w.heap.size, 0, none⟩))) w') : op.wp Try.prog a w K Q := by
  have h2 := h (w.alloc (.cells #[.int .i64 0, .string ⟨#[]⟩, .string ⟨#[]⟩, .string ⟨#[]⟩, .int .i64 0, .int .i64 0, .string ⟨#[]⟩, .string ⟨#[]⟩, .string ⟨#[]⟩, .string ⟨#[]⟩, .slice none 0 0, .int .i64 0, .int .i64 0, .string ⟨#[]⟩, .string ⟨#[]⟩, .string ⟨#[]⟩, .string ⟨#[]⟩, .int .i64 0, .string ⟨#[]⟩, .string ⟨#[]⟩, .string ⟨#[]⟩, .bool false] 89)) (heap_alloc_new _ _) (fun k hk => ((Below.refl _ _).alloc (Nat.le_refl _) _).block k hk) (by simp) (fun n hn => (Below.refl _ _).alloc hn _)
  have H2 := Lib.hid h2; clear h h2
  unfold Oper.wp execOp
  rw [ho]
  go_simp
  exact H2.out
theorem mid5 {x0 x1 x2 x3 x4 : Value} {cs post : List Value} {j : Nat} {v : Value} (hv : cs[j]? = some v) : ((x0 :: x1 :: x2 :: x3 :: x4 :: (cs ++ post)).toArray)[5 + j]? = some v := by
  have hj := (List.getElem?_eq_some_iff.1 hv).1
  rw [List.getElem?_toArray, show 5 + j = j + 5 by omega]
  simp only [List.getElem?_cons_succ]
  rw [List.getElem?_append_left hj]; exact hv
theorem mid12 {x0 x1 x2 x3 x4 x5 x6 x7 x8 x9 x10 x11 : Value} {cs : List Value} {j : Nat} {v : Value} (hv : cs[j]? = some v) : ((x0 :: x1 :: x2 :: x3 :: x4 :: x5 :: x6 :: x7 :: x8 :: x9 :: x10 :: x11 :: cs).toArray)[12 + j]? = some v := by
  rw [List.getElem?_toArray, show 12 + j = j + 12 by omega]
  simpa only [List.getElem?_cons_succ] using hv
/-- behind 'x, y := a[i], b[i]': two blocks that hold the same cells -/
def TwoB (q qb : Array Value) (wr : World) (g g' : Nat) (wx : World) : Prop := Below wr.heap.size wr wx ∧ wx.heap[g]? = some (.cells q 89 (0, 0)) ∧ wx.heap[g']? = some (.cells qb 89 (0, 0))

set_option maxRecDepth 100000 in
set_option maxHeartbeats 8000000 in
theorem sameEvents2 (A : Option Addr) (n c : Nat) (B : Option Addr) (d : Nat) (l l' : List Ev) (w : World) (hr : Rd w A (evs l)) (hr' : Rd w B (evs l')) (hn : l.length = n) (hm : n ≤ 100000) (hok : ∀ m ∈ l, m.ok w) (hok' : ∀ m ∈ l', m.ok w) (hll : l.map Ev.bare = l'.map Ev.bare) :
    Calls Try.prog 60 #[.slice A n c, .slice B n d] w (YesB w) := by
  have hn' : l'.length = n := by rw [← bare_len hll]; exact hn
  have HN := Lib.hid hn; have HOK := Lib.hid hok; have HN' := Lib.hid hn'; have HOK' := Lib.hid hok'; have HLL := Lib.hid hll; clear hn hok hn' hok' hll
  go_enter Try.func60, Try.ntmps60
  go_wp2
  go_loopw [5] (fun i wr => ∃ k : Nat, k ≤ n ∧ i = .int .i64 k ∧ Below w.heap.size w wr) (fun i _ => n - (intOf i).toNat)
  case atStart => exact ⟨0, Nat.zero_le _, rfl, Below.refl _ _⟩
  case round =>
    obtain ⟨k, hk, rfl, hbel⟩ := hrel
    by_cases hlt : k < n
    · have hx : k < l.length := by have := HN.out; omega
      have hx' : k < l'.length := by have := HN'.out; omega
      obtain ⟨b, off, rfl, hrg⟩ := row_ev.at_ (hr.below hbel) k hx
      obtain ⟨b', off', rfl, hrg'⟩ := row_ev.at_ (hr'.below hbel) k hx'
      have hs := (HOK.out l[k] (List.getElem_mem hx)).below hbel
      have hs' := (HOK'.out l'[k] (List.getElem_mem hx')).below hbel
      have hd : decide ((k : Int) < (n : Int)) = true := by simp; omega
      have hi0 : (0 : Int) ≤ (k : Int) := by omega
      have hbb := ev_bare (bare_at HLL.out k hx hx')
      generalize l[k] = s at hrg hs hbb
      generalize l'[k] = t at hrg' hs' hbb
      have hcl : ∀ W (hW : Below wr.heap.size wr W) (q qb : Array Value), s.call.arr = q → t.call.arr = qb → Calls Try.prog 63 #[.slice (some ⟨W.heap.size, 0, none⟩) 1 1, .slice (some ⟨W.heap.size + 1, 0, none⟩) 1 1] ((W.alloc (.cells q 85)).alloc (.cells qb 85)) (YesB ((W.alloc (.cells q 85)).alloc (.cells qb 85))) := fun W hW q qb hq hqb => by
        subst hq hqb
        have h0 : Below wr.heap.size wr ((W.alloc (.cells s.call.arr 85)).alloc (.cells t.call.arr 85)) := (hW.alloc hW.size _).alloc (by have := hW.size; simp; omega) _
        refine sameCalls2 _ 1 1 _ 1 [s.call] [t.call] _ ?_ ?_ rfl (by omega) ?_ ?_ (by rw [List.map_singleton, List.map_singleton, hbb.2.2.2.2.2.1])
        · have h1 := (Rd.new W s.call.arr 85).alloc (.cells t.call.arr 85); simpa [cals] using h1
        · have h1 := Rd.new (W.alloc (.cells s.call.arr 85)) t.call.arr 85; simpa [cals] using h1
        · intro m hm; rw [List.mem_singleton] at hm; subst hm; exact (Cal.ok.below (Ev.ok.below hs h0).2.2.2.2.2.1 (Below.refl _ _))
        · intro m hm; rw [List.mem_singleton] at hm; subst hm; exact (Cal.ok.below (Ev.ok.below hs' h0).2.2.2.2.2.1 (Below.refl _ _))
      clear hs hs'
      obtain ⟨kd, nd, too, ln, nn, ⟨ck, tk, bu, ke, va, ⟨cA, cn, cc, cl⟩, ti⟩, ⟨ak, te, ab, fi, tx, an, ⟨mn, mr, mz, up⟩⟩⟩ := s
      obtain ⟨kd2, nd2, too2, ln2, nn2, ⟨ck2, tk2, bu2, ke2, va2, ⟨dA, dn, dc, dl⟩, ti2⟩, ad2⟩ := t
      obtain ⟨i0, i1, i2, i3, i4, ib, i6⟩ := hbb
      obtain ⟨j0, j1, j2, j3, j4, -, j6⟩ := cal_bare ib
      clear ib
      simp only at i0 i1 i2 i3 i4 i6 j0 j1 j2 j3 j4 j6
      subst i0 i1 i2 i3 i4 i6 j0 j1 j2 j3 j4 j6
      have hcl2 : ∀ W (hW : Below wr.heap.size wr W), Calls Try.prog 63 #[.slice (some ⟨W.heap.size, 0, none⟩) 1 1, .slice (some ⟨W.heap.size + 1, 0, none⟩) 1 1] ((W.alloc (.cells #[.int .i64 ck, .string tk, .string bu, .string ke, .string va, .slice cA cn cc, .int .i64 ti] 85)).alloc (.cells #[.int .i64 ck, .string tk, .string bu, .string ke, .string va, .slice dA dn dc, .int .i64 ti] 85)) (YesB ((W.alloc (.cells #[.int .i64 ck, .string tk, .string bu, .string ke, .string va, .slice cA cn cc, .int .i64 ti] 85)).alloc (.cells #[.int .i64 ck, .string tk, .string bu, .string ke, .string va, .slice dA dn dc, .int .i64 ti] 85))) := fun W hW => hcl W hW _ _ rfl rfl
      have HCL := Lib.hid hcl2; clear hcl hcl2
      obtain ⟨q, hq⟩ : ∃ q : Array Value, (#[.int .i64 kd, .string nd, .string too, .string ln, .int .i64 nn, .int .i64 ck, .string tk, .string bu, .string ke, .string va, .slice cA cn cc, .int .i64 ti, .int .i64 ak, .string te, .string ab, .string fi, .string tx, .int .i64 an, .string mn, .string mr, .string mz, .bool up] : Array Value) = q := ⟨_, rfl⟩
      obtain ⟨qb, hqb⟩ : ∃ q : Array Value, (#[.int .i64 kd, .string nd, .string too, .string ln, .int .i64 nn, .int .i64 ck, .string tk, .string bu, .string ke, .string va, .slice dA dn dc, .int .i64 ti, .int .i64 ak, .string te, .string ab, .string fi, .string tx, .int .i64 an, .string mn, .string mr, .string mz, .bool up] : Array Value) = q := ⟨_, rfl⟩
      have hrq : wr.rangeAt b (off + k * 22) q.toList := by rw [← hq]; exact hrg
      have hrq' : wr.rangeAt b' (off' + k * 22) qb.toList := by rw [← hqb]; exact hrg'
      have HI : Hid ((Try.prog.info? 89).map (·.size) = some q.size) := Lib.hid (by rw [← hq]; exact row_ev.hi)
      have H1 : Hid (∀ u ∈ q.toList, u.oneCell' = true) := Lib.hid (by rw [← hq]; intro u hu; simp only [List.mem_cons, List.not_mem_nil, or_false] at hu; rcases hu with rfl | rfl | rfl | rfl | rfl | rfl | rfl | rfl | rfl | rfl | rfl | rfl | rfl | rfl | rfl | rfl | rfl | rfl | rfl | rfl | rfl | rfl <;> rfl)
      have HZ : Hid (22 = q.size) := Lib.hid (by rw [← hq]; rfl)
      have HIb : Hid ((Try.prog.info? 89).map (·.size) = some qb.size) := Lib.hid (by rw [← hqb]; exact row_ev.hi)
      have H1b : Hid (∀ u ∈ qb.toList, u.oneCell' = true) := Lib.hid (by rw [← hqb]; intro u hu; simp only [List.mem_cons, List.not_mem_nil, or_false] at hu; rcases hu with rfl | rfl | rfl | rfl | rfl | rfl | rfl | rfl | rfl | rfl | rfl | rfl | rfl | rfl | rfl | rfl | rfl | rfl | rfl | rfl | rfl | rfl <;> rfl)
      have HZb : Hid (22 = qb.size) := Lib.hid (by rw [← hqb]; rfl)
      have HQ := Lib.hid hq; have HQB := Lib.hid hqb
      have HRQ := Lib.hid hrq; have HRQ2 := Lib.hid hrq'
      clear hrg hrg' hrq hrq' hq hqb
      have t0 : (kd != kd) = false := by rw [bne_eq_false_iff_eq]
      have t1 : (nd.toList == nd.toList) = true := by rw [beq_iff_eq]
      have t2 : (too.toList == too.toList) = true := by rw [beq_iff_eq]
      have t3 : (ln.toList == ln.toList) = true := by rw [beq_iff_eq]
      have t4 : (nn != nn) = false := by rw [bne_eq_false_iff_eq]
      have t5 : (ck != ck) = false := by rw [bne_eq_false_iff_eq]
      have t6 : (tk.toList == tk.toList) = true := by rw [beq_iff_eq]
      have t7 : (bu.toList == bu.toList) = true := by rw [beq_iff_eq]
      have t8 : (ke.toList == ke.toList) = true := by rw [beq_iff_eq]
      have t9 : (va.toList == va.toList) = true := by rw [beq_iff_eq]
      have t11 : (ti != ti) = false := by rw [bne_eq_false_iff_eq]
      have t12 : (ak != ak) = false := by rw [bne_eq_false_iff_eq]
      have t13 : (te.toList == te.toList) = true := by rw [beq_iff_eq]
      have t14 : (ab.toList == ab.toList) = true := by rw [beq_iff_eq]
      have t15 : (fi.toList == fi.toList) = true := by rw [beq_iff_eq]
      have t16 : (tx.toList == tx.toList) = true := by rw [beq_iff_eq]
      have t17 : (an != an) = false := by rw [bne_eq_false_iff_eq]
      have t18 : (mn.toList == mn.toList) = true := by rw [beq_iff_eq]
      have t19 : (mr.toList == mr.toList) = true := by rw [beq_iff_eq]
      have t20 : (mz.toList == mz.toList) = true := by rw [beq_iff_eq]
      go_upto_region 6 with fail
      go_cut [6, 7] (fun p p' wx => ∃ g g' : Nat, p = .pointer (some ⟨g, 0, none⟩) ∧ p' = .pointer (some ⟨g', 0, none⟩) ∧ Hid (TwoB q qb wr g g' wx))
      case first =>
        refine wp_region_held_drew (S := fun W => W.rangeAt b (off + k * 22) q.toList ∧ W.rangeAt b' (off' + k * 22) qb.toList) (by kernel_rfl) ⟨HRQ.out, HRQ2.out⟩ (fun hHeld => ?_)
        refine wpAnyH_take (i := 0) (oi := _) (v := ?v0) rfl (by kernel_rfl) (by kernel_rfl) (by kernel_rfl) (fun _ _ _ h => h) (Or.inl ⟨by rfl, ?h0⟩) (by assumption) ?r0
        case h0 => (intro w hSw; go_simp; try with_reducible rfl)
        dsimp only [Act.put, List.getElem_toArray, List.getElem_cons_zero, List.getElem_cons_succ]; try simp only [List.setIfInBounds_toArray, List.set_cons_zero, List.set_cons_succ]
        refine wpAnyH_take (i := 1) (oi := _) (v := ?v1) rfl (by kernel_rfl) (by kernel_rfl) (by kernel_rfl) (fun _ _ _ h => h) (Or.inl ⟨by rfl, ?h1⟩) (by assumption) ?r1
        case h1 => (intro w hSw; go_simp; try with_reducible rfl)
        dsimp only [Act.put, List.getElem_toArray, List.getElem_cons_zero, List.getElem_cons_succ]; try simp only [List.setIfInBounds_toArray, List.set_cons_zero, List.set_cons_succ]
        refine wpAnyH_take (i := 2) (oi := _) (v := ?v2) rfl (by kernel_rfl) (by kernel_rfl) (by kernel_rfl) (fun _ _ _ h => h) (Or.inl ⟨by rfl, ?h2⟩) (by assumption) ?r2
        case h2 => (intro w hSw; go_simp; try with_reducible rfl)
        dsimp only [Act.put, List.getElem_toArray, List.getElem_cons_zero, List.getElem_cons_succ]; try simp only [List.setIfInBounds_toArray, List.set_cons_zero, List.set_cons_succ]
        refine wpAnyH_take (i := 3) (oi := _) (v := _) rfl (by kernel_rfl) (by kernel_rfl) (by kernel_rfl) (fun _ _ _ h => h) (wp_load_arr (w := wr) (by rfl) _ rfl b (off + k * 22) rfl q (fun w hSw => hSw.1) row_ev.d HI.out) (by assumption) ?_
        dsimp only [Act.put, List.getElem_toArray, List.getElem_cons_zero, List.getElem_cons_succ]; try simp only [List.setIfInBounds_toArray, List.set_cons_zero, List.set_cons_succ]
        refine wpAnyH_take (i := 4) (oi := _) (v := ?v4) rfl (by kernel_rfl) (by kernel_rfl) (by kernel_rfl) (fun _ _ _ h => h) (Or.inl ⟨by rfl, ?h4⟩) (by assumption) ?r4
        case h4 => (intro w hSw; go_simp; try with_reducible rfl)
        dsimp only [Act.put, List.getElem_toArray, List.getElem_cons_zero, List.getElem_cons_succ]; try simp only [List.setIfInBounds_toArray, List.set_cons_zero, List.set_cons_succ]
        refine wpAnyH_take (i := 5) (oi := _) (v := ?v5) rfl (by kernel_rfl) (by kernel_rfl) (by kernel_rfl) (fun _ _ _ h => h) (Or.inl ⟨by rfl, ?h5⟩) (by assumption) ?r5
        case h5 => (intro w hSw; go_simp; try with_reducible rfl)
        dsimp only [Act.put, List.getElem_toArray, List.getElem_cons_zero, List.getElem_cons_succ]; try simp only [List.setIfInBounds_toArray, List.set_cons_zero, List.set_cons_succ]
        refine wpAnyH_take (i := 6) (oi := _) (v := ?v6) rfl (by kernel_rfl) (by kernel_rfl) (by kernel_rfl) (fun _ _ _ h => h) (Or.inl ⟨by rfl, ?h6⟩) (by assumption) ?r6
        case h6 => (intro w hSw; go_simp; try with_reducible rfl)
        dsimp only [Act.put, List.getElem_toArray, List.getElem_cons_zero, List.getElem_cons_succ]; try simp only [List.setIfInBounds_toArray, List.set_cons_zero, List.set_cons_succ]
        refine wpAnyH_take (i := 7) (oi := _) (v := _) rfl (by kernel_rfl) (by kernel_rfl) (by kernel_rfl) (fun _ _ _ h => h) (wp_load_arr (w := wr) (by rfl) _ rfl b' (off' + k * 22) rfl qb (fun w hSw => hSw.2) row_ev.d HIb.out) (by assumption) ?_
        dsimp only [Act.put, List.getElem_toArray, List.getElem_cons_zero, List.getElem_cons_succ]; try simp only [List.setIfInBounds_toArray, List.set_cons_zero, List.set_cons_succ]
        have hb : Below wr.heap.size wr wr.drew := (Below.refl _ _).drew
        refine wpAnyH_ready (rs := [8, 9]) (by kernel_rfl) (by simp) ?_
        refine AllReadyH.cons (o := _) rfl (fun K hK => ?_) ?_
        · rw [if_pos (by rfl)]
          refine wp_alloc_ev rfl (fun wz hz1 hz2 hz3 hz4 => ?_)
          have hb0 := hb
          have hb := hb.trans (hz4 _ hb.size)
          refine hK.out _ _ ⟨rangeAt_below (w := wr) HRQ.out hb, rangeAt_below (w := wr) HRQ2.out hb⟩ (fun hHeld => ?_)
          clear hK K
          have l8 := lt_of_blk hz1
          have h8 := hz1
          have g8 : wr.heap.size ≤ _ := hb0.size
          clear hz1 hz2 hz3 hz4
          dsimp only [Act.put, List.getElem_toArray, List.getElem_cons_zero, List.getElem_cons_succ]; try simp only [List.setIfInBounds_toArray, List.set_cons_zero, List.set_cons_succ]
          refine wpAnyH_ready (rs := [9]) (by kernel_rfl) (by simp) ?_
          refine AllReadyH.cons (o := _) rfl (fun K hK => ?_) ?_
          · rw [if_pos (by rfl)]
            refine wp_alloc_ev rfl (fun wz hz1 hz2 hz3 hz4 => ?_)
            have hb0 := hb
            have hb := hb.trans (hz4 _ hb.size)
            refine hK.out _ _ ⟨rangeAt_below (w := wr) HRQ.out hb, rangeAt_below (w := wr) HRQ2.out hb⟩ (fun hHeld => ?_)
            clear hK K
            have l9 := lt_of_blk hz1
            have h9 := hz1
            have g9 : wr.heap.size ≤ _ := hb0.size
            have n89 := Nat.ne_of_lt (lt_of_blk h8)
            have h8 := (hz2 _ (lt_of_blk h8)).trans h8
            clear hz1 hz2 hz3 hz4
            dsimp only [Act.put, List.getElem_toArray, List.getElem_cons_zero, List.getElem_cons_succ]; try simp only [List.setIfInBounds_toArray, List.set_cons_zero, List.set_cons_succ]
            refine wpAnyH_ready (rs := [10]) (by kernel_rfl) (by simp) ?_
            refine AllReadyH.cons (o := _) rfl (fun K hK => ?_) ?_
            · rw [if_pos (by rfl)]
              refine wp_store_blk _ _ rfl _ _ q _ h8 rfl rfl (by exact HZ.out) HI.out H1.out (fun wz hz1 hz2 hz3 hz4 => ?_)
              have hb := hb.trans (hz4 _ g8)
              refine hK.out _ _ ⟨rangeAt_below (w := wr) HRQ.out hb, rangeAt_below (w := wr) HRQ2.out hb⟩ (fun hHeld => ?_)
              clear hK K
              have h8 := hz1
              have h9 := (hz2 _ (n89.symm)).trans h9
              clear hz1 hz2 hz3 hz4
              dsimp only [Act.put, List.getElem_toArray, List.getElem_cons_zero, List.getElem_cons_succ]; try simp only [List.setIfInBounds_toArray, List.set_cons_zero, List.set_cons_succ]
              refine wpAnyH_ready (rs := [11]) (by kernel_rfl) (by simp) ?_
              refine AllReadyH.cons (o := _) rfl (fun K hK => ?_) ?_
              · rw [if_pos (by rfl)]
                refine wp_store_blk _ _ rfl _ _ qb _ h9 rfl rfl (by exact HZb.out) HIb.out H1b.out (fun wz hz1 hz2 hz3 hz4 => ?_)
                have hb := hb.trans (hz4 _ g9)
                refine hK.out _ _ ⟨rangeAt_below (w := wr) HRQ.out hb, rangeAt_below (w := wr) HRQ2.out hb⟩ (fun hHeld => ?_)
                clear hK K
                have h9 := hz1
                have h8 := (hz2 _ (n89)).trans h8
                clear hz1 hz2 hz3 hz4
                dsimp only [Act.put, List.getElem_toArray, List.getElem_cons_zero, List.getElem_cons_succ]; try simp only [List.setIfInBounds_toArray, List.set_cons_zero, List.set_cons_succ]
                refine wpAnyH_done (by kernel_rfl) ?_ _
                focus (go_wp2_with fail)
                go_meet
                exact ⟨_, _, rfl, rfl, Lib.hid ⟨hb, h8, h9⟩⟩
              exact AllReadyH.nil
            exact AllReadyH.nil
          exact AllReadyH.nil
        refine AllReadyH.cons (o := _) rfl (fun K hK => ?_) ?_
        · rw [if_pos (by rfl)]
          refine wp_alloc_ev rfl (fun wz hz1 hz2 hz3 hz4 => ?_)
          have hb0 := hb
          have hb := hb.trans (hz4 _ hb.size)
          refine hK.out _ _ ⟨rangeAt_below (w := wr) HRQ.out hb, rangeAt_below (w := wr) HRQ2.out hb⟩ (fun hHeld => ?_)
          clear hK K
          have l9 := lt_of_blk hz1
          have h9 := hz1
          have g9 : wr.heap.size ≤ _ := hb0.size
          clear hz1 hz2 hz3 hz4
          dsimp only [Act.put, List.getElem_toArray, List.getElem_cons_zero, List.getElem_cons_succ]; try simp only [List.setIfInBounds_toArray, List.set_cons_zero, List.set_cons_succ]
          refine wpAnyH_ready (rs := [8]) (by kernel_rfl) (by simp) ?_
          refine AllReadyH.cons (o := _) rfl (fun K hK => ?_) ?_
          · rw [if_pos (by rfl)]
            refine wp_alloc_ev rfl (fun wz hz1 hz2 hz3 hz4 => ?_)
            have hb0 := hb
            have hb := hb.trans (hz4 _ hb.size)
            refine hK.out _ _ ⟨rangeAt_below (w := wr) HRQ.out hb, rangeAt_below (w := wr) HRQ2.out hb⟩ (fun hHeld => ?_)
            clear hK K
            have l8 := lt_of_blk hz1
            have h8 := hz1
            have g8 : wr.heap.size ≤ _ := hb0.size
            have n89 := Nat.ne_of_lt (lt_of_blk h9)
            have h9 := (hz2 _ (lt_of_blk h9)).trans h9
            clear hz1 hz2 hz3 hz4
            dsimp only [Act.put, List.getElem_toArray, List.getElem_cons_zero, List.getElem_cons_succ]; try simp only [List.setIfInBounds_toArray, List.set_cons_zero, List.set_cons_succ]
            refine wpAnyH_ready (rs := [10]) (by kernel_rfl) (by simp) ?_
            refine AllReadyH.cons (o := _) rfl (fun K hK => ?_) ?_
            · rw [if_pos (by rfl)]
              refine wp_store_blk _ _ rfl _ _ q _ h8 rfl rfl (by exact HZ.out) HI.out H1.out (fun wz hz1 hz2 hz3 hz4 => ?_)
              have hb := hb.trans (hz4 _ g8)
              refine hK.out _ _ ⟨rangeAt_below (w := wr) HRQ.out hb, rangeAt_below (w := wr) HRQ2.out hb⟩ (fun hHeld => ?_)
              clear hK K
              have h8 := hz1
              have h9 := (hz2 _ (n89)).trans h9
              clear hz1 hz2 hz3 hz4
              dsimp only [Act.put, List.getElem_toArray, List.getElem_cons_zero, List.getElem_cons_succ]; try simp only [List.setIfInBounds_toArray, List.set_cons_zero, List.set_cons_succ]
              refine wpAnyH_ready (rs := [11]) (by kernel_rfl) (by simp) ?_
              refine AllReadyH.cons (o := _) rfl (fun K hK => ?_) ?_
              · rw [if_pos (by rfl)]
                refine wp_store_blk _ _ rfl _ _ qb _ h9 rfl rfl (by exact HZb.out) HIb.out H1b.out (fun wz hz1 hz2 hz3 hz4 => ?_)
                have hb := hb.trans (hz4 _ g9)
                refine hK.out _ _ ⟨rangeAt_below (w := wr) HRQ.out hb, rangeAt_below (w := wr) HRQ2.out hb⟩ (fun hHeld => ?_)
                clear hK K
                have h9 := hz1
                have h8 := (hz2 _ (n89.symm)).trans h8
                clear hz1 hz2 hz3 hz4
                dsimp only [Act.put, List.getElem_toArray, List.getElem_cons_zero, List.getElem_cons_succ]; try simp only [List.setIfInBounds_toArray, List.set_cons_zero, List.set_cons_succ]
                refine wpAnyH_done (by kernel_rfl) ?_ _
                focus (go_wp2_with fail)
                go_meet
                exact ⟨_, _, rfl, rfl, Lib.hid ⟨hb, h8, h9⟩⟩
              exact AllReadyH.nil
            exact AllReadyH.nil
          exact AllReadyH.nil
        exact AllReadyH.nil
      case rest =>
        obtain ⟨g, g', rfl, rfl, HT⟩ := hcut
        have hb := HT.out.1; have h1 := HT.out.2.1; have h2 := HT.out.2.2
        rw [← HQ.out] at h1
        rw [← HQB.out] at h2
        clear HT
        have e0 : wc.cell? ⟨g, 0, none⟩ = some (.int .i64 kd) := cell_of_row _ _ _ _ _ _ h1
        have e1 : wc.cell? ⟨g, 1, none⟩ = some (.string nd) := cell_of_row _ _ _ _ _ _ h1
        have e2 : wc.cell? ⟨g, 2, none⟩ = some (.string too) := cell_of_row _ _ _ _ _ _ h1
        have e3 : wc.cell? ⟨g, 3, none⟩ = some (.string ln) := cell_of_row _ _ _ _ _ _ h1
        have e4 : wc.cell? ⟨g, 4, none⟩ = some (.int .i64 nn) := cell_of_row _ _ _ _ _ _ h1
        have f0 : wc.cell? ⟨g', 0, none⟩ = some (.int .i64 kd) := cell_of_row _ _ _ _ _ _ h2
        have f1 : wc.cell? ⟨g', 1, none⟩ = some (.string nd) := cell_of_row _ _ _ _ _ _ h2
        have f2 : wc.cell? ⟨g', 2, none⟩ = some (.string too) := cell_of_row _ _ _ _ _ _ h2
        have f3 : wc.cell? ⟨g', 3, none⟩ = some (.string ln) := cell_of_row _ _ _ _ _ _ h2
        have f4 : wc.cell? ⟨g', 4, none⟩ = some (.int .i64 nn) := cell_of_row _ _ _ _ _ _ h2
        have hrc1 : wc.rangeAt g 5 (#[.int .i64 ck, .string tk, .string bu, .string ke, .string va, .slice cA cn cc, .int .i64 ti] : Array Value).toList := fun j v hv => by rw [cell_of_row _ _ _ _ _ _ h1]; exact mid5 hv
        have hrc2 : wc.rangeAt g' 5 (#[.int .i64 ck, .string tk, .string bu, .string ke, .string va, .slice dA dn dc, .int .i64 ti] : Array Value).toList := fun j v hv => by rw [cell_of_row _ _ _ _ _ _ h2]; exact mid5 hv
        have hra1 : wc.rangeAt g 12 (#[.int .i64 ak, .string te, .string ab, .string fi, .string tx, .int .i64 an, .string mn, .string mr, .string mz, .bool up] : Array Value).toList := fun j v hv => by rw [cell_of_row _ _ _ _ _ _ h1]; exact mid12 hv
        have hra2 : wc.rangeAt g' 12 (#[.int .i64 ak, .string te, .string ab, .string fi, .string tx, .int .i64 an, .string mn, .string mr, .string mz, .bool up] : Array Value).toList := fun j v hv => by rw [cell_of_row _ _ _ _ _ _ h2]; exact mid12 hv
        have HRC1 := Lib.hid hrc1; have HRC2 := Lib.hid hrc2; have HRA1 := Lib.hid hra1; have HRA2 := Lib.hid hra2
        clear h1 h2 hrc1 hrc2 hra1 hra2
        have HI1 : Hid ((Try.prog.info? 85).map (·.size) = some 7) := Lib.hid row_cal.hi
        have HI2 : Hid ((Try.prog.info? 87).map (·.size) = some 10) := Lib.hid row_adm.hi
        go_wp2_with (first | (refine wpList_load_g (by rfl) _ (by rfl) g 12 (by rfl) #[.int .i64 ak, .string te, .string ab, .string fi, .string tx, .int .i64 an, .string mn, .string mr, .string mz, .bool up] HRA1.out row_adm.d HI2.out ?_) | (refine wpList_load_g (by rfl) _ (by rfl) g' 12 (by rfl) #[.int .i64 ak, .string te, .string ab, .string fi, .string tx, .int .i64 an, .string mn, .string mr, .string mz, .bool up] HRA2.out row_adm.d HI2.out ?_) | (refine wpList_load_g (by rfl) _ (by rfl) g 5 (by rfl) #[.int .i64 ck, .string tk, .string bu, .string ke, .string va, .slice cA cn cc, .int .i64 ti] HRC1.out row_cal.d HI1.out ?_) | (refine wpList_load_g (by rfl) _ (by rfl) g' 5 (by rfl) #[.int .i64 ck, .string tk, .string bu, .string ke, .string va, .slice dA dn dc, .int .i64 ti] (World.rangeAt_alloc HRC2.out _) row_cal.d HI1.out ?_))
        refine (HCL.out _ hb).mono ?_
        rintro e w1 ⟨rfl, hb1⟩
        clear e0 e1 e2 e3 e4 f0 f1 f2 f3 f4
        go_wp2
        go_roundw
        case rel => exact ⟨k + 1, by omega, by go_num, then_ hbel (then_ hb (below_alloc (below_alloc hb1)))⟩
        case measure => simp [intOf]; omega
    · obtain rfl : k = n := by omega
      have hd : decide ((k : Int) < (k : Int)) = false := by simp
      go_wp2
      go_ret
      exact ⟨rfl, hbel⟩
end Go.Proofs.Ytlmplibdfhamjaa
