/- The buckets in which two tries are unlike: the code's. -/
import Derived.Test.YtgmafnpkhmlnnaaTriE
import Derived.Test.YtgmafnpkhmlnnaaInts
import Derived.Test.YtgmafnpkhmlnnaaTreeE
import Derived.BigQuiet
import Derived.Deep.QuietTactic
attribute [local go_sem ↓] Go.wp_at_zero Go.wp_at_succ
namespace Go.Proofs.Ytgmafnpkhmlnnaa
open Go.RowKit Go.Mem Go.Num Go.Tri
set_option linter.unusedVariables false
set_option linter.unusedSimpArgs false

theorem quiet_l {P : Program} {f : FuncId} {args : Array Value} {w : World} {n : Nat} {v : Value} (h : Calls P f args (w.drewN n) fun e w' => e = .returned v ∧ w.drewN n = w') : Calls P f args (w.drewN n) fun e w'' => e = .returned v ∧ ∃ m, w'' = w.drewN m :=
  h.mono fun _ _ ⟨he, hm⟩ => ⟨he, n, hm.symm⟩
theorem below_drewN (w : World) (n : Nat) : Below w.heap.size w (w.drewN n) := by
  induction n with
  | zero => exact Below.refl _ _
  | succ n ih => exact ih.drew
theorem enter_down (args : Array Value) (W : World) : Sem.run Try.prog (callFunc 55 args) W = .ok (.enter 55 args) W := by kernel_rfl
theorem cell_at {W : World} {q : Nat} {v : Value} {t : TypeId} (h : W.heap[q]? = some (.cells #[v] t (0, 0))) : W.cell? ⟨q, 0, none⟩ = some v := by simp [World.cell?, h]
theorem froz_at {W : World} {q : Nat} {v : Value} {t : TypeId} (h : W.heap[q]? = some (.cells #[v] t (0, 0))) : W.frozen? ⟨q, 0, none⟩ = false := by simp [World.frozen?, h]
theorem lt_at {W : World} {q : Nat} {o : Obj} (h : W.heap[q]? = some o) : q < W.heap.size := (Array.getElem?_eq_some_iff.1 h).1
theorem set_at {W : World} {q : Nat} {v : Value} {t : TypeId} (h : W.heap[q]? = some (.cells #[v] t (0, 0))) (u : Value) : (W.setCell ⟨q, 0, none⟩ u).heap[q]? = some (.cells #[u] t (0, 0)) := by
  simp [World.setCell, Array.getElem?_modify, h]
structure Qs (w : World) (qa qb qo qn qd base : Nat) : Prop where
  a : w.heap.size ≤ qa
  b : qa < qb
  o : qb < qo
  n : qo < qn
  d : qn < qd
  e : qd < base
/-- what the closure has at hand: the tries, where it counts, where it gathers, itself -/
structure DnAt (w : World) (ta tb qa qb qo qn qd base : Nat) (W : World) (n : Nat) (out : List Int) : Prop where
  bel : Below w.heap.size w W
  sz : base ≤ W.heap.size
  ca : W.cell? ⟨qa, 0, none⟩ = some (.pointer (some ⟨ta, 0, none⟩))
  cb : W.cell? ⟨qb, 0, none⟩ = some (.pointer (some ⟨tb, 0, none⟩))
  cd : W.cell? ⟨qd, 0, none⟩ = some (.func (.func 55) #[] #[.pointer (some ⟨qn, 0, none⟩), .pointer (some ⟨qa, 0, none⟩), .pointer (some ⟨qb, 0, none⟩), .pointer (some ⟨qo, 0, none⟩), .pointer (some ⟨qd, 0, none⟩)])
  bn : W.heap[qn]? = some (.cells #[.int .i64 n] 3 (0, 0))
  bo : ∃ v, W.heap[qo]? = some (.cells #[v] 32 (0, 0)) ∧ W.ownsRow base 3 1 v out.length (ints out)
section
variable {w : World} {ta tb qa qb qo qn qd base : Nat} {W : World} {n : Nat} {out : List Int}
theorem DnAt.below (h : DnAt w ta tb qa qb qo qn qd base W n out) {W' : World} (hb : Below W.heap.size W W') : DnAt w ta tb qa qb qo qn qd base W' n out := by
  obtain ⟨v, h1, h2⟩ := h.bo
  exact ⟨then_ h.bel hb, Nat.le_trans h.sz hb.size, cell_below hb h.ca, cell_below hb h.cb, cell_below hb h.cd, (hb.block qn (lt_at h.bn)).trans h.bn, ⟨v, (hb.block qo (lt_at h1)).trans h1, own_below h2 hb⟩⟩
theorem DnAt.setN (h : DnAt w ta tb qa qb qo qn qd base W n out) (hq : Qs w qa qb qo qn qd base) (m : Nat) : DnAt w ta tb qa qb qo qn qd base (W.setCell ⟨qn, 0, none⟩ (.int .i64 m)) m out := by
  obtain ⟨v, h1, h2⟩ := h.bo
  have a := hq.a; have b := hq.b; have o := hq.o; have nn := hq.n; have d := hq.d; have e := hq.e
  have hk : ∀ q, q ≠ qn → (W.setCell ⟨qn, 0, none⟩ (.int .i64 m)).heap[q]? = W.heap[q]? := fun q hne => Below.heap_setCell W ⟨qn, 0, none⟩ (.int .i64 m) q hne
  refine ⟨h.bel.setCell (p := ⟨qn, 0, none⟩) (by show w.heap.size ≤ qn; omega) _, Nat.le_trans h.sz ((Below.refl qn W).setCell (p := ⟨qn, 0, none⟩) (Nat.le_refl _) (.int .i64 m)).size, ?_, ?_, ?_, set_at h.bn _, ⟨v, (hk qo (by omega)).trans h1, ownsRow_setCell_other h2 (fun e2 => by have h9 := (h2.lt _ e2).1; change base ≤ qn at h9; omega) _⟩⟩
  · exact (World.cell?_of_block (a := ⟨qa, 0, none⟩) (hk qa (by omega))).trans h.ca
  · exact (World.cell?_of_block (a := ⟨qb, 0, none⟩) (hk qb (by omega))).trans h.cb
  · exact (World.cell?_of_block (a := ⟨qd, 0, none⟩) (hk qd (by omega))).trans h.cd
theorem DnAt.setO (h : DnAt w ta tb qa qb qo qn qd base W n out) (hq : Qs w qa qb qo qn qd base) {W' : World} (hb : Below base W W') {v : Value} {i : Int} (hown : W'.ownsRow base 3 1 v (out.length + 1) (ints out ++ [.int .i64 i])) :
    DnAt w ta tb qa qb qo qn qd base (W'.setCell ⟨qo, 0, none⟩ v) n (out ++ [i]) := by
  obtain ⟨v0, h1, h2⟩ := h.bo
  have a := hq.a; have b := hq.b; have o := hq.o; have nn := hq.n; have d := hq.d; have e := hq.e
  have hk : ∀ q, q ≠ qo → q < base → (W'.setCell ⟨qo, 0, none⟩ v).heap[q]? = W.heap[q]? := fun q hne hlt => (Below.heap_setCell W' ⟨qo, 0, none⟩ v q hne).trans (hb.block q hlt)
  have hbw : Below w.heap.size w W' := h.bel.trans (hb.mono (by omega))
  refine ⟨hbw.setCell (p := ⟨qo, 0, none⟩) (by show w.heap.size ≤ qo; omega) _, Nat.le_trans h.sz (Nat.le_trans hb.size ((Below.refl qo W').setCell (p := ⟨qo, 0, none⟩) (Nat.le_refl _) v).size), ?_, ?_, ?_, (hk qn (by omega) (by omega)).trans h.bn, ⟨v, set_at ((hb.block qo (by omega)).trans h1) v, ?_⟩⟩
  · exact (World.cell?_of_block (a := ⟨qa, 0, none⟩) (hk qa (by omega) (by omega))).trans h.ca
  · exact (World.cell?_of_block (a := ⟨qb, 0, none⟩) (hk qb (by omega) (by omega))).trans h.cb
  · exact (World.cell?_of_block (a := ⟨qd, 0, none⟩) (hk qd (by omega) (by omega))).trans h.cd
  · have := ownsRow_setCell_other (a := ⟨qo, 0, none⟩) hown (fun e2 => by have h9 := (hown.lt _ e2).1; change base ≤ qo at h9; omega) v
    rw [List.length_append]; unfold ints at this ⊢; rw [List.map_append]; exact this
end
set_option maxRecDepth 100000 in
set_option maxHeartbeats 8000000 in
theorem down_any (w : World) (ta tb qa qb qo qn qd base : Nat) (la lb : List Leaf) (hA : TrieAt w ta la) (hB : TrieAt w tb lb) (hq : Qs w qa qb qo qn qd base) :
    ∀ (h lv i : Nat) (W : World) (n : Nat) (out : List Int), lv + h = 6 → i < 2 ^ lv → n + 2 ^ (h + 1) ≤ 1000 → out.length + 2 ^ h ≤ 1000 → DnAt w ta tb qa qb qo qn qd base W n out →
    Calls Try.prog 55 #[.int .i64 lv, .int .i64 i, .pointer (some ⟨qn, 0, none⟩), .pointer (some ⟨qa, 0, none⟩), .pointer (some ⟨qb, 0, none⟩), .pointer (some ⟨qo, 0, none⟩), .pointer (some ⟨qd, 0, none⟩)] W
      fun e W' => e = .returned (.tuple #[]) ∧ DnAt w ta tb qa qb qo qn qd base W' (n + (unH (nodeL la) (nodeL lb) h i).2) (out ++ (unH (nodeL la) (nodeL lb) h i).1) := by
  have HQ := Lib.hid hq; have HTA := Lib.hid hA; have HTB := Lib.hid hB
  clear hA hB hq
  intro h
  induction h with
  | zero =>
    intro lv i W n out hlv hi hn hout hD
    obtain rfl : lv = 6 := by omega
    have hi64 : i < 64 := hi
    have hcn := cell_at hD.bn; have hfn := froz_at hD.bn
    have HD1 : Hid (DnAt w ta tb qa qb qo qn qd base (W.setCell ⟨qn, 0, none⟩ (.int .i64 ((n : Int) + 1))) (n + 1) out) := Lib.hid (hD.setN HQ.out (n + 1))
    have HX := Lib.hid (fun q => quiet_l (at_any ta la 6 i ((W.setCell ⟨qn, 0, none⟩ (.int .i64 ((n : Int) + 1))).drewN q) (HTA.out.below (drewN_ HD1.out.bel q))))
    have HY := Lib.hid (fun q => quiet_l (at_any tb lb 6 i ((W.setCell ⟨qn, 0, none⟩ (.int .i64 ((n : Int) + 1))).drewN q) (HTB.out.below (drewN_ HD1.out.bel q))))
    rw [show atL la 6 i = nodeL la 0 i from atL_in la (lv := 6) (ix := i) (by omega) hi64] at HX
    rw [show atL lb 6 i = nodeL lb 0 i from atL_in lb (lv := 6) (ix := i) (by omega) hi64] at HY
    have HU1 : Hid (nodeL la 0 i = nodeL lb 0 i → unH (nodeL la) (nodeL lb) 0 i = ([], 1)) := Lib.hid (fun e => by unfold unH; rw [if_pos e])
    have HU2 : Hid (¬ nodeL la 0 i = nodeL lb 0 i → unH (nodeL la) (nodeL lb) 0 i = ([(i : Int)], 1)) := Lib.hid (fun e => by unfold unH; rw [if_neg e])
    generalize nodeL la 0 i = x at HX HU1 HU2
    generalize nodeL lb 0 i = y at HY HU1 HU2
    have hca := HD1.out.ca; have hcb := HD1.out.cb; have hcn1 := cell_at HD1.out.bn
    obtain ⟨v0, ho0, hown0⟩ := HD1.out.bo
    have hco := cell_at ho0; have hfo := froz_at ho0
    have HO := Lib.hid hown0
    have HSZ := Lib.hid HD1.out.sz
    have HO0 := Lib.hid ho0
    clear ho0 hown0 hD
    have hn1 : n ≤ 1000 := by omega
    go_enter Try.func55, Try.ntmps55
    go_wp2_with fail
    generalize W.setCell ⟨qn, 0, none⟩ (.int .i64 ((n : Int) + 1)) = W1 at *
    clear hcn hfn
    by_cases hxy : x = y
    · subst hxy
      have HU := Lib.hid (HU1.out rfl)
      have hxx : (x.toList == x.toList) = true := by simp
      clear HU1 HU2
      go_quiet ((go_at_call 36; first | with_reducible exact HX.out _ | with_reducible exact HY.out _))
      go_wp2
      go_end0
      exact ⟨rfl, by rw [HU.out, List.append_nil]; exact HD1.out.below (below_drewN _ _)⟩
    · have HU := Lib.hid (HU2.out hxy)
      have hxx : (x.toList == y.toList) = false := by rw [str_beq]; simp [hxy]
      clear HU1 HU2 hxy
      go_quiet ((go_at_call 36; first | with_reducible exact HX.out _ | with_reducible exact HY.out _))
      rename_i nq
      have HDQ := Lib.hid (HD1.out.below (below_drewN W1 nq))
      have HOQ := Lib.hid (own_below HO.out (below_drewN W1 nq))
      have HSQ := Lib.hid HDQ.out.sz
      have hcoq : (W1.drewN nq).cell? ⟨qo, 0, none⟩ = some v0 := hco
      have HOB := Lib.hid (show (W1.drewN nq).heap[qo]? = _ from HO0.out)
      generalize W1.drewN nq = W2 at *
      clear hco hfo hca hcb hcn1 HD1 HO HSZ HX HY HO0
      have hqo : qo < base := by have := HQ.out.n; have := HQ.out.d; have := HQ.out.e; omega
      go_wp2_with (at_builtin; refine wpList_app elInt (by rfl) (.tmp 37) (.tmp 39) (by rfl) base v0 out.length (ints out) (by rfl) (HOQ.out.alloc _) (some ⟨W2.heap.size, 0, none⟩) 1 1 [.int .i64 i] rfl rfl (Rd.new W2 #[.int .i64 i] _) (by intro u hu; simp at hu; subst hu; rfl) (by unfold maxLen; omega) (by omega) (by have := HSQ.out; simp; omega) ?_; intro v1 w3 hown1 hbel1 _ _; obtain ⟨A1, c1, rfl⟩ := own_form hown1; have hb3 := ((Below.refl base W2).alloc HSQ.out (.cells #[.int .i64 i] 3)).trans hbel1; have hbo := (hb3.block qo hqo).trans HOB.out; have hco3 := cell_at hbo; have hfo3 := froz_at hbo; have HFIN := Lib.hid (HDQ.out.setO HQ.out hb3 hown1); clear hown1 hbel1 hb3 hbo)
      go_end0
      exact ⟨rfl, by rw [HU.out]; exact HFIN.out⟩
  | succ h ih =>
    intro lv i W n out hlv hi hn hout hD
    have hl6 : lv < 6 := by omega
    have hi64 : i < 64 := Nat.lt_of_lt_of_le hi (show 2 ^ lv ≤ 2 ^ 6 from Nat.pow_le_pow_right (by decide) (by omega))
    have hcn := cell_at hD.bn; have hfn := froz_at hD.bn
    have HD1 : Hid (DnAt w ta tb qa qb qo qn qd base (W.setCell ⟨qn, 0, none⟩ (.int .i64 ((n : Int) + 1))) (n + 1) out) := Lib.hid (hD.setN HQ.out (n + 1))
    have HX := Lib.hid (fun q => quiet_l (at_any ta la lv i ((W.setCell ⟨qn, 0, none⟩ (.int .i64 ((n : Int) + 1))).drewN q) (HTA.out.below (drewN_ HD1.out.bel q))))
    have HY := Lib.hid (fun q => quiet_l (at_any tb lb lv i ((W.setCell ⟨qn, 0, none⟩ (.int .i64 ((n : Int) + 1))).drewN q) (HTB.out.below (drewN_ HD1.out.bel q))))
    rw [show atL la lv i = nodeL la (h + 1) i from (atL_in la (by omega) hi).trans (by rw [show 6 - lv = h + 1 by omega])] at HX
    rw [show atL lb lv i = nodeL lb (h + 1) i from (atL_in lb (by omega) hi).trans (by rw [show 6 - lv = h + 1 by omega])] at HY
    have HU1 : Hid (nodeL la (h + 1) i = nodeL lb (h + 1) i → unH (nodeL la) (nodeL lb) (h + 1) i = ([], 1)) := Lib.hid (fun e => by unfold unH; rw [if_pos e])
    have HU2 : Hid (¬ nodeL la (h + 1) i = nodeL lb (h + 1) i → unH (nodeL la) (nodeL lb) (h + 1) i = ((unH (nodeL la) (nodeL lb) h (2 * i)).1 ++ (unH (nodeL la) (nodeL lb) h (2 * i + 1)).1, (unH (nodeL la) (nodeL lb) h (2 * i)).2 + (unH (nodeL la) (nodeL lb) h (2 * i + 1)).2 + 1)) := Lib.hid (fun e => by rw [unH, if_neg e])
    generalize nodeL la (h + 1) i = x at HX HU1 HU2
    generalize nodeL lb (h + 1) i = y at HY HU1 HU2
    have hca := HD1.out.ca; have hcb := HD1.out.cb; have hcn1 := cell_at HD1.out.bn; have hcd := HD1.out.cd
    have hcf := enter_down
    have hn1 : n ≤ 1000 := Nat.le_trans (Nat.le_add_right _ _) hn
    have HIH := Lib.hid ih; have HI := Lib.hid hi; have HLV := Lib.hid hlv; have HNN := Lib.hid hn; have HOO := Lib.hid hout
    clear hD ih hi hlv hn hout
    go_enter Try.func55, Try.ntmps55
    go_wp2_with fail
    generalize W.setCell ⟨qn, 0, none⟩ (.int .i64 ((n : Int) + 1)) = W1 at *
    clear hcn hfn
    by_cases hxy : x = y
    · subst hxy
      have HU := Lib.hid (HU1.out rfl)
      have hxx : (x.toList == x.toList) = true := by simp
      clear HU1 HU2
      go_quiet ((go_at_call 36; first | with_reducible exact HX.out _ | with_reducible exact HY.out _))
      go_wp2
      go_end0
      exact ⟨rfl, by rw [HU.out, List.append_nil]; exact HD1.out.below (below_drewN _ _)⟩
    · have HU := Lib.hid (HU2.out hxy)
      have hxx : (x.toList == y.toList) = false := by rw [str_beq]; simp [hxy]
      clear HU1 HU2 hxy
      go_quiet ((go_at_call 36; first | with_reducible exact HX.out _ | with_reducible exact HY.out _))
      rename_i nq
      have HDQ := Lib.hid (HD1.out.below (below_drewN W1 nq))
      have hcd : (W1.drewN nq).cell? ⟨qd, 0, none⟩ = some _ := HDQ.out.cd
      generalize W1.drewN nq = W2 at *
      clear hca hcb hcn1 HD1 HX HY
      have hb1 := unH_big (nodeL la) (nodeL lb) h (2 * i)
      have hp1 : 2 ^ (h + 1 + 1) = 2 * 2 ^ (h + 1) := by rw [Nat.pow_succ]; omega
      have hp2 : 2 ^ (h + 1) = 2 * 2 ^ h := by rw [Nat.pow_succ]; omega
      have hp3 : 1 ≤ 2 ^ h := Nat.one_le_two_pow
      have HA1 := Lib.hid (show Calls Try.prog 55 #[.int .i64 ((lv : Int) + 1), .int .i64 (2 * (i : Int)), .pointer (some ⟨qn, 0, none⟩), .pointer (some ⟨qa, 0, none⟩), .pointer (some ⟨qb, 0, none⟩), .pointer (some ⟨qo, 0, none⟩), .pointer (some ⟨qd, 0, none⟩)] W2 _ from by
        rw [show ((lv : Int) + 1) = ((lv + 1 : Nat) : Int) by omega, show (2 * (i : Int)) = ((2 * i : Nat) : Int) by omega]
        exact HIH.out (lv + 1) (2 * i) W2 (n + 1) out (by have := HLV.out; omega) (by have := HI.out; rw [Nat.pow_succ]; omega) (by have := HNN.out; omega) (by have := HOO.out; omega) HDQ.out)
      have HA2 := Lib.hid (fun W (hD : DnAt w ta tb qa qb qo qn qd base W (n + 1 + (unH (nodeL la) (nodeL lb) h (2 * i)).2) (out ++ (unH (nodeL la) (nodeL lb) h (2 * i)).1)) => (show Calls Try.prog 55 #[.int .i64 ((lv : Int) + 1), .int .i64 (2 * (i : Int) + 1), .pointer (some ⟨qn, 0, none⟩), .pointer (some ⟨qa, 0, none⟩), .pointer (some ⟨qb, 0, none⟩), .pointer (some ⟨qo, 0, none⟩), .pointer (some ⟨qd, 0, none⟩)] W _ from by
        rw [show ((lv : Int) + 1) = ((lv + 1 : Nat) : Int) by omega, show (2 * (i : Int) + 1) = ((2 * i + 1 : Nat) : Int) by omega]
        exact HIH.out (lv + 1) (2 * i + 1) W _ _ (by have := HLV.out; omega) (by have := HI.out; rw [Nat.pow_succ]; omega) (by have := HNN.out; omega) (by have := HOO.out; rw [List.length_append]; omega) hD))
      generalize unH (nodeL la) (nodeL lb) h (2 * i) = u1 at HU HA1 HA2
      generalize unH (nodeL la) (nodeL lb) h (2 * i + 1) = u2 at HU HA2
      clear hb1 hp1 hp2 hp3 HIH HDQ
      go_wp2_with fail
      refine HA1.out.mono ?_
      rintro e W3 ⟨rfl, hD3⟩
      have hcd3 := hD3.cd
      have HD3 := Lib.hid hD3
      clear hD3 hcd HA1
      go_wp2_with fail
      refine (HA2.out W3 HD3.out).mono ?_
      rintro e W4 ⟨rfl, hD4⟩
      have HD4 := Lib.hid hD4
      clear hD4 hcd3 HD3 HA2
      go_wp2
      go_end0
      exact ⟨rfl, by rw [HU.out, ← List.append_assoc, show n + (u1.2 + u2.2 + 1) = n + 1 + u1.2 + u2.2 by omega]; exact HD4.out⟩
end Go.Proofs.Ytgmafnpkhmlnnaa
