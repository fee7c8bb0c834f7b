/- One entry more, by the document: what has another key is as it was. -/
import Derived.Test.YtlmplibdfhamjaaRegD
import Derived.Deep.QuietTactic
import Derived.BigQuiet
attribute [local go_sem ↓] Go.wp_at_zero Go.wp_at_succ
namespace Go.Proofs.Ytlmplibdfhamjaa
open Go.RowKit Go.Mem
set_option linter.unusedVariables false
set_option linter.unusedSimpArgs false

theorem drewN_drewN (w : World) (a b : Nat) : (w.drewN a).drewN b = w.drewN (a + b) := by
  induction b with
  | zero => rfl
  | succ b ih => exact congrArg World.drew ih
abbrev ents (l : List Ent) : List Value := l.flatMap fun m => m.arr.toList
theorem atKey_ne {x : Ent} {key : ByteArray} (h : (x.key.toList == key.toList) = false) : atKey key x = false := h
theorem find_or {l m : List Ent} {key : ByteArray} : getR (l ++ m) key = (((l.find? (atKey key)).or (m.find? (atKey key))).map Ent.reg).getD zR := by unfold getR; rw [List.find?_append]
theorem getR_ins {l : List Ent} {x : Ent} {key : ByteArray} (k : Nat) (h : (x.key.toList == key.toList) = false) : getR (l.take k ++ x :: l.drop k) key = getR l key := by
  rw [find_or, List.find?_cons, atKey_ne h, ← find_or, List.take_append_drop]
theorem getR_rep {l : List Ent} {x : Ent} {key : ByteArray} (k : Nat) (hk : k < l.length) (he : (l[k].key.toList == x.key.toList) = true) (h : (x.key.toList == key.toList) = false) : getR (l.take k ++ x :: l.drop (k + 1)) key = getR l key := by
  have h2 : atKey key l[k] = false := by
    unfold atKey
    rw [beq_iff_eq] at he
    rw [he]; exact h
  have h3 : l = l.take k ++ l[k] :: l.drop (k + 1) := by rw [List.getElem_cons_drop hk, List.take_append_drop]
  conv => rhs; rw [h3]
  rw [find_or, find_or, List.find?_cons, List.find?_cons, atKey_ne h, h2]

def SomeB (w : World) (e : Ending) (w' : World) : Prop := ∃ b : Bool, e = .returned (.bool b) ∧ Below w.heap.size w w'
set_option maxRecDepth 100000 in
set_option maxHeartbeats 2000000 in
theorem newer09_any (n : Int) (b v : ByteArray) (m : Int) (c u : ByteArray) (w : World) :
    Calls Try.prog 144 #[.agg #[.int .i64 n, .string b, .string v], .agg #[.int .i64 m, .string c, .string u]] w (SomeB w) := by
  go_enter Try.func144, Try.ntmps144
  go_wp2
  all_goals (go_ret; exact ⟨_, rfl, ((Below.refl _ _).alloc (Nat.le_refl _) _).alloc (by simp) _⟩)
def OneOf (a b : Rg) (w : World) (e : Ending) (w' : World) : Prop := ∃ r : Rg, (r = a ∨ r = b) ∧ e = .returned (.agg r.arr) ∧ Below w.heap.size w w'
set_option maxRecDepth 100000 in
set_option maxHeartbeats 2000000 in
theorem join09_any (n : Int) (b v : ByteArray) (m : Int) (c u : ByteArray) (w : World) :
    Calls Try.prog 119 #[.agg #[.int .i64 n, .string b, .string v], .agg #[.int .i64 m, .string c, .string u]] w (OneOf ⟨n, b, v⟩ ⟨m, c, u⟩ w) := by
  go_enter Try.func119, Try.ntmps119
  go_wp2_with fail
  refine (newer09_any _ _ _ _ _ _ _).mono ?_
  rintro e w1 ⟨p, rfl, hb1⟩
  have h0 : w1.heap[w.heap.size]? = some (.cells #[.int .i64 n, .string b, .string v] 45 (0, 0)) := (hb1.block _ (by first | (simp; done) | (simp; omega))).trans ((Below.heap_alloc _ _ _ (by first | (simp; done) | (simp; omega))).trans ((Below.heap_alloc _ _ _ (by simp)).trans (heap_alloc_new w _)))
  have h1 : w1.heap[w.heap.size + 1]? = some (.cells #[.int .i64 m, .string c, .string u] 45 (0, 0)) := (hb1.block _ (by first | (simp; done) | (simp; omega))).trans ((Below.heap_alloc _ _ _ (by first | (simp; done) | (simp; omega))).trans (heap_alloc2_new w _ _))
  have h2 : w1.heap[w.heap.size + 1 + 1]? = some (.cells #[.int .i64 0, .string ⟨#[]⟩, .string ⟨#[]⟩] 45 (0, 0)) := (hb1.block _ (by simp)).trans (by have := heap_alloc_new ((w.alloc (.cells #[.int .i64 n, .string b, .string v] 45)).alloc (.cells #[.int .i64 m, .string c, .string u] 45)) (.cells #[.int .i64 0, .string ⟨#[]⟩, .string ⟨#[]⟩] 45); simpa using this)
  have HB := Lib.hid (below_alloc (below_alloc (below_alloc hb1)))
  have hc := (⟨cell_of_row _ _ 0 _ _ _ h0, cell_of_row _ _ 1 _ _ _ h0, cell_of_row _ _ 2 _ _ _ h0, cell_of_row _ _ 0 _ _ _ h1, cell_of_row _ _ 1 _ _ _ h1, cell_of_row _ _ 2 _ _ _ h1, cell_of_row _ _ 0 _ _ _ h2, cell_of_row _ _ 1 _ _ _ h2, cell_of_row _ _ 2 _ _ _ h2, frozen_of_row _ _ 0 _ _ h2, frozen_of_row _ _ 1 _ _ h2, frozen_of_row _ _ 2 _ _ h2⟩ : _ ∧ _ ∧ _ ∧ _ ∧ _ ∧ _ ∧ _ ∧ _ ∧ _ ∧ _ ∧ _ ∧ _)
  simp only [List.getElem?_toArray, List.getElem?_cons_zero, List.getElem?_cons_succ] at hc
  obtain ⟨a0, a1, a2, b0, b1, b2, r0, r1, r2, z0, z1, z2⟩ := hc
  have H2 := Lib.hid h2
  clear h0 h1 h2 hb1
  cases p
  · go_wp2
    refine bodyPost_ret (results_cell_row rfl _ _ (w.heap.size + 1 + 1) _ #[.int .i64 n, .string b, .string v] (0, 0) _ rfl (set3 H2.out _ _ _) Try.underlying45 rfl row_rg.hi) rfl ⟨⟨n, b, v⟩, .inl rfl, rfl, ?_⟩
    exact ((HB.out.setCell (by simp; omega) _).setCell (by simp; omega) _).setCell (by simp; omega) _
  · go_wp2
    refine bodyPost_ret (results_cell_row rfl _ _ (w.heap.size + 1 + 1) _ #[.int .i64 m, .string c, .string u] (0, 0) _ rfl (set3 H2.out _ _ _) Try.underlying45 rfl row_rg.hi) rfl ⟨⟨m, c, u⟩, .inr rfl, rfl, ?_⟩
    exact ((HB.out.setCell (by simp; omega) _).setCell (by simp; omega) _).setCell (by simp; omega) _

/-- a slice from a place on, and up to a place -/
theorem rd_from {w : World} {A : Option Addr} {cs : List Value} (h : Rd w A cs) (o : Nat) : Rd w (A.map (·.add o)) (cs.drop o) := fun j u hj => by
  obtain ⟨b, off, rfl, hc⟩ := h (o + j) u (by simpa using hj)
  refine ⟨b, off + o, ?_, by rw [Nat.add_assoc]; exact hc⟩
  simp [add_none]
theorem slice_from {w : World} {A : Option Addr} {n c k : Nat} {l : List Ent} (h : Rd w A (ents l)) (hn : l.length = n) (hk : k ≤ n) (hc : n ≤ c) :
    ∃ A2, (∀ W, (Instr.sliceAt 24 (.slice A n c) (some (.int .i64 k)) none none).run Try.prog W = .ok (.slice A2 (n - k) (c - k)) W) ∧ Rd w A2 (ents (l.drop k)) := by
  refine ⟨if c = k then A else A.map (·.add (k * 4)), fun W => ?_, ?_⟩
  · have h0 : (0 : Int) ≤ (k : Int) := by omega
    have h1 : (k : Int) ≤ (n : Int) := by omega
    go_simp
  · by_cases e : c = k
    · rw [if_pos e, List.drop_eq_nil_of_le (by omega)]; exact Rd.nil
    · rw [if_neg e]
      have := rd_from h (k * 4)
      have e2 : (ents l).drop (k * 4) = ents (l.drop k) := by
        have e3 : ents l = ents (l.take k) ++ ents (l.drop k) := by unfold ents; rw [← List.flatMap_append, List.take_append_drop]
        have e4 : (ents (l.take k)).length = k * 4 := by rw [row_ent.len, List.length_take, Nat.min_eq_left (by omega)]
        rw [e3, ← e4, List.drop_left']
        rfl
      rwa [e2] at this
theorem slice_to (A : Option Addr) {n c k : Nat} (hk : k ≤ n) (hc : n ≤ c) (W : World) :
    (Instr.sliceAt 24 (.slice A n c) none (some (.int .i64 k)) none).run Try.prog W = .ok (.slice A k c) W := by
  have h0 : (0 : Int) ≤ (k : Int) := by omega
  have h1 : (k : Int) ≤ (c : Int) := by omega
  go_simp

theorem el_e : Elem Try.prog 24 47 4 56 := el_ent
/-- what is left is as it was but for the entry's own key -/
def PutR (l : List Ent) (x : Ent) (w : World) (e : Ending) (w' : World) : Prop :=
  ∃ (L : List Ent) (v : Value), (∀ key, (x.key.toList == key.toList) = false → getR L key = getR l key) ∧ L.length ≤ l.length + 1 ∧ e = .returned v ∧ w'.ownsRow w.heap.size 47 4 v L.length (ents L) ∧ Below w.heap.size w w'
theorem ents_app (l m : List Ent) : ents (l ++ m) = ents l ++ ents m := List.flatMap_append
theorem ents_len (l : List Ent) : (ents l).length = l.length * 4 := row_ent.len l
set_option maxRecDepth 100000 in
set_option maxHeartbeats 8000000 in
theorem put_any (A : Option Addr) (n c : Nat) (l : List Ent) (x : Ent) (w : World) (hr : Rd w A (ents l)) (hn : l.length = n) (hm : n ≤ 100000) (hc : n ≤ c) (hcm : c ≤ maxLen) :
    Calls Try.prog 78 #[.slice A n c, .agg x.arr] w (PutR l x w) := by
  obtain ⟨xk, ⟨xn, xb, xv⟩⟩ := x
  simp only [Ent.arr]
  have HN := Lib.hid hn
  have hbx := (Below.refl w.heap.size w).alloc (Nat.le_refl _) (.cells #[.string xk, .int .i64 xn, .string xb, .string xv] 47)
  have hxx := heap_alloc_new w (.cells #[.string xk, .int .i64 xn, .string xb, .string xv] 47)
  have HR := Lib.hid (hr.below hbx)
  clear hr hn
  unfold maxLen at hcm
  go_enter Try.func78, Try.ntmps78
  go_wp2
  generalize hW : w.alloc (.cells #[.string xk, .int .i64 xn, .string xb, .string xv] 47) = W0 at *
  clear hW
  have hsz : w.heap.size ≤ W0.heap.size := hbx.size
  have HBX := Lib.hid hbx; have HXX := Lib.hid hxx
  clear hbx hxx
  go_loopw [5] (fun i wr => ∃ k : Nat, k ≤ n ∧ i = .int .i64 k ∧ Below W0.heap.size W0 wr) (fun i _ => n - (intOf i).toNat)
  case atStart => exact ⟨0, Nat.zero_le _, rfl, Below.refl _ _⟩
  case round =>
    obtain ⟨k, hk, rfl, hbel⟩ := hrel
    have hX : wr.heap[w.heap.size]? = some (.cells #[.string xk, .int .i64 xn, .string xb, .string xv] 47 (0, 0)) := (hbel.block _ (Array.getElem?_eq_some_iff.1 HXX.out).1).trans HXX.out
    have x0 : wr.cell? ⟨w.heap.size, 0, none⟩ = some (.string xk) := cell_of_row _ _ _ _ _ _ hX
    have x1 : wr.cell? ⟨w.heap.size, 1, none⟩ = some (.int .i64 xn) := cell_of_row _ _ _ _ _ _ hX
    have x2 : wr.cell? ⟨w.heap.size, 2, none⟩ = some (.string xb) := cell_of_row _ _ _ _ _ _ hX
    have x3 : wr.cell? ⟨w.heap.size, 3, none⟩ = some (.string xv) := cell_of_row _ _ _ _ _ _ hX
    clear hX
    have hXc : ∀ i v, (#[.string xk, .int .i64 xn, .string xb, .string xv] : Array Value)[i]? = some v → W0.cell? ⟨w.heap.size, i, none⟩ = some v := fun i v h => by rw [cell_of_row _ _ _ _ _ _ HXX.out]; exact h
    have X0 : Hid (W0.cell? ⟨w.heap.size, 0, none⟩ = some (.string xk)) := Lib.hid (hXc 0 _ rfl)
    have X1 : Hid (W0.cell? ⟨w.heap.size, 1, none⟩ = some (.int .i64 xn)) := Lib.hid (hXc 1 _ rfl)
    have X2 : Hid (W0.cell? ⟨w.heap.size, 2, none⟩ = some (.string xb)) := Lib.hid (hXc 2 _ rfl)
    have X3 : Hid (W0.cell? ⟨w.heap.size, 3, none⟩ = some (.string xv)) := Lib.hid (hXc 3 _ rfl)
    clear hXc
    have hto : ∀ W, (Instr.sliceAt 24 (.slice A n c) none (some (.int .i64 k)) none).run Try.prog W = .ok (.slice A k c) W := slice_to A hk hc
    have HTK : Hid (Rd W0 A (ents (l.take k))) := Lib.hid (by have := HR.out.take (k * 4); rwa [show (ents l).take (k * 4) = ents (l.take k) from row_ent.take_flat l k (by rw [HN.out]; exact hk)] at this)
    have HTL : Hid ((ents (l.take k)).length = k * 4) := Lib.hid (by rw [ents_len, List.length_take, HN.out, Nat.min_eq_left hk])
    by_cases hlt : k < n
    · have hx : k < l.length := by have := HN.out; omega
      obtain ⟨b, off, rfl, hrg⟩ := row_ent.at_ HR.out k hx
      have hd : decide ((k : Int) < (n : Int)) = true := by simp; omega
      have hd2 : decide (k < n) = true := by simp; omega
      have hi0 : (0 : Int) ≤ (k : Int) := by omega
      have hin : (k : Int) < (n : Int) := by omega
      have HREP := Lib.hid (fun x' key => getR_rep (x := x') (key := key) k hx)
      generalize l[k] = s at hrg HREP
      obtain ⟨sk, ⟨sn, sb, sv⟩⟩ := s
      have C0 : Hid (W0.cell? ⟨b, off + k * 4, none⟩ = some (.string sk)) := Lib.hid (rangeAt_cell hrg 0 rfl)
      have C1 : Hid (W0.cell? ⟨b, off + k * 4 + 1, none⟩ = some (.int .i64 sn)) := Lib.hid (rangeAt_cell hrg 1 rfl)
      have C2 : Hid (W0.cell? ⟨b, off + k * 4 + 2, none⟩ = some (.string sb)) := Lib.hid (rangeAt_cell hrg 2 rfl)
      have C3 : Hid (W0.cell? ⟨b, off + k * 4 + 3, none⟩ = some (.string sv)) := Lib.hid (rangeAt_cell hrg 3 rfl)
      clear hrg
      have c0 := cell_below hbel C0.out
      cases hl : Op.bytesLess sk.toList xk.toList
      · go_wp2
        go_quiet (fail)
        go_wp2_with (at_builtin; refine wpList_app el_e rfl (.tmp 23) (.tmp 26) rfl W0.heap.size _ 0 [] rfl (World.ownsRow_nil _ _ _ _) (some ⟨b, off, none⟩) k c (ents (l.take k)) rfl HTL.out ((HTK.out.below hbel).drewN nq) (row_ent.ones _) (by unfold maxLen; omega) (by omega) (by have := hbel.size; simpa using this) ?_; intro v1 w1 hown1 hbel1 hgrow1 hat1)
        have hB1 : Below W0.heap.size W0 w1 := (drewN_ hbel nq).trans hbel1
        have HO1 : Hid (w1.ownsRow W0.heap.size 47 4 v1 k (ents (l.take k))) := Lib.hid (by simpa using hown1)
        clear hown1 hbel1 hgrow1 hat1 c0 x0 x1 x2 x3
        have x0 := cell_below hB1 X0.out
        have x1 := cell_below hB1 X1.out
        have x2 := cell_below hB1 X2.out
        have x3 := cell_below hB1 X3.out
        have c0 := cell_below hB1 C0.out
        have c1 := cell_below hB1 C1.out
        have c2 := cell_below hB1 C2.out
        have c3 := cell_below hB1 C3.out
        cases hke : sk.toList == xk.toList
        · clear hl
          go_quiet (fail)
          have hB2 : Below W0.heap.size W0 (w1.drewN nq) := drewN_ hB1 nq
          clear c0 c1 c2 c3
          obtain ⟨A2, hfr, hrd⟩ := slice_from HR.out HN.out hk hc
          have HRD := Lib.hid hrd; clear hrd
          go_wp2_with (first | (at_builtin; refine wpList_app el_e rfl (.tmp 63) (.tmp 65) rfl W0.heap.size _ k (ents (l.take k)) rfl ((own_drewN HO1.out nq).alloc _) (some ⟨(w1.drewN nq).heap.size, 0, none⟩) 1 1 [.string xk, .int .i64 xn, .string xb, .string xv] rfl rfl (Rd.new _ _ _) (by simp [Value.oneCell']) (by unfold maxLen; omega) (by omega) (by have := hB2.size; simp at this ⊢; omega) ?_; intro v2 w3 hown2 hbel2 hgrow2 hat2; have hB3 : Below W0.heap.size W0 w3 := (hB2.alloc hB2.size _).trans hbel2; have HO2 := Lib.hid hown2; clear hown2 hbel2 hgrow2 hat2) | (at_builtin; refine wpList_app el_e rfl (.tmp 67) (.tmp 70) rfl W0.heap.size v2 (k + 1) (ents (l.take k) ++ [.string xk, .int .i64 xn, .string xb, .string xv]) rfl HO2.out A2 (n - k) (c - k) (ents (l.drop k)) rfl (by rw [ents_len, List.length_drop, HN.out]) (HRD.out.below hB3) (row_ent.ones _) (by unfold maxLen; omega) (by omega) hB3.size ?_; intro v3 w4 hown3 hbel3 hgrow3 hat3))
          go_ret
          refine ⟨l.take k ++ ⟨xk, ⟨xn, xb, xv⟩⟩ :: l.drop k, _, fun key h => getR_ins k h, by rw [List.length_append, List.length_cons, List.length_take, List.length_drop]; omega, rfl, ?_, then_ HBX.out (hB3.trans hbel3)⟩
          have h1 := own_mono hown3 hsz
          have h2 : (l.take k ++ (⟨xk, ⟨xn, xb, xv⟩⟩ : Ent) :: l.drop k).length = k + 1 + (n - k) := by rw [List.length_append, List.length_cons, List.length_take, List.length_drop, HN.out]; omega
          rw [h2]
          simpa [ents, Ent.arr] using h1
        · clear hl
          go_quiet (fail)
          have hB2 : Below W0.heap.size W0 (w1.drewN nq) := drewN_ hB1 nq
          have HO1d := Lib.hid (own_drewN HO1.out nq)
          clear c0 c1 c2 c3 x0 x1 x2 x3
          generalize w1.drewN nq = wb at hB2 HO1d ⊢
          have D0 := Lib.hid (cell_below hB2 C1.out)
          have D1 := Lib.hid (cell_below hB2 C2.out)
          have D2 := Lib.hid (cell_below hB2 C3.out)
          have D3 := Lib.hid (cell_below hB2 X0.out)
          have D4 := Lib.hid (cell_below hB2 X1.out)
          have D5 := Lib.hid (cell_below hB2 X2.out)
          have D6 := Lib.hid (cell_below hB2 X3.out)
          have HKE := Lib.hid hke; clear hke
          have hb : Below wb.heap.size wb wb.drew := (Below.refl _ _).drew
          go_wp2
          refine wp_region_held_drew (S := (fun W => W.cell? ⟨b, off + k * 4 + 1, none⟩ = some (.int .i64 sn) ∧ W.cell? ⟨b, off + k * 4 + 2, none⟩ = some (.string sb) ∧ W.cell? ⟨b, off + k * 4 + 3, none⟩ = some (.string sv) ∧ W.cell? ⟨w.heap.size, 0, none⟩ = some (.string xk) ∧ W.cell? ⟨w.heap.size, 1, none⟩ = some (.int .i64 xn) ∧ W.cell? ⟨w.heap.size, 2, none⟩ = some (.string xb) ∧ W.cell? ⟨w.heap.size, 3, none⟩ = some (.string xv))) (by kernel_rfl) ⟨D0.out, D1.out, D2.out, D3.out, D4.out, D5.out, D6.out⟩ (fun hHeld => ?_)
          refine wpAnyH_take (i := 0) (oi := _) (v := ?vq1) rfl (by kernel_rfl) (by kernel_rfl) (by kernel_rfl) (fun _ _ _ h => h) (Or.inl ⟨by rfl, ?hq1⟩) (by assumption) ?rq1
          case hq1 => (intro w hSw; go_simp; try with_reducible rfl)
          try dsimp only [Act.put, List.getElem_toArray, List.getElem_cons_zero, List.getElem_cons_succ]; try simp only [List.setIfInBounds_toArray, List.set_cons_zero, List.set_cons_succ]
          refine wpAnyH_take (i := 1) (oi := _) (v := ?vq2) rfl (by kernel_rfl) (by kernel_rfl) (by kernel_rfl) (fun _ _ _ h => h) (Or.inl ⟨by rfl, ?hq2⟩) (by assumption) ?rq2
          case hq2 => (intro w hSw; go_simp; try with_reducible rfl)
          try dsimp only [Act.put, List.getElem_toArray, List.getElem_cons_zero, List.getElem_cons_succ]; try simp only [List.setIfInBounds_toArray, List.set_cons_zero, List.set_cons_succ]
          refine wpAnyH_take (i := 2) (oi := _) (v := ?vq3) rfl (by kernel_rfl) (by kernel_rfl) (by kernel_rfl) (fun _ _ _ h => h) (Or.inl ⟨by rfl, ?hq3⟩) (by assumption) ?rq3
          case hq3 => (intro w hSw; go_simp; try with_reducible rfl)
          try dsimp only [Act.put, List.getElem_toArray, List.getElem_cons_zero, List.getElem_cons_succ]; try simp only [List.setIfInBounds_toArray, List.set_cons_zero, List.set_cons_succ]
          refine wpAnyH_take (i := 3) (oi := _) (v := ?vq4) rfl (by kernel_rfl) (by kernel_rfl) (by kernel_rfl) (fun _ _ _ h => h) (Or.inl ⟨by rfl, ?hq4⟩) (by assumption) ?rq4
          case hq4 => (intro w hSw; go_simp; try with_reducible rfl)
          try dsimp only [Act.put, List.getElem_toArray, List.getElem_cons_zero, List.getElem_cons_succ]; try simp only [List.setIfInBounds_toArray, List.set_cons_zero, List.set_cons_succ]
          refine wpAnyH_take (i := 4) (oi := _) (v := ?vq5) rfl (by kernel_rfl) (by kernel_rfl) (by kernel_rfl) (fun _ _ _ h => h) (Or.inl ⟨by rfl, ?hq5⟩) (by assumption) ?rq5
          case hq5 => (intro w hSw; go_simp; try with_reducible rfl)
          try dsimp only [Act.put, List.getElem_toArray, List.getElem_cons_zero, List.getElem_cons_succ]; try simp only [List.setIfInBounds_toArray, List.set_cons_zero, List.set_cons_succ]
          refine wpAnyH_take (i := 5) (oi := _) (v := ?vq6) rfl (by kernel_rfl) (by kernel_rfl) (by kernel_rfl) (fun _ _ _ h => h) (Or.inl ⟨by rfl, ?hq6⟩) (by assumption) ?rq6
          case hq6 => (intro w hSw; go_simp; try with_reducible rfl)
          try dsimp only [Act.put, List.getElem_toArray, List.getElem_cons_zero, List.getElem_cons_succ]; try simp only [List.setIfInBounds_toArray, List.set_cons_zero, List.set_cons_succ]
          refine wpAnyH_take (i := 6) (oi := _) (v := ?vq7) rfl (by kernel_rfl) (by kernel_rfl) (by kernel_rfl) (fun _ _ _ h => h) (Or.inl ⟨by rfl, ?hq7⟩) (by assumption) ?rq7
          case hq7 => (intro w hSw; go_simp; try with_reducible rfl)
          try dsimp only [Act.put, List.getElem_toArray, List.getElem_cons_zero, List.getElem_cons_succ]; try simp only [List.setIfInBounds_toArray, List.set_cons_zero, List.set_cons_succ]
          refine wpAnyH_take (i := 7) (oi := _) (v := ?vq8) rfl (by kernel_rfl) (by kernel_rfl) (by kernel_rfl) (fun _ _ _ h => h) (Or.inl ⟨by rfl, ?hq8⟩) (by assumption) ?rq8
          case hq8 => (intro w hSw; go_simp; try with_reducible rfl)
          try dsimp only [Act.put, List.getElem_toArray, List.getElem_cons_zero, List.getElem_cons_succ]; try simp only [List.setIfInBounds_toArray, List.set_cons_zero, List.set_cons_succ]
          refine wpAnyH_take (i := 8) (oi := _) (v := ?vq9) rfl (by kernel_rfl) (by kernel_rfl) (by kernel_rfl) (fun _ _ _ h => h) (Or.inl ⟨by rfl, ?hq9⟩) (by assumption) ?rq9
          case hq9 => (intro w hSw; go_simp; try with_reducible rfl)
          try dsimp only [Act.put, List.getElem_toArray, List.getElem_cons_zero, List.getElem_cons_succ]; try simp only [List.setIfInBounds_toArray, List.set_cons_zero, List.set_cons_succ]
          refine wpAnyH_take (i := 9) (oi := _) (v := ?vq10) rfl (by kernel_rfl) (by kernel_rfl) (by kernel_rfl) (fun _ _ _ h => h) (Or.inl ⟨by rfl, ?hq10⟩) (by assumption) ?rq10
          case hq10 => (intro w hSw; go_simp; try with_reducible rfl)
          try dsimp only [Act.put, List.getElem_toArray, List.getElem_cons_zero, List.getElem_cons_succ]; try simp only [List.setIfInBounds_toArray, List.set_cons_zero, List.set_cons_succ]
          refine wpAnyH_ready (rs := [10]) (by kernel_rfl) (by simp) ?_
          refine AllReadyH.cons (o := _) rfl (fun K hK => ?_) ?_
          · rw [if_pos (by rfl)]
            go_simp
            refine (join09_any sn sb sv xn xb xv _).mono ?_
            rintro e wx ⟨r, hr, rfl, hbx⟩
            obtain ⟨rn, rb, rv⟩ := r
            simp only [Rg.arr]
            have hb := then_ hb hbx
            clear hbx
            go_wp2_with fail
            refine hK.out _ _ ⟨cell_below hb D0.out, cell_below hb D1.out, cell_below hb D2.out, cell_below hb D3.out, cell_below hb D4.out, cell_below hb D5.out, cell_below hb D6.out⟩ (fun hHeld => ?_)
            clear hK K
            try dsimp only [Act.put, List.getElem_toArray, List.getElem_cons_zero, List.getElem_cons_succ]; try simp only [List.setIfInBounds_toArray, List.set_cons_zero, List.set_cons_succ]
            refine wpAnyH_take (i := 11) (oi := _) (v := ?vq11) rfl (by kernel_rfl) (by kernel_rfl) (by kernel_rfl) (fun _ _ _ h => h) (Or.inl ⟨by rfl, ?hq11⟩) (by assumption) ?rq11
            case hq11 => (intro w hSw; go_simp; try with_reducible rfl)
            try dsimp only [Act.put, List.getElem_toArray, List.getElem_cons_zero, List.getElem_cons_succ]; try simp only [List.setIfInBounds_toArray, List.set_cons_zero, List.set_cons_succ]
            refine wpAnyH_ready (rs := [12]) (by kernel_rfl) (by simp) ?_
            refine AllReadyH.cons (o := _) rfl (fun K hK => ?_) ?_
            · rw [if_pos (by rfl)]
              go_simp
              have HNW := Lib.hid (Rd.new wx #[.string xk, .int .i64 rn, .string rb, .string rv] 47)
              have hb := hb.alloc hb.size (.cells #[.string xk, .int .i64 rn, .string rb, .string rv] 47)
              refine hK.out _ _ ⟨cell_below hb D0.out, cell_below hb D1.out, cell_below hb D2.out, cell_below hb D3.out, cell_below hb D4.out, cell_below hb D5.out, cell_below hb D6.out⟩ (fun hHeld => ?_)
              clear hK K
              try dsimp only [Act.put, List.getElem_toArray, List.getElem_cons_zero, List.getElem_cons_succ]; try simp only [List.setIfInBounds_toArray, List.set_cons_zero, List.set_cons_succ]
              refine wpAnyH_ready (rs := [13]) (by kernel_rfl) (by simp) ?_
              refine AllReadyH.cons (o := _) rfl (fun K hK => ?_) ?_
              · refine step_app el_e (by rfl) (.tmp 42) (.tmp 54) (by rfl) W0.heap.size v1 k (ents (l.take k)) (by rfl) (own_below HO1d.out hb) (some ⟨wx.heap.size, 0, none⟩) 1 1 [.string xk, .int .i64 rn, .string rb, .string rv] (by rfl) rfl HNW.out (by simp [Value.oneCell']) (by unfold maxLen; omega) (by omega) (Nat.le_trans hB2.size hb.size) ?_
                intro v2 w3 hown2 hbel2 hgrow2 hat2
                have hB3 : Below W0.heap.size W0 w3 := (then_ hB2 hb).trans hbel2
                have HO2 := Lib.hid hown2
                refine hK.out _ _ ⟨cell_below hB3 C1.out, cell_below hB3 C2.out, cell_below hB3 C3.out, cell_below hB3 X0.out, cell_below hB3 X1.out, cell_below hB3 X2.out, cell_below hB3 X3.out⟩ (fun hHeld => ?_)
                clear hK K
                try dsimp only [Act.put, List.getElem_toArray, List.getElem_cons_zero, List.getElem_cons_succ]; try simp only [List.setIfInBounds_toArray, List.set_cons_zero, List.set_cons_succ]
                refine wpAnyH_take (i := 14) (oi := _) (v := ?vq12) rfl (by kernel_rfl) (by kernel_rfl) (by kernel_rfl) (fun _ _ _ h => h) (Or.inl ⟨by rfl, ?hq12⟩) (by assumption) ?rq12
                case hq12 => (intro w hSw; go_simp; try with_reducible rfl)
                try dsimp only [Act.put, List.getElem_toArray, List.getElem_cons_zero, List.getElem_cons_succ]; try simp only [List.setIfInBounds_toArray, List.set_cons_zero, List.set_cons_succ]
                refine wpAnyH_done (by kernel_rfl) ?_ _
                have hke := HKE.out
                clear HKE
                clear hown2 hbel2 hgrow2 hat2 hb
                obtain ⟨A2, hfr, hrd⟩ := slice_from HR.out HN.out (k := k + 1) (by omega) hc
                have HRD := Lib.hid hrd; clear hrd
                have hk1 : ((k + 1 : Nat) : Int) = (k : Int) + 1 := by omega
                rw [hk1] at hfr
                clear hk1
                go_wp2_with (at_builtin; refine wpList_app el_e rfl (.tmp 56) (.tmp 60) rfl W0.heap.size v2 (k + 1) (ents (l.take k) ++ [.string xk, .int .i64 rn, .string rb, .string rv]) rfl HO2.out A2 (n - (k + 1)) (c - (k + 1)) (ents (l.drop (k + 1))) rfl (by rw [ents_len, List.length_drop, HN.out]) (HRD.out.below hB3) (row_ent.ones _) (by unfold maxLen; omega) (by omega) hB3.size ?_; intro v3 w4 hown3 hbel3 hgrow3 hat3)
                go_ret
                refine ⟨l.take k ++ ⟨xk, ⟨rn, rb, rv⟩⟩ :: l.drop (k + 1), _, fun key h => HREP.out ⟨xk, ⟨rn, rb, rv⟩⟩ key hke h, by rw [List.length_append, List.length_cons, List.length_take, List.length_drop]; omega, rfl, ?_, then_ HBX.out (hB3.trans hbel3)⟩
                have h1 := own_mono hown3 hsz
                have h2 : (l.take k ++ (⟨xk, ⟨rn, rb, rv⟩⟩ : Ent) :: l.drop (k + 1)).length = k + 1 + (n - (k + 1)) := by rw [List.length_append, List.length_cons, List.length_take, List.length_drop, HN.out]; omega
                rw [h2]
                simpa [ents, Ent.arr] using h1
              exact AllReadyH.nil
            exact AllReadyH.nil
          exact AllReadyH.nil
      · go_wp2
        go_quiet (fail)
        go_wp2
        go_roundw
        case rel => exact ⟨k + 1, by omega, by go_num, drewN_ hbel _⟩
        case measure => simp [intOf]; omega
    · have hd : decide ((k : Int) < (n : Int)) = false := by simp; omega
      have hd2 : decide (k < n) = false := by simp; omega
      go_wp2
      go_quiet (fail)
      go_wp2_with (at_builtin; refine wpList_app el_e rfl (.tmp 23) (.tmp 26) rfl W0.heap.size _ 0 [] rfl (World.ownsRow_nil _ _ _ _) A k c (ents (l.take k)) rfl HTL.out ((HTK.out.below hbel).drewN nq) (row_ent.ones _) (by unfold maxLen; omega) (by omega) (by have := hbel.size; simpa using this) ?_; intro v1 w1 hown1 hbel1 hgrow1 hat1)
      have hB1 : Below W0.heap.size W0 w1 := (drewN_ hbel nq).trans hbel1
      have HO1 : Hid (w1.ownsRow W0.heap.size 47 4 v1 k (ents (l.take k))) := Lib.hid (by simpa using hown1)
      clear hown1 hbel1 hgrow1 hat1 x0 x1 x2 x3
      have x0 := cell_below hB1 X0.out
      have x1 := cell_below hB1 X1.out
      have x2 := cell_below hB1 X2.out
      have x3 := cell_below hB1 X3.out
      go_quiet (fail)
      have hB2 : Below W0.heap.size W0 (w1.drewN nq) := drewN_ hB1 nq
      obtain ⟨A2, hfr, hrd⟩ := slice_from HR.out HN.out hk hc
      have HRD := Lib.hid hrd; clear hrd
      go_wp2_with (first | (at_builtin; refine wpList_app el_e rfl (.tmp 63) (.tmp 65) rfl W0.heap.size _ k (ents (l.take k)) rfl ((own_drewN HO1.out nq).alloc _) (some ⟨(w1.drewN nq).heap.size, 0, none⟩) 1 1 [.string xk, .int .i64 xn, .string xb, .string xv] rfl rfl (Rd.new _ _ _) (by simp [Value.oneCell']) (by unfold maxLen; omega) (by omega) (by have := hB2.size; simp at this ⊢; omega) ?_; intro v2 w3 hown2 hbel2 hgrow2 hat2; have hB3 : Below W0.heap.size W0 w3 := (hB2.alloc hB2.size _).trans hbel2; have HO2 := Lib.hid hown2; clear hown2 hbel2 hgrow2 hat2) | (at_builtin; refine wpList_app el_e rfl (.tmp 67) (.tmp 70) rfl W0.heap.size v2 (k + 1) (ents (l.take k) ++ [.string xk, .int .i64 xn, .string xb, .string xv]) rfl HO2.out A2 (n - k) (c - k) (ents (l.drop k)) rfl (by rw [ents_len, List.length_drop, HN.out]) (HRD.out.below hB3) (row_ent.ones _) (by unfold maxLen; omega) (by omega) hB3.size ?_; intro v3 w4 hown3 hbel3 hgrow3 hat3))
      go_ret
      refine ⟨l.take k ++ ⟨xk, ⟨xn, xb, xv⟩⟩ :: l.drop k, _, fun key h => getR_ins k h, by rw [List.length_append, List.length_cons, List.length_take, List.length_drop]; omega, rfl, ?_, then_ HBX.out (hB3.trans hbel3)⟩
      have h1 := own_mono hown3 hsz
      have h2 : (l.take k ++ (⟨xk, ⟨xn, xb, xv⟩⟩ : Ent) :: l.drop k).length = k + 1 + (n - k) := by rw [List.length_append, List.length_cons, List.length_take, List.length_drop, HN.out]; omega
      rw [h2]
      simpa [ents, Ent.arr] using h1
end Go.Proofs.Ytlmplibdfhamjaa
