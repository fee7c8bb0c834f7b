/- writer: the walk of WriterPlays. -/
import Derived.Test.YtebfmacbdjnhbaaWriterT
attribute [local go_sem ↓] Go.wp_at_zero Go.wp_at_succ
namespace Go.Proofs.Ytebfmacbdjnhbaa
open Go.RowKit Go.Mem
set_option linter.unusedVariables false
theorem quiet_left {P : Program} {f : FuncId} {args : Array Value} {w : World} {n : Nat} {v : Value} (h : Calls P f args (w.drewN n) fun e w' => e = .returned v ∧ w.drewN n = w') : Calls P f args (w.drewN n) fun e w'' => e = .returned v ∧ ∃ m, w'' = w.drewN m :=
  h.mono fun e w' ⟨h1, h2⟩ => ⟨h1, n, h2.symm⟩
theorem WrAt.keepsR {w w' : World} {base T g M K r rb : Nat} {X : Wt} (h : WrAt w base T g M K X) (hk : KeepsR r rb w w') (hT : T ≤ rb) (hr : r < base ∨ T ≤ r) : WrAt w' base T g M K X := by
  have hlt := h.lt
  obtain ⟨LA, ln, lc, n, c, h1, h2, h3, h4, h5, h6, h7⟩ := h
  have hb : ∀ i, i < w.heap.size → base ≤ i → i < T → w'.heap[i]? = w.heap[i]? := fun i hi hb hT' => hk.block i hi (by omega) (by omega)
  exact ⟨LA, ln, lc, n, c, (hb g hlt h7.1 h7.2.2.1).trans h1, own_block h2 (fun i hi => hb i (h2.lt i hi).2 (h2.lt i hi).1 (h7.2.2.2.2 i hi)), h3, h4.block (hb M h4.lt h7.2.1 h7.2.2.2.1), h5, h6, h7⟩
theorem RwAt.keeps2 {w w' : World} {rb r K g M : Nat} {lv : Value} {R : Rw} (h : RwAt w rb r K lv R) (hk : Keeps2 g M w w') (hg : g < rb ∧ M < rb) (hr : r ≠ g ∧ r ≠ M) : RwAt w' rb r K lv R :=
  h.kept hk.size (fun i hi h' => hk.block i hi (by rcases h' with rfl | h'; exact hr.1; omega) (by rcases h' with rfl | h'; exact hr.2; omega))
def Rw.zero (p : Pr) (l : List Ch) : Rw := { p := p, l := l, yes := [], no := [], full := false, state := 0, err := 0 }
theorem rw_new {V : World} {lv : Value} {p : Pr} {l : List Ch} : RwAt (V.alloc (.cells ((Rw.zero p l).cells lv (.slice none 0 0) (.slice none 0 0)) 90)) (V.heap.size + 1) V.heap.size 0 lv (Rw.zero p l) :=
  ⟨none, 0, none, 0, heap_alloc_new V _, World.ownsRow_nil _ _ _ _, World.ownsRow_nil _ _ _ _, fun i h => (by cases h), by omega, by simp, Nat.le_refl _, Nat.le_refl _⟩
theorem RwAt.raise {w : World} {rb rb' r K : Nat} {lv : Value} {p : Pr} {l : List Ch} (h : RwAt w rb r K lv (Rw.zero p l)) (hb : rb ≤ rb') (hs : rb' ≤ w.heap.size) (hz : w.heap[r]? = some (.cells ((Rw.zero p l).cells lv (.slice none 0 0) (.slice none 0 0)) 90 (0, 0))) : RwAt w rb' r K lv (Rw.zero p l) := by
  have hlt := h.lt
  exact ⟨none, 0, none, 0, hz, World.ownsRow_nil _ _ _ _, World.ownsRow_nil _ _ _ _, fun i h => (by cases h), by omega, hs, Nat.zero_le _, Nat.zero_le _⟩
/-- the two writers beside one another -/
structure Both (w : World) (base T g M rb r K : Nat) (lv : Value) (X : Wt) (R : Rw) : Prop where
  wr : WrAt w base T g M K X
  rw_ : RwAt w rb r K lv R
  top : T ≤ rb
  far : r < base ∨ T ≤ r
theorem Both.two {w : World} {base T g M rb r K : Nat} {lv : Value} {X : Wt} {R : Rw} (h : Both w base T g M rb r K lv X R) : (g < rb ∧ M < rb) ∧ (r ≠ g ∧ r ≠ M) ∧ (base ≤ g ∧ base ≤ M) := by
  have h1 := h.wr.tops; have h2 := h.wr.two; have h3 := h.top; have h4 := h.far
  exact ⟨⟨by omega, by omega⟩, ⟨by omega, by omega⟩, h2⟩
theorem Both.below {w w' : World} {base T g M rb r K : Nat} {lv : Value} {X : Wt} {R : Rw} (h : Both w base T g M rb r K lv X R) (hb : Below w.heap.size w w') : Both w' base T g M rb r K lv X R := ⟨h.wr.below hb, h.rw_.below hb, h.top, h.far⟩
theorem drewN_below (w : World) (q : Nat) : Below w.heap.size w (w.drewN q) := drewN_ (Below.refl _ _) q
theorem same_at {w : World} {base T g M rb r K : Nat} {lv : Value} {X : Wt} {R : Rw} (h : Both w base T g M rb r K lv X R) (hs : Sim X R) :
    w.cell? ⟨r, 12, none⟩ = some (.int .i64 X.state) ∧ w.cell? ⟨r, 13, none⟩ = some (.int .i64 X.err) ∧
    (∀ q, Calls Try.prog 62 #[.pointer (some ⟨g, 0, none⟩)] (w.drewN q) fun e w' => e = .returned (.int .i64 X.state) ∧ w.drewN q = w') ∧
    (∀ q, Calls Try.prog 63 #[.pointer (some ⟨g, 0, none⟩)] (w.drewN q) fun e w' => e = .returned (.int .i64 X.err) ∧ w.drewN q = w') := by
  have hR := h.rw_
  obtain ⟨_, _, _, _, hg, _⟩ := hR
  refine ⟨?_, ?_, fun q => state_any _ base T g M K X (h.wr.below (drewN_below w q)), fun q => err_any _ base T g M K X (h.wr.below (drewN_below w q))⟩
  · rw [hs.state]; exact (cell_of_block hg 12).trans rfl
  · rw [hs.err]; exact (cell_of_block hg 13).trans rfl
set_option maxRecDepth 100000 in
set_option maxHeartbeats 8000000 in
theorem writerPlays_walk (p : Pr) (A : Option Addr) (n c : Nat) (l : List Ch) (B : Option Addr) (m d : Nat) (ms : List Ac) (w : World) (hr : Rd w A (l.flatMap Ch.cells)) (hn : l.length = n) (hn' : n ≤ maxLen) (hok : ∀ x ∈ l, txOk x.node) (hr' : Rd w B (ms.flatMap Ac.cells)) (hm : ms.length = m) (hm' : m ≤ maxLen) (hok' : ∀ x ∈ ms, txOk x.node) :
    Calls Try.prog 12 #[.agg p.arr, .slice A n c, .slice B m d] w fun e w' => e = .returned (.bool true) ∧ Below w.heap.size w w' := by
  have HN := Lib.hid hn; have HM := Lib.hid hm; have HOK := Lib.hid hok; have HOK' := Lib.hid hok'; clear hn hm hok hok'
  have hns : ∀ s ∈ nodes l, txOk s := fun s hs => by
    unfold nodes at hs; rw [List.mem_map] at hs; obtain ⟨x, hx, rfl⟩ := hs; exact HOK.out x hx
  have HNS := Lib.hid hns; clear hns
  obtain ⟨pn, pr, pw, ppr, ppw, sv, mi, bs⟩ := p
  unfold Pr.arr
  simp only
  have hpx : ∀ W : World, Below (w.alloc (.cells #[.int .i64 pn, .int .i64 pr, .int .i64 pw, .int .i64 ppr, .int .i64 ppw, .bool sv, .bool mi, .bool bs] 58)).heap.size (w.alloc (.cells #[.int .i64 pn, .int .i64 pr, .int .i64 pw, .int .i64 ppr, .int .i64 ppw, .bool sv, .bool mi, .bool bs] 58)) W → (W.cell? ⟨w.heap.size, 0, none⟩ = some (.int .i64 pn) ∧ W.cell? ⟨w.heap.size, 1, none⟩ = some (.int .i64 pr) ∧ W.cell? ⟨w.heap.size, 2, none⟩ = some (.int .i64 pw) ∧ W.cell? ⟨w.heap.size, 3, none⟩ = some (.int .i64 ppr) ∧ W.cell? ⟨w.heap.size, 4, none⟩ = some (.int .i64 ppw) ∧ W.cell? ⟨w.heap.size, 5, none⟩ = some (.bool sv) ∧ W.cell? ⟨w.heap.size, 6, none⟩ = some (.bool mi) ∧ W.cell? ⟨w.heap.size, 7, none⟩ = some (.bool bs)) :=
    fun W hb => ⟨(hb.cell (by simp)).trans (by simp), (hb.cell (by simp)).trans (by simp), (hb.cell (by simp)).trans (by simp), (hb.cell (by simp)).trans (by simp), (hb.cell (by simp)).trans (by simp), (hb.cell (by simp)).trans (by simp), (hb.cell (by simp)).trans (by simp), (hb.cell (by simp)).trans (by simp)⟩
  have hbw : Below w.heap.size w (w.alloc (.cells #[.int .i64 pn, .int .i64 pr, .int .i64 pw, .int .i64 ppr, .int .i64 ppw, .bool sv, .bool mi, .bool bs] 58)) := (Below.refl _ _).alloc (Nat.le_refl _) _
  have hszA : (w.alloc (.cells #[.int .i64 pn, .int .i64 pr, .int .i64 pw, .int .i64 ppr, .int .i64 ppw, .bool sv, .bool mi, .bool bs] 58)).heap.size = w.heap.size + 1 := by simp
  have HPX := Lib.hid hpx; clear hpx
  generalize hA0 : w.alloc (.cells #[.int .i64 pn, .int .i64 pr, .int .i64 pw, .int .i64 ppr, .int .i64 ppw, .bool sv, .bool mi, .bool bs] 58) = A0 at HPX hbw hszA
  have HA0 := Lib.hid hA0; have HSA := Lib.hid hszA; clear hA0 hszA
  go_enter Try.func12, Try.ntmps12
  go_wp2_with fail
  rw [HA0.out]
  refine (few34_any A n c l none 0 0 [] _ (hr.below hbw) HN.out hn' Rd.nil rfl (by omega) (by intro x hx; cases hx)).mono ?_
  rintro e w1 ⟨b, hfew, rfl, rfl⟩
  have HF := Lib.hid hfew; clear hfew
  cases b
  · go_wp2_with fail
    refine (awake37_any _).mono ?_
    rintro e w1 ⟨rfl, hb1⟩
    go_wp2
    go_ret
    exact ⟨rfl, then_ hbw hb1⟩
  have hn20 : n ≤ 20 := (HF.out rfl).1
  clear HF hn'
  go_wp2_with fail
  refine (few37_any B m d ms _ (hr'.below hbw) HM.out hm').mono ?_
  rintro e w1 ⟨b, hfew, rfl, rfl⟩
  have HF := Lib.hid hfew; clear hfew
  cases b
  · go_wp2_with fail
    refine (awake37_any _).mono ?_
    rintro e w1 ⟨rfl, hb1⟩
    go_wp2
    go_ret
    exact ⟨rfl, then_ hbw hb1⟩
  have hm20 : m ≤ 20 := HF.out rfl
  clear HF hm'
  obtain ⟨d0, d1, d2, d3, d4, d5, d6, d7⟩ := HPX.out A0 (Below.refl _ _)
  go_upto_region 3 with fail
  go_cut [7, 8] (fun s7 s8 wx => ∃ g M T r base rb, s7 = .pointer (some ⟨g, 0, none⟩) ∧ s8 = .pointer (some ⟨r, 0, none⟩) ∧ Both wx base T g M rb r 0 (.slice A n c) (Wt.new ⟨pn, pr, pw, ppr, ppw, sv, mi, bs⟩ l) (Rw.zero ⟨pn, pr, pw, ppr, ppw, sv, mi, bs⟩ l) ∧ A0.heap.size ≤ base ∧ A0.heap.size ≤ r ∧ A0.heap.size ≤ rb ∧ Below A0.heap.size A0 wx)
  case first =>
    go_region_held3 (fun W => (W.cell? ⟨w.heap.size, 0, none⟩ = some (.int .i64 pn) ∧ W.cell? ⟨w.heap.size, 1, none⟩ = some (.int .i64 pr) ∧ W.cell? ⟨w.heap.size, 2, none⟩ = some (.int .i64 pw) ∧ W.cell? ⟨w.heap.size, 3, none⟩ = some (.int .i64 ppr) ∧ W.cell? ⟨w.heap.size, 4, none⟩ = some (.int .i64 ppw) ∧ W.cell? ⟨w.heap.size, 5, none⟩ = some (.bool sv) ∧ W.cell? ⟨w.heap.size, 6, none⟩ = some (.bool mi) ∧ W.cell? ⟨w.heap.size, 7, none⟩ = some (.bool bs))) (first | go_keep | (exact HPX.out _ hy1) | (exact HPX.out _ (hy1.alloc hy1.size _)) | (exact HPX.out _ ((Below.refl _ _).alloc (Nat.le_refl _) _)))
      ((go_at_call 60; refine (new_any ⟨pn, pr, pw, ppr, ppw, sv, mi, bs⟩ A n c l _ (by first | exact (hr.below hbw).drew | exact ((hr.below hbw).drew.alloc _) | exact ((hr.below hbw).alloc _).drew) HN.out (by omega) HNS.out).mono ?_; rintro e x1 ⟨g, M, T, hT, rfl, hw1, hb1⟩; have hy1 : Below A0.heap.size A0 x1 := (by first | exact ((Below.refl _ _).drew).trans hb1 | exact ((((Below.refl _ _).drew).alloc (by simp) _).trans (hb1.mono (by simp))) | exact ((((Below.refl _ _).alloc (by simp) _).drew).trans (hb1.mono (by simp))))))
    · go_wp2_with fail
      go_meet
      have hz : RwAt (x1.alloc (.cells ((Rw.zero ⟨pn, pr, pw, ppr, ppw, sv, mi, bs⟩ l).cells (.slice A n c) (.slice none 0 0) (.slice none 0 0)) 90)) (x1.heap.size + 1) x1.heap.size 0 (.slice A n c) (Rw.zero ⟨pn, pr, pw, ppr, ppw, sv, mi, bs⟩ l) := rw_new
      exact ⟨g, M, T, _, _, _, rfl, rfl, ⟨hw1.below ((Below.refl _ _).alloc (Nat.le_refl _) _), hz, by omega, .inr hT⟩, Nat.le_refl _, hy1.size, by have := hy1.size; omega, hy1.alloc hy1.size _⟩
    · go_wp2_with fail
      go_meet
      have hz : RwAt (A0.drew.alloc (.cells ((Rw.zero ⟨pn, pr, pw, ppr, ppw, sv, mi, bs⟩ l).cells (.slice A n c) (.slice none 0 0) (.slice none 0 0)) 90)) (A0.drew.heap.size + 1) A0.drew.heap.size 0 (.slice A n c) (Rw.zero ⟨pn, pr, pw, ppr, ppw, sv, mi, bs⟩ l) := rw_new
      have hz2 := heap_alloc_new A0.drew (.cells ((Rw.zero ⟨pn, pr, pw, ppr, ppw, sv, mi, bs⟩ l).cells (.slice A n c) (.slice none 0 0) (.slice none 0 0)) 90)
      have hz1 : RwAt x1 x1.heap.size A0.heap.size 0 (.slice A n c) (Rw.zero ⟨pn, pr, pw, ppr, ppw, sv, mi, bs⟩ l) := (hz.below hb1).raise (by have := hb1.size; simp at this ⊢; omega) (Nat.le_refl _) ((hb1.block _ (by simp)).trans hz2)
      exact ⟨g, M, T, _, _, _, rfl, rfl, ⟨hw1, hz1, hT, .inl (by simp)⟩, by simp, Nat.le_refl _, hy1.size, hy1⟩
  case rest =>
    obtain ⟨g, M, T, r, base, rb, rfl, rfl, hB, a1, a2, a3, hbA⟩ := hcut
    clear d0 d1 d2 d3 d4 d5 d6 d7
    have hbc := then_ hbw hbA
    have HB := Lib.hid hB; clear hB
    go_wp2_with fail
    refine (rdecide_any _ rb r 0 A n c (Rw.zero ⟨pn, pr, pw, ppr, ppw, sv, mi, bs⟩ l) HB.out.rw_ (hr.below hbc) HN.out (by omega) (by omega)).mono ?_
    rintro e wd ⟨rfl, hwd, hkd⟩
    have hBd : Both wd base T g M rb r 0 (.slice A n c) (Wt.new ⟨pn, pr, pw, ppr, ppw, sv, mi, bs⟩ l) (Rw.new ⟨pn, pr, pw, ppr, ppw, sv, mi, bs⟩ l) := ⟨HB.out.wr.keepsR hkd HB.out.top HB.out.far, hwd, HB.out.top, HB.out.far⟩
    have hbA1 := hbA.trans (hkd.below a2 a3 hbA.size)
    have hsim := Sim.new ⟨pn, pr, pw, ppr, ppw, sv, mi, bs⟩ l
    have hlX : (Wt.new ⟨pn, pr, pw, ppr, ppw, sv, mi, bs⟩ l).l = l := (Wt.dec_l _).1
    clear HB hwd hkd hbA hbc
    generalize Wt.new ⟨pn, pr, pw, ppr, ppw, sv, mi, bs⟩ l = X0 at *
    generalize Rw.new ⟨pn, pr, pw, ppr, ppw, sv, mi, bs⟩ l = R0 at *
    have HBD := Lib.hid hBd; have HSM := Lib.hid (And.intro hsim hlX); clear hBd hsim hlX
    have hx := same_at HBD.out HSM.out.1
    obtain ⟨c12, c13, q1, q2⟩ := hx
    have HQ1 := Lib.hid q1; have HQ2 := Lib.hid q2; clear q1 q2
    have hs1 : (X0.state != X0.state) = false := by simp
    have hs2 : (X0.err != X0.err) = false := by simp
    go_wp2
    go_quiet ((first | (go_at_call 62; exact quiet_left (HQ1.out _)) | (go_at_call 63; exact quiet_left (HQ2.out _))))
    go_wp2_with fail
    have hbA2 : Below A0.heap.size A0 (wd.drewN nq) := drewN_ hbA1 nq
    have HB2 := Lib.hid (HBD.out.below (drewN_ (Below.refl _ _) nq))
    clear c12 c13 HQ1 HQ2 hs1 hs2 hbA1 HBD
    generalize wd.drewN nq = we at *
    go_loopw [9] (fun i wr => ∃ (k : Nat) (X : Wt) (R : Rw), k ≤ m ∧ i = .int .i64 k ∧ Hid (Sim X R ∧ X.l = l) ∧ Hid (Both wr base T g M rb r k (.slice A n c) X R) ∧ Below A0.heap.size A0 wr) (fun i _ => m - (intOf i).toNat)
    case atStart => exact ⟨0, X0, R0, Nat.zero_le _, rfl, HSM, HB2, hbA2⟩
    case round =>
      clear HSM HB2 hbA2
      obtain ⟨k, X, R, hk, rfl, HSM, HB, hbA⟩ := hrel
      have hbc := then_ hbw hbA
      by_cases hlk : k < m
      · have hx : k < ms.length := by have := HM.out; omega
        obtain ⟨b, off, rfl, hc0, hc1, hc2⟩ := act_row hr' k hx
        have hok := HOK'.out ms[k] (List.getElem_mem hx)
        generalize ms[k] = a at *
        obtain ⟨ak, an, ae⟩ := a
        simp only at hc0 hc1 hc2 hok
        have HC := Lib.hid (And.intro hc0 (And.intro hc1 hc2))
        have q0 := cell_below hbc hc0; have q1 := cell_below hbc hc1; have q2 := cell_below hbc hc2
        clear hc0 hc1 hc2
        have hi0 : (0 : Int) ≤ (k : Int) := by omega
        have hi1 : (k : Int) < (m : Int) := by omega
        have hln : X.l.length ≤ 1000 ∧ ∀ s ∈ nodes X.l, txOk s := by rw [HSM.out.2]; exact ⟨by have := HN.out; omega, HNS.out⟩
        have HLN := Lib.hid hln; clear hln
        go_wp2_with fail
        refine (wdo_any _ base T g M k X ⟨ak, an, ae⟩ HB.out.wr HLN.out.1 HLN.out.2 (by omega) hok).mono ?_
        rintro e w5 ⟨rfl, hw5, hk5⟩
        obtain ⟨t1, t2, t3⟩ := HB.out.two
        have HR5 := Lib.hid (HB.out.rw_.keeps2 hk5 t1 t2)
        have HW5 := Lib.hid hw5
        have hbA5 := hbA.trans (hk5.below (by omega) (by omega) hbA.size)
        have hbc5 := then_ hbw hbA5
        have q0 := cell_below hbc5 HC.out.1; have q1 := cell_below hbc5 HC.out.2.1; have q2 := cell_below hbc5 HC.out.2.2
        have HT := Lib.hid (And.intro HB.out.top HB.out.far)
        clear hw5 hk5 hbA hbc HB
        go_wp2
        go_still_tail 16, (by kernel_rfl)
        go_wp2_with fail
        have hRl : R.l = l := HSM.out.1.l.symm.trans HSM.out.2
        refine (ranswer_any _ rb r k A n c R ak an ae (HR5.out.below (Below.refl _ _).drew) (fun W hW => by rw [hRl]; exact hr.below (then_ hbw ((hbA5.trans ((Below.refl _ _).drew.mono hbA5.size)).trans (hW.below (by omega) (by omega) (by simpa using hbA5.size))))) (by rw [hRl]; exact HN.out) (by omega) (by omega)).mono ?_
        rintro e w6 ⟨rfl, hw6, hk6⟩
        have hk6' : KeepsR r rb w5 w6 := (KeepsR.of_below (Below.refl _ _).drew).then_ hk6
        have HSM6 : Hid (Sim (X.act ⟨ak, an, ae⟩) (R.act ⟨ak, an, ae⟩) ∧ (X.act ⟨ak, an, ae⟩).l = l) := Lib.hid ⟨HSM.out.1.act ⟨ak, an, ae⟩, (Wt.act_l _).1.trans HSM.out.2⟩
        have HB6 : Hid (Both w6 base T g M rb r (k + 1) (.slice A n c) (X.act ⟨ak, an, ae⟩) (R.act ⟨ak, an, ae⟩)) := Lib.hid ⟨HW5.out.keepsR hk6' HT.out.1 HT.out.2, hw6, HT.out.1, HT.out.2⟩
        have hbA6 := hbA5.trans (hk6'.below (by omega) (by omega) hbA5.size)
        generalize X.act ⟨ak, an, ae⟩ = Y at *
        generalize R.act ⟨ak, an, ae⟩ = Z at *
        clear hw6 hk6 hk6' HSM HR5 HW5 hbA5 hbc5 q0 q1 q2 HC HLN hRl
        have hln : Y.l.length ≤ 1000 ∧ ∀ s ∈ nodes Y.l, txOk s := by rw [HSM6.out.2]; exact ⟨by have := HN.out; omega, HNS.out⟩
        have hZl : Z.l = l := HSM6.out.1.l.symm.trans HSM6.out.2
        have hop := HSM6.out.1.opn
        have hx := same_at HB6.out HSM6.out.1
        obtain ⟨c12, c13, _, _⟩ := hx
        have hs1 : (Y.state != Y.state) = false := by simp
        have hs2 : (Y.err != Y.err) = false := by simp
        obtain ⟨o, ho⟩ : ∃ o, Y.opn = o := ⟨_, rfl⟩
        have HO1 := Lib.hid ho; have HO2 := Lib.hid (hop.symm.trans ho); have HLN := Lib.hid hln; have HZL := Lib.hid hZl
        have hs3 : (o != o) = false := by simp
        have hbc6 := then_ hbw hbA6
        clear hln hZl hop ho
        have HPC : Hid (∀ W, Below w6.heap.size w6 W → W.cell? ⟨r, 12, none⟩ = some (.int .i64 Y.state) ∧ W.cell? ⟨r, 13, none⟩ = some (.int .i64 Y.err)) := Lib.hid (fun W hb => ⟨cell_below hb c12, cell_below hb c13⟩)
        go_upto_region 12 with fail
        go_cut [95] (fun s wx => s = .bool false ∧ Below w6.heap.size w6 wx)
        case first =>
          go_region_held3 (fun W => W.cell? ⟨r, 12, none⟩ = some (.int .i64 Y.state) ∧ W.cell? ⟨r, 13, none⟩ = some (.int .i64 Y.err)) (first | go_keep | (exact HPC.out _ hy1) | (exact HPC.out _ hy2) | (exact HPC.out _ (Below.refl _ _).drew))
            (first
              | (go_at_call 62; refine (state_any _ base T g M (k + 1) Y (by first | exact HB6.out.wr.below (Below.refl _ _).drew | exact HB6.out.wr)).mono ?_; rintro e x1 ⟨rfl, rfl⟩)
              | (go_at_call 63; refine (err_any _ base T g M (k + 1) Y (by first | exact HB6.out.wr.below (Below.refl _ _).drew | exact HB6.out.wr)).mono ?_; rintro e x1 ⟨rfl, rfl⟩)
              | (go_at_call 66; refine (opn_any _ base T g M (k + 1) Y (by first | exact HB6.out.wr.below (Below.refl _ _).drew | exact HB6.out.wr.below hy2) HLN.out.1 HLN.out.2).mono ?_; rintro e x1 ⟨rfl, hb1⟩; have hy1 : Below w6.heap.size w6 x1 := (by first | exact ((Below.refl _ _).drew).trans hb1 | exact then_ hy2 hb1); rw [HO1.out])
              | (go_at_call 67; refine (ropn_any _ rb r (k + 1) A n c Z (by first | exact HB6.out.rw_.below (Below.refl _ _).drew | exact HB6.out.rw_.below hy1) (by rw [HZL.out]; first | exact (hr.below hbc6).drew | exact hr.below (then_ hbc6 hy1)) (by rw [HZL.out]; exact HN.out) (by omega) (by omega)).mono ?_; rintro e x2 ⟨rfl, hb2⟩; have hy2 : Below w6.heap.size w6 x2 := (by first | exact ((Below.refl _ _).drew).trans hb2 | exact then_ hy1 hb2); rw [HO2.out]))
          all_goals
            go_wp2_with fail
            go_meet
            first | exact ⟨rfl, hy1⟩ | exact ⟨rfl, hy2⟩
        case rest =>
          obtain ⟨rfl, hbx⟩ := hcut
          have HB7 := Lib.hid (HB6.out.below hbx)
          have hbA7 := then_ hbA6 hbx
          clear c12 c13 HPC HB6 hbA6 hbx hs1 hs2 hs3
          go_wp2
          go_roundw
          case rel => exact ⟨k + 1, Y, Z, by omega, by go_num, HSM6, HB7, hbA7⟩
          case measure => simp [intOf]; omega
      · have hge : (m : Int) ≤ (k : Int) := by omega
        clear HB HSM
        go_wp2_with fail
        refine (awake37_any _).mono ?_
        rintro e w1 ⟨rfl, hb1⟩
        go_wp2
        go_ret
        exact ⟨rfl, then_ hbc hb1⟩
end Go.Proofs.Ytebfmacbdjnhbaa
