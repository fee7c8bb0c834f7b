/- writer: the walk of WriterMet. -/
import Derived.Test.YtebfmacbdjnhbaaWriterF
attribute [local go_sem ↓] Go.wp_at_zero Go.wp_at_succ
namespace Go.Proofs.Ytebfmacbdjnhbaa
open Go.RowKit Go.Mem
set_option linter.unusedVariables false
def Ac.cells (a : Ac) : List Value := [.int .i64 a.kind, .string a.node, .int .i64 a.err]
theorem act_row {w : World} {B : Option Addr} {ms : List Ac} (h : Rd w B (ms.flatMap Ac.cells)) (k : Nat) (hk : k < ms.length) :
    ∃ b off, B = some ⟨b, off, none⟩ ∧ w.cell? ⟨b, off + k * 3, none⟩ = some (.int .i64 ms[k].kind) ∧ w.cell? ⟨b, off + k * 3 + 1, none⟩ = some (.string ms[k].node) ∧ w.cell? ⟨b, off + k * 3 + 2, none⟩ = some (.int .i64 ms[k].err) := by
  rw [List.flatMap_def] at h
  have hs : ∀ r ∈ ms.map Ac.cells, r.length = 3 := by intro r hr; obtain ⟨m, _, rfl⟩ := List.mem_map.1 hr; rfl
  have hi : (ms.map Ac.cells)[k]? = some ms[k].cells := by simp [hk]
  obtain ⟨b, off, rfl, h0⟩ := h.row hs k _ hi 0 _ rfl
  obtain ⟨b1, off1, e1, h1⟩ := h.row hs k _ hi 1 _ rfl
  obtain ⟨b2, off2, e2, h2⟩ := h.row hs k _ hi 2 _ rfl
  injection e1 with e1; injection e1 with e1 e1'; subst e1 e1'
  injection e2 with e2; injection e2 with e2 e2'; subst e2 e2'
  exact ⟨b, off, rfl, h0, by rw [Nat.add_assoc]; exact h1, by rw [Nat.add_assoc]; exact h2⟩
def Few_ (P : Prop) (w : World) (e : Ending) (w' : World) : Prop := ∃ b : Bool, (b = true → P) ∧ e = .returned (.bool b) ∧ w = w'
set_option maxRecDepth 100000 in
set_option maxHeartbeats 400000 in
theorem few37_any (A : Option Addr) (n c : Nat) (ms : List Ac) (w : World) (hr : Rd w A (ms.flatMap Ac.cells)) (hn : ms.length = n) (hm : n ≤ maxLen) :
    Calls Try.prog 58 #[.slice A n c] w (Few_ (n ≤ 20) w) := by
  unfold maxLen at hm
  have HL := Lib.hid hn; clear hn
  go_enter Try.func58, Try.ntmps58
  go_wp2
  go_loop [3] (fun i => ∃ k : Nat, k ≤ min n 20 ∧ i = .int .i64 k) (fun i => n - (intOf i).toNat)
  case atStart => exact ⟨0, Nat.zero_le _, rfl⟩
  case round =>
    obtain ⟨k, hk, rfl⟩ := hrel
    by_cases hlt : k < min n 20
    · have hx : k < ms.length := by have := HL.out; omega
      have hk1 : k < n := by omega
      have hk2 : k < 20 := by omega
      obtain ⟨b, off, rfl, _, hc1, _⟩ := act_row hr k hx
      generalize ms[k].node = t at hc1
      by_cases hst : 100 < t.size
      · go_wp2
        go_ret
        exact ⟨false, by simp, rfl, rfl⟩
      · go_wp2
        go_round
        case rel => exact ⟨k + 1, by omega, by go_num⟩
        case measure => simp [intOf]; omega
    · have hk' : ¬ (k < n ∧ k < 20) := by omega
      by_cases hk1 : k < n
      all_goals
        go_wp2
        go_ret
        exact ⟨_, fun h => by have := of_decide_eq_true h; omega, rfl, rfl⟩
theorem WrAt.grown {w w' : World} {base T g M K : Nat} {X : Wt} {row : Option Nat} (h : WrAt w base T g M K X) (hg : w.grownBy w' row) (hr : ∀ i, row = some i → T ≤ i) : WrAt w' base T g M K X := by
  have hlt := h.lt
  obtain ⟨LA, ln, lc, n, c, h1, h2, h3, h4, h5, h6, h7⟩ := h
  have hb : ∀ i, i < w.heap.size → i < T → w'.heap[i]? = w.heap[i]? := fun i hi hT => hg.block i hi (fun e => by have := hr i e.symm; omega)
  exact ⟨LA, ln, lc, n, c, (hb g hlt h7.2.2.1).trans h1, own_block h2 (fun i hi => hb i (h2.lt i hi).2 (h7.2.2.2.2 i hi)), h3, h4.block (hb M h4.lt h7.2.2.2.1), h5, h6, h7⟩
theorem WrAt.tops {w : World} {base T g M K : Nat} {X : Wt} (h : WrAt w base T g M K X) : g < T ∧ M < T := by
  obtain ⟨LA, ln, lc, n, c, _, _, _, _, _, _, r⟩ := h
  exact ⟨r.2.2.1, r.2.2.2.1⟩
set_option maxRecDepth 100000 in
set_option maxHeartbeats 8000000 in
theorem writerMet_walk (p : Pr) (A : Option Addr) (n c : Nat) (l : List Ch) (B : Option Addr) (m d : Nat) (ms : List Ac) (w : World) (hr : Rd w A (l.flatMap Ch.cells)) (hn : l.length = n) (hn' : n ≤ maxLen) (hok : ∀ x ∈ l, txOk x.node) (hr' : Rd w B (ms.flatMap Ac.cells)) (hm : ms.length = m) (hm' : m ≤ maxLen) (hok' : ∀ x ∈ ms, txOk x.node) :
    Calls Try.prog 13 #[.agg p.arr, .slice A n c, .slice B m d] w fun e w' => e = .returned (.bool true) ∧ Below w.heap.size w w' := by
  have HN := Lib.hid hn; have HM := Lib.hid hm; have HOK := Lib.hid hok; have HOK' := Lib.hid hok'; clear hn hm hok hok'
  have hns : ∀ s ∈ nodes l, txOk s := fun s hs => by
    unfold nodes at hs; rw [List.mem_map] at hs; obtain ⟨x, hx, rfl⟩ := hs; exact HOK.out x hx
  have HNS := Lib.hid hns; clear hns
  obtain ⟨pn, pr, pw, ppr, ppw, sv, mi, bs⟩ := p
  unfold Pr.arr
  simp only
  have hpx : ∀ W : World, Below (w.alloc (.cells #[.int .i64 pn, .int .i64 pr, .int .i64 pw, .int .i64 ppr, .int .i64 ppw, .bool sv, .bool mi, .bool bs] 58)).heap.size (w.alloc (.cells #[.int .i64 pn, .int .i64 pr, .int .i64 pw, .int .i64 ppr, .int .i64 ppw, .bool sv, .bool mi, .bool bs] 58)) W → (W.cell? ⟨w.heap.size, 0, none⟩ = some (.int .i64 pn) ∧ W.cell? ⟨w.heap.size, 1, none⟩ = some (.int .i64 pr) ∧ W.cell? ⟨w.heap.size, 2, none⟩ = some (.int .i64 pw) ∧ W.cell? ⟨w.heap.size, 3, none⟩ = some (.int .i64 ppr) ∧ W.cell? ⟨w.heap.size, 4, none⟩ = some (.int .i64 ppw) ∧ W.cell? ⟨w.heap.size, 5, none⟩ = some (.bool sv) ∧ W.cell? ⟨w.heap.size, 6, none⟩ = some (.bool mi) ∧ W.cell? ⟨w.heap.size, 7, none⟩ = some (.bool bs)) ∧ Below w.heap.size w W :=
    fun W hb => ⟨⟨(hb.cell (by simp)).trans (by simp), (hb.cell (by simp)).trans (by simp), (hb.cell (by simp)).trans (by simp), (hb.cell (by simp)).trans (by simp), (hb.cell (by simp)).trans (by simp), (hb.cell (by simp)).trans (by simp), (hb.cell (by simp)).trans (by simp), (hb.cell (by simp)).trans (by simp)⟩, ba hb⟩
  have HPX := Lib.hid hpx; clear hpx
  generalize hA0 : w.alloc (.cells #[.int .i64 pn, .int .i64 pr, .int .i64 pw, .int .i64 ppr, .int .i64 ppw, .bool sv, .bool mi, .bool bs] 58) = A0 at HPX
  have HA0 := Lib.hid hA0; clear hA0
  go_enter Try.func13, Try.ntmps13
  go_wp2_with fail
  rw [HA0.out]
  have hbA := Below.refl A0.heap.size A0
  obtain ⟨_, hbw⟩ := HPX.out A0 hbA
  refine (few34_any A n c l none 0 0 [] _ (hr.below hbw) HN.out hn' Rd.nil rfl (by omega) (by intro x hx; cases hx)).mono ?_
  rintro e w1 ⟨b, hfew, rfl, rfl⟩
  have HF := Lib.hid hfew; clear hfew
  cases b
  · go_wp2_with fail
    refine (awake37_any _).mono ?_
    rintro e w1 ⟨rfl, hb1⟩
    go_wp2
    go_ret
    exact ⟨rfl, then_ hbw hb1⟩
  have hn20 : n ≤ 20 := (HF.out rfl).1
  clear HF hn'
  by_cases h12 : 12 < n
  · have hd12 : (12 : Int) < (n : Int) := by omega
    go_wp2_with fail
    refine (awake37_any _).mono ?_
    rintro e w1 ⟨rfl, hb1⟩
    go_wp2
    go_ret
    exact ⟨rfl, then_ hbw hb1⟩
  have hd12 : ¬ (12 : Int) < (n : Int) := by omega
  go_wp2_with fail
  refine (few37_any B m d ms _ (hr'.below hbw) HM.out hm').mono ?_
  rintro e w1 ⟨b, hfew, rfl, rfl⟩
  have HF := Lib.hid hfew; clear hfew
  cases b
  · go_wp2_with fail
    refine (awake37_any _).mono ?_
    rintro e w1 ⟨rfl, hb1⟩
    go_wp2
    go_ret
    exact ⟨rfl, then_ hbw hb1⟩
  have hm20 : m ≤ 20 := HF.out rfl
  clear HF hm' hbw
  go_wp2_with fail
  go_loopw [7] (fun i wr => ∃ k : Nat, k ≤ n ∧ i = .int .i64 k ∧ Below A0.heap.size A0 wr) (fun i _ => n - (intOf i).toNat)
  case atStart => exact ⟨0, Nat.zero_le _, rfl, hbA⟩
  case round =>
    clear hbA
    obtain ⟨k, hk, rfl, hbA⟩ := hrel
    obtain ⟨wo, rfl⟩ : ∃ wo, wo = wr := ⟨_, rfl⟩
    by_cases hlt : k < n
    · have hx : k < l.length := by have := HN.out; omega
      go_wp2
      go_loopw [8] (fun i wr => ∃ j : Nat, j ≤ k ∧ i = .int .i64 j ∧ Below A0.heap.size A0 wr) (fun i _ => k - (intOf i).toNat)
      case atStart => exact ⟨0, Nat.zero_le _, rfl, hbA⟩
      case round =>
        clear hbA
        obtain ⟨j, hj, rfl, hbA⟩ := hrel
        by_cases hlj : j < k
        · have hxj : j < l.length := by omega
          obtain ⟨_, hbw⟩ := HPX.out wr hbA
          obtain ⟨b, off, rfl, hcell, _⟩ := ch_row (hr.below hbw) k hx
          obtain ⟨b', off', e', hcell', _⟩ := ch_row (hr.below hbw) j hxj
          injection e' with e'; injection e' with e1 e2
          subst e1 e2
          generalize l[k].node = s at hcell
          generalize l[j].node = t at hcell'
          have hi0 : (0 : Int) ≤ (k : Int) := by omega
          have hi1 : (k : Int) < (n : Int) := by omega
          have hj0 : (0 : Int) ≤ (j : Int) := by omega
          have hj1 : (j : Int) < (n : Int) := by omega
          by_cases hst : t = s
          · have hne : (t.toList == s.toList) = true := by rw [str_beq]; simpa using hst
            clear hst
            go_wp2
            go_quiet (fail)
            go_wp2_with fail
            refine (awake37_any _).mono ?_
            rintro e w1 ⟨rfl, hb1⟩
            go_wp2
            go_ret
            exact ⟨rfl, then_ (drewN_ hbw _) hb1⟩
          · have hne : (t.toList == s.toList) = false := by rw [str_beq]; simpa using hst
            clear hst
            go_wp2
            go_quiet (fail)
            go_wp2
            go_roundw
            case rel => exact ⟨j + 1, by omega, by go_num, drewN_ hbA _⟩
            case measure => simp [intOf]; omega
        · have hge : (k : Int) ≤ (j : Int) := by omega
          go_wp2
          go_roundw
          case rel => exact ⟨k + 1, by omega, by go_num, hbA⟩
          case measure => simp [intOf]; omega
    · have hge : (n : Int) ≤ (k : Int) := by omega
      obtain ⟨⟨c0, c1, c2, c3, c4, c5, c6, c7⟩, hbw⟩ := HPX.out wo hbA
      go_wp2_with fail
      refine (new_any ⟨pn, pr, pw, ppr, ppw, sv, mi, bs⟩ A n c l _ (hr.below hbw) HN.out (by omega) HNS.out).mono ?_
      rintro e w2 ⟨g, M, T, hT, rfl, hw2, hb2⟩
      have hbA2 := hbA.trans (hb2.mono hbA.size)
      have HW2 := Lib.hid hw2
      obtain ⟨hg1, hg2⟩ := hw2.tops
      obtain ⟨hg3, hg4⟩ := hw2.two
      have hsA := hbA.size
      clear hw2 hbA hb2 c0 c1 c2 c3 c4 c5 c6 c7 hbw
      go_wp2_with fail
      refine (state_any _ _ T g M 0 _ HW2.out).mono ?_
      rintro e w3 ⟨rfl, rfl⟩
      have hgood := Wt.good_new ⟨pn, pr, pw, ppr, ppw, sv, mi, bs⟩ l
      have htidy := Wt.tidy_new ⟨pn, pr, pw, ppr, ppw, sv, mi, bs⟩ l
      have hlp : (Wt.new ⟨pn, pr, pw, ppr, ppw, sv, mi, bs⟩ l).l = l ∧ (Wt.new ⟨pn, pr, pw, ppr, ppw, sv, mi, bs⟩ l).p = ⟨pn, pr, pw, ppr, ppw, sv, mi, bs⟩ := Wt.dec_l _
      generalize Wt.new ⟨pn, pr, pw, ppr, ppw, sv, mi, bs⟩ l = X0 at *
      have HX0 := Lib.hid (And.intro hgood (And.intro htidy hlp)); clear hgood htidy hlp
      go_wp2_with fail
      generalize wo.heap.size = DB0 at *
      go_loopw [10, 11, 12] (fun s v i wr => ∃ (k : Nat) (X : Wt) (dn : List ByteArray), k ≤ m ∧ i = .int .i64 k ∧ s = .int .i64 X.state ∧ Hid (X.good dn ∧ X.tidy ∧ X.l = l ∧ X.p = ⟨pn, pr, pw, ppr, ppw, sv, mi, bs⟩) ∧ dn.length ≤ k ∧ Hid (WrAt wr DB0 T g M k X) ∧ wr.ownsRow w2.heap.size 9 1 v dn.length (dn.map Value.string) ∧ w2.heap.size ≤ wr.heap.size ∧ Below A0.heap.size A0 wr) (fun _ _ i _ => m - (intOf i).toNat)
      case atStart => exact ⟨0, X0, [], Nat.zero_le _, rfl, rfl, HX0, Nat.le_refl _, HW2, World.ownsRow_nil _ _ _ _, Nat.le_refl _, hbA2⟩
      case round =>
        clear HW2 hbA2 HX0
        obtain ⟨k, X, dn, hk, rfl, rfl, HX, hdl, HW, hown, hw2r, hbA⟩ := hrel
        by_cases hlk : k < m
        · have hx : k < ms.length := by have := HM.out; omega
          obtain ⟨_, hbw⟩ := HPX.out wr hbA
          obtain ⟨b, off, rfl, hc0, hc1, hc2⟩ := act_row hr' k hx
          have hok := HOK'.out ms[k] (List.getElem_mem hx)
          generalize ha : ms[k] = a at *
          obtain ⟨ak, an, ae⟩ := a
          simp only at hc0 hc1 hc2 hok
          have HC := Lib.hid (And.intro hc0 (And.intro hc1 hc2))
          have q0 := cell_below hbw hc0; have q1 := cell_below hbw hc1; have q2 := cell_below hbw hc2
          have HO := Lib.hid hown; clear hown ha hc0 hc1 hc2 hbw
          have hi0 : (0 : Int) ≤ (k : Int) := by omega
          have hi1 : (k : Int) < (m : Int) := by omega
          obtain ⟨v0A, v0c, rfl⟩ := own_form HO.out
          -- what holds behind the list of those that have written
          have fin : ∀ (w4 : World) (v : Value), v = v → True := fun _ _ _ => trivial
          clear fin
          by_cases hk1 : ak = 1
          rotate_left
          have hd1 : (ak == 1) = false := by rw [beq_eq_false_iff_ne]; exact hk1
          have HDN : Hid ((⟨ak, an, ae⟩ : Ac).done dn = dn) := Lib.hid (by unfold Ac.done; rw [if_neg hk1])
          clear hk1
          have HW4 : Hid (WrAt wr DB0 T g M k X) := HW
          have hbA4 : Below A0.heap.size A0 wr := hbA
          have hsz4 : w2.heap.size ≤ wr.heap.size := hw2r
          have HO4 : Hid (wr.ownsRow w2.heap.size 9 1 (.slice v0A dn.length v0c) ((⟨ak, an, ae⟩ : Ac).done dn).length (((⟨ak, an, ae⟩ : Ac).done dn).map Value.string)) := by rw [HDN.out]; exact HO
          have hdl4 : ((⟨ak, an, ae⟩ : Ac).done dn).length ≤ k + 1 := by rw [HDN.out]; omega
          clear HO HW hbA hw2r
          focus (go_wp2_with fail)
          rotate_left
          have hd1 : (ak == 1) = true := by rw [beq_iff_eq]; exact hk1
          have HDN : Hid ((⟨ak, an, ae⟩ : Ac).done dn = dn ++ [an]) := Lib.hid (by unfold Ac.done; rw [if_pos hk1])
          clear hk1
          focus (go_wp2_with (at_builtin; refine wpList_app el_string rfl (.tmp 70) (.tmp 76) rfl w2.heap.size _ _ _ rfl (HO.out.alloc _) (some ⟨_, 0, none⟩) 1 1 [.string an] rfl rfl (by exact rd_new _ #[.string an] _ _ rfl rfl) (by intro u hu; simp at hu; subst hu; rfl) (by unfold maxLen; omega) (by omega) (by simp; omega) ?_; intro v4 w4 hown4 hbel4 hgr4 hat4; obtain ⟨v4A, v4c, rfl⟩ := own_form hown4; have hbA4 : Below A0.heap.size A0 w4 := (hbA.alloc hbA.size _).trans (hbel4.mono (by omega)); obtain ⟨_, hbw4⟩ := HPX.out w4 hbA4; have q0 := cell_below hbw4 HC.out.1; have q1 := cell_below hbw4 HC.out.2.1; have q2 := cell_below hbw4 HC.out.2.2; have HO4 : Hid (w4.ownsRow w2.heap.size 9 1 (.slice v4A (dn.length + 1) v4c) ((⟨ak, an, ae⟩ : Ac).done dn).length (((⟨ak, an, ae⟩ : Ac).done dn).map Value.string)) := (by rw [HDN.out, List.length_append, List.map_append]; exact hown4); have hdl4 : ((⟨ak, an, ae⟩ : Ac).done dn).length ≤ k + 1 := (by rw [HDN.out, List.length_append]; simp; omega); have HW4 : Hid (WrAt w4 DB0 T g M k X) := Lib.hid (WrAt.grown (HW.out.below ((Below.refl _ _).alloc (Nat.le_refl _) _)) hgr4 (fun i hi => by have := (HO.out.lt i hi).1; omega)); have hsz4 : w2.heap.size ≤ w4.heap.size := (by have := hgr4.size; simp at this; omega); clear hown4 hbel4 hat4 hgr4 hbw4))
          all_goals
            have hsn : X.l.length ≤ 1000 ∧ ∀ s ∈ nodes X.l, txOk s := by rw [HX.out.2.2.1]; exact ⟨by have := HN.out; omega, HNS.out⟩
            have HSN := Lib.hid hsn
            refine (wdo_any _ DB0 T g M k X ⟨ak, an, ae⟩ HW4.out hsn.1 hsn.2 (by omega) hok).mono ?_
            rintro e w5 ⟨rfl, hw5, hk5⟩
            clear hsn
            have HGA := Lib.hid (Wt.good_act HX.out.1 ⟨ak, an, ae⟩)
            have HTA := Lib.hid (Wt.tidy_act HX.out.2.1 ⟨ak, an, ae⟩)
            have HLA : Hid ((X.act ⟨ak, an, ae⟩).l = l ∧ (X.act ⟨ak, an, ae⟩).p = ⟨pn, pr, pw, ppr, ppw, sv, mi, bs⟩) := Lib.hid ⟨(Wt.act_l _).1.trans HX.out.2.2.1, (Wt.act_l _).2.trans HX.out.2.2.2⟩
            have HST : Hid (X.state ≠ 0 → (X.act ⟨ak, an, ae⟩).state = X.state) := Lib.hid (fun h => Wt.act_stays _ h)
            have HO5 := Lib.hid (own_block (w' := w5) HO4.out (fun i hi => by have := HO4.out.lt i hi; exact hk5.block i this.2 (by omega) (by omega)))
            have hbA5 := hbA4.trans (hk5.below (by omega) (by omega) hbA4.size)
            have hsz5 : w2.heap.size ≤ w5.heap.size := Nat.le_trans hsz4 hk5.size
            have HW5 := Lib.hid hw5
            generalize hY : X.act ⟨ak, an, ae⟩ = Y at *
            generalize hD : (⟨ak, an, ae⟩ : Ac).done dn = dn' at *
            obtain ⟨⟨c0, c1, c2, c3, c4, c5, c6, c7⟩, hbw5⟩ := HPX.out w5 hbA5
            clear HO4 hbA4 hsz4 HW4 q0 q1 q2 hw5 hk5 hY hD HX HSN HDN hd1
            go_wp2_with fail
            refine (state_any _ DB0 T g M (k + 1) Y HW5.out).mono ?_
            rintro e w6 ⟨rfl, rfl⟩
            -- what the tests tell
            have hYS : Y.l.length ≤ 1000 ∧ ∀ s ∈ nodes Y.l, txOk s := by rw [HLA.out.1]; exact ⟨by have := HN.out; omega, HNS.out⟩
            obtain ⟨b1, hb1⟩ : ∃ b : Bool, (X.state != 0) = b := ⟨_, rfl⟩
            have hb1' : b1 = true → (Y.state != X.state) = false := fun h => by
              rw [bne_eq_false_iff_eq]; exact HST.out (by rw [h, bne_iff_ne] at hb1; exact hb1)
            obtain ⟨o, ho⟩ : ∃ b : Bool, Y.opn = b := ⟨_, rfl⟩
            have ho' : o = false → (Y.state == 0) = false := fun h => by
              rw [beq_eq_false_iff_ne]; intro h0; exact Wt.closed HTA.out (ho.trans h) (HGA.out.waits h0)
            obtain ⟨t2, ht2⟩ : ∃ b : Bool, (Y.state == 2) = b := ⟨_, rfl⟩
            have ht2' : (Y.err != 0) = t2 := by
              rw [← ht2, Bool.eq_iff_iff, bne_iff_ne, beq_iff_eq]; exact HGA.out.err.symm
            obtain ⟨u1, hu1⟩ : ∃ b : Bool, (Y.state == 1) = b := ⟨_, rfl⟩
            have hu1' : u1 = true → (decide (((cnt (fun s => mem s dn') l : Nat) : Int) < pw) = false ∧ decide (((cntP (fun s => mem s dn') l : Nat) : Int) < ppw) = false) := fun h => by
              have h1 := HGA.out.met (by rw [h, beq_iff_eq] at hu1; exact hu1)
              rw [HLA.out.1, HLA.out.2] at h1
              simp only at h1
              exact ⟨by rw [decide_eq_false_iff_not]; omega, by rw [decide_eq_false_iff_not]; omega⟩
            have HYS := Lib.hid hYS; have HO' := Lib.hid ho
            have H1 := Lib.hid hb1'; have H2 := Lib.hid ho'; have H3 := Lib.hid hu1'
            clear hYS hb1' ho' hu1' HST ho
            obtain ⟨cn, hcn⟩ : ∃ x, cnt (fun s => mem s dn') l = x := ⟨_, rfl⟩
            obtain ⟨cp, hcp⟩ : ∃ x, cntP (fun s => mem s dn') l = x := ⟨_, rfl⟩
            rw [hcn, hcp] at H3
            have HCN := Lib.hid hcn; have HCP := Lib.hid hcp; clear hcn hcp
            clear c0 c1 c3 c5 c6 c7
            go_upto_region 21 with fail
            go_cut [109] (fun s109 wx => s109 = .bool false ∧ Below w5.heap.size w5 wx)
            case first =>
              clear c2 c4 HCN HCP H3 hu1
              cases b1
              rotate_left
              have k1 := H1.out rfl
              rotate_left
              all_goals
                go_wp2_with fail
                refine (opn_any _ DB0 T g M (k + 1) Y HW5.out HYS.out.1 HYS.out.2).mono ?_
                rintro e w7 ⟨rfl, hb7⟩
                rw [HO'.out]
                have HW7 := Lib.hid (HW5.out.below hb7)
                cases o
                rotate_left
                rotate_left
                all_goals
                  have k2 : Hid (true = true) := Lib.hid rfl
                  try (have k3 := H2.out rfl)
                  go_wp2_with fail
                  refine (err_any _ DB0 T g M (k + 1) Y HW7.out).mono ?_
                  rintro e w8 ⟨rfl, rfl⟩
                  cases t2
                  all_goals
                    go_wp2_with fail
                    go_meet
                    exact ⟨rfl, hb7⟩
            case rest =>
              obtain ⟨rfl, hbc⟩ := hcut
              have HW8 := Lib.hid (HW5.out.below hbc)
              have HO8 := Lib.hid (own_below HO5.out hbc)
              have hbA8 := then_ hbA5 hbc
              have hsz8 := Nat.le_trans hsz5 hbc.size
              obtain ⟨⟨_, _, d2, _, d4, _⟩, hbw8⟩ := HPX.out wc hbA8
              clear c2 c4 ht2 ht2' H1 H2 HW5 HO5 hbA5 hsz5 hb1
              obtain ⟨v8A, v8c, hv8⟩ := own_form HO8.out
              have hrd : Rd wc v8A (dn'.map Value.string) := by
                have := HO8.out
                rw [hv8] at this
                exact Rd.of_own this
              injection hv8 with e1 e2 e3
              replace e1 := e1.symm; replace e3 := e3.symm
              subst e1 e3
              have hok8 : ∀ N, N = dn'.length → Sl.ok wc ⟨v8A, N, v8c, dn'⟩ := fun N h => ⟨hrd, h.symm, by show N ≤ 1000000; omega⟩
              have HOK8 := Lib.hid (hok8 _ e2)
              have HE2 := Lib.hid e2
              clear hrd hok8 e2
              go_wp2_with fail
              refine (rcount_any A n c l ⟨v8A, _, v8c, dn'⟩ _ (hr.below hbw8) HN.out (by omega) HOK8.out).mono ?_
              rintro e w9 ⟨rfl, rfl⟩
              simp only
              rw [HCN.out, HCP.out]
              cases u1
              rotate_left
              obtain ⟨k1, k2⟩ := H3.out rfl
              rotate_left
              all_goals
                go_wp2
                go_roundw
                case rel => exact ⟨k + 1, Y, dn', by omega, by go_num, rfl, Lib.hid ⟨HGA.out, HTA.out, HLA.out.1, HLA.out.2⟩, hdl4, HW8, HO8.out, hsz8, hbA8⟩
                case measure => simp [intOf]; omega
        · have hge : (m : Int) ≤ (k : Int) := by omega
          obtain ⟨_, hbw⟩ := HPX.out wr hbA
          clear HX HW hown
          go_wp2_with fail
          refine (awake37_any _).mono ?_
          rintro e w1 ⟨rfl, hb1⟩
          go_wp2
          go_ret
          exact ⟨rfl, then_ hbw hb1⟩
section
variable {H : Type} {enc : TypeId × Value → H} {w : World} {cs : List Value}
theorem is_choiceT (h : Is enc Try.prog w 71 cs) : ∃ m : Ch, cs = m.cells ∧ txOk m.node := by
  obtain ⟨hl, hf⟩ := is_struct Try.underlying71 h
  rw [cells_choice] at hl
  obtain ⟨c0, r0, rfl, hl0⟩ := cons_of hl
  obtain ⟨c1, r1, rfl, hl1⟩ := cons_of hl0
  obtain rfl := nil_of hl1
  obtain ⟨a, h0, k0⟩ := is_string Try.underlying9 (hf 0 _ rfl)
  obtain ⟨b, h1⟩ := is_bool Try.underlying4 (hf 1 _ rfl)
  simp [cells_string, cells_bool] at h0 h1
  subst h0 h1
  exact ⟨⟨a, b⟩, rfl, k0⟩
theorem is_actT (h : Is enc Try.prog w 95 cs) : ∃ m : Ac, cs = m.cells ∧ txOk m.node := by
  obtain ⟨a, h1, h2⟩ := is_act h
  exact ⟨a, by rw [h1]; rfl, h2.1⟩
end
end Go.Proofs.Ytebfmacbdjnhbaa
