/- The document's choices: the walk of Choices, which calls itself. -/
import Derived.Test.YtpiinfjcjpdofaaCovH
import Derived.Deep.Cut
import Derived.Says
attribute [local go_sem ↓] Go.wp_at_zero Go.wp_at_succ
namespace Go.Proofs.Ytpiinfjcjpdofaa
open Go.RowKit Go.Mem Go.Cov
set_option linter.unusedVariables false
set_option linter.unusedSimpArgs false

theorem gr_of {a w : World} (h : Below a.heap.size a w) (row : Option Nat) : a.grownBy w row := ⟨h.os, h.tape, h.output, h.size, fun i hi _ => h.block i hi⟩
theorem gr_then {a b w : World} {row : Option Nat} (h : a.grownBy b row) (k : Below b.heap.size b w) : a.grownBy w row :=
  ⟨k.os.trans h.os, k.tape.trans h.tape, k.output.trans h.output, Nat.le_trans h.size k.size, fun i hi hn => (k.block i (Nat.lt_of_lt_of_le hi h.size)).trans (h.block i hi hn)⟩
/-- what a list that grows has turned since a world: its first block alone, and new ones -/
structure OutI (W5 W : World) (g0 : Option Nat) (v : Value) : Prop where
  gb : W5.grownBy W g0
  at_ : v.ownBlock = g0 ∨ ∃ b, v.ownBlock = some b ∧ W5.heap.size ≤ b
theorem OutI.step {W5 W W' : World} {g0 : Option Nat} {v : Value} (h : OutI W5 W g0 v) (k : Below W.heap.size W W') : OutI W5 W' g0 v := ⟨gr_then h.gb k, h.at_⟩
theorem OutI.app {W5 W W' : World} {g0 : Option Nat} {v v' : Value} (h : OutI W5 W g0 v) (hg : W.grownBy W' v.ownBlock) (hat : v'.ownBlock = v.ownBlock ∨ v'.ownBlock = some W.heap.size) : OutI W5 W' g0 v' := by
  refine ⟨⟨hg.os.trans h.gb.os, hg.tape.trans h.gb.tape, hg.output.trans h.gb.output, Nat.le_trans h.gb.size hg.size, fun i hi hn => (hg.block i (Nat.lt_of_lt_of_le hi h.gb.size) (fun e => ?_)).trans (h.gb.block i hi hn)⟩, ?_⟩
  · rcases h.at_ with h1 | ⟨b, h1, h2⟩
    · exact hn (e.trans h1)
    · rw [h1] at e; injection e with e; omega
  · rcases hat with h1 | h1
    · rw [h1]; exact h.at_
    · exact .inr ⟨_, h1, h.gb.size⟩
/-- a list of choices of its own -/
def Lst (base : Nat) (W : World) (v : Value) (C : List (List Nat)) : Prop := ∃ cells, W.ownsRow base 28 1 v C.length cells ∧ RowsC W base v.ownBlock cells C
section
variable {base : Nat} {W W' : World} {v v' : Value} {C : List (List Nat)}
theorem Lst.nil : Lst base W (.slice none 0 0) [] := ⟨[], World.ownsRow_nil _ _ _ _, RowsC.nil⟩
theorem Lst.below (h : Lst base W v C) (hb : Below W.heap.size W W') : Lst base W' v C := by
  obtain ⟨cells, h1, h2⟩ := h; exact ⟨cells, own_below h1 hb, h2.below hb⟩
theorem Lst.form (h : Lst base W v C) : ∃ A c, v = .slice A C.length c := by obtain ⟨cells, h1, h2⟩ := h; exact own_form h1
theorem Lst.lt (h : Lst base W v C) : ∀ b, v.ownBlock = some b → base ≤ b ∧ b < W.heap.size := by obtain ⟨cells, h1, h2⟩ := h; exact h1.lt
end
theorem el_ints : Elem Try.prog 72 28 1 24 := Elem.of (z := .slice none 0 0) Try.underlying72 (by kernel_rfl) rfl (by decide)
/-- what the rest's choices are, wherever the blocks from its start on hold what they held -/
structure Rest (w2 : World) (g0 : Option Nat) (A : Option Addr) (cells : List Value) (D : List (List Nat)) : Prop where
  len : cells.length = D.length
  rd : ∀ W, w2.grownBy W g0 → Rd W A cells
  at_ : ∀ (j : Nat) (c : List Nat), D[j]? = some c → ∃ A' cap, cells[j]? = some (.slice A' c.length cap) ∧ ∀ W, w2.grownBy W g0 → Rd W A' (ints (natI c))
theorem rest_of {base : Nat} {w2 : World} {g0 : Option Nat} {A : Option Addr} {cap : Nat} {cells : List Value} {D : List (List Nat)} (h1 : w2.ownsRow base 28 1 (.slice A D.length cap) D.length cells) (h2 : RowsC w2 base (Value.slice A D.length cap).ownBlock cells D) (hg : ∀ b, g0 = some b → b < base) : Rest w2 g0 A cells D :=
  ⟨h2.len, fun W hW => Rd.of_own (h1.kept hW (by
    cases hv : (Value.slice A D.length cap).ownBlock with
    | none => exact .inl rfl
    | some b => right; intro e; have h3 := (h1.lt b hv).1; have := hg b e.symm; omega)),
   fun j c hj => by obtain ⟨A', cap', h3, h4⟩ := h2.at_ j c hj; exact ⟨A', cap', h3, fun W hW => h4.other hW hg⟩⟩
theorem natI_map (k : Nat) (c : List Nat) (j : Nat) (hj : j < c.length) : ints (natI (k :: (c.take (j + 1)).map (· + (k + 1)))) = ints (natI (k :: (c.take j).map (· + (k + 1)))) ++ [.int .i64 ((c[j] + (k + 1) : Nat) : Int)] := by
  rw [List.take_succ_eq_append_getElem hj, List.map_append, List.map_cons, List.map_nil, ← List.cons_append, natI_snoc]
set_option maxRecDepth 100000 in
set_option maxHeartbeats 8000000 in
theorem choices_any : ∀ (m n : Nat) (w : World), n ≤ 16 → Calls Try.prog 50 #[.int .i64 (n : Int), .int .i64 (m : Int)] w (MakesC (ch n m) w) := by
  intro m
  induction m with
  | zero =>
    intro n w hn
    have hz : ((0 : Nat) : Int) = 0 := rfl
    rw [hz, ch_zero]
    have hn0 : (0 : Int) ≤ (n : Int) := by omega
    go_enter Try.func50, Try.ntmps50
    go_wp2_with fail
    go_ret
    refine ⟨some ⟨w.heap.size, 0, none⟩, 1, [.slice none 0 0], rfl, World.ownsRow_lit w #[.slice none 0 0] 1 (Nat.le_refl _) (by unfold maxLen; omega) rfl, ⟨rfl, fun j c hj => ?_⟩, (Below.refl _ _).alloc (Nat.le_refl _) _⟩
    have hj0 : j = 0 := by have := (List.getElem?_eq_some_iff.1 hj).1; simp at this; omega
    subst hj0
    simp at hj
    subst hj
    exact ⟨none, 0, rfl, RowC.nil⟩
  | succ m ih =>
    intro n w hn
    obtain ⟨M, hM⟩ : ∃ M : Int, M = ((m + 1 : Nat) : Int) := ⟨_, rfl⟩
    rw [← hM]
    have hM0 : (0 : Int) ≤ M := by omega
    have hM1 : (M == 0) = false := by simp; omega
    by_cases hnm : n < m + 1
    · rw [ch_less hnm]
      have hMn : M > (n : Int) := by omega
      go_enter Try.func50, Try.ntmps50
      go_wp2_with fail
      go_ret
      exact ⟨none, 0, [], rfl, World.ownsRow_nil _ _ _ _, RowsC.nil, Below.refl _ _⟩
    have hMn : M ≤ (n : Int) := by omega
    have HIH := Lib.hid ih; have HM := Lib.hid hM; have HN := Lib.hid hnm
    clear ih hM hnm
    go_enter Try.func50, Try.ntmps50
    go_wp2_with fail
    go_loopw [5, 6] (fun v i wr => ∃ k : Nat, Hid (k ≤ n - m) ∧ i = .int .i64 k ∧ Hid (Lst w.heap.size wr v (chAt n m k 0)) ∧ Hid (Below w.heap.size w wr)) (fun _ i _ => n + 1 - (intOf i).toNat)
    case atStart => exact ⟨0, Lib.hid (Nat.zero_le _), rfl, Lib.hid (by rw [chAt_start]; exact Lst.nil), Lib.hid (Below.refl _ _)⟩
    case round =>
      obtain ⟨k, HK, rfl, HL, HB⟩ := hrel
      obtain ⟨A5, c5, rfl⟩ := HL.out.form
      have hk0 : (0 : Int) ≤ (k : Int) := by omega
      have hw1 : IntKind.i64.wrap ((k : Int) + M) = (k : Int) + M := IntWalk.i64_in _ (by have := HK.out; have := HM.out; omega)
      by_cases hlt : k < n - m
      rotate_left
      · have hkn : (n : Int) < (k : Int) + M := by have := HM.out; have := HK.out; omega
        have HE : Hid (k = n - m) := Lib.hid (by have := HK.out; omega)
        obtain ⟨cells, hc1, hc2⟩ := HL.out
        have HC1 := Lib.hid hc1; have HC2 := Lib.hid hc2
        clear hc1 hc2
        go_wp2_with fail
        go_ret
        have he : chAt n m k 0 = ch n (m + 1) := by rw [HE.out, chAt_end]
        rw [← he]
        exact ⟨_, _, cells, rfl, HC1.out, HC2.out, HB.out⟩
      have hkn : (k : Int) + M ≤ (n : Int) := by have := HM.out; omega
      have hw2 : IntKind.i64.wrap ((n : Int) - (k : Int)) = (n : Int) - (k : Int) := IntWalk.i64_in _ (by omega)
      have hw3 : IntKind.i64.wrap ((n : Int) - (k : Int) - 1) = ((n - k - 1 : Nat) : Int) := by rw [IntWalk.i64_in _ (by omega)]; omega
      have hw4 : IntKind.i64.wrap (M - 1) = (m : Int) := by have h := HM.out; rw [IntWalk.i64_in _ (by omega)]; omega
      have HX := Lib.hid (HIH.out (n - k - 1) wr (by omega))
      have HNX := Lib.hid (fun i c h => chAt_succ n m k i (c := c) h)
      have HEND := Lib.hid (chAt_next n m k)
      have HCL := Lib.hid (chAt_len n m k)
      have HCI := Lib.hid (fun c h => ch_in (n := n - k - 1) (m := m) (c := c) h)
      rw [show (chR n m k).length = (ch (n - k - 1) m).length by unfold chR; rw [List.length_map]] at HEND
      have HLT := Lib.hid hlt
      clear hlt
      go_wp2_with fail
      refine HX.out.mono ?_
      rintro e w2 ⟨A7, c7, cells7, rfl, hc1, hc2, hb2⟩
      have HDLE : (ch (n - k - 1) m).length ≤ 65536 := Nat.le_trans (ch_len _ _) (Nat.pow_le_pow_right (by omega) (by omega) : 2 ^ (n - k - 1) ≤ 2 ^ 16)
      generalize ch (n - k - 1) m = D at HDLE hc1 hc2 HNX HEND HCI
      generalize hg0 : (Value.slice A5 (chAt n m k 0).length c5).ownBlock = g0
      have HRE := Lib.hid (rest_of (g0 := g0) hc1 hc2 (fun b e => by rw [← hg0] at e; exact (HL.out.lt b e).2))
      have HL2 := Lib.hid (HL.out.below hb2); have HB2 := Lib.hid (then_ HB.out hb2)
      have HOU : Hid (OutI w2 w2 g0 (.slice A5 (chAt n m k 0).length c5)) := Lib.hid ⟨gr_of (Below.refl _ _) _, .inl hg0⟩
      clear hg0 hc1 hc2 hb2 HX HL HB
      go_wp2_with fail
      have HDL := Lib.hid (show D.length ≤ 65536 from HDLE)
      go_loopw [5, 8] (fun v i wr => ∃ q : Nat, q ≤ D.length ∧ i = .int .i64 q ∧ Hid (Lst w.heap.size wr v (chAt n m k q)) ∧ Hid (OutI w2 wr g0 v) ∧ Hid (Below w.heap.size w wr)) (fun _ i _ => D.length - (intOf i).toNat)
      case atStart => exact ⟨0, Nat.zero_le _, rfl, HL2, HOU, HB2⟩
      case round =>
        clear HL2 HOU HB2
        obtain ⟨q, hq, rfl, HL, HOU, HB⟩ := hrel
        obtain ⟨A8, c8, rfl⟩ := HL.out.form
        by_cases hlt : q < D.length
        rotate_left
        · have hqn : (D.length : Int) ≤ (q : Int) := by omega
          have HE : Hid (q = D.length) := Lib.hid (by omega)
          clear hlt
          go_wp2_with fail
          have hle := HLT.out
          exact ⟨⟨k + 1, Lib.hid (by omega), by go_num, Lib.hid (by rw [← HEND.out, ← HE.out]; exact HL.out), HB⟩, by simp [intOf]; omega⟩
        obtain ⟨c, hcq⟩ : ∃ c, D[q]? = some c := ⟨_, List.getElem?_eq_getElem hlt⟩
        obtain ⟨Ai, ci, hce, hrow⟩ := HRE.out.at_ q c hcq
        have HROW := Lib.hid hrow
        have HNC := Lib.hid (HNX.out q c hcq)
        have HCN := Lib.hid (HCI.out c (List.mem_of_getElem? hcq))
        have hqd : (q : Int) < (D.length : Int) := by omega
        have hq0 : (0 : Int) ≤ (q : Int) := by omega
        obtain ⟨b7, o7, rfl, hcell⟩ := HRE.out.rd _ HOU.out.gb q _ hce
        have HC7 := Lib.hid (fun W (hW : w2.grownBy W g0) => (by
          obtain ⟨b, o, e, h⟩ := HRE.out.rd W hW q _ hce
          injection e with e; injection e with e1 e2; subst e1 e2; exact h : W.cell? ⟨b7, o7 + q, none⟩ = some (.slice Ai c.length ci)))
        clear hce hrow hcq hcell hlt
        have HLTB := Lib.hid (HL.out.lt)
        have HSB := Lib.hid (show w.heap.size ≤ wr.heap.size from HB.out.size)
        have HOW : Hid ((wr.alloc (.cells #[.int .i64 (k : Int)] 3)).ownsRow wr.heap.size 3 1 (.slice (some ⟨wr.heap.size, 0, none⟩) 1 1) 1 (ints (natI [k]))) := Lib.hid (World.ownsRow_lit wr #[.int .i64 (k : Int)] 1 (Nat.le_refl _) (by unfold maxLen; omega) rfl)
        go_wp2_with fail
        rename World => wp
        go_loopw [9, 10] (fun v i wq => ∃ j : Nat, j ≤ c.length ∧ i = .int .i64 j ∧ Hid (wq.ownsRow wp.heap.size 3 1 v (j + 1) (ints (natI (k :: (c.take j).map (· + (k + 1)))))) ∧ Hid (Below wp.heap.size wp wq)) (fun _ i _ => c.length - (intOf i).toNat)
        case atStart => exact ⟨0, Nat.zero_le _, rfl, HOW, Lib.hid ((Below.refl _ _).alloc (Nat.le_refl _) _)⟩
        case round =>
          clear HOW
          obtain ⟨j, hj, rfl, HW, HBQ⟩ := hrel
          rename World => wq
          have HG := Lib.hid (gr_then HOU.out.gb HBQ.out)
          have hc7 := HC7.out wq HG.out
          have hj0 : (0 : Int) ≤ (j : Int) := by omega
          obtain ⟨A9, c9, rfl⟩ := own_form HW.out
          have hcl16 : c.length ≤ 16 := by have h1 := HCN.out.1; have h2 := HM.out; omega
          have HZ := Lib.hid HBQ.out.size
          by_cases hlt : j < c.length
          · have hcj : c[j] < 16 := by have := HCN.out.2 _ (List.getElem_mem hlt); omega
            have hcl := HROW.out wq HG.out
            obtain ⟨bi, oi, rfl, hcellj⟩ := hcl.at_ j (by simp [ints, natI]; exact hlt)
            simp only [ints, natI, List.map_map, List.getElem_map, Function.comp_apply] at hcellj
            have HNJ := Lib.hid (natI_map k c j hlt)
            have hkn2 : k ≤ 16 := by have := HLT.out; omega
            generalize c[j] = x at hcj hcellj HNJ
            have hjc : (j : Int) < (c.length : Int) := by omega
            have hw5 : IntKind.i64.wrap ((x : Int) + (k : Int)) = (x : Int) + (k : Int) := IntWalk.i64_in _ (by omega)
            have hw6 : IntKind.i64.wrap ((x : Int) + (k : Int) + 1) = ((x + (k + 1) : Nat) : Int) := by rw [IntWalk.i64_in _ (by omega)]; omega
            clear hlt hcl
            go_wp2_with (at_builtin; (refine wpList_app el_int (by rfl) (.tmp 52) (.tmp 63) (by rfl) wp.heap.size _ (j + 1) _ (by rfl) (HW.out.alloc _) (some ⟨wq.heap.size, 0, none⟩) 1 1 [.int .i64 ((x + (k + 1) : Nat) : Int)] (by rfl) rfl (Rd.new wq #[.int .i64 ((x + (k + 1) : Nat) : Int)] _) (by intro u hu; simp at hu; subst hu; rfl) (by unfold maxLen; omega) (by omega) (by have := HZ.out; simp; omega) ?_; intro v1 w4 hown1 hbel1 hg1 hat1))
            exact ⟨⟨j + 1, by omega, by go_num, Lib.hid (by rw [HNJ.out]; exact hown1), Lib.hid ((HBQ.out.alloc HZ.out _).trans hbel1)⟩, by simp [intOf]; omega⟩
          · have hjc : (c.length : Int) ≤ (j : Int) := by omega
            have HJ : Hid (j = c.length) := Lib.hid (by omega)
            have HW2 : Hid (wq.ownsRow wp.heap.size 3 1 (.slice A9 (j + 1) c9) (j + 1) (ints (natI (k :: c.map (· + (k + 1)))))) := Lib.hid (by have h := HW.out; rwa [List.take_of_length_le (by have := HJ.out; omega)] at h)
            obtain ⟨cells, hc1, hc2⟩ := HL.out.below HBQ.out
            have HCC1 := Lib.hid hc1; have HCC2 := Lib.hid hc2
            have HCLN := Lib.hid (HCL.out q HLT.out)
            have h16 : (chAt n m k q).length ≤ 65536 := Nat.le_trans HCLN.out (Nat.pow_le_pow_right (by omega) hn : 2 ^ n ≤ 2 ^ 16)
            have HOU2 := Lib.hid (HOU.out.step HBQ.out)
            have HB2 := Lib.hid (then_ HB.out HBQ.out)
            have HRC : Hid (RowC wq w.heap.size (Value.slice A8 (chAt n m k q).length c8).ownBlock A9 (ints (natI (k :: c.map (· + (k + 1)))))) := Lib.hid ⟨Rd.of_own HW2.out, .inr (by
              obtain ⟨g, e1, e2, e3, e4⟩ := own_pos HW2.out (by omega)
              exact ⟨g, 0, e1, Nat.le_trans HSB.out e2, e3, fun e => by have := (HLTB.out g e).2; omega⟩)⟩
            have hal : Below wq.heap.size wq (wq.alloc (.cells #[.slice A9 (j + 1) c9] 28)) := (Below.refl _ _).alloc (Nat.le_refl _) _
            have HRC2 := Lib.hid (HRC.out.below hal); have HCC3 := Lib.hid (HCC2.out.below hal); have HOU3 := Lib.hid (HOU2.out.step hal); have HB3 := Lib.hid (then_ HB2.out hal)
            clear hc1 hc2 hal HRC HCC2 HOU2 HB2 hlt
            go_wp2_with (at_builtin; (refine wpList_app el_ints (by rfl) (.tmp 65) (.tmp 67) (by rfl) w.heap.size _ (chAt n m k q).length _ (by rfl) (HCC1.out.alloc _) (some ⟨wq.heap.size, 0, none⟩) 1 1 [.slice A9 (j + 1) c9] (by rfl) rfl (Rd.new wq #[.slice A9 (j + 1) c9] _) (by intro u hu; simp at hu; subst hu; rfl) (by unfold maxLen; omega) (by omega) (by have := HZ.out; have := HSB.out; simp; omega) ?_; intro v1 w4 hown1 hbel1 hg1 hat1))
            refine ⟨⟨q + 1, by omega, by go_num, Lib.hid ?_, Lib.hid (HOU3.out.app hg1 hat1), Lib.hid (HB3.out.trans hbel1)⟩, by simp [intOf]; omega⟩
            rw [HNC.out]
            refine ⟨_, by rw [List.length_append]; exact hown1, ?_⟩
            have h9 := HCC3.out.app hg1 hat1 (cap := c9) HRC2.out
            rw [List.length_cons, List.length_map, ← HJ.out] at h9
            exact h9
end Go.Proofs.Ytpiinfjcjpdofaa
