/- quorum: the walk of QuorumMeets. -/
import Derived.Test.YtebfmacbdjnhbaaQuorumL
import Derived.Laws.NewBlocks
attribute [local go_sem ↓] Go.wp_at_zero Go.wp_at_succ
namespace Go.Proofs.Ytebfmacbdjnhbaa
open Go.RowKit Go.Mem
set_option linter.unusedVariables false
def arr2i (x : Int × Int) : Array Value := #[.int .i64 x.1, .int .i64 x.2]
def wf2i (x : Int × Int) : Prop := (Lit.int .i64 x.1).wf = true ∧ (Lit.int .i64 x.2).wf = true
theorem cells_arr2i : Try.prog.cellsOf 68 = 2 := by kernel_rfl
theorem is_arr2i {H : Type} {enc : TypeId × Value → H} {w : World} {cs : List Value} (h : Is enc Try.prog w 68 cs) : ∃ x : Int × Int, cs = (arr2i x).toList ∧ wf2i x := by
  obtain ⟨hl, hf⟩ := is_array Try.underlying68 h
  rw [cells_arr2i] at hl
  obtain ⟨c0, r0, rfl, hl0⟩ := cons_of hl
  obtain ⟨c1, r1, rfl, hl1⟩ := cons_of hl0
  obtain rfl := nil_of hl1
  obtain ⟨s0, h0, w0⟩ := is_int Try.underlying3 (hf 0 (by omega))
  obtain ⟨s1, h1, w1⟩ := is_int Try.underlying3 (hf 1 (by omega))
  simp [cells_int] at h0 h1
  subst h0 h1
  exact ⟨⟨s0, s1⟩, rfl, w0, w1⟩
theorem claimed_snoc (l : List Ch) (x : Ch) : claimedN (l ++ [x]) = claimedN l + (if x.prim then 1 else 0) := by
  unfold claimedN; rw [List.filter_append, List.length_append]; cases h : x.prim <;> simp [h]
theorem claimed_le (l : List Ch) : claimedN l ≤ l.length := List.length_filter_le _ _
theorem take_succ_memM {α : Type _} (L : List α) (j : Nat) (h : j < L.length) {x : α} : x ∈ L.take (j + 1) ↔ x ∈ L.take j ∨ x = L[j] := by rw [List.take_succ_eq_append_getElem h, List.mem_append, List.mem_singleton]
/-- a block of four nil slices -/
def Olds (x : World) (g : Nat) : Prop := x.heap[g]? = some (.cells #[.slice none 0 0, .slice none 0 0, .slice none 0 0, .slice none 0 0] 72 (0, 0))
theorem Olds.new {x : World} {g : Nat} (h : g = x.heap.size) : Olds (x.alloc (.cells #[.slice none 0 0, .slice none 0 0, .slice none 0 0, .slice none 0 0] 72)) g := by subst h; exact heap_alloc_new x _
theorem Olds.lt {x : World} {g : Nat} (h : Olds x g) : g < x.heap.size := lt_of_block h
theorem Olds.below {x V : World} {g : Nat} (h : Olds x g) (hb : Below x.heap.size x V) : Olds V g := (hb.block g h.lt).trans h
theorem Olds.drew {x : World} {g : Nat} (h : Olds x g) : Olds x.drew g := h
theorem Olds.alloc {x : World} {g : Nat} {o : Obj} (h : Olds x g) : Olds (x.alloc o) g := h.below ((Below.refl _ _).alloc (Nat.le_refl _) _)
theorem Olds.facts {x : World} {g : Nat} (h : Olds x g) : g < x.heap.size ∧ (x.cell? ⟨g, 0, none⟩ = some (.slice none 0 0) ∧ x.cell? ⟨g, 1, none⟩ = some (.slice none 0 0) ∧ x.cell? ⟨g, 2, none⟩ = some (.slice none 0 0) ∧ x.cell? ⟨g, 3, none⟩ = some (.slice none 0 0)) ∧ (x.frozen? ⟨g, 0, none⟩ = false ∧ x.frozen? ⟨g, 1, none⟩ = false ∧ x.frozen? ⟨g, 2, none⟩ = false ∧ x.frozen? ⟨g, 3, none⟩ = false) :=
  ⟨h.lt, ⟨(cell_of_blk h 0).trans rfl, (cell_of_blk h 1).trans rfl, (cell_of_blk h 2).trans rfl, (cell_of_blk h 3).trans rfl⟩, free_of_blk h 0, free_of_blk h 1, free_of_blk h 2, free_of_blk h 3⟩
/-- a range of blocks holds what it held -/
def Range (lo : Nat) (x W : World) : Prop := x.heap.size ≤ W.heap.size ∧ ∀ i, lo ≤ i → i < x.heap.size → W.heap[i]? = x.heap[i]?
theorem Range.refl (lo : Nat) (x : World) : Range lo x x := ⟨Nat.le_refl _, fun _ _ _ => rfl⟩
theorem Range.drew {lo : Nat} {x W : World} (h : Range lo x W) : Range lo x W.drew := h
theorem Range.alloc {lo : Nat} {x W : World} {o : Obj} (h : Range lo x W) : Range lo x (W.alloc o) := ⟨by have := h.1; simp; omega, fun i h1 h2 => (((Below.refl _ _).alloc (Nat.le_refl _) o).block i (by have := h.1; omega)).trans (h.2 i h1 h2)⟩
theorem Range.setCell {lo : Nat} {x W : World} {a : Addr} {v : Value} (h : Range lo x W) (ha : a.block < lo ∨ x.heap.size ≤ a.block) : Range lo x (W.setCell a v) := ⟨by simpa using h.1, fun i h1 h2 => (Below.heap_setCell _ _ _ _ (by omega)).trans (h.2 i h1 h2)⟩
theorem Range.call {lo : Nat} {x V W : World} (h : Range lo x V) (hb : Below V.heap.size V W) : Range lo x W := ⟨Nat.le_trans h.1 hb.size, fun i h1 h2 => (hb.block i (by have := h.1; omega)).trans (h.2 i h1 h2)⟩
theorem alloc_on {w W : World} (h : Below w.heap.size w W) (o : Obj) : Below w.heap.size w (W.alloc o) := h.alloc h.size o
theorem Below.setCell_ {n : Nat} {w W : World} {a : Addr} {v : Value} (h : Below n w W) (ha : n ≤ a.block) : Below n w (W.setCell a v) := h.setCell ha v
/-- split, its four slices said one by one -/
def SplitR2 (l : List Ch) (n : Int) (w : World) (e : Ending) (w' : World) : Prop := Below w.heap.size w w' ∧ ∃ sA0 sn0 sc0 sA1 sn1 sc1 sA2 sn2 sc2 sA3 sn3 sc3, e = .returned (.agg #[.slice sA0 sn0 sc0, .slice sA1 sn1 sc1, .slice sA2 sn2 sc2, .slice sA3 sn3 sc3]) ∧ Stays w.heap.size w' ⟨sA0, sn0, sc0, splitL l n 0⟩ ∧ Stays w.heap.size w' ⟨sA1, sn1, sc1, splitL l n 1⟩ ∧ Stays w.heap.size w' ⟨sA2, sn2, sc2, splitL l n 2⟩ ∧ Stays w.heap.size w' ⟨sA3, sn3, sc3, splitL l n 3⟩
theorem split_any2 (A : Option Addr) (m c : Nat) (l : List Ch) (n : Int) (w : World) (hr : Rd w A (l.flatMap Ch.cells)) (hn : l.length = m) (hm : m ≤ 12) (hw : (Lit.int .i64 n).wf = true) :
    Calls Try.prog 48 #[.slice A m c, .int .i64 n] w (SplitR2 l n w) := by
  refine (split_any A m c l n w hr hn hm hw).mono ?_
  rintro e w1 ⟨hb, ⟨a0, b0, c0, t0⟩, ⟨a1, b1, c1, t1⟩, ⟨a2, b2, c2, t2⟩, ⟨a3, b3, c3, t3⟩, rfl, ⟨h0, h1, h2, h3⟩, k0, k1, k2, k3⟩
  simp only at h0 h1 h2 h3
  subst h0 h1 h2 h3
  exact ⟨hb, a0, b0, c0, a1, b1, c1, a2, b2, c2, a3, b3, c3, rfl, k0, k1, k2, k3⟩
/-- the two answers of split lie in two blocks of their own -/
def Two (l : List Ch) (n0 n1 : Int) (A0 : World) (gw gr : Nat) (w : World) : Prop := Below A0.heap.size A0 w ∧ ∃ sA0 sn0 sc0 sA1 sn1 sc1 sA2 sn2 sc2 sA3 sn3 sc3 rA0 rn0 rc0 rA1 rn1 rc1 rA2 rn2 rc2 rA3 rn3 rc3,
  (w.cell? ⟨gw, 0, none⟩ = some (.slice sA0 sn0 sc0) ∧ w.cell? ⟨gw, 1, none⟩ = some (.slice sA1 sn1 sc1) ∧ w.cell? ⟨gw, 2, none⟩ = some (.slice sA2 sn2 sc2) ∧ w.cell? ⟨gw, 3, none⟩ = some (.slice sA3 sn3 sc3)) ∧ (w.cell? ⟨gr, 0, none⟩ = some (.slice rA0 rn0 rc0) ∧ w.cell? ⟨gr, 1, none⟩ = some (.slice rA1 rn1 rc1) ∧ w.cell? ⟨gr, 2, none⟩ = some (.slice rA2 rn2 rc2) ∧ w.cell? ⟨gr, 3, none⟩ = some (.slice rA3 rn3 rc3)) ∧
  (Sl.ok w ⟨sA0, sn0, sc0, splitL l n0 0⟩ ∧ Sl.ok w ⟨sA1, sn1, sc1, splitL l n0 1⟩ ∧ Sl.ok w ⟨sA2, sn2, sc2, splitL l n0 2⟩ ∧ Sl.ok w ⟨sA3, sn3, sc3, splitL l n0 3⟩) ∧ (Sl.ok w ⟨rA0, rn0, rc0, splitL l n1 0⟩ ∧ Sl.ok w ⟨rA1, rn1, rc1, splitL l n1 1⟩ ∧ Sl.ok w ⟨rA2, rn2, rc2, splitL l n1 2⟩ ∧ Sl.ok w ⟨rA3, rn3, rc3, splitL l n1 3⟩)
theorem Stays.at {lo : Nat} {x W : World} {s : Sl} (h : Stays lo x s) (r : Range lo x W) : s.ok W := h W r.2
set_option maxRecDepth 100000 in
set_option maxHeartbeats 8000000 in
theorem quorumMeets_walk (p : Pr) (A : Option Addr) (m c : Nat) (l : List Ch) (nn : Int × Int) (w : World) (hr : Rd w A (l.flatMap Ch.cells)) (hn : l.length = m) (hm : m ≤ maxLen) (hnw : wf2i nn) (hpw : p.wf) :
    Calls Try.prog 9 #[.agg p.arr, .slice A m c, .agg (arr2i nn)] w fun e w' => e = .returned (.bool true) ∧ Below w.heap.size w w' := by
  have HN := Lib.hid hn; clear hn
  obtain ⟨n0, n1⟩ := nn
  obtain ⟨hw0, hw1⟩ := hnw
  obtain ⟨pn, pr, pw, ppr, ppw, sv, mi, bs⟩ := p
  have hpn : -9223372036854775808 ≤ pn ∧ pn ≤ 9223372036854775807 := by have := hpw.1; simpa [Lit.wf, IntKind.min, IntKind.max, IntKind.signed, IntKind.bits] using this
  clear hpw
  unfold Pr.arr arr2i
  simp only
  have hpx : ∀ W : World, Below ((w.alloc (.cells #[.int .i64 pn, .int .i64 pr, .int .i64 pw, .int .i64 ppr, .int .i64 ppw, .bool sv, .bool mi, .bool bs] 58)).alloc (.cells #[.int .i64 n0, .int .i64 n1] 68)).heap.size ((w.alloc (.cells #[.int .i64 pn, .int .i64 pr, .int .i64 pw, .int .i64 ppr, .int .i64 ppw, .bool sv, .bool mi, .bool bs] 58)).alloc (.cells #[.int .i64 n0, .int .i64 n1] 68)) W → ((W.cell? ⟨w.heap.size, 0, none⟩ = some (.int .i64 pn) ∧ W.cell? ⟨w.heap.size, 1, none⟩ = some (.int .i64 pr) ∧ W.cell? ⟨w.heap.size, 2, none⟩ = some (.int .i64 pw) ∧ W.cell? ⟨w.heap.size, 3, none⟩ = some (.int .i64 ppr) ∧ W.cell? ⟨w.heap.size, 4, none⟩ = some (.int .i64 ppw) ∧ W.cell? ⟨w.heap.size, 5, none⟩ = some (.bool sv) ∧ W.cell? ⟨w.heap.size, 6, none⟩ = some (.bool mi) ∧ W.cell? ⟨w.heap.size, 7, none⟩ = some (.bool bs)) ∧ (W.cell? ⟨w.heap.size + 1, 0, none⟩ = some (.int .i64 n0) ∧ W.cell? ⟨w.heap.size + 1, 1, none⟩ = some (.int .i64 n1))) ∧ Below w.heap.size w W :=
    fun W hb => ⟨⟨⟨(hb.cell (by simp; omega)).trans (by simp), (hb.cell (by simp; omega)).trans (by simp), (hb.cell (by simp; omega)).trans (by simp), (hb.cell (by simp; omega)).trans (by simp), (hb.cell (by simp; omega)).trans (by simp), (hb.cell (by simp; omega)).trans (by simp), (hb.cell (by simp; omega)).trans (by simp), (hb.cell (by simp; omega)).trans (by simp)⟩, ⟨(hb.cell (by simp)).trans (by simp), (hb.cell (by simp)).trans (by simp)⟩⟩, ba (ba hb)⟩
  have HPX := Lib.hid hpx; clear hpx
  generalize hA0 : (w.alloc (.cells #[.int .i64 pn, .int .i64 pr, .int .i64 pw, .int .i64 ppr, .int .i64 ppw, .bool sv, .bool mi, .bool bs] 58)).alloc (.cells #[.int .i64 n0, .int .i64 n1] 68) = A0 at HPX
  have HA0 := Lib.hid hA0; clear hA0
  go_enter Try.func9, Try.ntmps9
  go_wp2_with fail
  rw [HA0.out]
  have hbA := Below.refl A0.heap.size A0
  obtain ⟨⟨⟨c0, c1, c2, c3, c4, c5, c6, c7⟩, d0, d1⟩, hbw⟩ := HPX.out A0 hbA
  refine (few34_any A m c l none 0 0 [] _ (hr.below hbw) HN.out hm Rd.nil rfl (by omega) (by intro x hx; cases hx)).mono ?_
  rintro e w1 ⟨b, hfew, rfl, rfl⟩
  have HF := Lib.hid hfew; clear hfew
  cases b
  · go_wp2_with fail
    refine (awake34_any _).mono ?_
    rintro e w1 ⟨rfl, hb1⟩
    go_wp2
    go_ret
    exact ⟨rfl, then_ hbw hb1⟩
  clear HF hm
  by_cases h12 : 12 < m
  · have hd12 : (12 : Int) < (m : Int) := by omega
    go_wp2_with fail
    refine (awake34_any _).mono ?_
    rintro e w1 ⟨rfl, hb1⟩
    go_wp2
    go_ret
    exact ⟨rfl, then_ hbw hb1⟩
  have hd12 : ¬ (12 : Int) < (m : Int) := by omega
  go_wp2_with fail
  refine (strict_any ⟨pn, pr, pw, ppr, ppw, sv, mi, bs⟩ _).mono ?_
  rintro e w1 ⟨b, hst, rfl, hb1⟩
  have HST := Lib.hid hst
  have hbA1 := hbA.trans hb1
  obtain ⟨⟨⟨c0, c1, c2, c3, c4, c5, c6, c7⟩, d0, d1⟩, hbw⟩ := HPX.out w1 hbA1
  clear hst hbA hb1
  cases b
  · go_wp2_with fail
    refine (awake34_any _).mono ?_
    rintro e w1 ⟨rfl, hb1⟩
    go_wp2
    go_ret
    exact ⟨rfl, then_ hbw hb1⟩
  have HST2 : Hid (pn < ppr + ppw) := Lib.hid (HST.out rfl)
  clear HST
  cases bs
  rotate_left
  · go_wp2_with fail
    refine (awake34_any _).mono ?_
    rintro e w1 ⟨rfl, hb1⟩
    go_wp2
    go_ret
    exact ⟨rfl, then_ hbw hb1⟩
  go_wp2_with fail
  clear c0 c1 c2 c3 c4 c5 c6 c7 d0 d1 hbw
  have hnl : (l.map Ch.node).length = m := by simp; exact HN.out
  have HNL := Lib.hid hnl; clear hnl
  go_loopw [7, 8] (fun cl i wr => ∃ k : Nat, k ≤ m ∧ i = .int .i64 k ∧ cl = .int .i64 (claimedN (l.take k) : Nat) ∧ Hid ((l.map Ch.node).take k).Nodup ∧ Below A0.heap.size A0 wr) (fun _ i _ => m - (intOf i).toNat)
  case atStart => exact ⟨0, Nat.zero_le _, rfl, rfl, Lib.hid (by simp), hbA1⟩
  case round =>
    clear hbA1
    obtain ⟨k, hk, rfl, rfl, HND, hbA⟩ := hrel
    obtain ⟨wo, rfl⟩ : ∃ wo, wo = wr := ⟨_, rfl⟩
    have hck : claimedN (l.take k) ≤ 12 := by have := claimed_le (l.take k); rw [List.length_take] at this; omega
    by_cases hlt : k < m
    · have hx : k < l.length := by have := HN.out; omega
      have hxn : k < (l.map Ch.node).length := by rw [HNL.out]; exact hlt
      have hcs : claimedN (l.take (k + 1)) = claimedN (l.take k) + (if l[k].prim then 1 else 0) := by rw [List.take_succ_eq_append_getElem hx, claimed_snoc]
      generalize claimedN (l.take k) = cc at *
      have hnk : (l.map Ch.node)[k] = l[k].node := by simp
      have HNK := Lib.hid hnk; clear hnk
      obtain ⟨_, hbw⟩ := HPX.out wo hbA
      obtain ⟨b, off, rfl, hcell0, hcell⟩ := ch_row (hr.below hbw) k hx
      clear hcell0
      generalize l[k].prim = pb at hcs hcell
      cases pb
      all_goals
        have hi0 : (0 : Int) ≤ (k : Int) := by omega
        have hi1 : (k : Int) < (m : Int) := by omega
        have HCS := Lib.hid hcs; clear hcs
        go_wp2
        go_loopw [9] (fun i wr => ∃ j : Nat, j ≤ k ∧ i = .int .i64 j ∧ Hid ((l.map Ch.node)[k] ∉ (l.map Ch.node).take j) ∧ Below A0.heap.size A0 wr) (fun i _ => k - (intOf i).toNat)
        case atStart => exact ⟨0, Nat.zero_le _, rfl, Lib.hid (by simp), hbA⟩
        case round =>
          clear hbA hcell hbw
          obtain ⟨j, hj, rfl, HNOT, hbA⟩ := hrel
          by_cases hlj : j < k
          · have hxj : j < l.length := by omega
            have hxjn : j < (l.map Ch.node).length := by omega
            obtain ⟨_, hbw⟩ := HPX.out wr hbA
            obtain ⟨b1, off1, e', hcell, _⟩ := ch_row (hr.below hbw) k hx
            injection e' with e'; injection e' with e1 e2
            subst e1 e2
            obtain ⟨b', off', e', hcell', _⟩ := ch_row (hr.below hbw) j hxj
            injection e' with e'; injection e' with e1 e2
            subst e1 e2
            have hnj : (l.map Ch.node)[j] = l[j].node := by simp
            have hnk := HNK.out
            generalize l[k].node = s at hcell hnk
            generalize l[j].node = t at hcell' hnj
            have HS := Lib.hid hnk; have HT := Lib.hid hnj; clear hnk hnj
            have hj0 : (0 : Int) ≤ (j : Int) := by omega
            have hj1 : (j : Int) < (m : Int) := by omega
            by_cases hst : t = s
            · have hne : (t.toList == s.toList) = true := by rw [str_beq]; simpa using hst
              clear hst
              go_wp2
              go_quiet (fail)
              go_wp2_with fail
              refine (awake34_any _).mono ?_
              rintro e w1 ⟨rfl, hb1⟩
              go_wp2
              go_ret
              exact ⟨rfl, then_ (drewN_ hbw _) hb1⟩
            · have hne : (t.toList == s.toList) = false := by rw [str_beq]; simpa using hst
              have HST := Lib.hid hst; clear hst
              go_wp2
              go_quiet (fail)
              go_wp2
              go_roundw
              case rel => exact ⟨j + 1, by omega, by go_num, Lib.hid (by rw [take_succ_memM _ _ hxjn, HT.out, HS.out]; rintro (h | h); exact HNOT.out (by rw [HS.out]; exact h); exact HST.out h.symm), drewN_ hbA _⟩
              case measure => simp [intOf]; omega
          · have HJ : Hid (j = k) := Lib.hid (by omega)
            have hge : (k : Int) ≤ (j : Int) := by omega
            have hnd : ((l.map Ch.node).take (k + 1)).Nodup := by
              rw [List.take_succ_eq_append_getElem hxn]
              refine List.nodup_append.2 ⟨HND.out, by simp, fun a ha b hb => ?_⟩
              rw [List.mem_singleton] at hb; subst hb; rintro rfl
              have := HNOT.out; rw [HJ.out] at this
              exact this ha
            have HND2 := Lib.hid hnd; clear hnd
            go_wp2
            go_roundw
            case rel => exact ⟨k + 1, by omega, by go_num, by rw [HCS.out]; go_num, HND2, hbA⟩
            case measure => simp [intOf]; omega
    · have HK : Hid (k = m) := Lib.hid (by omega)
      have hge : (m : Int) ≤ (k : Int) := by omega
      have hnd := HND.out
      rw [List.take_of_length_le (by rw [HNL.out, HK.out]; exact Nat.le_refl _)] at hnd
      have HD := Lib.hid hnd; clear hnd HND
      have hck2 : claimedN (l.take k) = claimedN l := by rw [List.take_of_length_le (by rw [HN.out, HK.out]; exact Nat.le_refl _)]
      rw [hck2] at hck ⊢
      obtain ⟨ccl, hccl⟩ : ∃ x, claimedN l = x := ⟨_, rfl⟩
      rw [hccl] at hck ⊢
      have HCL := Lib.hid hccl; clear hccl hck2
      have hp14 : ∀ W : World, Below wo.heap.size wo W → (W.cell? ⟨w.heap.size + 1, 0, none⟩ = some (.int .i64 n0) ∧ W.cell? ⟨w.heap.size + 1, 1, none⟩ = some (.int .i64 n1)) := fun W hb => (HPX.out W (hbA.trans (hb.mono hbA.size))).1.2
      have HP14 := Lib.hid hp14
      have hr14 : ∀ W : World, Below wo.heap.size wo W → Rd W A (l.flatMap Ch.cells) := fun W hb => hr.below (HPX.out W (hbA.trans (hb.mono hbA.size))).2
      have HR14 := Lib.hid hr14; clear hr14 hp14
      go_upto_region 14 with fail
      go_cut [10, 11] (fun p10 p11 wx => ∃ gw gr : Nat, p10 = .pointer (some ⟨gw, 0, none⟩) ∧ p11 = .pointer (some ⟨gr, 0, none⟩) ∧ Hid (Two l n0 n1 A0 gw gr wx))
      case first =>
        obtain ⟨d0, d1⟩ := HP14.out wo (Below.refl _ _)
        go_region_held3 (fun W => W.cell? ⟨w.heap.size + 1, 0, none⟩ = some (.int .i64 n0) ∧ W.cell? ⟨w.heap.size + 1, 1, none⟩ = some (.int .i64 n1) ∧ Below wo.heap.size wo W)
          ((refine (fun hq => ⟨(HP14.out _ hq).1, (HP14.out _ hq).2, hq⟩) ?_; (repeat (first | with_reducible assumption | with_reducible exact Below.refl _ _ | with_reducible refine Below.drew ?_ | with_reducible refine alloc_on ?_ _ | (with_reducible refine Below.setCell_ ?_ ?_; rotate_left; (first | omega | (simp <;> omega) | (simp; done)))))))
          ((go_at_call 48; refine (split_any2 A m c l _ _ (HR14.out _ (by (repeat (first | with_reducible assumption | with_reducible exact Below.refl _ _ | with_reducible refine Below.drew ?_ | with_reducible refine alloc_on ?_ _ | (with_reducible refine Below.setCell_ ?_ ?_; rotate_left; (first | omega | (simp <;> omega) | (simp; done))))))) HN.out (by omega) (by first | exact hw0 | exact hw1)).mono ?_; first | (have _hz := hq1; rintro e x2 ⟨hb2, rA0, rn0, rc0, rA1, rn1, rc1, rA2, rn2, rc2, rA3, rn3, rc3, rfl, hk2⟩; have hq2 : Below wo.heap.size wo x2 := Below.trans (by (repeat (first | with_reducible assumption | with_reducible exact Below.refl _ _ | with_reducible refine Below.drew ?_ | with_reducible refine alloc_on ?_ _ | (with_reducible refine Below.setCell_ ?_ ?_; rotate_left; (first | omega | (simp <;> omega) | (simp; done)))))) (hb2.mono (by (first | omega | (simp <;> omega) | (simp; done)))); have hn2 := hq2.size; have hm2 := hb2.size; try simp at hm2); (try (have o3 : Olds x2 wo.heap.size := Olds.below ?_ hb2; rotate_left; (focus ((repeat (first | with_reducible assumption | with_reducible refine Olds.drew ?_ | (with_reducible refine Olds.new ?_; simp; done) | with_reducible refine Olds.alloc ?_)); done)); obtain ⟨z30, ⟨z31, z32, z33, z34⟩, z35, z36, z37, z38⟩ := o3.facts)); (try (have o4 : Olds x2 (wo.heap.size + 1) := Olds.below ?_ hb2; rotate_left; (focus ((repeat (first | with_reducible assumption | with_reducible refine Olds.drew ?_ | (with_reducible refine Olds.new ?_; simp; done) | with_reducible refine Olds.alloc ?_)); done)); obtain ⟨z40, ⟨z41, z42, z43, z44⟩, z45, z46, z47, z48⟩ := o4.facts)); (try (have o5 : Olds x2 x1.heap.size := Olds.below ?_ hb2; rotate_left; (focus ((repeat (first | with_reducible assumption | with_reducible refine Olds.drew ?_ | (with_reducible refine Olds.new ?_; simp; done) | with_reducible refine Olds.alloc ?_)); done)); obtain ⟨z50, ⟨z51, z52, z53, z54⟩, z55, z56, z57, z58⟩ := o5.facts)); (try (have o6 : Olds x2 (x1.heap.size + 1) := Olds.below ?_ hb2; rotate_left; (focus ((repeat (first | with_reducible assumption | with_reducible refine Olds.drew ?_ | (with_reducible refine Olds.new ?_; simp; done) | with_reducible refine Olds.alloc ?_)); done)); obtain ⟨z60, ⟨z61, z62, z63, z64⟩, z65, z66, z67, z68⟩ := o6.facts)); (try (have ne3 : ¬ wo.heap.size = x2.heap.size := ?_; rotate_left; (focus omega); have ne4 : ¬ x2.heap.size = wo.heap.size := ?_; rotate_left; (focus omega))); (try (have ne5 : ¬ x1.heap.size = x2.heap.size := ?_; rotate_left; (focus omega); have ne6 : ¬ x2.heap.size = x1.heap.size := ?_; rotate_left; (focus omega))); (skip) | (rintro e x1 ⟨hb1, sA0, sn0, sc0, sA1, sn1, sc1, sA2, sn2, sc2, sA3, sn3, sc3, rfl, hk1⟩; have hq1 : Below wo.heap.size wo x1 := Below.trans (by (repeat (first | with_reducible assumption | with_reducible exact Below.refl _ _ | with_reducible refine Below.drew ?_ | with_reducible refine alloc_on ?_ _ | (with_reducible refine Below.setCell_ ?_ ?_; rotate_left; (first | omega | (simp <;> omega) | (simp; done)))))) (hb1.mono (by (first | omega | (simp <;> omega) | (simp; done)))); have hn1 := hq1.size; have hm1 := hb1.size; try simp at hm1); (try (have o1 : Olds x1 wo.heap.size := Olds.below ?_ hb1; rotate_left; (focus ((repeat (first | with_reducible assumption | with_reducible refine Olds.drew ?_ | (with_reducible refine Olds.new ?_; simp; done) | with_reducible refine Olds.alloc ?_)); done)); obtain ⟨z10, ⟨z11, z12, z13, z14⟩, z15, z16, z17, z18⟩ := o1.facts)); (try (have o2 : Olds x1 (wo.heap.size + 1) := Olds.below ?_ hb1; rotate_left; (focus ((repeat (first | with_reducible assumption | with_reducible refine Olds.drew ?_ | (with_reducible refine Olds.new ?_; simp; done) | with_reducible refine Olds.alloc ?_)); done)); obtain ⟨z20, ⟨z21, z22, z23, z24⟩, z25, z26, z27, z28⟩ := o2.facts)); (try (have ne1 : ¬ wo.heap.size = x1.heap.size := ?_; rotate_left; (focus omega); have ne2 : ¬ x1.heap.size = wo.heap.size := ?_; rotate_left; (focus omega))); (skip)))
        all_goals
          go_wp2_with fail
          go_meet
          refine ⟨_, _, rfl, rfl, Lib.hid ⟨hbA.trans (Below.mono (B := wo.heap.size) (by (repeat (first | with_reducible assumption | with_reducible exact Below.refl _ _ | with_reducible refine Below.drew ?_ | with_reducible refine alloc_on ?_ _ | (with_reducible refine Below.setCell_ ?_ ?_; rotate_left; (first | omega | (simp <;> omega) | (simp; done)))))) hbA.size), sA0, sn0, sc0, sA1, sn1, sc1, sA2, sn2, sc2, sA3, sn3, sc3, rA0, rn0, rc0, rA1, rn1, rc1, rA2, rn2, rc2, rA3, rn3, rc3, ⟨?_, ?_, ?_, ?_⟩, ⟨?_, ?_, ?_, ?_⟩, ⟨hk1.1.at ?_, hk1.2.1.at ?_, hk1.2.2.1.at ?_, hk1.2.2.2.at ?_⟩, ⟨hk2.1.at ?_, hk2.2.1.at ?_, hk2.2.2.1.at ?_, hk2.2.2.2.at ?_⟩⟩⟩
          iterate 8 (focus (go_simp))
          iterate 4 (focus ((repeat (first | with_reducible exact Range.refl _ _ | with_reducible refine Range.drew ?_ | with_reducible refine Range.alloc ?_ | (with_reducible refine Range.setCell ?_ ?_; rotate_left; (first | (left; (first | omega | (simp <;> omega) | (simp; done))) | (right; (first | omega | (simp <;> omega) | (simp; done))))) | with_reducible refine Range.call ?_ hb2))))
          iterate 4 (focus ((repeat (first | with_reducible exact Range.refl _ _ | with_reducible refine Range.drew ?_ | with_reducible refine Range.alloc ?_ | (with_reducible refine Range.setCell ?_ ?_; rotate_left; (first | (left; (first | omega | (simp <;> omega) | (simp; done))) | (right; (first | omega | (simp <;> omega) | (simp; done))))) | with_reducible refine Range.call ?_ hb2))))
      case rest =>
        obtain ⟨gw, gr, rfl, rfl, HTW⟩ := hcut
        obtain ⟨hbT, sA0, sn0, sc0, sA1, sn1, sc1, sA2, sn2, sc2, sA3, sn3, sc3, rA0, rn0, rc0, rA1, rn1, rc1, rA2, rn2, rc2, rA3, rn3, rc3, ⟨w0, w1, w2, w3⟩, ⟨r0, r1, r2, r3⟩, ⟨k0, k1, k2, k3⟩, ⟨q0, q1, q2, q3⟩⟩ := HTW.out
        clear HTW
        obtain ⟨⟨⟨c0, c1, c2, c3, c4, c5, c6, c7⟩, d0, d1⟩, hbw⟩ := HPX.out wc hbT
        have HK0 := Lib.hid k0; have HK2 := Lib.hid k2; have HQ := Lib.hid (And.intro q0 (And.intro q1 q2))
        clear k0 k1 k2 k3 q0 q1 q2 q3
        go_wp2_with fail
        refine (qread_any ⟨pn, pr, pw, ppr, ppw, sv, mi, false⟩ A m c l ⟨rA0, rn0, rc0, _⟩ ⟨rA1, rn1, rc1, _⟩ ⟨rA2, rn2, rc2, _⟩ _ (hr.below hbw) HN.out (by omega) HQ.out.1 HQ.out.2.1 HQ.out.2.2).mono ?_
        rintro e x2 ⟨rfl, hb2⟩
        simp only
        obtain ⟨rd, hrd⟩ : ∃ x, readL ⟨pn, pr, pw, ppr, ppw, sv, mi, false⟩ l (splitL l n1 0) (splitL l n1 1) (splitL l n1 2) = x := ⟨_, rfl⟩
        rw [hrd]
        have HRD := Lib.hid hrd; clear hrd
        have hbT2 := then_ hbT hb2
        have w0' := cell_below hb2 w0; have w2' := cell_below hb2 w2
        have HK0' := Lib.hid (HK0.out.below hb2); have HK2' := Lib.hid (HK2.out.below hb2)
        clear hbA hbT hb2 w0 w1 w2 w3 r0 r1 r2 r3 HK0 HK2 HQ c0 c1 c2 c3 c4 c5 c6 c7 d0 d1 hbw HP14 HR14
        obtain ⟨⟨⟨c0, c1, c2, c3, c4, c5, c6, c7⟩, d0, d1⟩, hbw⟩ := HPX.out x2 hbT2
        by_cases hcl : pn < (ccl : Int)
        · go_wp2_with fail
          refine (awake34_any _).mono ?_
          rintro e w1 ⟨rfl, hb1⟩
          go_wp2
          go_ret
          exact ⟨rfl, then_ hbw hb1⟩
        go_wp2_with fail
        refine (qwrite_any ⟨pn, pr, pw, ppr, ppw, sv, mi, false⟩ A m c l ⟨sA0, sn0, sc0, _⟩ ⟨sA2, sn2, sc2, _⟩ _ (hr.below hbw) HN.out (by omega) HK0'.out HK2'.out).mono ?_
        rintro e x3 ⟨rfl, hb3⟩
        simp only
        obtain ⟨wd, hwd⟩ : ∃ x, writeL ⟨pn, pr, pw, ppr, ppw, sv, mi, false⟩ l (splitL l n0 0) (splitL l n0 2) = x := ⟨_, rfl⟩
        rw [hwd]
        have HWD := Lib.hid hwd; clear hwd
        have hbT3 := then_ hbT2 hb3
        clear hbT2 hb3 w0' w2' HK0' HK2' c0 c1 c2 c3 c4 c5 c6 c7 d0 d1 hbw
        have HCC := Lib.hid hcl
        by_cases hw1 : wd = 1
        rotate_left
        · have hd1 : (wd == 1) = false := by rw [beq_eq_false_iff_ne]; exact hw1
          obtain ⟨_, hbw⟩ := HPX.out x3 hbT3
          go_wp2_with fail
          refine (awake34_any _).mono ?_
          rintro e w1 ⟨rfl, hb1⟩
          go_wp2
          go_ret
          exact ⟨rfl, then_ hbw hb1⟩
        have HW1 := Lib.hid hw1
        have hd1 : (wd == 1) = true := by rw [beq_iff_eq]; exact hw1
        clear hw1
        have hc : (¬ rd = 1 ∧ ¬ rd = 3) ∨ (rd = 1) ∨ (¬ rd = 1 ∧ rd = 3) := by omega
        rcases hc with ⟨h1, h3⟩ | h1 | ⟨h1, h3⟩
        · have e1 : (rd != 1) = true := by rw [bne_iff_ne]; exact h1
          have e3 : (rd != 3) = true := by rw [bne_iff_ne]; exact h3
          obtain ⟨_, hbw⟩ := HPX.out x3 hbT3
          go_wp2_with fail
          refine (awake34_any _).mono ?_
          rintro e w1 ⟨rfl, hb1⟩
          go_wp2
          go_ret
          exact ⟨rfl, then_ hbw hb1⟩
        have e1 : (rd != 1) = false := by rw [bne_eq_false_iff_eq]; exact h1
        rotate_left
        have e1 : (rd != 1) = true := by rw [bne_iff_ne]; exact h1
        have e3 : (rd != 3) = false := by rw [bne_eq_false_iff_eq]; exact h3
        all_goals
          have HR : Hid (rd = 1 ∨ rd = 3) := Lib.hid (by omega)
          clear h1
          try clear h3
          focus (go_wp2_with fail)
          go_loopw [13] (fun i wr => ∃ j : Nat, j ≤ m ∧ i = .int .i64 j ∧ Hid (∀ (q : Nat) (h : q < l.length), q < j → ¬ (l[q].prim = true ∧ dg n0 q = 0 ∧ (dg n1 q = 0 ∨ (dg n1 q = 1 ∧ mi = true)))) ∧ Below A0.heap.size A0 wr) (fun i _ => m - (intOf i).toNat)
          case atStart => exact ⟨0, Nat.zero_le _, rfl, Lib.hid (fun q _ h => by omega), hbT3⟩
          case round =>
            clear hbT3
            obtain ⟨j, hj, rfl, HNO, hbA⟩ := hrel
            by_cases hlt : j < m
            · have hx : j < l.length := by have := HN.out; omega
              obtain ⟨⟨⟨c0, c1, c2, c3, c4, c5, c6, c7⟩, d0, d1⟩, hbw⟩ := HPX.out wr hbA
              obtain ⟨b, off, rfl, hcell0, hcell⟩ := ch_row (hr.below hbw) j hx
              clear hcell0
              have hg0 : bits .and .i64 (n0 / 2 ^ (2 * j)) 3 = dg n0 j := by
                have h := i64_mask 2 (by omega) (n0 / 2 ^ (2 * j))
                have e : (n0 / 2 ^ (2 * j) % 2 ^ 2 : Int) = dg n0 j := by unfold dg; rw [Int.pow_mul]; rfl
                rw [e] at h; exact h
              have hg1 : bits .and .i64 (n1 / 2 ^ (2 * j)) 3 = dg n1 j := by
                have h := i64_mask 2 (by omega) (n1 / 2 ^ (2 * j))
                have e : (n1 / 2 ^ (2 * j) % 2 ^ 2 : Int) = dg n1 j := by unfold dg; rw [Int.pow_mul]; rfl
                rw [e] at h; exact h
              have hnx : ¬ (l[j].prim = true ∧ dg n0 j = 0 ∧ (dg n1 j = 0 ∨ (dg n1 j = 1 ∧ mi = true))) → ∀ (q : Nat) (h : q < l.length), q < j + 1 → ¬ (l[q].prim = true ∧ dg n0 q = 0 ∧ (dg n1 q = 0 ∨ (dg n1 q = 1 ∧ mi = true))) := fun hh q h hq => by
                by_cases e : q = j
                · subst e; exact hh
                · exact HNO.out q h (by omega)
              have HNX := Lib.hid hnx; clear hnx
              generalize l[j].prim = pb at *
              generalize dg n0 j = a0 at *
              generalize dg n1 j = a1 at *
              have hi0 : (0 : Int) ≤ (j : Int) := by omega
              have hi1 : (j : Int) < (m : Int) := by omega
              have hi2 : (j : Int) < 16 := by omega
              clear HNO
              have hcs : (pb = false ∨ (pb = true ∧ ¬ a0 = 0) ∨ (pb = true ∧ a0 = 0 ∧ ¬ a1 = 0 ∧ ¬ a1 = 1) ∨ (pb = true ∧ a0 = 0 ∧ ¬ a1 = 0 ∧ a1 = 1 ∧ mi = false)) ∨ ((pb = true ∧ a0 = 0 ∧ a1 = 0) ∨ (pb = true ∧ a0 = 0 ∧ ¬ a1 = 0 ∧ a1 = 1 ∧ mi = true)) := by
                cases pb <;> cases mi <;> simp <;> omega
              rcases hcs with hcs | hcs
              · have HNY := Lib.hid (HNX.out (by rcases hcs with h | h | h | h <;> simp_all))
                clear HNX
                rcases hcs with h | ⟨h, g1⟩ | ⟨h, g1, g2, g3⟩ | ⟨h, g1, g2, g3, g4⟩
                rotate_left
                have x0 : (a0 == 0) = false := by rw [beq_eq_false_iff_ne]; exact g1
                rotate_left
                have x0 : (a0 == 0) = true := by rw [beq_iff_eq]; exact g1
                have x1 : (a1 == 0) = false := by rw [beq_eq_false_iff_ne]; exact g2
                have x2 : (a1 == 1) = false := by rw [beq_eq_false_iff_ne]; exact g3
                clear g1 g2 g3
                rotate_left
                have x0 : (a0 == 0) = true := by rw [beq_iff_eq]; exact g1
                have x1 : (a1 == 0) = false := by rw [beq_eq_false_iff_ne]; exact g2
                have x2 : (a1 == 1) = true := by rw [beq_iff_eq]; exact g3
                clear g1 g2 g3
                all_goals
                  subst h
                  try subst g4
                  focus (go_upto_region 21 with fail)
                  go_quiet (fail)
                  focus (go_wp2_with fail)
                  go_roundw
                  case rel => exact ⟨j + 1, by omega, by go_num, HNY, drewN_ hbA _⟩
                  case measure => simp [intOf]; omega
              · clear HNX
                rcases hcs with ⟨h, g1, g2⟩ | ⟨h, g1, g2, g3, g4⟩
                have x0 : (a0 == 0) = true := by rw [beq_iff_eq]; exact g1
                have x1 : (a1 == 0) = true := by rw [beq_iff_eq]; exact g2
                clear g1 g2
                rotate_left
                have x0 : (a0 == 0) = true := by rw [beq_iff_eq]; exact g1
                have x1 : (a1 == 0) = false := by rw [beq_eq_false_iff_ne]; exact g2
                have x2 : (a1 == 1) = true := by rw [beq_iff_eq]; exact g3
                clear g1 g2 g3
                all_goals
                  subst h
                  try subst g4
                  focus (go_upto_region 21 with fail)
                  go_quiet (fail)
                  focus (go_wp2_with fail)
                  refine (awake34_any _).mono ?_
                  rintro e w1 ⟨rfl, hb1⟩
                  focus (go_wp2)
                  go_ret
                  exact ⟨rfl, then_ (drewN_ hbw _) hb1⟩
            · have HJ : Hid (j = m) := Lib.hid (by omega)
              have hge : (m : Int) ≤ (j : Int) := by omega
              exfalso
              obtain ⟨q, hq, h1, h2, h3⟩ := meets_plain ⟨pn, pr, pw, ppr, ppw, sv, mi, false⟩ l n0 n1 HD.out HST2.out rfl (by rw [HCL.out]; have := HCC.out; show (ccl : Int) ≤ pn; omega) (by rw [HWD.out]; exact HW1.out) (by rw [HRD.out]; exact HR.out)
              exact HNO.out q hq (by have := HN.out; have := HJ.out; omega) ⟨h1, h2, h3⟩
end Go.Proofs.Ytebfmacbdjnhbaa
