/- What pairs cover: the walk of sides, fresh, can, Can, Best. -/
import Derived.Test.YtpiinfjcjpdofaaCovD
import Derived.Says
import Derived.Deep.Cut
namespace Go.Proofs.Ytpiinfjcjpdofaa
open Go.RowKit Go.Mem Go.Cov
set_option linter.unusedVariables false
set_option linter.unusedSimpArgs false

theorem seenF_congr {S S' : List Int} (h : ∀ v, v ∈ S ↔ v ∈ S') : seenF S = seenF S' := by
  funext v
  unfold seenF
  by_cases e : v ∈ S
  · rw [if_pos e, if_pos ((h v).1 e)]
  · rw [if_neg e, if_neg (fun k => e ((h v).2 k))]
theorem seenF_some {S : List Int} {v : Int} : (seenF S v).isSome = true ↔ v ∈ S := by
  unfold seenF; split <;> simp_all
/-- a map of numbers that were covered, or none at all -/
def CM (w : World) (v : Value) (L : List Int) : Prop := (v = .map none ∧ L = []) ∨ ∃ b X, v = .map (some b) ∧ MZ w b (seenF L) X
theorem CM.none (w : World) : CM w (.map none) [] := .inl ⟨rfl, rfl⟩
theorem CM.below {w w' : World} {v : Value} {L : List Int} (h : CM w v L) (hb : Below w.heap.size w w') : CM w' v L := by
  rcases h with h | ⟨b, X, h1, h2⟩
  · exact .inl h
  · exact .inr ⟨b, X, h1, h2.block (hb.block _ h2.lt)⟩
def one01 (x : Int) (L : List Int) : Int := if x ∈ L then 1 else 0
theorem CM.look {w : World} {v : Value} {L : List Int} (h : CM w v L) {x : Int} (hx : inOk x) : (Instr.lookup 75 v (.int .i64 x) false).run Try.prog w = .ok (.int .i64 (one01 x L)) w := by
  unfold one01
  rcases h with ⟨rfl, rfl⟩ | ⟨b, X, rfl, h⟩
  · have := Maps.look_nil (w := w) (P := Try.prog) (t := 75) false kwi.K Try.underlying75 (zeroi w) (kwi.key x hx)
    simpa using this
  · have := h.look hx
    unfold seenF at this
    split at this <;> simp_all
/-- numbers that were not covered -/
def cov (L xs : List Int) : List Int := xs.filter fun z => !decide (z ∈ L)
theorem mem_cov {L xs : List Int} {z : Int} : z ∈ cov L xs ↔ z ∈ xs ∧ z ∉ L := by unfold cov; simp
theorem cov_in {L xs : List Int} {x : Int} (h : x ∈ L) : seenF (cov L (xs ++ [x])) = seenF (cov L xs) := seenF_congr fun v => by
  rw [mem_cov, mem_cov, List.mem_append, List.mem_singleton]
  constructor
  · rintro ⟨h1 | h1, h2⟩
    · exact ⟨h1, h2⟩
    · exact absurd (h1 ▸ h) h2
  · rintro ⟨h1, h2⟩; exact ⟨.inl h1, h2⟩
theorem cov_out {L xs : List Int} {x : Int} (h : x ∉ L) : seenF (cov L (xs ++ [x])) = put (seenF (cov L xs)) x 1 := by
  rw [seenF_put]
  refine seenF_congr fun v => ?_
  rw [mem_cov, List.mem_append, List.mem_singleton, List.mem_cons, mem_cov]
  constructor
  · rintro ⟨h1 | h1, h2⟩
    · exact .inr ⟨h1, h2⟩
    · exact .inl h1
  · rintro (h1 | ⟨h1, h2⟩)
    · exact ⟨.inr h1, h1 ▸ h⟩
    · exact ⟨.inl h1, h2⟩
/-- how many were not covered -/
theorem cov_count {w : World} {b : Nat} {L xs X : List Int} (h : MZ w b (seenF (cov L xs)) X) (ty : TypeId) : (Builtin.len_ #[75] ty #[.map (some b)]).run Try.prog w = .ok (.int .i64 (cn L xs : Nat)) w := by
  obtain ⟨D, d1, d2, d3⟩ := cn_spec L xs
  have := h.count d1 (fun v => by rw [seenF_some, mem_cov, d2]) ty
  rw [d3] at this
  exact this
/-- the two maps that 'sides' makes -/
structure Sd (w0 : World) (l : List Pair) (L R : List Int) (lb rb k : Nat) (w : World) : Prop where
  bel : Below w0.heap.size w0 w
  lo : w0.heap.size ≤ lb ∧ w0.heap.size ≤ rb ∧ lb ≠ rb
  ml : MZ w lb (seenF (cov L ((l.take k).map (·.1)))) (l.map (·.1))
  mr : MZ w rb (seenF (cov R ((l.take k).map (·.2)))) (l.map (·.2))
theorem below_grown_some {w0 w w' : World} {b : Nat} (hb : Below w0.heap.size w0 w) (hg : w.grownBy w' (some b)) (h : w0.heap.size ≤ b) : Below w0.heap.size w0 w' :=
  hb.trans ⟨hg.os, hg.tape, hg.output, hg.size, fun i hi => hg.block i (Nat.lt_of_lt_of_le hi hb.size) (fun e => by injection e with e; omega)⟩
/-- while a round lasts: the left side is told, or both are -/
structure Sm (w0 : World) (l : List Pair) (lb rb : Nat) (f g : Int → Option Int) (w : World) : Prop where
  bel : Below w0.heap.size w0 w
  lo : w0.heap.size ≤ lb ∧ w0.heap.size ≤ rb ∧ lb ≠ rb
  ml : MZ w lb f (l.map (·.1))
  mr : MZ w rb g (l.map (·.2))
theorem Sm.below {w0 w w' : World} {l : List Pair} {lb rb : Nat} {f g : Int → Option Int} (h : Sm w0 l lb rb f g w) (hb : Below w.heap.size w w') : Sm w0 l lb rb f g w' := ⟨then_ h.bel hb, h.lo, h.ml.block (hb.block _ h.ml.lt), h.mr.block (hb.block _ h.mr.lt)⟩
theorem Sm.left {w0 w w' : World} {l : List Pair} {lb rb : Nat} {f f' g : Int → Option Int} (h : Sm w0 l lb rb f g w) (hg : w.grownBy w' (some lb)) (hm : MZ w' lb f' (l.map (·.1))) : Sm w0 l lb rb f' g w' :=
  ⟨below_grown_some h.bel hg h.lo.1, h.lo, hm, h.mr.block (hg.block _ h.mr.lt (fun e => h.lo.2.2 (by injection e with e; exact e.symm)))⟩
theorem Sm.right {w0 w w' : World} {l : List Pair} {lb rb : Nat} {f g g' : Int → Option Int} (h : Sm w0 l lb rb f g w) (hg : w.grownBy w' (some rb)) (hm : MZ w' rb g' (l.map (·.2))) : Sm w0 l lb rb f g' w' :=
  ⟨below_grown_some h.bel hg h.lo.2.1, h.lo, h.ml.block (hg.block _ h.ml.lt (fun e => h.lo.2.2 (by injection e))), hm⟩
set_option maxRecDepth 100000 in
set_option maxHeartbeats 8000000 in
theorem sides_any (A : Option Addr) (n c : Nat) (l : List Pair) (L R : List Int) (vL vR : Value) (hn : l.length = n) (hm : n ≤ 1000) (hok : okP l) (w : World) (hr : Rd w A (prc l)) (hl : CM w vL L) (hrr : CM w vR R) :
    Calls Try.prog 49 #[.slice A n c, vL, vR] w fun e w' => e = .returned (.tuple #[.int .i64 (nl L l : Nat), .int .i64 (nr R l : Nat)]) ∧ Below w.heap.size w w' := by
  have HN := Lib.hid hn; have HOK := Lib.hid hok; have HR := Lib.hid hr; have HCL := Lib.hid hl; have HCR := Lib.hid hrr
  have hb1 := (Below.refl w.heap.size w).alloc (Nat.le_refl _) (.map #[] 0)
  have m1 := MZ.made w (l.map (·.1))
  have m2 := MZ.made (w.alloc (.map #[] 0)) (l.map (·.2))
  have hz1 : (w.alloc (.map #[] 0)).heap.size = w.heap.size + 1 := by simp
  have hb2 := (Below.refl (w.alloc (.map #[] 0)).heap.size (w.alloc (.map #[] 0))).alloc (Nat.le_refl _) (.map #[] 0)
  have m3 : MZ ((w.alloc (.map #[] 0)).alloc (.map #[] 0)) (w.heap.size + 1) (fun _ => none) (l.map (·.2)) := by rw [← hz1]; exact m2
  have h00 : ∀ L : List Int, (fun _ => none : Int → Option Int) = seenF (cov L (([] : List Pair).map (·.1))) := fun L => by funext v; unfold seenF cov; simp
  have h01 : ∀ L : List Int, (fun _ => none : Int → Option Int) = seenF (cov L (([] : List Pair).map (·.2))) := fun L => by funext v; unfold seenF cov; simp
  have HS0 := Lib.hid (show Sm w l w.heap.size (w.heap.size + 1) (seenF (cov L ((l.take 0).map (·.1)))) (seenF (cov R ((l.take 0).map (·.2)))) ((w.alloc (.map #[] 0)).alloc (.map #[] 0)) from
    ⟨then_ hb1 hb2, ⟨Nat.le_refl _, Nat.le_succ _, by omega⟩, by rw [List.take_zero, ← h00]; exact m1.block (hb2.block _ m1.lt), by rw [List.take_zero, ← h01]; exact m3⟩)
  have hmm := @run_makeMap Try.prog
  clear hn hok hr hl hrr hb1 m1 m2 m3 hz1 hb2 h00 h01
  go_enter Try.func49, Try.ntmps49
  go_wp2_with fail
  clear hmm
  generalize (w.alloc (.map #[] 0)).alloc (.map #[] 0) = W1 at HS0 ⊢
  obtain ⟨lb, hlb⟩ : ∃ lb, lb = w.heap.size := ⟨_, rfl⟩
  obtain ⟨rb, hrb⟩ : ∃ rb, rb = w.heap.size + 1 := ⟨_, rfl⟩
  rw [← hrb, ← hlb] at HS0
  rw [← hrb, ← hlb]
  clear hlb hrb
  go_loopw [16] (fun i wr => ∃ k : Nat, k ≤ n ∧ i = .int .i64 k ∧ Hid (Sm w l lb rb (seenF (cov L ((l.take k).map (·.1)))) (seenF (cov R ((l.take k).map (·.2)))) wr)) (fun i _ => n - (intOf i).toNat)
  case atStart => exact ⟨0, Nat.zero_le _, rfl, HS0⟩
  case round =>
    clear HS0
    obtain ⟨k, hk, rfl, HS⟩ := hrel
    by_cases hlt : k < n
    · have hx : k < l.length := by have := HN.out; omega
      obtain ⟨b, off, rfl, hc0, hc1⟩ := prc_at (HR.out.below HS.out.bel) hx
      have HPO := Lib.hid (HOK.out _ (List.getElem_mem hx))
      have HX1 := Lib.hid (show l[k].1 ∈ l.map (·.1) from List.mem_map.2 ⟨_, List.getElem_mem hx, rfl⟩)
      have HX2 := Lib.hid (show l[k].2 ∈ l.map (·.2) from List.mem_map.2 ⟨_, List.getElem_mem hx, rfl⟩)
      have HT1 := Lib.hid (show (l.take (k + 1)).map (·.1) = (l.take k).map (·.1) ++ [l[k].1] by rw [List.take_succ_eq_append_getElem hx, List.map_append]; rfl)
      have HT2 := Lib.hid (show (l.take (k + 1)).map (·.2) = (l.take k).map (·.2) ++ [l[k].2] by rw [List.take_succ_eq_append_getElem hx, List.map_append]; rfl)
      generalize l[k] = pq at hc0 hc1 HPO HX1 HX2 HT1 HT2
      obtain ⟨p, q⟩ := pq
      simp only at hc0 hc1 HPO HX1 HX2 HT1 HT2
      have hkn : (k : Int) < (n : Int) := by omega
      have hk0 : (0 : Int) ≤ (k : Int) := by omega
      have hal : Below wr.heap.size wr (wr.alloc (.cells #[.int .i64 p, .int .i64 q] 50)) := (Below.refl _ _).alloc (Nat.le_refl _) _
      have HS1 := Lib.hid (HS.out.below hal)
      have hxc0 : (wr.alloc (.cells #[.int .i64 p, .int .i64 q] 50)).cell? ⟨wr.heap.size, 0, none⟩ = some (.int .i64 p) := by rw [World.cell?_alloc_at _ _ _ _ rfl]; rfl
      have hxc1 : (wr.alloc (.cells #[.int .i64 p, .int .i64 q] 50)).cell? ⟨wr.heap.size, 1, none⟩ = some (.int .i64 q) := by rw [World.cell?_alloc_at _ _ _ _ rfl]; rfl
      have HXX := Lib.hid (And.intro hxc0 hxc1)
      have HXB := Lib.hid (show lb < wr.heap.size ∧ rb < wr.heap.size ∧ wr.heap.size < (wr.alloc (.cells #[.int .i64 p, .int .i64 q] 50)).heap.size from ⟨HS.out.ml.lt, HS.out.mr.lt, by simp⟩)
      clear hal HS
      have HL1 : seenF (cov L ((l.take (k + 1)).map (·.1))) = _ := congrArg (fun x => seenF (cov L x)) HT1.out
      have HL2 : seenF (cov R ((l.take (k + 1)).map (·.2))) = _ := congrArg (fun x => seenF (cov R x)) HT2.out
      clear HT1 HT2
      by_cases hp : p ∈ L
      · have hk1 := (HCL.out.below HS1.out.bel).look HPO.out.1
        rw [show one01 p L = 1 from if_pos hp] at hk1
        rw [cov_in hp] at HL1
        by_cases hq : q ∈ R
        · rw [cov_in hq] at HL2
          have hk2 := (HCR.out.below HS1.out.bel).look HPO.out.2
          rw [show one01 q R = 1 from if_pos hq] at hk2
          go_wp2_with fail
          exact ⟨⟨k + 1, by omega, by go_num, Lib.hid (by rw [HL1, HL2]; exact HS1.out)⟩, by simp [intOf]; omega⟩
        · rw [cov_out hq] at HL2
          have hk2 := (HCR.out.below HS1.out.bel).look HPO.out.2
          rw [show one01 q R = 0 from if_neg hq] at hk2
          go_wp2_with (at_mapUpdate; (refine wpList_mz_put rfl _ _ _ rfl HS1.out.mr (by rw [List.length_map, HN.out]; omega) rfl q HPO.out.2 HX2.out rfl 1 rfl (by decide) ?_; intro w3 hm3 hg3; have HS3 := Lib.hid (HS1.out.right hg3 hm3); clear hm3 hg3))
          exact ⟨⟨k + 1, by omega, by go_num, Lib.hid (by rw [HL1, HL2]; exact HS3.out)⟩, by simp [intOf]; omega⟩
      · have hk1 := (HCL.out.below HS1.out.bel).look HPO.out.1
        rw [show one01 p L = 0 from if_neg hp] at hk1
        rw [cov_out hp] at HL1
        by_cases hq : q ∈ R
        · rw [cov_in hq] at HL2
          go_wp2_with (at_mapUpdate; (refine wpList_mz_put rfl _ _ _ rfl HS1.out.ml (by rw [List.length_map, HN.out]; omega) rfl p HPO.out.1 HX1.out rfl 1 rfl (by decide) ?_; intro w2 hm2 hg2; have HS2 := Lib.hid (HS1.out.left hg2 hm2); have hx2 := (World.cell?_of_block (a := ⟨wr.heap.size, 1, none⟩) (hg2.block wr.heap.size HXB.out.2.2 (fun e => by injection e with e; have := HXB.out.1; omega))).trans HXX.out.2; have hk2 := (HCR.out.below HS2.out.bel).look HPO.out.2; rw [show one01 q R = 1 from if_pos hq] at hk2; clear hm2 hg2))
          exact ⟨⟨k + 1, by omega, by go_num, Lib.hid (by rw [HL1, HL2]; exact HS2.out)⟩, by simp [intOf]; omega⟩
        · rw [cov_out hq] at HL2
          go_wp2_with (at_mapUpdate; first | (refine wpList_mz_put rfl _ _ _ rfl HS1.out.ml (by rw [List.length_map, HN.out]; omega) rfl p HPO.out.1 HX1.out rfl 1 rfl (by decide) ?_; intro w2 hm2 hg2; have HS2 := Lib.hid (HS1.out.left hg2 hm2); have hx2 := (World.cell?_of_block (a := ⟨wr.heap.size, 1, none⟩) (hg2.block wr.heap.size HXB.out.2.2 (fun e => by injection e with e; have := HXB.out.1; omega))).trans HXX.out.2; have hk2 := (HCR.out.below HS2.out.bel).look HPO.out.2; rw [show one01 q R = 0 from if_neg hq] at hk2; clear hm2 hg2) | (refine wpList_mz_put rfl _ _ _ rfl HS2.out.mr (by rw [List.length_map, HN.out]; omega) rfl q HPO.out.2 HX2.out rfl 1 rfl (by decide) ?_; intro w3 hm3 hg3; have HS3 := Lib.hid (HS2.out.right hg3 hm3); clear hm3 hg3))
          exact ⟨⟨k + 1, by omega, by go_num, Lib.hid (by rw [HL1, HL2]; exact HS3.out)⟩, by simp [intOf]; omega⟩
    · have hkn : (n : Int) ≤ (k : Int) := by omega
      have hfull : l.take k = l := List.take_of_length_le (by have := HN.out; omega)
      rw [hfull] at HS
      have hl1 : ∀ ty, (Builtin.len_ #[75] ty #[.map (some lb)]).run Try.prog wr = .ok (.int .i64 (nl L l : Nat)) wr := fun ty => cov_count HS.out.ml ty
      have hl2 : ∀ ty, (Builtin.len_ #[75] ty #[.map (some rb)]).run Try.prog wr = .ok (.int .i64 (nr R l : Nat)) wr := fun ty => cov_count HS.out.mr ty
      go_wp2
      go_ret2
      exact ⟨rfl, HS.out.bel⟩
theorem el_pair : Elem Try.prog 37 50 2 16 := Elem.of (z := .agg #[.int .i64 0, .int .i64 0]) Try.underlying37 (by kernel_rfl) rfl (by decide)
theorem fresh_snoc (L R : List Int) (l : List Pair) (e : Pair) : fresh L R (l ++ [e]) = fresh L R l ++ (if e.1 ∉ L ∧ e.2 ∉ R then [e] else []) := by
  unfold fresh
  rw [List.filter_append]
  by_cases h1 : e.1 ∈ L <;> by_cases h2 : e.2 ∈ R <;> simp [h1, h2]
theorem fresh_len (L R : List Int) (l : List Pair) : (fresh L R l).length ≤ l.length := List.length_filter_le _ _
theorem prc_snoc (l : List Pair) (e : Pair) : prc (l ++ [e]) = prc l ++ [.int .i64 e.1, .int .i64 e.2] := by unfold prc; simp
/-- pairs of its own are handed back -/
def MakesP (l : List Pair) (w : World) (r : Ending) (w' : World) : Prop := ∃ v, r = .returned v ∧ w'.ownsRow w.heap.size 50 2 v l.length (prc l) ∧ Below w.heap.size w w'
set_option maxRecDepth 100000 in
set_option maxHeartbeats 8000000 in
theorem fresh_any (A : Option Addr) (n c : Nat) (l : List Pair) (L R : List Int) (vL vR : Value) (hn : l.length = n) (hm : n ≤ 1000) (hok : okP l) (w : World) (hr : Rd w A (prc l)) (hl : CM w vL L) (hrr : CM w vR R) :
    Calls Try.prog 65 #[.slice A n c, vL, vR] w (MakesP (fresh L R l) w) := by
  have HN := Lib.hid hn; have HOK := Lib.hid hok; have HR := Lib.hid hr; have HCL := Lib.hid hl; have HCR := Lib.hid hrr
  clear hn hok hr hl hrr
  go_enter Try.func65, Try.ntmps65
  go_wp2_with fail
  go_loopw [7, 12] (fun v i wr => ∃ k : Nat, k ≤ n ∧ i = .int .i64 k ∧ Hid (wr.ownsRow w.heap.size 50 2 v (fresh L R (l.take k)).length (prc (fresh L R (l.take k)))) ∧ Hid (Below w.heap.size w wr)) (fun _ i _ => n - (intOf i).toNat)
  case atStart => exact ⟨0, Nat.zero_le _, rfl, Lib.hid (World.ownsRow_nil _ _ _ _), Lib.hid (Below.refl _ _)⟩
  case round =>
    obtain ⟨k, hk, rfl, HO, HB⟩ := hrel
    by_cases hlt : k < n
    · have hx : k < l.length := by have := HN.out; omega
      obtain ⟨b, off, rfl, hc0, hc1⟩ := prc_at (HR.out.below HB.out) hx
      have HPO := Lib.hid (HOK.out _ (List.getElem_mem hx))
      have HT := Lib.hid (show fresh L R (l.take (k + 1)) = _ by rw [List.take_succ_eq_append_getElem hx, fresh_snoc])
      have hfl := Nat.le_trans (fresh_len L R (l.take k)) (List.length_take_le _ _)
      generalize l[k] = pq at hc0 hc1 HPO HT
      generalize fresh L R (l.take k) = u at HO HT hfl
      obtain ⟨p, q⟩ := pq
      simp only at hc0 hc1 HPO HT
      have hkn : (k : Int) < (n : Int) := by omega
      have hk0 : (0 : Int) ≤ (k : Int) := by omega
      have hal : Below wr.heap.size wr (wr.alloc (.cells #[.int .i64 p, .int .i64 q] 50)) := (Below.refl _ _).alloc (Nat.le_refl _) _
      have HO1 := Lib.hid (own_below HO.out hal); have HB1 := Lib.hid (then_ HB.out hal)
      have hxc0 : (wr.alloc (.cells #[.int .i64 p, .int .i64 q] 50)).cell? ⟨wr.heap.size, 0, none⟩ = some (.int .i64 p) := by rw [World.cell?_alloc_at _ _ _ _ rfl]; rfl
      have hxc1 : (wr.alloc (.cells #[.int .i64 p, .int .i64 q] 50)).cell? ⟨wr.heap.size, 1, none⟩ = some (.int .i64 q) := by rw [World.cell?_alloc_at _ _ _ _ rfl]; rfl
      have hk1 := (HCL.out.below HB1.out).look HPO.out.1
      have hk2 := (HCR.out.below HB1.out).look HPO.out.2
      clear hal HO HB
      by_cases hp : p ∈ L
      · rw [show one01 p L = 1 from if_pos hp] at hk1
        have HT2 := Lib.hid (HT.out.trans (by rw [if_neg (fun h => h.1 hp), List.append_nil] : _ = u))
        clear hk2
        go_wp2_with fail
        exact ⟨⟨k + 1, by omega, by go_num, Lib.hid (by rw [HT2.out]; exact HO1.out), HB1⟩, by simp [intOf]; omega⟩
      · rw [show one01 p L = 0 from if_neg hp] at hk1
        by_cases hq : q ∈ R
        · rw [show one01 q R = 1 from if_pos hq] at hk2
          have HT2 := Lib.hid (HT.out.trans (by rw [if_neg (fun h => h.2 hq), List.append_nil] : _ = u))
          go_wp2_with fail
          exact ⟨⟨k + 1, by omega, by go_num, Lib.hid (by rw [HT2.out]; exact HO1.out), HB1⟩, by simp [intOf]; omega⟩
        · rw [show one01 q R = 0 from if_neg hq] at hk2
          have HT2 := Lib.hid (HT.out.trans (by rw [if_pos ⟨hp, hq⟩] : _ = u ++ [(p, q)]))
          have HZ := Lib.hid HB1.out.size
          have HRD := Lib.hid (show Rd ((wr.alloc (.cells #[.int .i64 p, .int .i64 q] 50)).alloc (.cells #[.int .i64 p, .int .i64 q] 50)) (some ⟨wr.heap.size + 1, 0, none⟩) [.int .i64 p, .int .i64 q] from by have := Rd.new (wr.alloc (.cells #[.int .i64 p, .int .i64 q] 50)) #[.int .i64 p, .int .i64 q] 50; simpa using this)
          go_wp2_with (at_builtin; (refine wpList_app el_pair (by rfl) (.tmp 28) (.tmp 30) (by rfl) w.heap.size _ u.length _ (by rfl) (HO1.out.alloc _) (some ⟨wr.heap.size + 1, 0, none⟩) 1 1 [.int .i64 p, .int .i64 q] (by rfl) rfl HRD.out (by intro u hu; simp at hu; rcases hu with rfl | rfl <;> rfl) (by unfold maxLen; omega) (by omega) (by have := HZ.out; simp at this ⊢; omega) ?_; intro v1 w3 hown1 hbel1 _ _))
          exact ⟨⟨k + 1, by omega, by go_num, Lib.hid (by rw [HT2.out, List.length_append, prc_snoc]; exact hown1), Lib.hid ((HB1.out.alloc HZ.out _).trans hbel1)⟩, by simp [intOf]; omega⟩
    · have hkn : (n : Int) ≤ (k : Int) := by omega
      have hfull : l.take k = l := List.take_of_length_le (by have := HN.out; omega)
      rw [hfull] at HO
      go_wp2
      go_ret
      exact ⟨_, rfl, HO.out, HB.out⟩
theorem okP_fresh {l : List Pair} (h : okP l) (L R : List Int) : okP (fresh L R l) := fun p hp => h p (mem_fresh.1 hp).1
theorem nl_le (L : List Int) (l : List Pair) : nl L l ≤ l.length := nl_le_len L l
/-- whether some choice does it, as a bool -/
noncomputable def doesB (l : List Pair) (many a b : Int) (L R : List Int) : Bool := open Classical in decide (Does l many a b L R)
theorem doesB_of {l : List Pair} {m : Nat} {many a b : Int} {L R : List Int} (hM : IsMax (fresh L R l) m) {q : Bool} (h : q = true ↔ canP l m many a b L R) : q = doesB l many a b L R := by
  rw [Bool.eq_iff_iff, h, can_iff hM]
  unfold doesB
  simp
set_option maxRecDepth 100000 in
set_option maxHeartbeats 8000000 in
theorem can_any (A : Option Addr) (n c : Nat) (l : List Pair) (many a b : Int) (L R : List Int) (vL vR : Value) (hn : l.length = n) (hm : n ≤ 1000) (hok : okP l) (w : World) (hr : Rd w A (prc l)) (hl : CM w vL L) (hrr : CM w vR R) :
    Calls Try.prog 51 #[.slice A n c, .int .i64 many, .int .i64 a, .int .i64 b, vL, vR] w fun e w' => e = .returned (.bool (doesB l many a b L R)) ∧ Below w.heap.size w w' := by
  obtain ⟨m, hM⟩ := exMax (fresh L R l)
  have HD := Lib.hid (fun (q : Bool) h => doesB_of (many := many) (a := a) (b := b) hM (q := q) h)
  unfold canP at HD
  rw [hn] at HD
  have HX1 := Lib.hid (sides_any A n c l L R vL vR hn hm hok w hr hl hrr)
  have HX2 := Lib.hid (fun W (h : Below w.heap.size w W) => fresh_any A n c l L R vL vR hn hm hok W (hr.below h) (hl.below h) (hrr.below h))
  have hfl := fresh_len L R l
  have HX3 := Lib.hid (fun B d W (h : Rd W B (prc (fresh L R l))) => max_any B (fresh L R l).length d (fresh L R l) rfl (by omega) (okP_fresh hok L R) m hM W h)
  have hmf : m ≤ 1000 := by
    obtain ⟨T, h1, _, h3⟩ := hM.some_
    have := h1.length_le; omega
  have hnl := nl_le_len L l; have hnr := nr_le_len R l
  generalize hx : nl L l = x at HX1 HD hnl
  generalize hy : nr R l = y at HX1 HD hnr
  generalize doesB l many a b L R = ans at HD ⊢
  generalize fresh L R l = fr at HX2 HX3 hfl
  rw [hn] at hnl hnr hfl
  clear hok hr hl hrr hM hx hy hn
  go_enter Try.func51, Try.ntmps51
  go_upto_region 2 with fail
  rw [show (if a < 0 then 0 else a) = max a 0 by split <;> omega, show (if b < 0 then 0 else b) = max b 0 by split <;> omega]
  have ha0 : 0 ≤ max a 0 := by omega
  have hb0 : 0 ≤ max b 0 := by omega
  generalize max a 0 = a2 at HD ha0 ⊢
  generalize max b 0 = b2 at HD hb0 ⊢
  go_wp2_with fail
  refine HX1.out.mono ?_
  rintro e w1 ⟨rfl, hb1⟩
  have HB := Lib.hid hb1
  clear hb1 HX1
  by_cases h1 : many < 0
  · have HE := Lib.hid (HD.out false ⟨fun h => (by cases h), fun h => (by omega)⟩)
    go_wp2
    go_ret
    exact ⟨ret_bool HE.out, HB.out⟩
  by_cases h2 : many > n
  · have HE := Lib.hid (HD.out false ⟨fun h => (by cases h), fun h => (by omega)⟩)
    have h1' : 0 ≤ many := by omega
    go_wp2
    go_ret
    exact ⟨ret_bool HE.out, HB.out⟩
  have h1' : 0 ≤ many := by omega
  have h2' : many ≤ n := by omega
  by_cases h3 : a2 > x
  · have HE := Lib.hid (HD.out false ⟨fun h => (by cases h), fun h => (by omega)⟩)
    clear h1 h2
    go_wp2
    go_ret
    exact ⟨ret_bool HE.out, HB.out⟩
  have h3' : a2 ≤ x := by omega
  by_cases h4 : b2 > y
  · have HE := Lib.hid (HD.out false ⟨fun h => (by cases h), fun h => (by omega)⟩)
    clear h1 h2 h3
    go_wp2
    go_ret
    exact ⟨ret_bool HE.out, HB.out⟩
  have h4' : b2 ≤ y := by omega
  have HD2 := Lib.hid (fun (q : Bool) (h : q = true ↔ a2 - min (min (m : Int) a2) b2 ≤ many - b2) => HD.out q ⟨fun e => ⟨h1', h2', h3', h4', h.1 e⟩, fun e => h.2 e.2.2.2.2⟩)
  clear h1 h2 h3 h4 HD
  go_wp2_with fail
  refine (HX2.out w1 HB.out).mono ?_
  rintro e w2 ⟨v, rfl, hown, hb1⟩
  obtain ⟨A2, c2, rfl⟩ := own_form hown
  have HX4 := Lib.hid (HX3.out A2 c2 w2 (Rd.of_own hown))
  have HB2 := Lib.hid (then_ HB.out hb1)
  clear hb1 hown HX2 HX3 HB
  go_wp2_with fail
  refine HX4.out.mono ?_
  rintro e w3 ⟨rfl, hb1⟩
  have HB3 := Lib.hid (then_ HB2.out hb1)
  clear hb1 HX4 HB2
  go_upto_region 6 with fail
  rw [show (if b2 < if a2 < (m : Int) then a2 else (m : Int) then b2 else if a2 < (m : Int) then a2 else (m : Int)) = min (min (m : Int) a2) b2 by split <;> split <;> omega]
  have ht1 : min (min (m : Int) a2) b2 ≤ a2 := by omega
  have ht0 : 0 ≤ min (min (m : Int) a2) b2 := by omega
  generalize min (min (m : Int) a2) b2 = t at HD2 ht1 ht0 ⊢
  go_wp2
  go_ret
  exact ⟨ret_bool (HD2.out (decide (a2 - t ≤ many - b2)) (by simp)), HB3.out⟩
theorem Can_any (A : Option Addr) (n c : Nat) (l : List Pair) (many a b : Int) (hn : l.length = n) (hm : n ≤ 1000) (hok : okP l) (w : World) (hr : Rd w A (prc l)) :
    Calls Try.prog 23 #[.slice A n c, .int .i64 many, .int .i64 a, .int .i64 b] w fun e w' => e = .returned (.bool (doesB l many a b [] [])) ∧ Below w.heap.size w w' := by
  have HX := Lib.hid (can_any A n c l many a b [] [] (.map none) (.map none) hn hm hok w hr (CM.none w) (CM.none w))
  clear hn hok hr
  generalize doesB l many a b [] [] = q at HX ⊢
  go_enter Try.func23, Try.ntmps23
  go_wp2_with fail
  refine HX.out.mono ?_
  rintro e w1 ⟨rfl, hb⟩
  go_wp2
  go_ret
  exact ⟨rfl, hb⟩
theorem doesB_iff {l : List Pair} {many a b : Int} {L R : List Int} : doesB l many a b L R = true ↔ Does l many a b L R := by unfold doesB; simp
/-- the best that so many can -/
structure BestR (l : List Pair) (many : Int) (x y : Nat) : Prop where
  out : ¬ (0 ≤ many ∧ many ≤ l.length) → x = 0 ∧ y = 0
  best : ∀ m : Nat, many = m → m ≤ l.length → Best l m x y ∧ x = min (nl [] l) m
theorem bestR_of {l : List Pair} {m x y : Nat} (hm : m ≤ l.length) (h : Best l m x y) (e : x = min (nl [] l) m) : BestR l (m : Int) x y :=
  ⟨fun h1 => absurd ⟨by omega, by omega⟩ h1, fun m' e' _ => by
    obtain rfl : m = m' := by omega
    exact ⟨h, e⟩⟩
theorem does_small {l : List Pair} {m : Nat} (hm : m ≤ l.length) : Does l m (min (nl [] l) m : Nat) 0 [] [] := does_left hm
set_option maxRecDepth 100000 in
set_option maxHeartbeats 8000000 in
theorem Best_any (A : Option Addr) (n c : Nat) (l : List Pair) (many : Int) (hn : l.length = n) (hm : n ≤ 1000) (hok : okP l) (w : World) (hr : Rd w A (prc l)) :
    Calls Try.prog 21 #[.slice A n c, .int .i64 many] w fun e w' => ∃ x y : Nat, e = .returned (.tuple #[.int .i64 (x : Int), .int .i64 (y : Int)]) ∧ BestR l many x y ∧ Below w.heap.size w w' := by
  by_cases h1 : many < 0
  · have HF := Lib.hid (show BestR l many 0 0 from ⟨fun _ => ⟨rfl, rfl⟩, fun m e h => by omega⟩)
    clear hr
    go_enter Try.func21, Try.ntmps21
    go_wp2
    go_ret2
    exact ⟨0, 0, rfl, HF.out, Below.refl _ _⟩
  by_cases h2 : many > n
  · have HF := Lib.hid (show BestR l many 0 0 from ⟨fun _ => ⟨rfl, rfl⟩, fun m e h => by omega⟩)
    have h1' : 0 ≤ many := by omega
    clear hr h1
    go_enter Try.func21, Try.ntmps21
    go_wp2
    go_ret2
    exact ⟨0, 0, rfl, HF.out, Below.refl _ _⟩
  obtain ⟨m, rfl⟩ : ∃ m : Nat, many = m := ⟨many.toNat, by omega⟩
  have hmn : m ≤ n := by omega
  have HX1 := Lib.hid (sides_any A n c l [] [] (.map none) (.map none) hn hm hok w hr (CM.none w) (CM.none w))
  have HX2 := Lib.hid (fun W (h : Below w.heap.size w W) a b => Can_any A n c l (m : Int) a b hn hm hok W (hr.below h))
  have HBO := Lib.hid (fun b h1 h2 => best_of (l := l) (m := m) (b := b) (by omega) h1 h2)
  have hnl := nl_le_len [] l; have hnr := nr_le_len [] l
  have HDB := Lib.hid (fun a b => doesB_iff (l := l) (many := (m : Int)) (a := a) (b := b) (L := []) (R := []))
  have HFIN := Lib.hid (fun (x y : Nat) (h : Best l m x y) (e : x = min (nl [] l) m) => bestR_of (by omega) h e)
  generalize hx : nl [] l = x at HX1 hnl HBO HFIN
  generalize hy : nr [] l = y at HX1 hnr HBO
  rw [hn] at hnl hnr
  have h1' : (0 : Int) ≤ (m : Int) := by omega
  have h2' : (m : Int) ≤ (n : Int) := by omega
  clear hok hr hx hy hn h1 h2
  go_enter Try.func21, Try.ntmps21
  go_wp2_with fail
  refine HX1.out.mono ?_
  rintro e w1 ⟨rfl, hb1⟩
  have HB := Lib.hid hb1
  clear hb1 HX1
  by_cases hmx : m < x
  · have hmx2 : (m : Int) < (x : Int) := by omega
    by_cases hmy : m < y
    · have hmy2 : (m : Int) < (y : Int) := by omega
      have e6 : min x m = m := by omega
      have e7 : min y m = m := by omega
      rw [e6, e7] at HBO
      rw [e6] at HFIN
      clear e6 e7
      go_wp2_with fail
      go_loopw [7] (fun v wr => ∃ b : Nat, v = .int .i64 b ∧ b ≤ m ∧ Hid (∀ b' : Nat, b < b' → b' ≤ m → ¬ Does l (m : Int) (m : Nat) (b' : Nat) [] []) ∧ Hid (Below w.heap.size w wr)) (fun v _ => (intOf v).toNat)
      case atStart => exact ⟨m, rfl, Nat.le_refl _, Lib.hid (fun b' h1 h2 => absurd h1 (by omega)), HB⟩
      case round =>
        obtain ⟨b, rfl, hb, HNO, HBW⟩ := hrel
        rcases Nat.eq_zero_or_pos b with hb0 | hb0
        · have HF := Lib.hid (HFIN.out m b (HBO.out b (.inl hb0) HNO.out) rfl)
          have hbz : (b : Int) ≤ 0 := by omega
          go_wp2
          go_ret2
          exact ⟨m, b, rfl, HF.out, HBW.out⟩
        · have hbp : (0 : Int) < (b : Int) := by omega
          have HX := Lib.hid (HX2.out wr HBW.out (m : Int) (b : Int))
          have HQ := Lib.hid (HDB.out (m : Nat) (b : Nat))
          generalize doesB l (m : Int) (m : Nat) (b : Nat) [] [] = q at HX HQ
          go_wp2_with fail
          refine HX.out.mono ?_
          rintro e w2 ⟨rfl, hb2⟩
          have HB2 := Lib.hid (then_ HBW.out hb2)
          clear hb2 HX
          cases q
          · have HN2 := Lib.hid (show ¬ Does l (m : Int) (m : Nat) (b : Nat) [] [] from fun h => by have := HQ.out.2 h; cases this)
            obtain ⟨c2, rfl⟩ : ∃ c2, b = c2 + 1 := ⟨b - 1, by omega⟩
            go_wp2_with fail
            refine ⟨⟨c2, by go_num, by omega, Lib.hid (fun b' h1 h2 => ?_), HB2⟩, by simp [intOf]; try omega⟩
            by_cases e : b' = c2 + 1
            · subst e; exact HN2.out
            · exact HNO.out b' (by omega) h2
          · have HF := Lib.hid (HFIN.out m b (HBO.out b (.inr (HQ.out.1 rfl)) HNO.out) rfl)
            go_wp2
            go_ret2
            exact ⟨m, b, rfl, HF.out, HB2.out⟩
    · have hmy2 : ¬ (m : Int) < (y : Int) := by omega
      have e6 : min x m = m := by omega
      have e7 : min y m = y := by omega
      rw [e6, e7] at HBO
      rw [e6] at HFIN
      clear e6 e7
      go_wp2_with fail
      go_loopw [7] (fun v wr => ∃ b : Nat, v = .int .i64 b ∧ b ≤ y ∧ Hid (∀ b' : Nat, b < b' → b' ≤ y → ¬ Does l (m : Int) (m : Nat) (b' : Nat) [] []) ∧ Hid (Below w.heap.size w wr)) (fun v _ => (intOf v).toNat)
      case atStart => exact ⟨y, rfl, Nat.le_refl _, Lib.hid (fun b' h1 h2 => absurd h1 (by omega)), HB⟩
      case round =>
        obtain ⟨b, rfl, hb, HNO, HBW⟩ := hrel
        rcases Nat.eq_zero_or_pos b with hb0 | hb0
        · have HF := Lib.hid (HFIN.out m b (HBO.out b (.inl hb0) HNO.out) rfl)
          have hbz : (b : Int) ≤ 0 := by omega
          go_wp2
          go_ret2
          exact ⟨m, b, rfl, HF.out, HBW.out⟩
        · have hbp : (0 : Int) < (b : Int) := by omega
          have HX := Lib.hid (HX2.out wr HBW.out (m : Int) (b : Int))
          have HQ := Lib.hid (HDB.out (m : Nat) (b : Nat))
          generalize doesB l (m : Int) (m : Nat) (b : Nat) [] [] = q at HX HQ
          go_wp2_with fail
          refine HX.out.mono ?_
          rintro e w2 ⟨rfl, hb2⟩
          have HB2 := Lib.hid (then_ HBW.out hb2)
          clear hb2 HX
          cases q
          · have HN2 := Lib.hid (show ¬ Does l (m : Int) (m : Nat) (b : Nat) [] [] from fun h => by have := HQ.out.2 h; cases this)
            obtain ⟨c2, rfl⟩ : ∃ c2, b = c2 + 1 := ⟨b - 1, by omega⟩
            go_wp2_with fail
            refine ⟨⟨c2, by go_num, by omega, Lib.hid (fun b' h1 h2 => ?_), HB2⟩, by simp [intOf]; try omega⟩
            by_cases e : b' = c2 + 1
            · subst e; exact HN2.out
            · exact HNO.out b' (by omega) h2
          · have HF := Lib.hid (HFIN.out m b (HBO.out b (.inr (HQ.out.1 rfl)) HNO.out) rfl)
            go_wp2
            go_ret2
            exact ⟨m, b, rfl, HF.out, HB2.out⟩
  · have hmx2 : ¬ (m : Int) < (x : Int) := by omega
    by_cases hmy : m < y
    · have hmy2 : (m : Int) < (y : Int) := by omega
      have e6 : min x m = x := by omega
      have e7 : min y m = m := by omega
      rw [e6, e7] at HBO
      rw [e6] at HFIN
      clear e6 e7
      go_wp2_with fail
      go_loopw [7] (fun v wr => ∃ b : Nat, v = .int .i64 b ∧ b ≤ m ∧ Hid (∀ b' : Nat, b < b' → b' ≤ m → ¬ Does l (m : Int) (x : Nat) (b' : Nat) [] []) ∧ Hid (Below w.heap.size w wr)) (fun v _ => (intOf v).toNat)
      case atStart => exact ⟨m, rfl, Nat.le_refl _, Lib.hid (fun b' h1 h2 => absurd h1 (by omega)), HB⟩
      case round =>
        obtain ⟨b, rfl, hb, HNO, HBW⟩ := hrel
        rcases Nat.eq_zero_or_pos b with hb0 | hb0
        · have HF := Lib.hid (HFIN.out x b (HBO.out b (.inl hb0) HNO.out) rfl)
          have hbz : (b : Int) ≤ 0 := by omega
          go_wp2
          go_ret2
          exact ⟨x, b, rfl, HF.out, HBW.out⟩
        · have hbp : (0 : Int) < (b : Int) := by omega
          have HX := Lib.hid (HX2.out wr HBW.out (x : Int) (b : Int))
          have HQ := Lib.hid (HDB.out (x : Nat) (b : Nat))
          generalize doesB l (m : Int) (x : Nat) (b : Nat) [] [] = q at HX HQ
          go_wp2_with fail
          refine HX.out.mono ?_
          rintro e w2 ⟨rfl, hb2⟩
          have HB2 := Lib.hid (then_ HBW.out hb2)
          clear hb2 HX
          cases q
          · have HN2 := Lib.hid (show ¬ Does l (m : Int) (x : Nat) (b : Nat) [] [] from fun h => by have := HQ.out.2 h; cases this)
            obtain ⟨c2, rfl⟩ : ∃ c2, b = c2 + 1 := ⟨b - 1, by omega⟩
            go_wp2_with fail
            refine ⟨⟨c2, by go_num, by omega, Lib.hid (fun b' h1 h2 => ?_), HB2⟩, by simp [intOf]; try omega⟩
            by_cases e : b' = c2 + 1
            · subst e; exact HN2.out
            · exact HNO.out b' (by omega) h2
          · have HF := Lib.hid (HFIN.out x b (HBO.out b (.inr (HQ.out.1 rfl)) HNO.out) rfl)
            go_wp2
            go_ret2
            exact ⟨x, b, rfl, HF.out, HB2.out⟩
    · have hmy2 : ¬ (m : Int) < (y : Int) := by omega
      have e6 : min x m = x := by omega
      have e7 : min y m = y := by omega
      rw [e6, e7] at HBO
      rw [e6] at HFIN
      clear e6 e7
      go_wp2_with fail
      go_loopw [7] (fun v wr => ∃ b : Nat, v = .int .i64 b ∧ b ≤ y ∧ Hid (∀ b' : Nat, b < b' → b' ≤ y → ¬ Does l (m : Int) (x : Nat) (b' : Nat) [] []) ∧ Hid (Below w.heap.size w wr)) (fun v _ => (intOf v).toNat)
      case atStart => exact ⟨y, rfl, Nat.le_refl _, Lib.hid (fun b' h1 h2 => absurd h1 (by omega)), HB⟩
      case round =>
        obtain ⟨b, rfl, hb, HNO, HBW⟩ := hrel
        rcases Nat.eq_zero_or_pos b with hb0 | hb0
        · have HF := Lib.hid (HFIN.out x b (HBO.out b (.inl hb0) HNO.out) rfl)
          have hbz : (b : Int) ≤ 0 := by omega
          go_wp2
          go_ret2
          exact ⟨x, b, rfl, HF.out, HBW.out⟩
        · have hbp : (0 : Int) < (b : Int) := by omega
          have HX := Lib.hid (HX2.out wr HBW.out (x : Int) (b : Int))
          have HQ := Lib.hid (HDB.out (x : Nat) (b : Nat))
          generalize doesB l (m : Int) (x : Nat) (b : Nat) [] [] = q at HX HQ
          go_wp2_with fail
          refine HX.out.mono ?_
          rintro e w2 ⟨rfl, hb2⟩
          have HB2 := Lib.hid (then_ HBW.out hb2)
          clear hb2 HX
          cases q
          · have HN2 := Lib.hid (show ¬ Does l (m : Int) (x : Nat) (b : Nat) [] [] from fun h => by have := HQ.out.2 h; cases this)
            obtain ⟨c2, rfl⟩ : ∃ c2, b = c2 + 1 := ⟨b - 1, by omega⟩
            go_wp2_with fail
            refine ⟨⟨c2, by go_num, by omega, Lib.hid (fun b' h1 h2 => ?_), HB2⟩, by simp [intOf]; try omega⟩
            by_cases e : b' = c2 + 1
            · subst e; exact HN2.out
            · exact HNO.out b' (by omega) h2
          · have HF := Lib.hid (HFIN.out x b (HBO.out b (.inr (HQ.out.1 rfl)) HNO.out) rfl)
            go_wp2
            go_ret2
            exact ⟨x, b, rfl, HF.out, HB2.out⟩
end Go.Proofs.Ytpiinfjcjpdofaa
