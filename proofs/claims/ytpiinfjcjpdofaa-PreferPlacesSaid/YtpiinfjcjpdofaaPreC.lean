/- Who is chosen: plain, and the walk of choose. -/
import Derived.Test.YtpiinfjcjpdofaaPreB
import Derived.Test.YtpiinfjcjpdofaaCovV
import Derived.Test.YtpiinfjcjpdofaaCovJ
import Derived.Deep.Cut
import Derived.Says
import Derived.Deep.RegionHeld3
attribute [local go_sem ↓] Go.wp_at_zero Go.wp_at_succ
namespace Go.Proofs.Ytpiinfjcjpdofaa
open Go.RowKit Go.Mem Go.Cov
set_option linter.unusedVariables false
set_option linter.unusedSimpArgs false

/-- what is picked -/
def pkL (l : List Pair) (many : Int) : List Nat :=
  if 0 ≤ many ∧ many ≤ l.length then (firstC l many.toNat (bestF l (ch l.length many.toNat)).1 (bestF l (ch l.length many.toNat)).2 [] []).getD [] else []
theorem pickR_pk {l : List Pair} {many : Int} {cs : List Nat} (h : PickR l many cs) : cs = pkL l many := by
  unfold pkL
  by_cases hm : 0 ≤ many ∧ many ≤ l.length
  · rw [if_pos hm]
    obtain ⟨m, rfl⟩ : ∃ m : Nat, many = m := ⟨many.toNat, by omega⟩
    obtain ⟨x, y, h1, h2, h3⟩ := h.first m rfl (by omega)
    obtain ⟨rfl, rfl⟩ := h1.eq (best_ch (by omega))
    rw [show ((m : Int)).toNat = m from rfl, h3]; rfl
  · rw [if_neg hm]; exact h.out hm
theorem pickD_pk {l : List Pair} {many : Int} {cs : List Nat} (h : PickD l many cs) : cs = pkL l many := by
  unfold pkL
  by_cases hm : 0 ≤ many ∧ many ≤ l.length
  · rw [if_pos hm]
    obtain ⟨m, rfl⟩ : ∃ m : Nat, many = m := ⟨many.toNat, by omega⟩
    obtain ⟨x, y, h1, h3⟩ := h.first m rfl (by omega)
    obtain ⟨rfl, rfl⟩ := h1.eq (best_ch (by omega))
    rw [show ((m : Int)).toNat = m from rfl, h3]; rfl
  · rw [if_neg hm]; exact h.out hm
theorem pickR_in {l : List Pair} {many : Int} {cs : List Nat} (h : PickR l many cs) : cs.length ≤ l.length ∧ ∀ i ∈ cs, i < l.length := by
  by_cases hm : 0 ≤ many ∧ many ≤ l.length
  · obtain ⟨m, rfl⟩ : ∃ m : Nat, many = m := ⟨many.toNat, by omega⟩
    obtain ⟨x, y, h1⟩ := most_of (by omega) h
    exact ⟨by rw [h1.len]; omega, h1.lt⟩
  · rw [h.out hm]; simp
/-- the names of the picked ones -/
def nmA (ms : List Mb) (ord cs : List Nat) : List ByteArray := cs.filterMap fun i => (ord[i]?).bind fun k => (ms[k]?).map Mb.name
theorem nmA_snoc {ms : List Mb} {ord cs : List Nat} {i : Nat} (h : i < ord.length) (h2 : ord[i] < ms.length) : nmA ms ord (cs ++ [i]) = nmA ms ord cs ++ [ms[ord[i]].name] := by
  unfold nmA; rw [List.filterMap_append]; simp [h, h2]
theorem nmA_le (ms : List Mb) (ord cs : List Nat) : (nmA ms ord cs).length ≤ cs.length := List.length_filterMap_le _ _
/-- who is chosen -/
def chN (ss : List ByteArray) (ms : List Mb) (part many : Int) : List ByteArray :=
  nmA ms (WalkL.order (names ms) ss ByteArray.empty part) (pkL (Pref.pairsOf (rz ms (WalkL.order (names ms) ss ByteArray.empty part))) (min many ms.length))
theorem nats_ints (l : List Nat) : nats l = ints (natI l) := by unfold nats ints natI; rw [List.map_map]; rfl
theorem Kn.low {W W' : World} {base q b : Nat} {K : List ByteArray} (h : Kn W q b K) (hb : Below base W W') (h1 : q < base) (h2 : b < base) : Kn W' q b K :=
  ⟨(World.cell?_of_block (a := ⟨q, 0, none⟩) (hb.block q h1)).trans h.cell, h.dict.block (hb.block b h2)⟩
theorem own_cap {W : World} {base : Nat} {e : TypeId} {sz : Nat} {A : Option Addr} {n c : Nat} {xs : List Value} (h : W.ownsRow base e sz (.slice A n c) n xs) : n ≤ c ∧ c ≤ maxLen := by
  obtain ⟨h1, h2 | ⟨g, cap, cur, e1, e2, e3, e4, e5, e6⟩⟩ := h
  · obtain ⟨h3, h4⟩ := h2
    injection h3 with _ h5 h6
    subst h6
    exact ⟨by omega, by unfold maxLen; omega⟩
  · injection e1 with _ _ h6
    subst h6
    exact ⟨by omega, by omega⟩
theorem okP_pairs {l : List (ByteArray × ByteArray)} (h : l.length ≤ 1000) : okP (Pref.pairsOf l) := fun p hp => by
  unfold Pref.pairsOf at hp
  obtain ⟨q, hq, rfl⟩ := List.mem_map.1 hp
  have h1 := Pref.idx_le (Pref.knl (l.map (·.1))) q.1
  have h2 := Pref.idx_le (Pref.knl (l.map (·.2))) q.2
  have h3 := Pref.knl_len (l.map (·.1))
  have h4 := Pref.knl_len (l.map (·.2))
  rw [List.length_map] at h3 h4
  exact ⟨wf_small (by omega) (by simp only; omega), wf_small (by omega) (by simp only; omega)⟩
theorem min_eq1 {many : Int} {m : Nat} (h : (m : Int) < many) : min many (m : Int) = m := by omega
theorem min_eq2 {many : Int} {m : Nat} (h : ¬ (m : Int) < many) : min many (m : Int) = many := by omega
set_option maxRecDepth 100000 in
set_option maxHeartbeats 16000000 in
theorem prefChoose_any (A : Option Addr) (n c : Nat) (ss : List ByteArray) (B : Option Addr) (m d : Nat) (ms : List Mb) (part many : Int) (w : World) (hr : Rd w A (ss.map Value.string)) (hn : ss.length = n) (hn' : n ≤ 1000) (hr' : Rd w B (ms.flatMap Mb.cells)) (hm : ms.length = m) (hm' : m ≤ 1000) (hp : (Lit.int .i64 part).wf = true)
    (hss : ∀ s ∈ ss, s.size ≤ maxLen) (hms : ∀ x ∈ ms, x.name.size ≤ maxLen ∧ x.rack.size ≤ maxLen ∧ x.zone.size ≤ maxLen) :
    Calls Try.prog 55 #[.slice A n c, .slice B m d, .int .i64 part, .int .i64 many] w (Makes 9 1 (chN ss ms part many).length ((chN ss ms part many).map Value.string) w) := by
  have HO := Lib.hid (order_any A n c ss B m d ms part w hr hn hn' hr' hm hm' hp hss (fun x hx => (hms x hx).1))
  obtain ⟨hnd, hin, hle⟩ := WalkL.order_perm (names ms) ss ByteArray.empty part
  unfold chN
  generalize WalkL.order (names ms) ss ByteArray.empty part = ord at HO hnd hin hle ⊢
  have hnl : (names ms).length = m := by simp [names]; exact hm
  rw [hnl] at hin hle
  rw [hm]
  have HIN := Lib.hid (show ∀ k ∈ ord, k < ms.length by rw [hm]; exact hin)
  have HOL := Lib.hid hle
  have HPL := Lib.hid (show (Pref.pairsOf (rz ms ord)).length = m by rw [Pref.pairsOf_len, rz_len HIN.out, hle])
  have HM := Lib.hid hm; have HR' := Lib.hid hr'; have HMS := Lib.hid hms
  clear hr hn hr' hm hss hms hnd hin hle hnl
  go_enter Try.func55, Try.ntmps55
  go_wp2_with fail
  refine HO.out.mono ?_
  rintro e w1 ⟨v1, rfl, hown, hb1⟩
  rw [HOL.out] at hown
  obtain ⟨Ao, co, rfl⟩ := own_form hown
  have HRO := Lib.hid (show Rd w1 Ao (ints (natI ord)) by have h := Rd.of_own hown; rwa [nats_ints] at h)
  have HR1 := Lib.hid (HR'.out.below hb1); have HB1 := Lib.hid hb1
  clear hown hb1 HO HR'
  go_wp2_with fail
  refine (numbers_any w1).mono ?_
  rintro e w2 ⟨q1, b1, rfl, l1, l2, l3, l4, hkn, hb2⟩
  have HK1 := Lib.hid hkn; have HB2 := Lib.hid hb2
  have HL1 := Lib.hid (And.intro l1 (And.intro l2 (And.intro l3 l4)))
  clear l1 l2 l3 l4 hkn hb2
  go_wp2_with fail
  refine (numbers_any w2).mono ?_
  rintro e w3 ⟨q2, b2, rfl, l1, l2, l3, l4, hkn, hb3⟩
  have HK1 := Lib.hid (HK1.out.below hb3); have HK2 := Lib.hid hkn; have HB3 := Lib.hid (then_ HB2.out hb3)
  have HL : Hid (w1.heap.size ≤ b1 ∧ w1.heap.size ≤ b2 ∧ q1 ≠ b2 ∧ q2 ≠ b1 ∧ b1 ≠ b2 ∧ b1 < w3.heap.size ∧ b2 < w3.heap.size ∧ q1 < w3.heap.size ∧ q2 < w3.heap.size ∧ w1.heap.size ≤ w3.heap.size) := Lib.hid (by have h1 := HL1.out; have h2 := hb3.size; have h3 := HB2.out.size; omega)
  clear l1 l2 l3 l4 hkn hb3 HL1 HB2
  go_wp2_with fail
  go_loopw [12, 26] (fun v i wr => ∃ k : Nat, k ≤ m ∧ i = .int .i64 k ∧ Hid (Kn wr q1 b1 (Pref.knl ((rz ms (ord.take k)).map (·.1)))) ∧ Hid (Kn wr q2 b2 (Pref.knl ((rz ms (ord.take k)).map (·.2)))) ∧ Hid (wr.ownsRow w3.heap.size 50 2 v (Pref.pairsOf (rz ms (ord.take k))).length (prc (Pref.pairsOf (rz ms (ord.take k))))) ∧ Hid (Below w1.heap.size w1 wr) ∧ Hid (w3.heap.size ≤ wr.heap.size)) (fun _ i _ => m - (intOf i).toNat)
  case atStart => exact ⟨0, Nat.zero_le _, rfl, HK1, HK2, Lib.hid (World.ownsRow_nil _ _ _ _), HB3, Lib.hid (Nat.le_refl _)⟩
  case round =>
    clear HK1 HK2 HB3
    obtain ⟨k, hk, rfl, HK1, HK2, HO, HB, HZ⟩ := hrel
    by_cases hlt : k < m
    · have hx : k < ord.length := by have := HOL.out; omega
      have hxm : ord[k] < ms.length := HIN.out _ (List.getElem_mem hx)
      obtain ⟨bo, offo, rfl, hcell2⟩ := (HRO.out.below HB.out).at_ k (by simp [ints, natI]; exact hx)
      simp only [ints, natI, List.map_map, List.getElem_map, Function.comp_apply] at hcell2
      have HT := Lib.hid (List.take_succ_eq_append_getElem hx)
      generalize ord[k] = i at hcell2 HT hxm
      have HSZ := Lib.hid (HMS.out _ (List.getElem_mem hxm))
      have HCS0 := Lib.hid (fun W (h : Below w1.heap.size w1 W) => mb_row (HR1.out.below h) i hxm)
      obtain ⟨b, off, rfl, hc0, hc1, hc2, hc3⟩ := mb_row (HR1.out.below HB.out) i hxm
      have HRZ := Lib.hid (show rz ms (ord.take (k + 1)) = _ by rw [HT.out, rz_snoc hxm])
      have hlen : (rz ms (ord.take k)).length ≤ 1000 := by have h1 := rz_le ms (ord.take k); have h2 := List.length_take_le k ord; have := HOL.out; omega
      generalize ms[i] = x at hc0 hc1 hc2 hc3 HRZ HSZ HCS0
      obtain ⟨nm, rk, zn, up⟩ := x
      simp only at hc0 hc1 hc2 hc3 HRZ HSZ HCS0
      have HCS := Lib.hid (fun W (h : Below w1.heap.size w1 W) => (by
        obtain ⟨b', off', e, _, h1, h2, _⟩ := HCS0.out W h
        injection e with e; injection e with e1 e2; subst e1 e2
        exact ⟨h1, h2⟩ : W.cell? ⟨b, off + i * 4 + 1, none⟩ = some (.string rk) ∧ W.cell? ⟨b, off + i * 4 + 2, none⟩ = some (.string zn)))
      clear HCS0
      have HPS := Lib.hid (Pref.pairsOf_snoc (rz ms (ord.take k)) (rk, zn))
      have HKR : Hid (Pref.knl ((rz ms (ord.take (k + 1))).map (·.1)) = Pref.ins (Pref.knl ((rz ms (ord.take k)).map (·.1))) rk) := Lib.hid (by rw [HRZ.out, List.map_append]; exact Pref.knl_snoc _ _)
      have HKZ : Hid (Pref.knl ((rz ms (ord.take (k + 1))).map (·.2)) = Pref.ins (Pref.knl ((rz ms (ord.take k)).map (·.2))) zn) := Lib.hid (by rw [HRZ.out, List.map_append]; exact Pref.knl_snoc _ _)
      rw [← HRZ.out] at HPS
      have hlr : (Pref.knl ((rz ms (ord.take k)).map (·.1))).length ≤ 1000 := by have := Pref.knl_len ((rz ms (ord.take k)).map (·.1)); rw [List.length_map] at this; omega
      have hlz : (Pref.knl ((rz ms (ord.take k)).map (·.2))).length ≤ 1000 := by have := Pref.knl_len ((rz ms (ord.take k)).map (·.2)); rw [List.length_map] at this; omega
      have hlp : (Pref.pairsOf (rz ms (ord.take k))).length ≤ 1000 := by rw [Pref.pairsOf_len]; omega
      generalize Pref.knl ((rz ms (ord.take k)).map (·.1)) = KR at HK1 HKR hlr HPS
      generalize Pref.knl ((rz ms (ord.take k)).map (·.2)) = KZ at HK2 HKZ hlz HPS
      generalize Pref.pairsOf (rz ms (ord.take k)) = P at HO hlp HPS
      have hkn : (k : Int) < (m : Int) := by omega
      have hk0 : (0 : Int) ≤ (k : Int) := by omega
      have him : (i : Int) < (m : Int) := by have := HM.out; omega
      have hi0 : (0 : Int) ≤ (i : Int) := by omega
      clear hlen hlt
      have hcf := enter_num
      go_wp2_with fail
      clear hcell2 hc0 hc3
      rename World => wp
      have hb : Below wp.heap.size wp wp.drew := (Below.refl _ _).drew
      have HBd : Hid (Below w1.heap.size w1 wp.drew) := Lib.hid HB.out.drew
      have HK1d : Hid (Kn wp.drew q1 b1 KR) := Lib.hid ⟨HK1.out.cell, HK1.out.dict.drew⟩
      have HK2d : Hid (Kn wp.drew q2 b2 KZ) := Lib.hid ⟨HK2.out.cell, HK2.out.dict.drew⟩
      have HOd : Hid (wp.drew.ownsRow w3.heap.size 50 2 u12 P.length (prc P)) := Lib.hid HO.out.drew
      have HZd : Hid (w3.heap.size ≤ wp.drew.heap.size) := Lib.hid HZ.out
      obtain ⟨A12, c12, rfl⟩ := own_form HO.out
      clear HK1 HK2 HO HB HZ hc1 hc2
      refine wp_region_held_drew (S := (fun W => W.cell? ⟨b, off + i * 4 + 1, none⟩ = some (.string rk) ∧ W.cell? ⟨b, off + i * 4 + 2, none⟩ = some (.string zn))) (by kernel_rfl) (HCS.out _ HBd.out) (fun hHeld => ?_)
      refine wpAnyH_take (i := 0) (oi := _) (v := ?vq1) rfl (by kernel_rfl) (by kernel_rfl) (by kernel_rfl) (fun _ _ _ h => h) (Or.inl ⟨by rfl, ?hq1⟩) (by assumption) ?rq1
      case hq1 => (intro w hSw; go_simp; try with_reducible rfl)
      try dsimp only [Act.put, List.getElem_toArray, List.getElem_cons_zero, List.getElem_cons_succ]; try simp only [List.setIfInBounds_toArray, List.set_cons_zero, List.set_cons_succ]
      refine wpAnyH_take (i := 1) (oi := _) (v := ?vq2) rfl (by kernel_rfl) (by kernel_rfl) (by kernel_rfl) (fun _ _ _ h => h) (Or.inl ⟨by rfl, ?hq2⟩) (by assumption) ?rq2
      case hq2 => (intro w hSw; go_simp; try with_reducible rfl)
      try dsimp only [Act.put, List.getElem_toArray, List.getElem_cons_zero, List.getElem_cons_succ]; try simp only [List.setIfInBounds_toArray, List.set_cons_zero, List.set_cons_succ]
      refine wpAnyH_take (i := 2) (oi := _) (v := ?vq3) rfl (by kernel_rfl) (by kernel_rfl) (by kernel_rfl) (fun _ _ _ h => h) (Or.inl ⟨by rfl, ?hq3⟩) (by assumption) ?rq3
      case hq3 => (intro w hSw; go_simp; try with_reducible rfl)
      try dsimp only [Act.put, List.getElem_toArray, List.getElem_cons_zero, List.getElem_cons_succ]; try simp only [List.setIfInBounds_toArray, List.set_cons_zero, List.set_cons_succ]
      refine wpAnyH_take (i := 3) (oi := _) (v := ?vq4) rfl (by kernel_rfl) (by kernel_rfl) (by kernel_rfl) (fun _ _ _ h => h) (Or.inl ⟨by rfl, ?hq4⟩) (by assumption) ?rq4
      case hq4 => (intro w hSw; go_simp; try with_reducible rfl)
      try dsimp only [Act.put, List.getElem_toArray, List.getElem_cons_zero, List.getElem_cons_succ]; try simp only [List.setIfInBounds_toArray, List.set_cons_zero, List.set_cons_succ]
      refine wpAnyH_take (i := 4) (oi := _) (v := ?vq5) rfl (by kernel_rfl) (by kernel_rfl) (by kernel_rfl) (fun _ _ _ h => h) (Or.inl ⟨by rfl, ?hq5⟩) (by assumption) ?rq5
      case hq5 => (intro w hSw; go_simp; try with_reducible rfl)
      try dsimp only [Act.put, List.getElem_toArray, List.getElem_cons_zero, List.getElem_cons_succ]; try simp only [List.setIfInBounds_toArray, List.set_cons_zero, List.set_cons_succ]
      refine wpAnyH_take (i := 5) (oi := _) (v := ?vq6) rfl (by kernel_rfl) (by kernel_rfl) (by kernel_rfl) (fun _ _ _ h => h) (Or.inl ⟨by rfl, ?hq6⟩) (by assumption) ?rq6
      case hq6 => (intro w hSw; go_simp; try with_reducible rfl)
      try dsimp only [Act.put, List.getElem_toArray, List.getElem_cons_zero, List.getElem_cons_succ]; try simp only [List.setIfInBounds_toArray, List.set_cons_zero, List.set_cons_succ]
      refine wpAnyH_take (i := 6) (oi := _) (v := ?vq7) rfl (by kernel_rfl) (by kernel_rfl) (by kernel_rfl) (fun _ _ _ h => h) (Or.inl ⟨by rfl, ?hq7⟩) (by assumption) ?rq7
      case hq7 => (intro w hSw; go_simp; try with_reducible rfl)
      try dsimp only [Act.put, List.getElem_toArray, List.getElem_cons_zero, List.getElem_cons_succ]; try simp only [List.setIfInBounds_toArray, List.set_cons_zero, List.set_cons_succ]
      refine wpAnyH_take (i := 8) (oi := _) (v := ?vq8) rfl (by kernel_rfl) (by kernel_rfl) (by kernel_rfl) (fun _ _ _ h => h) (Or.inl ⟨by rfl, ?hq8⟩) (by assumption) ?rq8
      case hq8 => (intro w hSw; go_simp; try with_reducible rfl)
      try dsimp only [Act.put, List.getElem_toArray, List.getElem_cons_zero, List.getElem_cons_succ]; try simp only [List.setIfInBounds_toArray, List.set_cons_zero, List.set_cons_succ]
      refine wpAnyH_take (i := 9) (oi := _) (v := ?vq9) rfl (by kernel_rfl) (by kernel_rfl) (by kernel_rfl) (fun _ _ _ h => h) (Or.inl ⟨by rfl, ?hq9⟩) (by assumption) ?rq9
      case hq9 => (intro w hSw; go_simp; try with_reducible rfl)
      try dsimp only [Act.put, List.getElem_toArray, List.getElem_cons_zero, List.getElem_cons_succ]; try simp only [List.setIfInBounds_toArray, List.set_cons_zero, List.set_cons_succ]
      refine wpAnyH_take (i := 10) (oi := _) (v := ?vq10) rfl (by kernel_rfl) (by kernel_rfl) (by kernel_rfl) (fun _ _ _ h => h) (Or.inl ⟨by rfl, ?hq10⟩) (by assumption) ?rq10
      case hq10 => (intro w hSw; go_simp; try with_reducible rfl)
      try dsimp only [Act.put, List.getElem_toArray, List.getElem_cons_zero, List.getElem_cons_succ]; try simp only [List.setIfInBounds_toArray, List.set_cons_zero, List.set_cons_succ]
      refine wpAnyH_take (i := 11) (oi := _) (v := ?vq11) rfl (by kernel_rfl) (by kernel_rfl) (by kernel_rfl) (fun _ _ _ h => h) (Or.inl ⟨by rfl, ?hq11⟩) (by assumption) ?rq11
      case hq11 => (intro w hSw; go_simp; try with_reducible rfl)
      try dsimp only [Act.put, List.getElem_toArray, List.getElem_cons_zero, List.getElem_cons_succ]; try simp only [List.setIfInBounds_toArray, List.set_cons_zero, List.set_cons_succ]
      refine wpAnyH_take (i := 12) (oi := _) (v := ?vq12) rfl (by kernel_rfl) (by kernel_rfl) (by kernel_rfl) (fun _ _ _ h => h) (Or.inl ⟨by rfl, ?hq12⟩) (by assumption) ?rq12
      case hq12 => (intro w hSw; go_simp; try with_reducible rfl)
      try dsimp only [Act.put, List.getElem_toArray, List.getElem_cons_zero, List.getElem_cons_succ]; try simp only [List.setIfInBounds_toArray, List.set_cons_zero, List.set_cons_succ]
      refine wpAnyH_take (i := 13) (oi := _) (v := ?vq13) rfl (by kernel_rfl) (by kernel_rfl) (by kernel_rfl) (fun _ _ _ h => h) (Or.inl ⟨by rfl, ?hq13⟩) (by assumption) ?rq13
      case hq13 => (intro w hSw; go_simp; try with_reducible rfl)
      try dsimp only [Act.put, List.getElem_toArray, List.getElem_cons_zero, List.getElem_cons_succ]; try simp only [List.setIfInBounds_toArray, List.set_cons_zero, List.set_cons_succ]
      refine wpAnyH_ready (rs := [7]) (by kernel_rfl) (by simp) ?_
      refine AllReadyH.cons (o := _) rfl (fun K hK => ?_) ?_
      · rw [if_pos (by rfl)]
        go_simp
        refine (num_any q1 b1 KR rk _ HK1d.out HSZ.out.2.1 (by omega)).mono ?_
        rintro e w4 ⟨rfl, hkn4, hg4⟩
        have HBx := Lib.hid (Below.grown HBd.out hg4 HBd.out.size (fun z e => by injection e with e; have := HL.out; omega))
        have HKo := Lib.hid (Kn.kept HK2d.out hg4 HL.out.2.2.2.1 (fun e => HL.out.2.2.2.2.1 e.symm))
        have HOx := Lib.hid (World.ownsRow.kept HOd.out hg4 (by right; intro e; have h1 := (HOd.out.lt _ e).1; have h2 := HL.out; omega))
        have HZx := Lib.hid (Nat.le_trans HZd.out hg4.size)
        have HKm := Lib.hid hkn4
        clear hkn4 hg4 HBd HK1d HK2d HOd HZd
        have HB4 := HBx; have HO4 := HOx; have HZ4 := HZx; have HKm4 := HKm; have HKo4 := HKo
        clear HBx HOx HZx HKm HKo
        go_wp2_with fail
        refine hK.out _ _ (HCS.out _ HB4.out) (fun hHeld => ?_)
        clear hK K
        try dsimp only [Act.put, List.getElem_toArray, List.getElem_cons_zero, List.getElem_cons_succ]; try simp only [List.setIfInBounds_toArray, List.set_cons_zero, List.set_cons_succ]
        refine wpAnyH_ready (rs := [14]) (by kernel_rfl) (by simp) ?_
        refine AllReadyH.cons (o := _) rfl (fun K hK => ?_) ?_
        · rw [if_pos (by rfl)]
          go_simp
          refine (num_any q2 b2 KZ zn _ HKo4.out HSZ.out.2.2 (by omega)).mono ?_
          rintro e w5 ⟨rfl, hkn4, hg4⟩
          have HBx := Lib.hid (Below.grown HB4.out hg4 HB4.out.size (fun z e => by injection e with e; have := HL.out; omega))
          have HKo := Lib.hid (Kn.kept HKm4.out hg4 HL.out.2.2.1 HL.out.2.2.2.2.1)
          have HOx := Lib.hid (World.ownsRow.kept HO4.out hg4 (by right; intro e; have h1 := (HO4.out.lt _ e).1; have h2 := HL.out; omega))
          have HZx := Lib.hid (Nat.le_trans HZ4.out hg4.size)
          have HKm := Lib.hid hkn4
          clear hkn4 hg4 HB4 HKo4 HKm4 HO4 HZ4
          have HB5 := HBx; have HO5 := HOx; have HZ5 := HZx; have HKm5 := HKm; have HKo5 := HKo
          clear HBx HOx HZx HKm HKo
          go_wp2_with fail
          refine hK.out _ _ (HCS.out _ HB5.out) (fun hHeld => ?_)
          clear hK K
          try dsimp only [Act.put, List.getElem_toArray, List.getElem_cons_zero, List.getElem_cons_succ]; try simp only [List.setIfInBounds_toArray, List.set_cons_zero, List.set_cons_succ]
          refine wpAnyH_take (i := 15) (oi := _) (v := ?vq14) rfl (by kernel_rfl) (by kernel_rfl) (by kernel_rfl) (fun _ _ _ h => h) (Or.inl ⟨by rfl, ?hq14⟩) (by assumption) ?rq14
          case hq14 => (intro w hSw; go_simp; try with_reducible rfl)
          try dsimp only [Act.put, List.getElem_toArray, List.getElem_cons_zero, List.getElem_cons_succ]; try simp only [List.setIfInBounds_toArray, List.set_cons_zero, List.set_cons_succ]
          refine wpAnyH_ready (rs := [16]) (by kernel_rfl) (by simp) ?_
          refine AllReadyH.cons (o := _) rfl (fun K hK => ?_) ?_
          · rw [if_pos (by rfl)]
            go_simp
            have hal : Below w5.heap.size w5 (w5.alloc (.cells #[.int .i64 (Pref.idx KR rk : Int), .int .i64 (Pref.idx KZ zn : Int)] 50)) := (Below.refl _ _).alloc (Nat.le_refl _) _
            have HBy := Lib.hid (HB5.out.trans (hal.mono HB5.out.size))
            refine hK.out _ _ (HCS.out _ HBy.out) (fun hHeld => ?_)
            clear hK K
            try dsimp only [Act.put, List.getElem_toArray, List.getElem_cons_zero, List.getElem_cons_succ]; try simp only [List.setIfInBounds_toArray, List.set_cons_zero, List.set_cons_succ]
            refine wpAnyH_ready (rs := [17]) (by kernel_rfl) (by simp) ?_
            refine AllReadyH.cons (o := _) rfl (fun K hK => ?_) ?_
            · refine step_app el_pair (by rfl) (.tmp 30) (.tmp 46) (by rfl) w3.heap.size _ P.length (prc P) (by rfl) (HO5.out.alloc _) (some ⟨w5.heap.size, 0, none⟩) 1 1 [.int .i64 (Pref.idx KR rk : Int), .int .i64 (Pref.idx KZ zn : Int)] (by rfl) rfl (Rd.new w5 #[.int .i64 (Pref.idx KR rk : Int), .int .i64 (Pref.idx KZ zn : Int)] _) (by intro u hu; simp at hu; rcases hu with rfl | rfl <;> rfl) (by unfold maxLen; omega) (by omega) (by have := HZ5.out; simp; omega) ?_
              intro v6 w6 hown6 hbel6 _ _
              have HBz := Lib.hid (HBy.out.trans (hbel6.mono HL.out.2.2.2.2.2.2.2.2.2))
              have HO6 := Lib.hid hown6
              have HK16 := Lib.hid ((HKo5.out.below hal).low hbel6 (by have := HL.out; omega) (by have := HL.out; omega))
              have HK26 := Lib.hid ((HKm5.out.below hal).low hbel6 (by have := HL.out; omega) (by have := HL.out; omega))
              have HZ6 := Lib.hid (Nat.le_trans HZ5.out (Nat.le_trans hal.size hbel6.size))
              refine hK.out _ _ (HCS.out _ HBz.out) (fun hHeld => ?_)
              clear hK K
              try dsimp only [Act.put, List.getElem_toArray, List.getElem_cons_zero, List.getElem_cons_succ]; try simp only [List.setIfInBounds_toArray, List.set_cons_zero, List.set_cons_succ]
              refine wpAnyH_take (i := 18) (oi := _) (v := ?vq15) rfl (by kernel_rfl) (by kernel_rfl) (by kernel_rfl) (fun _ _ _ h => h) (Or.inl ⟨by rfl, ?hq15⟩) (by assumption) ?rq15
              case hq15 => (intro w hSw; go_simp; try with_reducible rfl)
              try dsimp only [Act.put, List.getElem_toArray, List.getElem_cons_zero, List.getElem_cons_succ]; try simp only [List.setIfInBounds_toArray, List.set_cons_zero, List.set_cons_succ]
              refine wpAnyH_done (by kernel_rfl) ?_ _
              go_wp2_with fail
              exact ⟨⟨k + 1, by omega, by go_num, Lib.hid (by rw [HKR.out]; exact HK16.out), Lib.hid (by rw [HKZ.out]; exact HK26.out), Lib.hid (by rw [HPS.out, List.length_append, prc_snoc]; exact HO6.out), HBz, HZ6⟩, by simp [intOf]; omega⟩
            exact AllReadyH.nil
          exact AllReadyH.nil
        exact AllReadyH.nil
      exact AllReadyH.nil
    · have hkn : (m : Int) ≤ (k : Int) := by omega
      have hfull : ord.take k = ord := List.take_of_length_le (by have := HOL.out; omega)
      rw [hfull] at HO
      obtain ⟨A12, c12, rfl⟩ := own_form HO.out
      have HRP := Lib.hid (Rd.of_own HO.out)
      have HCA := Lib.hid (show (Pref.pairsOf (rz ms ord)).length ≤ c12 ∧ c12 ≤ maxLen from own_cap HO.out)
      have HOKP : Hid (okP (Pref.pairsOf (rz ms ord))) := Lib.hid (okP_pairs (by have := HPL.out; rw [Pref.pairsOf_len] at this; omega))
      have HPLe := Lib.hid HPL.out
      clear hfull HO HK1 HK2 hlt
      rename World => w4
      have HRN := Lib.hid (HRO.out.below HB.out); have HRM := Lib.hid (HR1.out.below HB.out); have HB4 := Lib.hid (then_ HB1.out HB.out)
      have HX := Lib.hid (fun many => pick_any A12 (Pref.pairsOf (rz ms ord)).length c12 (Pref.pairsOf (rz ms ord)) many rfl (by rw [HPL.out]; exact hm') HCA.out.1 HCA.out.2 HOKP.out w4 HRP.out)
      have HPI := Lib.hid (fun cs (h : PickR (Pref.pairsOf (rz ms ord)) (min many m) cs) => pickR_in h)
      have HPK := Lib.hid (fun cs (h : PickR (Pref.pairsOf (rz ms ord)) (min many m) cs) => pickR_pk h)
      rw [HPL.out] at HX
      rw [HPL.out]
      have HPI := Lib.hid (fun cs h => by have h9 := HPI.out cs h; rw [HPL.out] at h9; exact h9)
      clear HRO HR1 HB HCA HOKP HRP HPLe HB1
      have HLL := Lib.hid (And.intro hk (And.intro hkn hm'))
      by_cases hmn : (m : Int) < many
      · rw [min_eq1 hmn] at HPI HPK
        have HX2 := Lib.hid (HX.out m)
        go_wp2_with fail
        refine HX2.out.mono ?_
        rintro e w5 ⟨cs, v5, hpr, rfl, hown5, hb5⟩
        have HCK := Lib.hid (HPK.out cs hpr)
        have HCI := Lib.hid (HPI.out cs hpr)
        obtain ⟨A5, c5, rfl⟩ := own_form hown5
        have HCS := Lib.hid (Rd.of_own hown5)
        have HRN5 := Lib.hid (HRN.out.below hb5); have HRM5 := Lib.hid (HRM.out.below hb5); have HB5 := Lib.hid (then_ HB4.out hb5)
        clear hown5 hb5 hpr HX2 HX HPI HPK HRN HRM HB4
        go_wp2_with fail
        go_loopw [15, 56] (fun v i wr => ∃ j : Nat, j ≤ cs.length ∧ i = .int .i64 j ∧ Hid (wr.ownsRow w5.heap.size 9 1 v (nmA ms ord (cs.take j)).length ((nmA ms ord (cs.take j)).map Value.string)) ∧ Hid (Below w5.heap.size w5 wr)) (fun _ i _ => cs.length - (intOf i).toNat)
        case atStart => exact ⟨0, Nat.zero_le _, rfl, Lib.hid (World.ownsRow_nil _ _ _ _), Lib.hid (Below.refl _ _)⟩
        case round =>
          obtain ⟨j, hj, rfl, HO, HB⟩ := hrel
          have hcl := HCI.out.1
          by_cases hlt : j < cs.length
          · have hjm : cs[j] < m := HCI.out.2 _ (List.getElem_mem hlt)
            obtain ⟨b5, off5, rfl, hcell5⟩ := (HCS.out.below HB.out).at_ j (by simp [ints, natI]; exact hlt)
            simp only [ints, natI, List.map_map, List.getElem_map, Function.comp_apply] at hcell5
            have HT := Lib.hid (List.take_succ_eq_append_getElem hlt)
            generalize cs[j] = u at hjm hcell5 HT
            have hux : u < ord.length := by have := HOL.out; omega
            have hum : ord[u] < ms.length := HIN.out _ (List.getElem_mem hux)
            obtain ⟨bo, offo, rfl, hcello⟩ := (HRN5.out.below HB.out).at_ u (by simp [ints, natI]; exact hux)
            simp only [ints, natI, List.map_map, List.getElem_map, Function.comp_apply] at hcello
            have HNS := Lib.hid (show nmA ms ord (cs.take (j + 1)) = _ by rw [HT.out, nmA_snoc hux hum])
            obtain ⟨bm, offm, rfl, hc0, hca, hcb, hcc⟩ := mb_row (HRM5.out.below HB.out) ord[u] hum
            generalize ord[u] = i at hum hcello HNS hc0
            generalize ms[i].name = nm at HNS hc0
            have hll := Nat.le_trans (nmA_le ms ord (cs.take j)) (List.length_take_le j cs)
            generalize nmA ms ord (cs.take j) = U at HO HNS hll
            have h1 : (j : Int) < (cs.length : Int) := by omega
            have h1' : (0 : Int) ≤ (j : Int) := by omega
            have h2 : (u : Int) < (m : Int) := by omega
            have h2' : (0 : Int) ≤ (u : Int) := by omega
            have h3 : (i : Int) < (m : Int) := by have := HM.out; omega
            have h3' : (0 : Int) ≤ (i : Int) := by omega
            have hmx := HLL.out.2.2
            have HZ := Lib.hid HB.out.size
            clear hlt hjm hux hca hcb hcc
            go_wp2_with (at_builtin; (refine wpList_app el_str (by rfl) (.tmp 60) (.tmp 69) (by rfl) w5.heap.size _ U.length _ (by rfl) (HO.out.alloc _) (some ⟨wr.heap.size, 0, none⟩) 1 1 [.string nm] (by rfl) rfl (Rd.new wr #[.string nm] _) (by intro u hu; simp at hu; subst hu; rfl) (by unfold maxLen; omega) (by omega) (by have := HZ.out; simp; omega) ?_; intro v6 w6 hown6 hbel6 _ _))
            exact ⟨⟨j + 1, by omega, by go_num, Lib.hid (by rw [HNS.out, List.map_append, List.length_append]; exact hown6), Lib.hid ((HB.out.alloc HZ.out _).trans hbel6)⟩, by simp [intOf]; omega⟩
          · have h1 : (cs.length : Int) ≤ (j : Int) := by omega
            have hfull : cs.take j = cs := List.take_of_length_le (by omega)
            rw [hfull] at HO
            go_wp2_with fail
            go_ret
            rw [min_eq1 (by omega), ← HCK.out]
            exact ⟨_, rfl, own_mono HO.out HB5.out.size, then_ HB5.out HB.out⟩
      · rw [min_eq2 hmn] at HPI HPK
        have hmn2 : many ≤ (m : Int) := by omega
        have HX2 := Lib.hid (HX.out many)
        go_wp2_with fail
        refine HX2.out.mono ?_
        rintro e w5 ⟨cs, v5, hpr, rfl, hown5, hb5⟩
        have HCK := Lib.hid (HPK.out cs hpr)
        have HCI := Lib.hid (HPI.out cs hpr)
        obtain ⟨A5, c5, rfl⟩ := own_form hown5
        have HCS := Lib.hid (Rd.of_own hown5)
        have HRN5 := Lib.hid (HRN.out.below hb5); have HRM5 := Lib.hid (HRM.out.below hb5); have HB5 := Lib.hid (then_ HB4.out hb5)
        clear hown5 hb5 hpr HX2 HX HPI HPK HRN HRM HB4
        go_wp2_with fail
        go_loopw [15, 56] (fun v i wr => ∃ j : Nat, j ≤ cs.length ∧ i = .int .i64 j ∧ Hid (wr.ownsRow w5.heap.size 9 1 v (nmA ms ord (cs.take j)).length ((nmA ms ord (cs.take j)).map Value.string)) ∧ Hid (Below w5.heap.size w5 wr)) (fun _ i _ => cs.length - (intOf i).toNat)
        case atStart => exact ⟨0, Nat.zero_le _, rfl, Lib.hid (World.ownsRow_nil _ _ _ _), Lib.hid (Below.refl _ _)⟩
        case round =>
          obtain ⟨j, hj, rfl, HO, HB⟩ := hrel
          have hcl := HCI.out.1
          by_cases hlt : j < cs.length
          · have hjm : cs[j] < m := HCI.out.2 _ (List.getElem_mem hlt)
            obtain ⟨b5, off5, rfl, hcell5⟩ := (HCS.out.below HB.out).at_ j (by simp [ints, natI]; exact hlt)
            simp only [ints, natI, List.map_map, List.getElem_map, Function.comp_apply] at hcell5
            have HT := Lib.hid (List.take_succ_eq_append_getElem hlt)
            generalize cs[j] = u at hjm hcell5 HT
            have hux : u < ord.length := by have := HOL.out; omega
            have hum : ord[u] < ms.length := HIN.out _ (List.getElem_mem hux)
            obtain ⟨bo, offo, rfl, hcello⟩ := (HRN5.out.below HB.out).at_ u (by simp [ints, natI]; exact hux)
            simp only [ints, natI, List.map_map, List.getElem_map, Function.comp_apply] at hcello
            have HNS := Lib.hid (show nmA ms ord (cs.take (j + 1)) = _ by rw [HT.out, nmA_snoc hux hum])
            obtain ⟨bm, offm, rfl, hc0, hca, hcb, hcc⟩ := mb_row (HRM5.out.below HB.out) ord[u] hum
            generalize ord[u] = i at hum hcello HNS hc0
            generalize ms[i].name = nm at HNS hc0
            have hll := Nat.le_trans (nmA_le ms ord (cs.take j)) (List.length_take_le j cs)
            generalize nmA ms ord (cs.take j) = U at HO HNS hll
            have h1 : (j : Int) < (cs.length : Int) := by omega
            have h1' : (0 : Int) ≤ (j : Int) := by omega
            have h2 : (u : Int) < (m : Int) := by omega
            have h2' : (0 : Int) ≤ (u : Int) := by omega
            have h3 : (i : Int) < (m : Int) := by have := HM.out; omega
            have h3' : (0 : Int) ≤ (i : Int) := by omega
            have hmx := HLL.out.2.2
            have HZ := Lib.hid HB.out.size
            clear hlt hjm hux hca hcb hcc
            go_wp2_with (at_builtin; (refine wpList_app el_str (by rfl) (.tmp 60) (.tmp 69) (by rfl) w5.heap.size _ U.length _ (by rfl) (HO.out.alloc _) (some ⟨wr.heap.size, 0, none⟩) 1 1 [.string nm] (by rfl) rfl (Rd.new wr #[.string nm] _) (by intro u hu; simp at hu; subst hu; rfl) (by unfold maxLen; omega) (by omega) (by have := HZ.out; simp; omega) ?_; intro v6 w6 hown6 hbel6 _ _))
            exact ⟨⟨j + 1, by omega, by go_num, Lib.hid (by rw [HNS.out, List.map_append, List.length_append]; exact hown6), Lib.hid ((HB.out.alloc HZ.out _).trans hbel6)⟩, by simp [intOf]; omega⟩
          · have h1 : (cs.length : Int) ≤ (j : Int) := by omega
            have hfull : cs.take j = cs := List.take_of_length_le (by omega)
            rw [hfull] at HO
            go_wp2_with fail
            go_ret
            rw [min_eq2 (by omega), ← HCK.out]
            exact ⟨_, rfl, own_mono HO.out HB5.out.size, then_ HB5.out HB.out⟩
end Go.Proofs.Ytpiinfjcjpdofaa
