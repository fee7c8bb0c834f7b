/- The walk of PreferPlaces. -/
import Derived.Test.YtpiinfjcjpdofaaPreM
import Derived.Test.YtpiinfjcjpdofaaBits
import Derived.Deep.Cut
import Derived.Says
attribute [local go_sem ↓] Go.wp_at_zero Go.wp_at_succ
namespace Go.Proofs.Ytpiinfjcjpdofaa
open Go.RowKit Go.Mem Go.Cov
set_option linter.unusedVariables false
set_option linter.unusedSimpArgs false

theorem own_step {ms : List Mb} {k : Nat} (h : Own_ ms k) (h2 : ∀ (j : Nat) (x y : Mb), j < k → ms[k]? = some x → ms[j]? = some y → x.name ≠ y.name) : Own_ ms (k + 1) := fun i j x y hji hi hx hy => by
  rcases Nat.lt_or_ge i k with hlt | hge
  · exact h i j x y hji hlt hx hy
  · obtain rfl : i = k := by omega
    exact h2 j x y hji hx hy
set_option maxRecDepth 100000 in
set_option maxHeartbeats 16000000 in
theorem preferPlaces_walk (A : Option Addr) (n c : Nat) (ss : List ByteArray) (B : Option Addr) (m d : Nat) (ms : List Mb) (nn : Int × Int) (w : World) (hr : Rd w A (ss.map Value.string)) (hn : ss.length = n) (hn' : n ≤ maxLen) (hr' : Rd w B (ms.flatMap Mb.cells)) (hm : ms.length = m) (hm' : m ≤ maxLen) (hok : ∀ x ∈ ms, True) (hwf : wf2i nn) :
    Calls Try.prog 9 #[.slice A n c, .slice B m d, .agg (arr2i nn)] w fun e w' => e = .returned (.bool true) ∧ Below w.heap.size w w' := by
  obtain ⟨z0, z1⟩ := nn
  obtain ⟨hz0, hz1⟩ := hwf
  simp only at hz0 hz1
  have hb0 := (Below.refl w.heap.size w).alloc (Nat.le_refl _) (.cells #[.int .i64 z0, .int .i64 z1] 50)
  have HN0 := Lib.hid (show (w.alloc (.cells #[.int .i64 z0, .int .i64 z1] 50)).cell? ⟨w.heap.size, 0, none⟩ = some (.int .i64 z0) ∧ (w.alloc (.cells #[.int .i64 z0, .int .i64 z1] 50)).cell? ⟨w.heap.size, 1, none⟩ = some (.int .i64 z1) from
    ⟨by rw [World.cell?_alloc_at _ _ _ _ rfl]; rfl, by rw [World.cell?_alloc_at _ _ _ _ rfl]; rfl⟩)
  have HR := Lib.hid (hr.below hb0); have HR' := Lib.hid (hr'.below hb0); have HB0 := Lib.hid hb0; have HN := Lib.hid hn; have HM := Lib.hid hm
  clear hr hr' hb0 hok
  unfold arr2i
  simp only
  go_enter Try.func9, Try.ntmps9
  go_wp2_with fail
  generalize w.alloc (.cells #[.int .i64 z0, .int .i64 z1] 50) = W0 at HN0 HR HR' HB0 ⊢
  generalize hnb : w.heap.size = nb at HN0 ⊢
  clear hnb
  refine (few18_any A n c ss W0 HR.out HN.out hn').mono ?_
  rintro e w1 ⟨b1, hb1, rfl, rfl⟩
  have HF1 := Lib.hid hb1; clear hb1
  cases b1 with
  | false =>
    go_wp2_with fail
    refine (awake18_any _).mono ?_
    rintro e w2 ⟨rfl, hb⟩
    go_wp2_with fail
    go_ret
    exact ⟨rfl, then_ HB0.out hb⟩
  | true =>
    go_wp2_with fail
    refine (few13_any B m d ms 9 W0 HR'.out HM.out hm' (by omega)).mono ?_
    rintro e w2 ⟨b2, hb2, rfl, rfl⟩
    have HF2 := Lib.hid hb2; clear hb2
    cases b2 with
    | false =>
      go_wp2_with fail
      refine (awake18_any _).mono ?_
      rintro e w2 ⟨rfl, hb⟩
      go_wp2_with fail
      go_ret
      exact ⟨rfl, then_ HB0.out hb⟩
    | true =>
      obtain ⟨hn20, hss⟩ := HF1.out (by simp)
      obtain ⟨hm8, hms⟩ := HF2.out (by simp)
      have HSS := Lib.hid (show ∀ s ∈ ss, s.size ≤ maxLen from fun s hs => Nat.le_trans (hss s hs) (by unfold maxLen; omega))
      have HMS := Lib.hid (okM_few hms)
      clear hss hms HF1 HF2
      go_wp2_with fail
      go_loopw [7] (fun i wr => ∃ k : Nat, k ≤ m ∧ i = .int .i64 k ∧ Hid (Own_ ms k) ∧ Hid (Below W0.heap.size W0 wr)) (fun i _ => m - (intOf i).toNat)
      case atStart => exact ⟨0, Nat.zero_le _, rfl, Lib.hid (fun i j x y _ h => by omega), Lib.hid (Below.refl _ _)⟩
      case round =>
        obtain ⟨k, hk, rfl, HOW, HB⟩ := hrel
        by_cases hlt : k < m
        · have hkm : (k : Int) < (m : Int) := by omega
          have hk0 : (0 : Int) ≤ (k : Int) := by omega
          go_wp2_with fail
          rename World => wo
          go_loopw [8] (fun i wq => ∃ j : Nat, j ≤ k ∧ i = .int .i64 j ∧ Hid (∀ (q : Nat) (x y : Mb), q < j → ms[k]? = some x → ms[q]? = some y → x.name ≠ y.name) ∧ Hid (Below W0.heap.size W0 wq)) (fun i _ => k - (intOf i).toNat)
          case atStart => exact ⟨0, Nat.zero_le _, rfl, Lib.hid (fun q x y h => by omega), HB⟩
          case round =>
            clear HB
            obtain ⟨j, hj, rfl, HQ, HB⟩ := hrel
            by_cases hlj : j < k
            · have hx : k < ms.length := by have := HM.out; omega
              have hxj : j < ms.length := by have := HM.out; omega
              obtain ⟨b, off, rfl, hc0, _, _, _⟩ := mb_row (HR'.out.below HB.out) k hx
              obtain ⟨b', off', hbe, hd0, _, _, _⟩ := mb_row (HR'.out.below HB.out) j hxj
              injection hbe with hbe; injection hbe with hbe1 hbe2; subst hbe1 hbe2
              have HGK := Lib.hid (List.getElem?_eq_getElem hx); have HGJ := Lib.hid (List.getElem?_eq_getElem hxj)
              generalize ms[k] = xk at hc0 HGK
              generalize ms[j] = xj at hd0 HGJ
              obtain ⟨s, s1, s2, s3⟩ := xk; obtain ⟨t, t1, t2, t3⟩ := xj
              simp only at hc0 hd0
              have hjk : (j : Int) < (k : Int) := by omega
              have hj0 : (0 : Int) ≤ (j : Int) := by omega
              have hjm : (j : Int) < (m : Int) := by omega
              by_cases hst : s = t
              · subst hst
                have he : (s.toList == s.toList) = true := by simp
                go_wp2_with fail
                go_quiet (fail)
                rename_i nq
                have HB2 := Lib.hid (drewN_ HB.out nq)
                go_wp2_with fail
                refine (awake18_any _).mono ?_
                rintro e w2 ⟨rfl, hb⟩
                go_wp2_with fail
                go_ret
                exact ⟨rfl, then_ HB0.out (then_ HB2.out hb)⟩
              · have he : (s.toList == t.toList) = false := by rw [str_beq]; exact decide_eq_false hst
                have HST := Lib.hid hst
                clear hst
                go_wp2_with fail
                go_quiet (fail)
                rename_i nq
                have HB2 := Lib.hid (drewN_ HB.out nq)
                go_wp2_with fail
                refine ⟨⟨j + 1, by omega, by go_num, Lib.hid (fun q x y hq hx hy => ?_), HB2⟩, by simp [intOf]; omega⟩
                rcases Nat.lt_or_ge q j with h | h
                · exact HQ.out q x y h hx hy
                · obtain rfl : q = j := by omega
                  rw [HGK.out] at hx; rw [HGJ.out] at hy
                  injection hx with hx; injection hy with hy
                  subst hx hy
                  exact HST.out
            · have hjk : (k : Int) ≤ (j : Int) := by omega
              obtain rfl : j = k := by omega
              have HOW2 := Lib.hid (own_step HOW.out HQ.out)
              go_wp2_with fail
              exact ⟨⟨j + 1, by omega, by go_num, HOW2, HB⟩, by simp [intOf]; omega⟩
        · have hkm : (m : Int) ≤ (k : Int) := by omega
          have HNN := Lib.hid (own_names HM.out (by have h := HOW.out; rwa [show k = m by omega] at h))
          have HN1 := Lib.hid (And.intro (cell_below HB.out HN0.out.1) (cell_below HB.out HN0.out.2))
          have hc0 := HN1.out.1; have hc1 := HN1.out.2
          rename World => wo
          obtain ⟨q, hq, hq0, hq1⟩ : ∃ q : Int, bits BinOp.and IntKind.i64 z1 15 = q ∧ 0 ≤ q ∧ q ≤ 15 := ⟨z1 % 16, by have h := i64_mask 4 (by omega) z1; exact h, by omega, by omega⟩
          have hqw : IntKind.i64.wrap (1 + q) = 1 + q := IntWalk.i64_in _ (by omega)
          go_wp2_with fail
          go_quiet (fail)
          rename_i nq
          have HB1 := Lib.hid (drewN_ HB.out nq)
          clear HB HN1 HN0 hc0 hc1 hq hqw HOW
          generalize wo.drewN nq = w1 at HB1 ⊢
          obtain ⟨N, hN⟩ : ∃ N : Int, N = 1 + q := ⟨_, rfl⟩
          rw [← hN]
          have hN1 : 1 ≤ N := by omega
          have hN2 : N ≤ 16 := by omega
          clear hN hq0 hq1 hlt
          go_wp2_with fail
          refine (rUp_any B m d ms w1 (HR'.out.below HB1.out) HM.out (by omega)).mono ?_
          rintro e w2 ⟨v2, rfl, hown, hb2⟩
          obtain ⟨A2, c2, rfl⟩ := own_form hown
          have HRU := Lib.hid (Rd.of_own hown)
          have HRS := Lib.hid (HR.out.below (then_ HB1.out hb2)); have HRM := Lib.hid (HR'.out.below (then_ HB1.out hb2)); have HB2 := Lib.hid (then_ HB0.out (then_ HB1.out hb2))
          clear hown hb2 HR HR' HB0 HB1
          have HL := Lib.hid (list_any A n c ss B m d ms z0 N w2 HRS.out HN.out (by omega) HRM.out HM.out (by omega) hz0 HSS.out HMS.out)
          obtain ⟨u, hu⟩ : ∃ u, u = (upM ms).length := ⟨_, rfl⟩
          have hum : u ≤ 9 := by rw [hu]; exact Nat.le_trans (upM_len ms) (by rw [HM.out]; exact hm8)
          obtain ⟨K, hK⟩ : ∃ K : Nat, (K : Int) = min N ((upM ms).length : Int) := ⟨(min N ((upM ms).length : Int)).toNat, by omega⟩
          obtain ⟨gi, hplc⟩ := places ss (upM ms) z0 N K hK
          have HLN := Lib.hid (show nodesF (listF ss ms z0 N) = chN ss (upM ms) z0 N by unfold listF; rw [show mayB N = true by unfold mayB; simp; omega]; simp only [↓reduceIte]; exact nodes_cho _ _)
          have HPL := Lib.hid hplc
          have HLL := Lib.hid (show (listF ss ms z0 N).length = K by have h := congrArg List.length HLN.out; rw [hplc.nlen] at h; unfold nodesF at h; rwa [List.length_map] at h)
          rw [← hu] at hK ⊢
          generalize listF ss ms z0 N = l at HL HLN HLL
          generalize chN ss (upM ms) z0 N = nds at HLN HPL hplc
          have hgl := hplc.len
          have HUL := Lib.hid hu.symm
          have HUN := Lib.hid (fun i j x y => up_inj (ms := ms) HNN.out (i := i) (j := j) (x := x) (y := y))
          generalize upM ms = U at HRU HPL HUL HUN hplc hu
          clear hplc hu HMS HSS HNN HRS HRM
          have hKu : K ≤ u := by omega
          have HK := Lib.hid hK
          clear hK
          go_wp2_with fail
          refine HL.out.mono ?_
          rintro e w3 ⟨v3, rfl, hown, hb3⟩
          rw [HLL.out] at hown
          obtain ⟨A3, c3, rfl⟩ := own_form hown
          have HRL := Lib.hid (Rd.of_own hown); have HRU := Lib.hid (HRU.out.below hb3); have HB3 := Lib.hid (then_ HB2.out hb3)
          clear hown hb3 HB2 HL
          by_cases hmn : (u : Int) < N
          · have hKe : ((K : Int) != (u : Int)) = false := by have hK := HK.out; simp; omega
            have hKe2 : (K != u) = false := by have hK := HK.out; simp; omega
            go_wp2_with fail
            go_loopw [13, 14] (fun v i wr => ∃ k : Nat, k ≤ K ∧ i = .int .i64 k ∧ Hid (wr.ownsRow w3.heap.size 34 4 v k ((gotM U (gi.take k)).flatMap Mb.cells)) ∧ Hid (Below w3.heap.size w3 wr)) (fun _ i _ => K - (intOf i).toNat)
            case atStart => exact ⟨0, Nat.zero_le _, rfl, Lib.hid (World.ownsRow_nil _ _ _ _), Lib.hid (Below.refl _ _)⟩
            case round =>
              obtain ⟨k, hk, rfl, HO, HB⟩ := hrel
              obtain ⟨A4, c4, rfl⟩ := own_form HO.out
              by_cases hlt : k < K
              · have hkg : k < gi.length := by omega
                have hkl : k < l.length := by have := HLL.out; omega
                have hgu : gi[k] < u := by have h := HPL.out.lt _ (List.getElem_mem hkg); rwa [HUL.out] at h
                have HTK := Lib.hid (List.take_succ_eq_append_getElem hkg)
                have HNO : Hid (∀ (j : Nat) (x : Mb), U[j]? = some x → (x.name = l[k].node ↔ j = gi[k])) := Lib.hid (by
                  intro j x hx
                  obtain ⟨y, hy, hyn⟩ := HPL.out.at_ k gi[k] l[k].node (List.getElem?_eq_getElem hkg) (by rw [← HLN.out]; unfold nodesF; rw [List.getElem?_map, List.getElem?_eq_getElem hkl]; rfl)
                  constructor
                  · intro e; exact HUN.out j gi[k] x y hx hy (by rw [e, hyn])
                  · rintro rfl; rw [hy] at hx; injection hx with hx; subst hx; exact hyn)
                have HNQ : Hid (∀ (q : Nat) (hq : q < k), (l[q]'(by omega)).node ≠ l[k].node) := Lib.hid (by
                  intro q hq he
                  have hqg : q < gi.length := by omega
                  obtain ⟨y, hy, hyn⟩ := HPL.out.at_ q gi[q] (l[q]'(by omega)).node (List.getElem?_eq_getElem hqg) (by rw [← HLN.out]; unfold nodesF; rw [List.getElem?_map, List.getElem?_eq_getElem (show q < l.length by omega)]; rfl)
                  have h1 := (HNO.out gi[q] y hy).1 (by rw [hyn, he])
                  have h2 := (List.getElem_inj HPL.out.nd).1 h1
                  omega)
                have HCH := Lib.hid (fun W (h : Below w3.heap.size w3 W) => cho_row (HRL.out.below h) k hkl)
                have hkl2 : k < l.length := hkl
                generalize gi[k] = g at hgu HTK HNO
                have hkK : (k : Int) < (K : Int) := by omega
                have hk0 : (0 : Int) ≤ (k : Int) := by omega
                go_wp2_with fail
                rename World => wk
                go_loopw [15, 16] (fun v i wq => ∃ j : Nat, j ≤ u ∧ i = .int .i64 j ∧ v = .int .i64 (if g < j then (g : Int) else -1) ∧ Hid (Below wk.heap.size wk wq)) (fun _ i _ => u - (intOf i).toNat)
                case atStart => exact ⟨0, Nat.zero_le _, rfl, by simp, Lib.hid (Below.refl _ _)⟩
                case round =>
                  obtain ⟨j, hj, rfl, rfl, HBQ⟩ := hrel
                  rename World => wq
                  have HB4 := Lib.hid (then_ HB.out HBQ.out)
                  by_cases hlj : j < u
                  · have hxj : j < U.length := by have := HUL.out; omega
                    obtain ⟨b, off, rfl, hc0, _, _, _⟩ := mb_row (HRU.out.below HB4.out) j hxj
                    obtain ⟨b2, off2, rfl, hd0, hd1⟩ := HCH.out wq HB4.out
                    have HNJ := Lib.hid (HNO.out j U[j] (List.getElem?_eq_getElem hxj))
                    generalize U[j].name = s at hc0 HNJ
                    generalize l[k].node = t at hd0 HNJ
                    clear hd1
                    have hju : (j : Int) < (u : Int) := by omega
                    have hj0 : (0 : Int) ≤ (j : Int) := by omega
                    by_cases hst : s = t
                    · have hgj : j = g := HNJ.out.1 hst
                      subst hst
                      have he : (s.toList == s.toList) = true := by simp
                      generalize (if g < j then (g : Int) else -1) = at0
                      have HGJ := Lib.hid hgj
                      clear hgj HNJ
                      go_wp2_with fail
                      go_quiet (fail)
                      go_wp2_with fail
                      exact ⟨⟨j + 1, by omega, by go_num, by rw [if_pos (by have := HGJ.out; omega), HGJ.out], Lib.hid (drewN_ HBQ.out _)⟩, by simp [intOf]; omega⟩
                    · have hgj : ¬ j = g := fun h => hst (HNJ.out.2 h)
                      have he : (s.toList == t.toList) = false := by rw [str_beq]; exact decide_eq_false hst
                      have HGJ : Hid ((if g < j then (g : Int) else -1) = (if g < j + 1 then (g : Int) else -1)) := Lib.hid (by by_cases h : g < j; rw [if_pos h, if_pos (by omega)]; rw [if_neg h, if_neg (by omega)])
                      generalize (if g < j then (g : Int) else -1) = at0 at HGJ
                      clear hgj HNJ hst
                      go_wp2_with fail
                      go_quiet (fail)
                      go_wp2_with fail
                      exact ⟨⟨j + 1, by omega, by go_num, by rw [HGJ.out], Lib.hid (drewN_ HBQ.out _)⟩, by simp [intOf]; omega⟩
                  · have hju : (u : Int) ≤ (j : Int) := by omega
                    rw [if_pos (show g < j by omega)]
                    have hg0 : (0 : Int) ≤ (g : Int) := by omega
                    have hgu2 : (g : Int) < (u : Int) := by omega
                    clear hlj
                    go_wp2_with fail
                    have hdn : decide (j < u) = false := by simp; omega
                    simp only [hdn]
                    clear hdn
                    go_loopw [17] (fun i wz => ∃ q : Nat, q ≤ k ∧ i = .int .i64 q ∧ Hid (Below wk.heap.size wk wz)) (fun i _ => k - (intOf i).toNat)
                    case atStart => exact ⟨0, Nat.zero_le _, rfl, HBQ⟩
                    case round =>
                      clear HBQ HB4
                      obtain ⟨q, hq, rfl, HBQ⟩ := hrel
                      rename World => wz
                      have HB4 := Lib.hid (then_ HB.out HBQ.out)
                      by_cases hlq : q < k
                      · have hql : q < l.length := by omega
                        obtain ⟨b, off, rfl, hc0, hc1⟩ := cho_row (HRL.out.below HB4.out) q hql
                        obtain ⟨b2, off2, hbe, hd0, hd1⟩ := HCH.out wz HB4.out
                        injection hbe with hbe; injection hbe with hbe1 hbe2; subst hbe1 hbe2
                        have hne := HNQ.out q hlq
                        generalize l[q].node = s at hc0 hne
                        generalize l[k].node = t at hd0 hne
                        have he : (s.toList == t.toList) = false := by rw [str_beq]; exact decide_eq_false hne
                        have hqk : (q : Int) < (k : Int) := by omega
                        have hq0 : (0 : Int) ≤ (q : Int) := by omega
                        have hqK : (q : Int) < (K : Int) := by omega
                        clear hc1 hd1 hne hlq
                        go_wp2_with fail
                        go_quiet (fail)
                        go_wp2_with fail
                        exact ⟨⟨q + 1, by omega, by go_num, Lib.hid (drewN_ HBQ.out _)⟩, by simp [intOf]; omega⟩
                      · have hqk : (k : Int) ≤ (q : Int) := by omega
                        have hgU : g < U.length := by have := HUL.out; omega
                        obtain ⟨b, off, rfl, hc0, hc1, hc2, hc3⟩ := mb_row (HRU.out.below HB4.out) g hgU
                        have HGM := Lib.hid (show gotM U (gi.take (k + 1)) = _ by rw [HTK.out, gotM_snoc hgU])
                        generalize U[g] = x at hc0 hc1 hc2 hc3 HGM
                        obtain ⟨nm, rk, zn, up⟩ := x
                        simp only at hc0 hc1 hc2 hc3
                        have HO1 := Lib.hid (own_below HO.out HBQ.out)
                        have HZ := Lib.hid HB4.out.size
                        clear hlq
                        go_wp2_with (at_builtin; (refine wpList_app el_mb (by rfl) (.tmp 114) (.tmp 119) (by rfl) w3.heap.size _ k _ (by rfl) (HO1.out.alloc _) (some ⟨wz.heap.size, 0, none⟩) 1 1 [.string nm, .string rk, .string zn, .bool up] (by rfl) rfl (Rd.new wz #[.string nm, .string rk, .string zn, .bool up] _) (by intro u hu; simp at hu; rcases hu with rfl | rfl | rfl | rfl <;> rfl) (by unfold maxLen; omega) (by omega) (by have := HZ.out; simp; omega) ?_; intro v6 w6 hown6 hbel6 _ _))
                        exact ⟨⟨k + 1, by omega, by go_num, Lib.hid (by rw [HGM.out, List.flatMap_append]; exact hown6), Lib.hid ((HB4.out.alloc HZ.out _).trans hbel6)⟩, by simp [intOf]; omega⟩
              · have hkK : (K : Int) ≤ (k : Int) := by omega
                have hkk : k = K := by omega
                have hfull : gi.take k = gi := List.take_of_length_le (by omega)
                rw [hfull, hkk] at HO
                rw [hkk]
                have HGL := Lib.hid (show (gotM U gi).length = K by rw [gotM_len HPL.out.lt]; exact hgl)
                have HRG := Lib.hid (Rd.of_own HO.out)
                have HGR := Lib.hid HPL.out.rk; have HBT := Lib.hid HPL.out.both
                rw [HUL.out] at HBT
                generalize gotM U gi = G at HRG HGL HGR HBT
                have HRU := Lib.hid (HRU.out.below HB.out)
                clear hfull HO hlt hkK HRL HUN HPL HLN HLL
                rename World => w4
                go_wp2_with fail
                refine (racks_any A2 u c2 U w4 HRU.out HUL.out (by omega)).mono ?_
                rintro e w5 ⟨r1, A5, c5, ⟨hrs, hmem, hle1⟩, rfl, hrd, _, _, hb⟩
                have hR1 : r1.length = (Pref.knl (U.map Mb.rack)).length := len_knl hrs hmem
                rw [← hR1] at HGR HBT
                have HRG := Lib.hid (HRG.out.below hb); have HRU := Lib.hid (HRU.out.below hb); have HB := Lib.hid (then_ HB.out hb)
                clear hrs hmem hrd hb hR1
                generalize r1.length = R at HGR HBT hle1 ⊢
                by_cases hRN : (R : Int) < N
                · have hRN2 := Lib.hid hRN
                  go_wp2_with fail
                  refine (zones_any A2 u c2 U w5 HRU.out HUL.out (by omega)).mono ?_
                  rintro e w6 ⟨r2, A6, c6, ⟨hrs, hmem, hle2⟩, rfl, hrd, _, _, hb⟩
                  have hR2 : r2.length = (Pref.knl (U.map Mb.zone)).length := len_knl hrs hmem
                  rw [← hR2] at HBT
                  have HRG := Lib.hid (HRG.out.below hb); have HRU := Lib.hid (HRU.out.below hb); have HB := Lib.hid (then_ HB.out hb)
                  clear hrs hmem hrd hb hR2
                  generalize r2.length = Z at HBT hle2 ⊢
                  by_cases hZN : (Z : Int) < N
                  · have hZN2 := Lib.hid hZN
                    have HRK : Hid (((min R K : Nat) : Int) = (R : Int) ∧ ((min Z K : Nat) : Int) = (Z : Int)) := Lib.hid (by have hK := HK.out; omega)
                    have HBO := Lib.hid HBT.out
                    rw [HRK.out.1, HRK.out.2] at HBO
                    go_wp2_with fail
                    refine (racks_any A4 K c4 G w6 HRG.out HGL.out (by omega)).mono ?_
                    rintro e w7 ⟨r3, A7, c7, ⟨hrs, hmem, hle3⟩, rfl, hrd, _, _, hb⟩
                    have hR3 : r3.length = min R K := by rw [len_knl hrs hmem]; exact HGR.out
                    have hne1 : ((r3.length : Int) != (R : Int)) = false := by have h := HRK.out.1; simp; omega
                    have HRG := Lib.hid (HRG.out.below hb); have HRU := Lib.hid (HRU.out.below hb); have HB := Lib.hid (then_ HB.out hb)
                    clear hrs hmem hrd hb hle3 hR3
                    go_wp2_with fail
                    clear hne1
                    refine (zones_any A4 K c4 G w7 HRG.out HGL.out (by omega)).mono ?_
                    rintro e w8 ⟨r4, A8, c8, ⟨hrs, hmem, hle4⟩, rfl, hrd, _, _, hb⟩
                    have hR4 : r4.length = (Pref.knl (G.map Mb.zone)).length := len_knl hrs hmem
                    rw [← hR4] at HBO
                    have HRU := Lib.hid (HRU.out.below hb); have HB := Lib.hid (then_ HB.out hb)
                    clear hrs hmem hrd hb hR4
                    go_wp2_with fail
                    refine (all_any u w8 (by omega)).mono ?_
                    rintro e w9 ⟨v9, rfl, hown, hb⟩
                    obtain ⟨A9, c9, rfl⟩ := own_form hown
                    have HRO := Lib.hid (Rd.of_own hown); have HRU := Lib.hid (HRU.out.below hb); have HB := Lib.hid (then_ HB.out hb)
                    clear hown hb
                    go_wp2_with fail
                    refine (rPairs_any A2 u c2 U A9 u c9 (List.range u) (fun k hk => by rw [HUL.out]; exact List.mem_range.1 hk) w9 HRU.out HUL.out HRO.out (by simp) (by omega)).mono ?_
                    rintro e w10 ⟨v10, rfl, hown, hb⟩
                    have hpl : (Pref.pairsOf (rz U (List.range u))).length = u := by rw [Pref.pairsOf_len, rz_len (fun k hk => by rw [HUL.out]; exact List.mem_range.1 hk), List.length_range]
                    rw [hpl] at hown
                    obtain ⟨A10, c10, rfl⟩ := own_form hown
                    have HRP := Lib.hid (Rd.of_own hown); have HB := Lib.hid (then_ HB.out hb)
                    have HCA := Lib.hid (rCan_any A10 u c10 (Pref.pairsOf (rz U (List.range u))) (K : Int) (R : Int) (Z : Int) hpl (by omega) w10 HRP.out)
                    rw [HBO.out] at HCA
                    clear hown hb hpl HRO HRU
                    go_wp2_with fail
                    refine HCA.out.mono ?_
                    rintro e w11 ⟨rfl, hb⟩
                    have HB := Lib.hid (then_ HB.out hb)
                    clear hb HCA HRP HBO
                    have hzk := HRK.out.2
                    by_cases hrz : r4.length = min Z K
                    · have hd : decide (r4.length = min Z K) = true := by simp [hrz]
                      have he : ((r4.length : Int) == (Z : Int)) = true := by simp; omega
                      rw [hd]
                      clear hrz hd
                      generalize (r4.length : Int) = a4 at he ⊢
                      clear hzk
                      go_wp2_with fail
                      refine (awake18_any _).mono ?_
                      rintro e w12 ⟨rfl, hb⟩
                      go_wp2_with fail
                      go_ret
                      exact ⟨rfl, then_ HB3.out (then_ HB.out hb)⟩
                    · have hd : decide (r4.length = min Z K) = false := by simp [hrz]
                      have he : ((r4.length : Int) == (Z : Int)) = false := by simp; omega
                      rw [hd]
                      clear hrz hd
                      generalize (r4.length : Int) = a4 at he ⊢
                      clear hzk
                      go_wp2_with fail
                      refine (awake18_any _).mono ?_
                      rintro e w12 ⟨rfl, hb⟩
                      go_wp2_with fail
                      go_ret
                      exact ⟨rfl, then_ HB3.out (then_ HB.out hb)⟩
                  · exfalso; omega
                · exfalso; omega
          · have hmn2 : N ≤ (u : Int) := by omega
            have hKe : ((K : Int) != N) = false := by have hK := HK.out; simp; omega
            go_wp2_with fail
            go_loopw [13, 14] (fun v i wr => ∃ k : Nat, k ≤ K ∧ i = .int .i64 k ∧ Hid (wr.ownsRow w3.heap.size 34 4 v k ((gotM U (gi.take k)).flatMap Mb.cells)) ∧ Hid (Below w3.heap.size w3 wr)) (fun _ i _ => K - (intOf i).toNat)
            case atStart => exact ⟨0, Nat.zero_le _, rfl, Lib.hid (World.ownsRow_nil _ _ _ _), Lib.hid (Below.refl _ _)⟩
            case round =>
              obtain ⟨k, hk, rfl, HO, HB⟩ := hrel
              obtain ⟨A4, c4, rfl⟩ := own_form HO.out
              by_cases hlt : k < K
              · have hkg : k < gi.length := by omega
                have hkl : k < l.length := by have := HLL.out; omega
                have hgu : gi[k] < u := by have h := HPL.out.lt _ (List.getElem_mem hkg); rwa [HUL.out] at h
                have HTK := Lib.hid (List.take_succ_eq_append_getElem hkg)
                have HNO : Hid (∀ (j : Nat) (x : Mb), U[j]? = some x → (x.name = l[k].node ↔ j = gi[k])) := Lib.hid (by
                  intro j x hx
                  obtain ⟨y, hy, hyn⟩ := HPL.out.at_ k gi[k] l[k].node (List.getElem?_eq_getElem hkg) (by rw [← HLN.out]; unfold nodesF; rw [List.getElem?_map, List.getElem?_eq_getElem hkl]; rfl)
                  constructor
                  · intro e; exact HUN.out j gi[k] x y hx hy (by rw [e, hyn])
                  · rintro rfl; rw [hy] at hx; injection hx with hx; subst hx; exact hyn)
                have HNQ : Hid (∀ (q : Nat) (hq : q < k), (l[q]'(by omega)).node ≠ l[k].node) := Lib.hid (by
                  intro q hq he
                  have hqg : q < gi.length := by omega
                  obtain ⟨y, hy, hyn⟩ := HPL.out.at_ q gi[q] (l[q]'(by omega)).node (List.getElem?_eq_getElem hqg) (by rw [← HLN.out]; unfold nodesF; rw [List.getElem?_map, List.getElem?_eq_getElem (show q < l.length by omega)]; rfl)
                  have h1 := (HNO.out gi[q] y hy).1 (by rw [hyn, he])
                  have h2 := (List.getElem_inj HPL.out.nd).1 h1
                  omega)
                have HCH := Lib.hid (fun W (h : Below w3.heap.size w3 W) => cho_row (HRL.out.below h) k hkl)
                have hkl2 : k < l.length := hkl
                generalize gi[k] = g at hgu HTK HNO
                have hkK : (k : Int) < (K : Int) := by omega
                have hk0 : (0 : Int) ≤ (k : Int) := by omega
                go_wp2_with fail
                rename World => wk
                go_loopw [15, 16] (fun v i wq => ∃ j : Nat, j ≤ u ∧ i = .int .i64 j ∧ v = .int .i64 (if g < j then (g : Int) else -1) ∧ Hid (Below wk.heap.size wk wq)) (fun _ i _ => u - (intOf i).toNat)
                case atStart => exact ⟨0, Nat.zero_le _, rfl, by simp, Lib.hid (Below.refl _ _)⟩
                case round =>
                  obtain ⟨j, hj, rfl, rfl, HBQ⟩ := hrel
                  rename World => wq
                  have HB4 := Lib.hid (then_ HB.out HBQ.out)
                  by_cases hlj : j < u
                  · have hxj : j < U.length := by have := HUL.out; omega
                    obtain ⟨b, off, rfl, hc0, _, _, _⟩ := mb_row (HRU.out.below HB4.out) j hxj
                    obtain ⟨b2, off2, rfl, hd0, hd1⟩ := HCH.out wq HB4.out
                    have HNJ := Lib.hid (HNO.out j U[j] (List.getElem?_eq_getElem hxj))
                    generalize U[j].name = s at hc0 HNJ
                    generalize l[k].node = t at hd0 HNJ
                    clear hd1
                    have hju : (j : Int) < (u : Int) := by omega
                    have hj0 : (0 : Int) ≤ (j : Int) := by omega
                    by_cases hst : s = t
                    · have hgj : j = g := HNJ.out.1 hst
                      subst hst
                      have he : (s.toList == s.toList) = true := by simp
                      generalize (if g < j then (g : Int) else -1) = at0
                      have HGJ := Lib.hid hgj
                      clear hgj HNJ
                      go_wp2_with fail
                      go_quiet (fail)
                      go_wp2_with fail
                      exact ⟨⟨j + 1, by omega, by go_num, by rw [if_pos (by have := HGJ.out; omega), HGJ.out], Lib.hid (drewN_ HBQ.out _)⟩, by simp [intOf]; omega⟩
                    · have hgj : ¬ j = g := fun h => hst (HNJ.out.2 h)
                      have he : (s.toList == t.toList) = false := by rw [str_beq]; exact decide_eq_false hst
                      have HGJ : Hid ((if g < j then (g : Int) else -1) = (if g < j + 1 then (g : Int) else -1)) := Lib.hid (by by_cases h : g < j; rw [if_pos h, if_pos (by omega)]; rw [if_neg h, if_neg (by omega)])
                      generalize (if g < j then (g : Int) else -1) = at0 at HGJ
                      clear hgj HNJ hst
                      go_wp2_with fail
                      go_quiet (fail)
                      go_wp2_with fail
                      exact ⟨⟨j + 1, by omega, by go_num, by rw [HGJ.out], Lib.hid (drewN_ HBQ.out _)⟩, by simp [intOf]; omega⟩
                  · have hju : (u : Int) ≤ (j : Int) := by omega
                    rw [if_pos (show g < j by omega)]
                    have hg0 : (0 : Int) ≤ (g : Int) := by omega
                    have hgu2 : (g : Int) < (u : Int) := by omega
                    clear hlj
                    go_wp2_with fail
                    have hdn : decide (j < u) = false := by simp; omega
                    simp only [hdn]
                    clear hdn
                    go_loopw [17] (fun i wz => ∃ q : Nat, q ≤ k ∧ i = .int .i64 q ∧ Hid (Below wk.heap.size wk wz)) (fun i _ => k - (intOf i).toNat)
                    case atStart => exact ⟨0, Nat.zero_le _, rfl, HBQ⟩
                    case round =>
                      clear HBQ HB4
                      obtain ⟨q, hq, rfl, HBQ⟩ := hrel
                      rename World => wz
                      have HB4 := Lib.hid (then_ HB.out HBQ.out)
                      by_cases hlq : q < k
                      · have hql : q < l.length := by omega
                        obtain ⟨b, off, rfl, hc0, hc1⟩ := cho_row (HRL.out.below HB4.out) q hql
                        obtain ⟨b2, off2, hbe, hd0, hd1⟩ := HCH.out wz HB4.out
                        injection hbe with hbe; injection hbe with hbe1 hbe2; subst hbe1 hbe2
                        have hne := HNQ.out q hlq
                        generalize l[q].node = s at hc0 hne
                        generalize l[k].node = t at hd0 hne
                        have he : (s.toList == t.toList) = false := by rw [str_beq]; exact decide_eq_false hne
                        have hqk : (q : Int) < (k : Int) := by omega
                        have hq0 : (0 : Int) ≤ (q : Int) := by omega
                        have hqK : (q : Int) < (K : Int) := by omega
                        clear hc1 hd1 hne hlq
                        go_wp2_with fail
                        go_quiet (fail)
                        go_wp2_with fail
                        exact ⟨⟨q + 1, by omega, by go_num, Lib.hid (drewN_ HBQ.out _)⟩, by simp [intOf]; omega⟩
                      · have hqk : (k : Int) ≤ (q : Int) := by omega
                        have hgU : g < U.length := by have := HUL.out; omega
                        obtain ⟨b, off, rfl, hc0, hc1, hc2, hc3⟩ := mb_row (HRU.out.below HB4.out) g hgU
                        have HGM := Lib.hid (show gotM U (gi.take (k + 1)) = _ by rw [HTK.out, gotM_snoc hgU])
                        generalize U[g] = x at hc0 hc1 hc2 hc3 HGM
                        obtain ⟨nm, rk, zn, up⟩ := x
                        simp only at hc0 hc1 hc2 hc3
                        have HO1 := Lib.hid (own_below HO.out HBQ.out)
                        have HZ := Lib.hid HB4.out.size
                        clear hlq
                        go_wp2_with (at_builtin; (refine wpList_app el_mb (by rfl) (.tmp 114) (.tmp 119) (by rfl) w3.heap.size _ k _ (by rfl) (HO1.out.alloc _) (some ⟨wz.heap.size, 0, none⟩) 1 1 [.string nm, .string rk, .string zn, .bool up] (by rfl) rfl (Rd.new wz #[.string nm, .string rk, .string zn, .bool up] _) (by intro u hu; simp at hu; rcases hu with rfl | rfl | rfl | rfl <;> rfl) (by unfold maxLen; omega) (by omega) (by have := HZ.out; simp; omega) ?_; intro v6 w6 hown6 hbel6 _ _))
                        exact ⟨⟨k + 1, by omega, by go_num, Lib.hid (by rw [HGM.out, List.flatMap_append]; exact hown6), Lib.hid ((HB4.out.alloc HZ.out _).trans hbel6)⟩, by simp [intOf]; omega⟩
              · have hkK : (K : Int) ≤ (k : Int) := by omega
                have hkk : k = K := by omega
                have hfull : gi.take k = gi := List.take_of_length_le (by omega)
                rw [hfull, hkk] at HO
                rw [hkk]
                have HGL := Lib.hid (show (gotM U gi).length = K by rw [gotM_len HPL.out.lt]; exact hgl)
                have HRG := Lib.hid (Rd.of_own HO.out)
                have HGR := Lib.hid HPL.out.rk; have HBT := Lib.hid HPL.out.both
                rw [HUL.out] at HBT
                generalize gotM U gi = G at HRG HGL HGR HBT
                have HRU := Lib.hid (HRU.out.below HB.out)
                clear hfull HO hlt hkK HRL HUN HPL HLN HLL
                rename World => w4
                go_wp2_with fail
                refine (racks_any A2 u c2 U w4 HRU.out HUL.out (by omega)).mono ?_
                rintro e w5 ⟨r1, A5, c5, ⟨hrs, hmem, hle1⟩, rfl, hrd, _, _, hb⟩
                have hR1 : r1.length = (Pref.knl (U.map Mb.rack)).length := len_knl hrs hmem
                rw [← hR1] at HGR HBT
                have HRG := Lib.hid (HRG.out.below hb); have HRU := Lib.hid (HRU.out.below hb); have HB := Lib.hid (then_ HB.out hb)
                clear hrs hmem hrd hb hR1
                generalize r1.length = R at HGR HBT hle1 ⊢
                by_cases hRN : (R : Int) < N
                · have hRN2 := Lib.hid hRN
                  go_wp2_with fail
                  refine (zones_any A2 u c2 U w5 HRU.out HUL.out (by omega)).mono ?_
                  rintro e w6 ⟨r2, A6, c6, ⟨hrs, hmem, hle2⟩, rfl, hrd, _, _, hb⟩
                  have hR2 : r2.length = (Pref.knl (U.map Mb.zone)).length := len_knl hrs hmem
                  rw [← hR2] at HBT
                  have HRG := Lib.hid (HRG.out.below hb); have HRU := Lib.hid (HRU.out.below hb); have HB := Lib.hid (then_ HB.out hb)
                  clear hrs hmem hrd hb hR2
                  generalize r2.length = Z at HBT hle2 ⊢
                  by_cases hZN : (Z : Int) < N
                  · have hZN2 := Lib.hid hZN
                    have HRK : Hid (((min R K : Nat) : Int) = (R : Int) ∧ ((min Z K : Nat) : Int) = (Z : Int)) := Lib.hid (by have hK := HK.out; omega)
                    have HBO := Lib.hid HBT.out
                    rw [HRK.out.1, HRK.out.2] at HBO
                    go_wp2_with fail
                    refine (racks_any A4 K c4 G w6 HRG.out HGL.out (by omega)).mono ?_
                    rintro e w7 ⟨r3, A7, c7, ⟨hrs, hmem, hle3⟩, rfl, hrd, _, _, hb⟩
                    have hR3 : r3.length = min R K := by rw [len_knl hrs hmem]; exact HGR.out
                    have hne1 : ((r3.length : Int) != (R : Int)) = false := by have h := HRK.out.1; simp; omega
                    have HRG := Lib.hid (HRG.out.below hb); have HRU := Lib.hid (HRU.out.below hb); have HB := Lib.hid (then_ HB.out hb)
                    clear hrs hmem hrd hb hle3 hR3
                    go_wp2_with fail
                    clear hne1
                    refine (zones_any A4 K c4 G w7 HRG.out HGL.out (by omega)).mono ?_
                    rintro e w8 ⟨r4, A8, c8, ⟨hrs, hmem, hle4⟩, rfl, hrd, _, _, hb⟩
                    have hR4 : r4.length = (Pref.knl (G.map Mb.zone)).length := len_knl hrs hmem
                    rw [← hR4] at HBO
                    have HRU := Lib.hid (HRU.out.below hb); have HB := Lib.hid (then_ HB.out hb)
                    clear hrs hmem hrd hb hR4
                    go_wp2_with fail
                    refine (all_any u w8 (by omega)).mono ?_
                    rintro e w9 ⟨v9, rfl, hown, hb⟩
                    obtain ⟨A9, c9, rfl⟩ := own_form hown
                    have HRO := Lib.hid (Rd.of_own hown); have HRU := Lib.hid (HRU.out.below hb); have HB := Lib.hid (then_ HB.out hb)
                    clear hown hb
                    go_wp2_with fail
                    refine (rPairs_any A2 u c2 U A9 u c9 (List.range u) (fun k hk => by rw [HUL.out]; exact List.mem_range.1 hk) w9 HRU.out HUL.out HRO.out (by simp) (by omega)).mono ?_
                    rintro e w10 ⟨v10, rfl, hown, hb⟩
                    have hpl : (Pref.pairsOf (rz U (List.range u))).length = u := by rw [Pref.pairsOf_len, rz_len (fun k hk => by rw [HUL.out]; exact List.mem_range.1 hk), List.length_range]
                    rw [hpl] at hown
                    obtain ⟨A10, c10, rfl⟩ := own_form hown
                    have HRP := Lib.hid (Rd.of_own hown); have HB := Lib.hid (then_ HB.out hb)
                    have HCA := Lib.hid (rCan_any A10 u c10 (Pref.pairsOf (rz U (List.range u))) (K : Int) (R : Int) (Z : Int) hpl (by omega) w10 HRP.out)
                    rw [HBO.out] at HCA
                    clear hown hb hpl HRO HRU
                    go_wp2_with fail
                    refine HCA.out.mono ?_
                    rintro e w11 ⟨rfl, hb⟩
                    have HB := Lib.hid (then_ HB.out hb)
                    clear hb HCA HRP HBO
                    have hzk := HRK.out.2
                    by_cases hrz : r4.length = min Z K
                    · have hd : decide (r4.length = min Z K) = true := by simp [hrz]
                      have he : ((r4.length : Int) == (Z : Int)) = true := by simp; omega
                      rw [hd]
                      clear hrz hd
                      generalize (r4.length : Int) = a4 at he ⊢
                      clear hzk
                      go_wp2_with fail
                      refine (awake18_any _).mono ?_
                      rintro e w12 ⟨rfl, hb⟩
                      go_wp2_with fail
                      go_ret
                      exact ⟨rfl, then_ HB3.out (then_ HB.out hb)⟩
                    · have hd : decide (r4.length = min Z K) = false := by simp [hrz]
                      have he : ((r4.length : Int) == (Z : Int)) = false := by simp; omega
                      rw [hd]
                      clear hrz hd
                      generalize (r4.length : Int) = a4 at he ⊢
                      clear hzk
                      go_wp2_with fail
                      refine (awake18_any _).mono ?_
                      rintro e w12 ⟨rfl, hb⟩
                      go_wp2_with fail
                      go_ret
                      exact ⟨rfl, then_ HB3.out (then_ HB.out hb)⟩
                  · have hZN3 : N ≤ (Z : Int) := by omega
                    have HRK : Hid (((min R K : Nat) : Int) = (R : Int) ∧ ((min Z K : Nat) : Int) = N) := Lib.hid (by have hK := HK.out; omega)
                    have HBO := Lib.hid HBT.out
                    rw [HRK.out.1, HRK.out.2] at HBO
                    go_wp2_with fail
                    refine (racks_any A4 K c4 G w6 HRG.out HGL.out (by omega)).mono ?_
                    rintro e w7 ⟨r3, A7, c7, ⟨hrs, hmem, hle3⟩, rfl, hrd, _, _, hb⟩
                    have hR3 : r3.length = min R K := by rw [len_knl hrs hmem]; exact HGR.out
                    have hne1 : ((r3.length : Int) != (R : Int)) = false := by have h := HRK.out.1; simp; omega
                    have HRG := Lib.hid (HRG.out.below hb); have HRU := Lib.hid (HRU.out.below hb); have HB := Lib.hid (then_ HB.out hb)
                    clear hrs hmem hrd hb hle3 hR3
                    go_wp2_with fail
                    clear hne1
                    refine (zones_any A4 K c4 G w7 HRG.out HGL.out (by omega)).mono ?_
                    rintro e w8 ⟨r4, A8, c8, ⟨hrs, hmem, hle4⟩, rfl, hrd, _, _, hb⟩
                    have hR4 : r4.length = (Pref.knl (G.map Mb.zone)).length := len_knl hrs hmem
                    rw [← hR4] at HBO
                    have HRU := Lib.hid (HRU.out.below hb); have HB := Lib.hid (then_ HB.out hb)
                    clear hrs hmem hrd hb hR4
                    go_wp2_with fail
                    refine (all_any u w8 (by omega)).mono ?_
                    rintro e w9 ⟨v9, rfl, hown, hb⟩
                    obtain ⟨A9, c9, rfl⟩ := own_form hown
                    have HRO := Lib.hid (Rd.of_own hown); have HRU := Lib.hid (HRU.out.below hb); have HB := Lib.hid (then_ HB.out hb)
                    clear hown hb
                    go_wp2_with fail
                    refine (rPairs_any A2 u c2 U A9 u c9 (List.range u) (fun k hk => by rw [HUL.out]; exact List.mem_range.1 hk) w9 HRU.out HUL.out HRO.out (by simp) (by omega)).mono ?_
                    rintro e w10 ⟨v10, rfl, hown, hb⟩
                    have hpl : (Pref.pairsOf (rz U (List.range u))).length = u := by rw [Pref.pairsOf_len, rz_len (fun k hk => by rw [HUL.out]; exact List.mem_range.1 hk), List.length_range]
                    rw [hpl] at hown
                    obtain ⟨A10, c10, rfl⟩ := own_form hown
                    have HRP := Lib.hid (Rd.of_own hown); have HB := Lib.hid (then_ HB.out hb)
                    have HCA := Lib.hid (rCan_any A10 u c10 (Pref.pairsOf (rz U (List.range u))) (K : Int) (R : Int) N hpl (by omega) w10 HRP.out)
                    rw [HBO.out] at HCA
                    clear hown hb hpl HRO HRU
                    go_wp2_with fail
                    refine HCA.out.mono ?_
                    rintro e w11 ⟨rfl, hb⟩
                    have HB := Lib.hid (then_ HB.out hb)
                    clear hb HCA HRP HBO
                    have hzk := HRK.out.2
                    by_cases hrz : r4.length = min Z K
                    · have hd : decide (r4.length = min Z K) = true := by simp [hrz]
                      have he : ((r4.length : Int) == N) = true := by simp; omega
                      rw [hd]
                      clear hrz hd
                      generalize (r4.length : Int) = a4 at he ⊢
                      clear hzk
                      go_wp2_with fail
                      refine (awake18_any _).mono ?_
                      rintro e w12 ⟨rfl, hb⟩
                      go_wp2_with fail
                      go_ret
                      exact ⟨rfl, then_ HB3.out (then_ HB.out hb)⟩
                    · have hd : decide (r4.length = min Z K) = false := by simp [hrz]
                      have he : ((r4.length : Int) == N) = false := by simp; omega
                      rw [hd]
                      clear hrz hd
                      generalize (r4.length : Int) = a4 at he ⊢
                      clear hzk
                      go_wp2_with fail
                      refine (awake18_any _).mono ?_
                      rintro e w12 ⟨rfl, hb⟩
                      go_wp2_with fail
                      go_ret
                      exact ⟨rfl, then_ HB3.out (then_ HB.out hb)⟩
                · have hRN3 : N ≤ (R : Int) := by omega
                  go_wp2_with fail
                  refine (zones_any A2 u c2 U w5 HRU.out HUL.out (by omega)).mono ?_
                  rintro e w6 ⟨r2, A6, c6, ⟨hrs, hmem, hle2⟩, rfl, hrd, _, _, hb⟩
                  have hR2 : r2.length = (Pref.knl (U.map Mb.zone)).length := len_knl hrs hmem
                  rw [← hR2] at HBT
                  have HRG := Lib.hid (HRG.out.below hb); have HRU := Lib.hid (HRU.out.below hb); have HB := Lib.hid (then_ HB.out hb)
                  clear hrs hmem hrd hb hR2
                  generalize r2.length = Z at HBT hle2 ⊢
                  by_cases hZN : (Z : Int) < N
                  · have hZN2 := Lib.hid hZN
                    have HRK : Hid (((min R K : Nat) : Int) = N ∧ ((min Z K : Nat) : Int) = (Z : Int)) := Lib.hid (by have hK := HK.out; omega)
                    have HBO := Lib.hid HBT.out
                    rw [HRK.out.1, HRK.out.2] at HBO
                    go_wp2_with fail
                    refine (racks_any A4 K c4 G w6 HRG.out HGL.out (by omega)).mono ?_
                    rintro e w7 ⟨r3, A7, c7, ⟨hrs, hmem, hle3⟩, rfl, hrd, _, _, hb⟩
                    have hR3 : r3.length = min R K := by rw [len_knl hrs hmem]; exact HGR.out
                    have hne1 : ((r3.length : Int) != N) = false := by have h := HRK.out.1; simp; omega
                    have HRG := Lib.hid (HRG.out.below hb); have HRU := Lib.hid (HRU.out.below hb); have HB := Lib.hid (then_ HB.out hb)
                    clear hrs hmem hrd hb hle3 hR3
                    go_wp2_with fail
                    clear hne1
                    refine (zones_any A4 K c4 G w7 HRG.out HGL.out (by omega)).mono ?_
                    rintro e w8 ⟨r4, A8, c8, ⟨hrs, hmem, hle4⟩, rfl, hrd, _, _, hb⟩
                    have hR4 : r4.length = (Pref.knl (G.map Mb.zone)).length := len_knl hrs hmem
                    rw [← hR4] at HBO
                    have HRU := Lib.hid (HRU.out.below hb); have HB := Lib.hid (then_ HB.out hb)
                    clear hrs hmem hrd hb hR4
                    go_wp2_with fail
                    refine (all_any u w8 (by omega)).mono ?_
                    rintro e w9 ⟨v9, rfl, hown, hb⟩
                    obtain ⟨A9, c9, rfl⟩ := own_form hown
                    have HRO := Lib.hid (Rd.of_own hown); have HRU := Lib.hid (HRU.out.below hb); have HB := Lib.hid (then_ HB.out hb)
                    clear hown hb
                    go_wp2_with fail
                    refine (rPairs_any A2 u c2 U A9 u c9 (List.range u) (fun k hk => by rw [HUL.out]; exact List.mem_range.1 hk) w9 HRU.out HUL.out HRO.out (by simp) (by omega)).mono ?_
                    rintro e w10 ⟨v10, rfl, hown, hb⟩
                    have hpl : (Pref.pairsOf (rz U (List.range u))).length = u := by rw [Pref.pairsOf_len, rz_len (fun k hk => by rw [HUL.out]; exact List.mem_range.1 hk), List.length_range]
                    rw [hpl] at hown
                    obtain ⟨A10, c10, rfl⟩ := own_form hown
                    have HRP := Lib.hid (Rd.of_own hown); have HB := Lib.hid (then_ HB.out hb)
                    have HCA := Lib.hid (rCan_any A10 u c10 (Pref.pairsOf (rz U (List.range u))) (K : Int) N (Z : Int) hpl (by omega) w10 HRP.out)
                    rw [HBO.out] at HCA
                    clear hown hb hpl HRO HRU
                    go_wp2_with fail
                    refine HCA.out.mono ?_
                    rintro e w11 ⟨rfl, hb⟩
                    have HB := Lib.hid (then_ HB.out hb)
                    clear hb HCA HRP HBO
                    have hzk := HRK.out.2
                    by_cases hrz : r4.length = min Z K
                    · have hd : decide (r4.length = min Z K) = true := by simp [hrz]
                      have he : ((r4.length : Int) == (Z : Int)) = true := by simp; omega
                      rw [hd]
                      clear hrz hd
                      generalize (r4.length : Int) = a4 at he ⊢
                      clear hzk
                      go_wp2_with fail
                      refine (awake18_any _).mono ?_
                      rintro e w12 ⟨rfl, hb⟩
                      go_wp2_with fail
                      go_ret
                      exact ⟨rfl, then_ HB3.out (then_ HB.out hb)⟩
                    · have hd : decide (r4.length = min Z K) = false := by simp [hrz]
                      have he : ((r4.length : Int) == (Z : Int)) = false := by simp; omega
                      rw [hd]
                      clear hrz hd
                      generalize (r4.length : Int) = a4 at he ⊢
                      clear hzk
                      go_wp2_with fail
                      refine (awake18_any _).mono ?_
                      rintro e w12 ⟨rfl, hb⟩
                      go_wp2_with fail
                      go_ret
                      exact ⟨rfl, then_ HB3.out (then_ HB.out hb)⟩
                  · have hZN3 : N ≤ (Z : Int) := by omega
                    have HRK : Hid (((min R K : Nat) : Int) = N ∧ ((min Z K : Nat) : Int) = N) := Lib.hid (by have hK := HK.out; omega)
                    have HBO := Lib.hid HBT.out
                    rw [HRK.out.1, HRK.out.2] at HBO
                    go_wp2_with fail
                    refine (racks_any A4 K c4 G w6 HRG.out HGL.out (by omega)).mono ?_
                    rintro e w7 ⟨r3, A7, c7, ⟨hrs, hmem, hle3⟩, rfl, hrd, _, _, hb⟩
                    have hR3 : r3.length = min R K := by rw [len_knl hrs hmem]; exact HGR.out
                    have hne1 : ((r3.length : Int) != N) = false := by have h := HRK.out.1; simp; omega
                    have HRG := Lib.hid (HRG.out.below hb); have HRU := Lib.hid (HRU.out.below hb); have HB := Lib.hid (then_ HB.out hb)
                    clear hrs hmem hrd hb hle3 hR3
                    go_wp2_with fail
                    clear hne1
                    refine (zones_any A4 K c4 G w7 HRG.out HGL.out (by omega)).mono ?_
                    rintro e w8 ⟨r4, A8, c8, ⟨hrs, hmem, hle4⟩, rfl, hrd, _, _, hb⟩
                    have hR4 : r4.length = (Pref.knl (G.map Mb.zone)).length := len_knl hrs hmem
                    rw [← hR4] at HBO
                    have HRU := Lib.hid (HRU.out.below hb); have HB := Lib.hid (then_ HB.out hb)
                    clear hrs hmem hrd hb hR4
                    go_wp2_with fail
                    refine (all_any u w8 (by omega)).mono ?_
                    rintro e w9 ⟨v9, rfl, hown, hb⟩
                    obtain ⟨A9, c9, rfl⟩ := own_form hown
                    have HRO := Lib.hid (Rd.of_own hown); have HRU := Lib.hid (HRU.out.below hb); have HB := Lib.hid (then_ HB.out hb)
                    clear hown hb
                    go_wp2_with fail
                    refine (rPairs_any A2 u c2 U A9 u c9 (List.range u) (fun k hk => by rw [HUL.out]; exact List.mem_range.1 hk) w9 HRU.out HUL.out HRO.out (by simp) (by omega)).mono ?_
                    rintro e w10 ⟨v10, rfl, hown, hb⟩
                    have hpl : (Pref.pairsOf (rz U (List.range u))).length = u := by rw [Pref.pairsOf_len, rz_len (fun k hk => by rw [HUL.out]; exact List.mem_range.1 hk), List.length_range]
                    rw [hpl] at hown
                    obtain ⟨A10, c10, rfl⟩ := own_form hown
                    have HRP := Lib.hid (Rd.of_own hown); have HB := Lib.hid (then_ HB.out hb)
                    have HCA := Lib.hid (rCan_any A10 u c10 (Pref.pairsOf (rz U (List.range u))) (K : Int) N N hpl (by omega) w10 HRP.out)
                    rw [HBO.out] at HCA
                    clear hown hb hpl HRO HRU
                    go_wp2_with fail
                    refine HCA.out.mono ?_
                    rintro e w11 ⟨rfl, hb⟩
                    have HB := Lib.hid (then_ HB.out hb)
                    clear hb HCA HRP HBO
                    have hzk := HRK.out.2
                    by_cases hrz : r4.length = min Z K
                    · have hd : decide (r4.length = min Z K) = true := by simp [hrz]
                      have he : ((r4.length : Int) == N) = true := by simp; omega
                      rw [hd]
                      clear hrz hd
                      generalize (r4.length : Int) = a4 at he ⊢
                      clear hzk
                      go_wp2_with fail
                      refine (awake18_any _).mono ?_
                      rintro e w12 ⟨rfl, hb⟩
                      go_wp2_with fail
                      go_ret
                      exact ⟨rfl, then_ HB3.out (then_ HB.out hb)⟩
                    · have hd : decide (r4.length = min Z K) = false := by simp [hrz]
                      have he : ((r4.length : Int) == N) = false := by simp; omega
                      rw [hd]
                      clear hrz hd
                      generalize (r4.length : Int) = a4 at he ⊢
                      clear hzk
                      go_wp2_with fail
                      refine (awake18_any _).mono ?_
                      rintro e w12 ⟨rfl, hb⟩
                      go_wp2_with fail
                      go_ret
                      exact ⟨rfl, then_ HB3.out (then_ HB.out hb)⟩
end Go.Proofs.Ytpiinfjcjpdofaa
