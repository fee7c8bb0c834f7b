/- The walk of PreferClaims. -/
import Derived.Test.YtpiinfjcjpdofaaPreI
import Derived.Test.YtpiinfjcjpdofaaBits
import Derived.Deep.Cut
import Derived.Says
attribute [local go_sem ↓] Go.wp_at_zero Go.wp_at_succ
namespace Go.Proofs.Ytpiinfjcjpdofaa
open Go.RowKit Go.Mem Go.Cov
set_option linter.unusedVariables false
set_option linter.unusedSimpArgs false

def raise (x : Mb) : Mb := ⟨x.name, x.rack, x.zone, true⟩
theorem names_raise (ms : List Mb) : names (ms.map raise) = names ms := by unfold names; rw [List.map_map]; rfl
theorem upM_raise (ms : List Mb) : upM (ms.map raise) = ms.map raise := by
  unfold upM; rw [List.filter_eq_self]; intro x hx; obtain ⟨y, _, rfl⟩ := List.mem_map.1 hx; rfl
theorem rz_raise (ms : List Mb) (ord : List Nat) : rz (ms.map raise) ord = rz ms ord := by
  unfold rz; congr 1; funext k; rw [List.getElem?_map]; cases ms[k]? <;> rfl
theorem nmA_raise (ms : List Mb) (ord cs : List Nat) : nmA (ms.map raise) ord cs = nmA ms ord cs := by
  unfold nmA; congr 1; funext i; cases ord[i]? with
  | none => rfl
  | some k => simp only [Option.bind_some, List.getElem?_map]; cases ms[k]? <;> rfl
theorem chN_raise (ss : List ByteArray) (ms : List Mb) (part q : Int) : chN ss (ms.map raise) part q = chN ss ms part q := by
  unfold chN; rw [names_raise, rz_raise, nmA_raise, List.length_map]
theorem claimedF_raise (ss : List ByteArray) (ms : List Mb) (part q : Int) : claimedF ss (ms.map raise) part q = claimedF ss ms part q := by unfold claimedF; rw [chN_raise]
theorem listF_raise (ss : List ByteArray) (ms : List Mb) (part q : Int) : listF ss (ms.map raise) part q = choF (claimedF ss ms part q) (claimedF ss ms part q) := by
  unfold listF
  rw [upM_raise, claimedF_raise, chN_raise]
  unfold claimedF
  split
  · rfl
  · rfl
theorem nodes_choF (cl nms : List ByteArray) : nodesF (choF cl nms) = nms := by unfold nodesF choF; rw [List.map_map]; simp [Function.comp_def]
theorem prim_choF (cl : List ByteArray) : primF (choF cl cl) = cl := by
  unfold primF
  have : (choF cl cl).filter Cho.primary = choF cl cl := by
    rw [List.filter_eq_self]
    intro x hx
    unfold choF at hx
    obtain ⟨s, hs, rfl⟩ := List.mem_map.1 hx
    exact mem_iff.2 hs
  rw [this, nodes_choF]
theorem listF_prim {ss : List ByteArray} {ms : List Mb} {part q : Int} : ∀ x ∈ listF ss ms part q, x.primary = mem x.node (claimedF ss ms part q) := by
  intro x hx
  unfold listF at hx
  split at hx
  · unfold choF at hx
    obtain ⟨s, hs, rfl⟩ := List.mem_map.1 hx
    rfl
  · cases hx
theorem froz_of {W : World} {g : Nat} {cs : Array Value} {t : TypeId} (h : W.heap[g]? = some (.cells cs t (0, 0))) (j : Nat) : W.frozen? ⟨g, j, none⟩ = false := by simp [World.frozen?, h]
theorem set_of {W : World} {g : Nat} {cs : Array Value} {t : TypeId} (h : W.heap[g]? = some (.cells cs t (0, 0))) (j : Nat) (u : Value) : (W.setCell ⟨g, j, none⟩ u).heap[g]? = some (.cells (cs.setIfInBounds j u) t (0, 0)) := by
  simp [World.setCell, Array.getElem?_modify, h]
theorem set_size (W : World) (a : Addr) (u : Value) : (W.setCell a u).heap.size = W.heap.size := by simp [World.setCell]
theorem okM_raise {ms : List Mb} (h : okM ms) : okM (ms.map raise) := by
  intro x hx; obtain ⟨y, hy, rfl⟩ := List.mem_map.1 hx; exact h y hy
set_option maxRecDepth 100000 in
set_option maxHeartbeats 16000000 in
theorem preferClaims_walk (A : Option Addr) (n c : Nat) (ss : List ByteArray) (B : Option Addr) (m d : Nat) (ms : List Mb) (nn : Int × Int) (w : World) (hr : Rd w A (ss.map Value.string)) (hn : ss.length = n) (hn' : n ≤ maxLen) (hr' : Rd w B (ms.flatMap Mb.cells)) (hm : ms.length = m) (hm' : m ≤ maxLen) (hok : ∀ x ∈ ms, True) (hwf : wf2i nn) :
    Calls Try.prog 10 #[.slice A n c, .slice B m d, .agg (arr2i nn)] w fun e w' => e = .returned (.bool true) ∧ Below w.heap.size w w' := by
  obtain ⟨z0, z1⟩ := nn
  obtain ⟨hz0, hz1⟩ := hwf
  simp only at hz0 hz1
  have hb0 := (Below.refl w.heap.size w).alloc (Nat.le_refl _) (.cells #[.int .i64 z0, .int .i64 z1] 50)
  have HN0 := Lib.hid (show (w.alloc (.cells #[.int .i64 z0, .int .i64 z1] 50)).cell? ⟨w.heap.size, 0, none⟩ = some (.int .i64 z0) ∧ (w.alloc (.cells #[.int .i64 z0, .int .i64 z1] 50)).cell? ⟨w.heap.size, 1, none⟩ = some (.int .i64 z1) from
    ⟨by rw [World.cell?_alloc_at _ _ _ _ rfl]; rfl, by rw [World.cell?_alloc_at _ _ _ _ rfl]; rfl⟩)
  have HR := Lib.hid (hr.below hb0); have HR' := Lib.hid (hr'.below hb0); have HB0 := Lib.hid hb0; have HN := Lib.hid hn; have HM := Lib.hid hm
  clear hr hr' hb0 hok
  unfold arr2i
  simp only
  go_enter Try.func10, Try.ntmps10
  go_wp2_with fail
  generalize w.alloc (.cells #[.int .i64 z0, .int .i64 z1] 50) = W0 at HN0 HR HR' HB0 ⊢
  generalize hnb : w.heap.size = nb at HN0 ⊢
  clear hnb
  refine (few18_any A n c ss W0 HR.out HN.out hn').mono ?_
  rintro e w1 ⟨b1, hb1, rfl, rfl⟩
  have HF1 := Lib.hid hb1; clear hb1
  cases b1 with
  | false =>
    go_wp2_with fail
    refine (awake18_any _).mono ?_
    rintro e w2 ⟨rfl, hb⟩
    go_wp2_with fail
    go_ret
    exact ⟨rfl, then_ HB0.out hb⟩
  | true =>
    go_wp2_with fail
    refine (few13_any B m d ms 12 W0 HR'.out HM.out hm' (by omega)).mono ?_
    rintro e w2 ⟨b2, hb2, rfl, rfl⟩
    have HF2 := Lib.hid hb2; clear hb2
    cases b2 with
    | false =>
      go_wp2_with fail
      refine (awake18_any _).mono ?_
      rintro e w2 ⟨rfl, hb⟩
      go_wp2_with fail
      go_ret
      exact ⟨rfl, then_ HB0.out hb⟩
    | true =>
      obtain ⟨hn20, hss⟩ := HF1.out (by simp)
      obtain ⟨hm8, hms⟩ := HF2.out (by simp)
      have HSS := Lib.hid (show ∀ s ∈ ss, s.size ≤ maxLen from fun s hs => Nat.le_trans (hss s hs) (by unfold maxLen; omega))
      have HMS := Lib.hid (okM_few hms)
      clear hss hms HF1 HF2
      go_wp2_with fail
      go_loopw [7] (fun i wr => ∃ k : Nat, k ≤ m ∧ i = .int .i64 k ∧ Hid (Below W0.heap.size W0 wr)) (fun i _ => m - (intOf i).toNat)
      case atStart => exact ⟨0, Nat.zero_le _, rfl, Lib.hid (Below.refl _ _)⟩
      case round =>
        obtain ⟨k, hk, rfl, HB⟩ := hrel
        by_cases hlt : k < m
        · have hkm : (k : Int) < (m : Int) := by omega
          have hk0 : (0 : Int) ≤ (k : Int) := by omega
          go_wp2_with fail
          rename World => wo
          go_loopw [8] (fun i wq => ∃ j : Nat, j ≤ k ∧ i = .int .i64 j ∧ Hid (Below W0.heap.size W0 wq)) (fun i _ => k - (intOf i).toNat)
          case atStart => exact ⟨0, Nat.zero_le _, rfl, HB⟩
          case round =>
            clear HB
            obtain ⟨j, hj, rfl, HB⟩ := hrel
            by_cases hlj : j < k
            · have hx : k < ms.length := by have := HM.out; omega
              have hxj : j < ms.length := by have := HM.out; omega
              obtain ⟨b, off, rfl, hc0, _, _, _⟩ := mb_row (HR'.out.below HB.out) k hx
              obtain ⟨b', off', hbe, hd0, _, _, _⟩ := mb_row (HR'.out.below HB.out) j hxj
              injection hbe with hbe; injection hbe with hbe1 hbe2; subst hbe1 hbe2
              generalize ms[k].name = s at hc0
              generalize ms[j].name = t at hd0
              have hjk : (j : Int) < (k : Int) := by omega
              have hj0 : (0 : Int) ≤ (j : Int) := by omega
              have hjm : (j : Int) < (m : Int) := by omega
              by_cases hst : s = t
              · subst hst
                have he : (s.toList == s.toList) = true := by simp
                go_wp2_with fail
                go_quiet (fail)
                rename_i nq
                have HB2 := Lib.hid (drewN_ HB.out nq)
                go_wp2_with fail
                refine (awake18_any _).mono ?_
                rintro e w2 ⟨rfl, hb⟩
                go_wp2_with fail
                go_ret
                exact ⟨rfl, then_ HB0.out (then_ HB2.out hb)⟩
              · have he : (s.toList == t.toList) = false := by rw [str_beq]; exact decide_eq_false hst
                clear hst
                go_wp2_with fail
                go_quiet (fail)
                rename_i nq
                have HB2 := Lib.hid (drewN_ HB.out nq)
                go_wp2_with fail
                exact ⟨⟨j + 1, by omega, by go_num, HB2⟩, by simp [intOf]; omega⟩
            · have hjk : (k : Int) ≤ (j : Int) := by omega
              go_wp2_with fail
              exact ⟨⟨k + 1, by omega, by go_num, HB⟩, by simp [intOf]; omega⟩
        · have hkm : (m : Int) ≤ (k : Int) := by omega
          have HN1 := Lib.hid (And.intro (cell_below HB.out HN0.out.1) (cell_below HB.out HN0.out.2))
          have hc0 := HN1.out.1; have hc1 := HN1.out.2
          rename World => wo
          obtain ⟨q, hq, hq0, hq1⟩ : ∃ q : Int, bits BinOp.and IntKind.i64 z1 15 = q ∧ 0 ≤ q ∧ q ≤ 15 := ⟨z1 % 16, by have h := i64_mask 4 (by omega) z1; exact h, by omega, by omega⟩
          have hqw : IntKind.i64.wrap (1 + q) = 1 + q := IntWalk.i64_in _ (by omega)
          go_wp2_with fail
          go_quiet (fail)
          rename_i nq
          have HB1 := Lib.hid (drewN_ HB.out nq)
          clear HB HN1 HN0 hc0 hc1 hq hqw
          generalize wo.drewN nq = w1 at HB1 ⊢
          obtain ⟨N, hN⟩ : ∃ N : Int, N = 1 + q := ⟨_, rfl⟩
          rw [← hN]
          have hN1 : 1 ≤ N := by omega
          have hN2 : N ≤ 16 := by omega
          clear hN hq0 hq1 hlt
          go_wp2_with fail
          have HR1 := Lib.hid (HR.out.below HB1.out); have HR1' := Lib.hid (HR'.out.below HB1.out); have HB2 := Lib.hid (then_ HB0.out HB1.out)
          clear HR HR' HB0 HB1
          go_loopw [11, 12] (fun v i wr => ∃ k : Nat, k ≤ m ∧ i = .int .i64 k ∧ Hid (wr.ownsRow w1.heap.size 34 4 v k (((ms.take k).map raise).flatMap Mb.cells)) ∧ Hid (Below w1.heap.size w1 wr)) (fun _ i _ => m - (intOf i).toNat)
          case atStart => exact ⟨0, Nat.zero_le _, rfl, Lib.hid (World.ownsRow_nil _ _ _ _), Lib.hid (Below.refl _ _)⟩
          case round =>
            obtain ⟨k, hk, rfl, HO, HB⟩ := hrel
            by_cases hlt : k < m
            · have hx : k < ms.length := by have := HM.out; omega
              obtain ⟨b, off, rfl, hc0, hc1, hc2, hc3⟩ := mb_row (HR1'.out.below HB.out) k hx
              have HT := Lib.hid (show (ms.take (k + 1)).map raise = (ms.take k).map raise ++ [raise ms[k]] by rw [List.take_succ_eq_append_getElem hx, List.map_append]; rfl)
              generalize ms[k] = x at hc0 hc1 hc2 hc3 HT
              obtain ⟨nm, rk, zn, up⟩ := x
              simp only at hc0 hc1 hc2 hc3
              have hkm : (k : Int) < (m : Int) := by omega
              have hk0 : (0 : Int) ≤ (k : Int) := by omega
              have hblk : (wr.alloc (.cells #[.string nm, .string rk, .string zn, .bool up] 34)).heap[wr.heap.size]? = some (.cells #[.string nm, .string rk, .string zn, .bool up] 34 (0, 0)) := heap_alloc_new wr _
              have hcs : (wr.alloc (.cells #[.string nm, .string rk, .string zn, .bool up] 34)).cell? ⟨wr.heap.size, 3, none⟩ = some (.bool up) := by rw [cell_of_row _ _ _ _ _ _ hblk]; rfl
              have hfz : (wr.alloc (.cells #[.string nm, .string rk, .string zn, .bool up] 34)).frozen? ⟨wr.heap.size, 3, none⟩ = false := froz_of hblk 3
              have hal3 : Below wr.heap.size wr (wr.alloc (.cells #[.string nm, .string rk, .string zn, .bool true] 34)) := (Below.refl _ _).alloc (Nat.le_refl _) _
              have hs0 : (wr.alloc (.cells #[.string nm, .string rk, .string zn, .bool true] 34)).cell? ⟨wr.heap.size, 0, none⟩ = some (.string nm) := by rw [World.cell?_alloc_at _ _ _ _ rfl]; rfl
              have hs1 : (wr.alloc (.cells #[.string nm, .string rk, .string zn, .bool true] 34)).cell? ⟨wr.heap.size, 1, none⟩ = some (.string rk) := by rw [World.cell?_alloc_at _ _ _ _ rfl]; rfl
              have hs2 : (wr.alloc (.cells #[.string nm, .string rk, .string zn, .bool true] 34)).cell? ⟨wr.heap.size, 2, none⟩ = some (.string zn) := by rw [World.cell?_alloc_at _ _ _ _ rfl]; rfl
              have hs3 : (wr.alloc (.cells #[.string nm, .string rk, .string zn, .bool true] 34)).cell? ⟨wr.heap.size, 3, none⟩ = some (.bool true) := by rw [World.cell?_alloc_at _ _ _ _ rfl]; rfl
              have HO1 := Lib.hid (own_below HO.out hal3); have HB3 := Lib.hid (then_ HB.out hal3)
              have hz9 : (wr.alloc (.cells #[.string nm, .string rk, .string zn, .bool true] 34)).heap.size = wr.heap.size + 1 := by simp
              have HRD := Lib.hid (show Rd ((wr.alloc (.cells #[.string nm, .string rk, .string zn, .bool true] 34)).alloc (.cells #[.string nm, .string rk, .string zn, .bool true] 34)) (some ⟨wr.heap.size + 1, 0, none⟩) [.string nm, .string rk, .string zn, .bool true] from by rw [← hz9]; exact Rd.new _ #[.string nm, .string rk, .string zn, .bool true] 34)
              have HZ := Lib.hid (show w1.heap.size ≤ wr.heap.size from HB.out.size)
              have HZ3 := Lib.hid HB3.out.size
              clear hblk hal3 HO HB hz9 hlt hx
              go_wp2_with (at_builtin; (refine wpList_app el_mb (by rfl) (.tmp 67) (.tmp 69) (by rfl) w1.heap.size _ k _ (by rfl) (HO1.out.alloc _) (some ⟨wr.heap.size + 1, 0, none⟩) 1 1 [.string nm, .string rk, .string zn, .bool true] (by rfl) rfl HRD.out (by intro u hu; simp at hu; rcases hu with rfl | rfl | rfl | rfl <;> rfl) (by unfold maxLen; omega) (by omega) (by have := HZ3.out; simp at this ⊢; omega) ?_; intro v6 w6 hown6 hbel6 _ _))
              exact ⟨⟨k + 1, by omega, by go_num, Lib.hid (by rw [HT.out, List.flatMap_append]; exact hown6), Lib.hid ((HB3.out.alloc HZ3.out _).trans hbel6)⟩, by simp [intOf]; omega⟩
            · obtain rfl : k = m := by omega
              have hkm : (k : Int) ≤ (k : Int) := Int.le_refl _
              have hfull : ms.take k = ms := List.take_of_length_le (by have := HM.out; omega)
              rw [hfull] at HO
              obtain ⟨A3, c3, rfl⟩ := own_form HO.out
              have HRR := Lib.hid (Rd.of_own HO.out)
              have HRS := Lib.hid (HR1.out.below HB.out); have HRM := Lib.hid (HR1'.out.below HB.out); have HB3 := Lib.hid (then_ HB2.out HB.out)
              clear HO HR1 HR1' HB HB2 hfull hlt
              rename World => w2
              have HML := Lib.hid (show (ms.map raise).length = k by rw [List.length_map]; exact HM.out)
              have HL1 := Lib.hid (fun W (h : Below w2.heap.size w2 W) => list_any A n c ss A3 k c3 (ms.map raise) z0 N W (HRS.out.below h) HN.out (by omega) (HRR.out.below h) HML.out (by omega) hz0 HSS.out (okM_raise HMS.out))
              rw [listF_raise] at HL1
              have HL2 := Lib.hid (fun W (h : Below w2.heap.size w2 W) => list_any A n c ss B k d ms z0 N W (HRS.out.below h) HN.out (by omega) (HRM.out.below h) HM.out (by omega) hz0 HSS.out HMS.out)
              have HC := Lib.hid (fun W (h : Below w2.heap.size w2 W) => claimed_any A n c ss B k d ms z0 N W (HRS.out.below h) HN.out (by omega) (HRM.out.below h) HM.out (by omega) hz0 HSS.out HMS.out)
              have HPR := Lib.hid (listF_prim (ss := ss) (ms := ms) (part := z0) (q := N))
              have hle := listF_le ss ms z0 N
              have hcl := claimedF_le ss ms z0 N
              rw [HM.out] at hle hcl
              generalize listF ss ms z0 N = l at HL2 HPR hle
              generalize claimedF ss ms z0 N = cl at HL1 HC HPR hcl
              have hchl : (choF cl cl).length = cl.length := by unfold choF; simp
              go_wp2_with fail
              refine (HC.out w2 (Below.refl _ _)).mono ?_
              rintro e w3 ⟨v3, rfl, hown, hb⟩
              obtain ⟨A4, c4, rfl⟩ := own_form hown
              have HRC := Lib.hid (Rd.of_own hown)
              have HCL := Lib.hid hb
              clear hown HC
              go_wp2_with fail
              refine (HL1.out w3 hb).mono ?_
              rintro e w4 ⟨v4, rfl, hown, hb4⟩
              rw [hchl] at hown
              obtain ⟨A5, c5, rfl⟩ := own_form hown
              have HRW := Lib.hid (Rd.of_own hown)
              have HRC := Lib.hid (HRC.out.below hb4)
              have hb := then_ hb hb4
              have HCHL := Lib.hid hchl
              clear hown hb4 HL1 HCL hchl
              go_wp2_with fail
              have HQ := Lib.hid (nodes_any A5 cl.length c5 (choF cl cl) w4 HRW.out HCHL.out (by omega))
              rw [nodes_choF] at HQ
              refine HQ.out.mono ?_
              rintro e w5 ⟨v5, rfl, hown, hb5⟩
              obtain ⟨A6, c6, rfl⟩ := own_form hown
              have HRN := Lib.hid (Rd.of_own hown)
              have HRC := Lib.hid (HRC.out.below hb5); have HRW := Lib.hid (HRW.out.below hb5)
              have hb := then_ hb hb5
              clear hown hb5 HQ
              have HS := Lib.hid (sameTexts_any A4 cl.length c4 cl A6 cl.length c6 cl w5 HRC.out rfl (by unfold maxLen; omega) HRN.out rfl (by unfold maxLen; omega))
              rw [decide_eq_true rfl] at HS
              go_wp2_with fail
              refine HS.out.mono ?_
              rintro e w6 ⟨rfl, hb6⟩
              have HRC := Lib.hid (HRC.out.below hb6); have HRW := Lib.hid (HRW.out.below hb6)
              have hb := then_ hb hb6
              clear hb6 HS HRN
              go_wp2_with fail
              have HQ := Lib.hid (primaries_any A5 cl.length c5 (choF cl cl) w6 HRW.out HCHL.out (by omega))
              rw [prim_choF] at HQ
              refine HQ.out.mono ?_
              rintro e w7 ⟨v7, rfl, hown, hb7⟩
              obtain ⟨A7, c7, rfl⟩ := own_form hown
              have HRN := Lib.hid (Rd.of_own hown)
              have HRC := Lib.hid (HRC.out.below hb7)
              have hb := then_ hb hb7
              clear hown hb7 HQ HRW
              have HS := Lib.hid (sameTexts_any A4 cl.length c4 cl A7 cl.length c7 cl w7 HRC.out rfl (by unfold maxLen; omega) HRN.out rfl (by unfold maxLen; omega))
              rw [decide_eq_true rfl] at HS
              go_wp2_with fail
              refine HS.out.mono ?_
              rintro e w8 ⟨rfl, hb8⟩
              have HRC := Lib.hid (HRC.out.below hb8)
              have hb := then_ hb hb8
              clear hb8 HS HRN
              go_wp2_with fail
              refine (HL2.out w8 hb).mono ?_
              rintro e w9 ⟨v9, rfl, hown, hb9⟩
              obtain ⟨A9, c9, rfl⟩ := own_form hown
              have HRP := Lib.hid (Rd.of_own hown)
              have HRC := Lib.hid (HRC.out.below hb9)
              have HB9 := Lib.hid (then_ HB3.out (then_ hb hb9))
              clear hown hb9 hb HL2 HB3 HRR HRS HRM
              go_wp2_with fail
              go_loopw [17] (fun i wr => ∃ j : Nat, j ≤ l.length ∧ i = .int .i64 j ∧ Hid (Below w9.heap.size w9 wr)) (fun i _ => l.length - (intOf i).toNat)
              case atStart => exact ⟨0, Nat.zero_le _, rfl, Lib.hid (Below.refl _ _)⟩
              case round =>
                obtain ⟨j, hj, rfl, HB⟩ := hrel
                by_cases hlt : j < l.length
                · have HPM := Lib.hid (HPR.out _ (List.getElem_mem hlt))
                  have HC9 := Lib.hid (fun W (h : Below w9.heap.size w9 W) => cho_row (HRP.out.below h) j hlt)
                  obtain ⟨b, off, rfl, hp0, hp1⟩ := cho_row (HRP.out.below HB.out) j hlt
                  generalize l[j] = x at HPM HC9 hp0 hp1
                  obtain ⟨s, q⟩ := x
                  simp only at HPM HC9 hp0 hp1
                  have HCS := Lib.hid (fun W (h : Below w9.heap.size w9 W) => (by
                    obtain ⟨b', o', e, h1, h2⟩ := HC9.out W h
                    injection e with e; injection e with e1 e2; subst e1 e2; exact ⟨h1, h2⟩ : W.cell? ⟨b, off + j * 2, none⟩ = some (.string s) ∧ W.cell? ⟨b, off + j * 2 + 1, none⟩ = some (.bool q)))
                  have hjl : (j : Int) < (l.length : Int) := by omega
                  have hj0 : (0 : Int) ≤ (j : Int) := by omega
                  rename World => wz
                  have hb : Below wz.heap.size wz wz.drew := (Below.refl _ _).drew
                  have HIN := Lib.hid (rInT_any A4 cl.length c4 cl s wz.drew (HRC.out.below HB.out.drew) rfl (by omega))
                  rw [← HPM.out] at HIN
                  clear hlt HC9 HPM
                  go_wp2_with fail
                  clear hp0 hp1
                  refine wp_region_held_drew (S := (fun W => W.cell? ⟨b, off + j * 2, none⟩ = some (.string s) ∧ W.cell? ⟨b, off + j * 2 + 1, none⟩ = some (.bool q))) (by kernel_rfl) (HCS.out _ (HB.out.trans (hb.mono HB.out.size))) (fun hHeld => ?_)
                  refine wpAnyH_take (i := 0) (oi := _) (v := ?vq1) rfl (by kernel_rfl) (by kernel_rfl) (by kernel_rfl) (fun _ _ _ h => h) (Or.inl ⟨by rfl, ?hq1⟩) (by assumption) ?rq1
                  case hq1 => (intro w hSw; go_simp; try with_reducible rfl)
                  try dsimp only [Act.put, List.getElem_toArray, List.getElem_cons_zero, List.getElem_cons_succ]; try simp only [List.setIfInBounds_toArray, List.set_cons_zero, List.set_cons_succ]
                  refine wpAnyH_take (i := 1) (oi := _) (v := ?vq2) rfl (by kernel_rfl) (by kernel_rfl) (by kernel_rfl) (fun _ _ _ h => h) (Or.inl ⟨by rfl, ?hq2⟩) (by assumption) ?rq2
                  case hq2 => (intro w hSw; go_simp; try with_reducible rfl)
                  try dsimp only [Act.put, List.getElem_toArray, List.getElem_cons_zero, List.getElem_cons_succ]; try simp only [List.setIfInBounds_toArray, List.set_cons_zero, List.set_cons_succ]
                  refine wpAnyH_take (i := 2) (oi := _) (v := ?vq3) rfl (by kernel_rfl) (by kernel_rfl) (by kernel_rfl) (fun _ _ _ h => h) (Or.inl ⟨by rfl, ?hq3⟩) (by assumption) ?rq3
                  case hq3 => (intro w hSw; go_simp; try with_reducible rfl)
                  try dsimp only [Act.put, List.getElem_toArray, List.getElem_cons_zero, List.getElem_cons_succ]; try simp only [List.setIfInBounds_toArray, List.set_cons_zero, List.set_cons_succ]
                  refine wpAnyH_take (i := 3) (oi := _) (v := ?vq4) rfl (by kernel_rfl) (by kernel_rfl) (by kernel_rfl) (fun _ _ _ h => h) (Or.inl ⟨by rfl, ?hq4⟩) (by assumption) ?rq4
                  case hq4 => (intro w hSw; go_simp; try with_reducible rfl)
                  try dsimp only [Act.put, List.getElem_toArray, List.getElem_cons_zero, List.getElem_cons_succ]; try simp only [List.setIfInBounds_toArray, List.set_cons_zero, List.set_cons_succ]
                  refine wpAnyH_take (i := 4) (oi := _) (v := ?vq5) rfl (by kernel_rfl) (by kernel_rfl) (by kernel_rfl) (fun _ _ _ h => h) (Or.inl ⟨by rfl, ?hq5⟩) (by assumption) ?rq5
                  case hq5 => (intro w hSw; go_simp; try with_reducible rfl)
                  try dsimp only [Act.put, List.getElem_toArray, List.getElem_cons_zero, List.getElem_cons_succ]; try simp only [List.setIfInBounds_toArray, List.set_cons_zero, List.set_cons_succ]
                  refine wpAnyH_take (i := 5) (oi := _) (v := ?vq6) rfl (by kernel_rfl) (by kernel_rfl) (by kernel_rfl) (fun _ _ _ h => h) (Or.inl ⟨by rfl, ?hq6⟩) (by assumption) ?rq6
                  case hq6 => (intro w hSw; go_simp; try with_reducible rfl)
                  try dsimp only [Act.put, List.getElem_toArray, List.getElem_cons_zero, List.getElem_cons_succ]; try simp only [List.setIfInBounds_toArray, List.set_cons_zero, List.set_cons_succ]
                  refine wpAnyH_take (i := 6) (oi := _) (v := ?vq7) rfl (by kernel_rfl) (by kernel_rfl) (by kernel_rfl) (fun _ _ _ h => h) (Or.inl ⟨by rfl, ?hq7⟩) (by assumption) ?rq7
                  case hq7 => (intro w hSw; go_simp; try with_reducible rfl)
                  try dsimp only [Act.put, List.getElem_toArray, List.getElem_cons_zero, List.getElem_cons_succ]; try simp only [List.setIfInBounds_toArray, List.set_cons_zero, List.set_cons_succ]
                  refine wpAnyH_take (i := 7) (oi := _) (v := ?vq8) rfl (by kernel_rfl) (by kernel_rfl) (by kernel_rfl) (fun _ _ _ h => h) (Or.inl ⟨by rfl, ?hq8⟩) (by assumption) ?rq8
                  case hq8 => (intro w hSw; go_simp; try with_reducible rfl)
                  try dsimp only [Act.put, List.getElem_toArray, List.getElem_cons_zero, List.getElem_cons_succ]; try simp only [List.setIfInBounds_toArray, List.set_cons_zero, List.set_cons_succ]
                  refine wpAnyH_take (i := 8) (oi := _) (v := ?vq9) rfl (by kernel_rfl) (by kernel_rfl) (by kernel_rfl) (fun _ _ _ h => h) (Or.inl ⟨by rfl, ?hq9⟩) (by assumption) ?rq9
                  case hq9 => (intro w hSw; go_simp; try with_reducible rfl)
                  try dsimp only [Act.put, List.getElem_toArray, List.getElem_cons_zero, List.getElem_cons_succ]; try simp only [List.setIfInBounds_toArray, List.set_cons_zero, List.set_cons_succ]
                  refine wpAnyH_take (i := 9) (oi := _) (v := ?vq10) rfl (by kernel_rfl) (by kernel_rfl) (by kernel_rfl) (fun _ _ _ h => h) (Or.inl ⟨by rfl, ?hq10⟩) (by assumption) ?rq10
                  case hq10 => (intro w hSw; go_simp; try with_reducible rfl)
                  try dsimp only [Act.put, List.getElem_toArray, List.getElem_cons_zero, List.getElem_cons_succ]; try simp only [List.setIfInBounds_toArray, List.set_cons_zero, List.set_cons_succ]
                  refine wpAnyH_take (i := 10) (oi := _) (v := ?vq11) rfl (by kernel_rfl) (by kernel_rfl) (by kernel_rfl) (fun _ _ _ h => h) (Or.inl ⟨by rfl, ?hq11⟩) (by assumption) ?rq11
                  case hq11 => (intro w hSw; go_simp; try with_reducible rfl)
                  try dsimp only [Act.put, List.getElem_toArray, List.getElem_cons_zero, List.getElem_cons_succ]; try simp only [List.setIfInBounds_toArray, List.set_cons_zero, List.set_cons_succ]
                  refine wpAnyH_ready (rs := [11]) (by kernel_rfl) (by simp) ?_
                  refine AllReadyH.cons (o := _) rfl (fun K hK => ?_) ?_
                  · rw [if_pos (by rfl)]
                    go_simp
                    refine (HIN.out).mono ?_
                    rintro e wx ⟨rfl, hbx⟩
                    have hb := then_ hb hbx
                    clear hbx
                    go_wp2_with fail
                    refine hK.out _ _ (HCS.out _ (HB.out.trans (hb.mono HB.out.size))) (fun hHeld => ?_)
                    clear hK K
                    try dsimp only [Act.put, List.getElem_toArray, List.getElem_cons_zero, List.getElem_cons_succ]; try simp only [List.setIfInBounds_toArray, List.set_cons_zero, List.set_cons_succ]
                    refine wpAnyH_take (i := 12) (oi := _) (v := ?vq12) rfl (by kernel_rfl) (by kernel_rfl) (by kernel_rfl) (fun _ _ _ h => h) (Or.inl ⟨by rfl, ?hq12⟩) (by assumption) ?rq12
                    case hq12 => (intro w hSw; go_simp; try with_reducible rfl)
                    try dsimp only [Act.put, List.getElem_toArray, List.getElem_cons_zero, List.getElem_cons_succ]; try simp only [List.setIfInBounds_toArray, List.set_cons_zero, List.set_cons_succ]
                    refine wpAnyH_done (by kernel_rfl) ?_ _
                    have hqq : (q != q) = false := by simp
                    go_wp2_with fail
                    exact ⟨⟨j + 1, by omega, by go_num, Lib.hid (HB.out.trans (hb.mono HB.out.size))⟩, by simp [intOf]; omega⟩
                  exact AllReadyH.nil
                · have hjl : (l.length : Int) ≤ (j : Int) := by omega
                  go_wp2_with fail
                  refine (awake18_any _).mono ?_
                  rintro e w10 ⟨rfl, hb10⟩
                  go_wp2_with fail
                  go_ret
                  exact ⟨rfl, then_ HB9.out (then_ HB.out hb10)⟩
end Go.Proofs.Ytpiinfjcjpdofaa
