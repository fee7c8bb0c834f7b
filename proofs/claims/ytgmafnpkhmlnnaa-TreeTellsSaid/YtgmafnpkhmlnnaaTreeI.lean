/- Two texts of one sum; the walk of TreeTells. -/
import Derived.Test.YtgmafnpkhmlnnaaTreeG
import Derived.AtR
attribute [local go_sem ↓] Go.wp_at_zero Go.wp_at_succ
namespace Go.Proofs.Ytgmafnpkhmlnnaa
open Go.RowKit Go.Mem Go.Num
set_option linter.unusedVariables false
set_option linter.unusedSimpArgs false

/-- no two texts that are not the same have one sum, of those that were summed -/
def OnceNot (a b : List Leaf) : Prop := (treeL a = treeL b ∨ ¬ rootL a = rootL b) ∧ ∀ k : Nat, k < 16 → (treeL a)[k]? = (treeL b)[k]? → texP (segB k) a = texP (segB k) b
def OnceB (a b : List Leaf) (w : World) (e : Ending) (w' : World) : Prop := ∃ q : Bool, (q = false → OnceNot a b) ∧ e = .returned (.bool q) ∧ Below w.heap.size w w'
theorem texP_fits (p : ByteArray → Bool) (l : List Leaf) (h : l.length ≤ 20) : (texP p l).length ≤ maxLen := by have := texP_len p l; unfold maxLen; omega
set_option maxRecDepth 100000 in
set_option maxHeartbeats 8000000 in
theorem once_any (A : Option Addr) (n c : Nat) (a : List Leaf) (B : Option Addr) (m d : Nat) (b : List Leaf) (w : World)
    (hr : Rd w A (leafc a)) (hn : a.length = n) (hok : n ≤ 20 ∧ ∀ m ∈ a, smallL m) (hr2 : Rd w B (leafc b)) (hn2 : b.length = m) (hok2 : m ≤ 20 ∧ ∀ m ∈ b, smallL m) :
    Calls Try.prog 23 #[.slice A n c, .slice B m d] w (OnceB a b w) := by
  have HR := Lib.hid hr; have HN := Lib.hid hn; have HR2 := Lib.hid hr2; have HN2 := Lib.hid hn2
  have HL := Lib.hid hok; have HL2 := Lib.hid hok2
  clear hr hn hok hr2 hn2 hok2
  have HTA := Lib.hid (treeL_len a); have HTB := Lib.hid (treeL_len b)
  go_enter Try.func23, Try.ntmps23
  go_wp2_with fail
  refine (of28_any A n c a w HR.out HN.out (by have := HL.out.1; omega) HL.out.2).mono ?_
  rintro e w1 ⟨v1, rfl, hown, hb1⟩
  rw [HTA.out] at hown
  obtain ⟨A1, c1, rfl⟩ := own_form hown
  have HX := Lib.hid (Rd.of_own hown)
  have HR := Lib.hid (HR.out.below hb1); have HR2 := Lib.hid (HR2.out.below hb1); have HB := Lib.hid hb1
  clear hb1 hown
  go_wp2_with fail
  refine (of28_any B m d b w1 HR2.out HN2.out (by have := HL2.out.1; omega) HL2.out.2).mono ?_
  rintro e w2 ⟨v2, rfl, hown, hb1⟩
  rw [HTB.out] at hown
  obtain ⟨A2, c2, rfl⟩ := own_form hown
  have HY := Lib.hid (Rd.of_own hown); have HX := Lib.hid (HX.out.below hb1)
  have HR := Lib.hid (HR.out.below hb1); have HR2 := Lib.hid (HR2.out.below hb1); have HB := Lib.hid (then_ HB.out hb1)
  clear hb1 hown
  go_wp2_with fail
  refine (sameTexts_any A1 16 c1 (treeL a) A2 16 c2 (treeL b) w2 HX.out HTA.out (by decide) HY.out HTB.out (by decide)).mono ?_
  rintro e w3 ⟨rfl, hb1⟩
  have HX := Lib.hid (HX.out.below hb1); have HY := Lib.hid (HY.out.below hb1)
  have HR := Lib.hid (HR.out.below hb1); have HR2 := Lib.hid (HR2.out.below hb1); have HB := Lib.hid (then_ HB.out hb1)
  clear hb1
  have hfst : ∀ W : World, Below w3.heap.size w3 W → (treeL a = treeL b ∨ ¬ rootL a = rootL b) → Calls Try.prog 23 #[.slice A n c, .slice B m d] w (OnceB a b w) → True := fun _ _ _ _ => trivial
  clear hfst
  by_cases htt : treeL a = treeL b
  · have HFST : Hid (treeL a = treeL b ∨ ¬ rootL a = rootL b) := Lib.hid (.inl htt)
    rw [decide_eq_true htt]
    clear htt
    go_wp2
    go_loopw [7] (fun i wr => ∃ k : Nat, k ≤ 16 ∧ i = .int .i64 k ∧ Hid (∀ j : Nat, j < k → (treeL a)[j]? = (treeL b)[j]? → texP (segB j) a = texP (segB j) b) ∧ Below w3.heap.size w3 wr) (fun i _ => 16 - (intOf i).toNat)
    case atStart => exact ⟨0, Nat.zero_le _, rfl, Lib.hid (fun j hj => absurd hj (Nat.not_lt_zero _)), Below.refl _ _⟩
    case round =>
      obtain ⟨k, hk, rfl, HJ, hbel⟩ := hrel
      by_cases hlt : k < 16
      · have hx : k < (treeL a).length := by rw [HTA.out]; exact hlt
        have hy : k < (treeL b).length := by rw [HTB.out]; exact hlt
        obtain ⟨b1, off, rfl, hc⟩ := (HX.out.below hbel).at_ k (by simpa using hx)
        obtain ⟨b2, off2, rfl, hd⟩ := (HY.out.below hbel).at_ k (by simpa using hy)
        simp only [List.getElem_map] at hc hd
        have HSS := Lib.hid (show (treeL a)[k]? = some (treeL a)[k] from List.getElem?_eq_getElem hx); have HTT := Lib.hid (show (treeL b)[k]? = some (treeL b)[k] from List.getElem?_eq_getElem hy)
        generalize (treeL a)[k] = s at hc HSS
        generalize (treeL b)[k] = t at hd HTT
        have HP1 := Lib.hid (fun W (h : Below wr.heap.size wr W) => texts28_any A n c a (k : Int) W ((HR.out.below hbel).below h) HN.out (by have := HL.out.1; omega) HL.out.2)
        have HP2 := Lib.hid (fun W (h : Below wr.heap.size wr W) => texts28_any B m d b (k : Int) W ((HR2.out.below hbel).below h) HN2.out (by have := HL2.out.1; omega) HL2.out.2)
        have HM1 := Lib.hid (texP_fits (segB (k : Int)) a (by have := HL.out.1; have := HN.out; omega)); have HM2 := Lib.hid (texP_fits (segB (k : Int)) b (by have := HL2.out.1; have := HN2.out; omega))
        have HJN : Hid (((treeL a)[k]? = (treeL b)[k]? → texP (segB (k : Int)) a = texP (segB (k : Int)) b) → ∀ j : Nat, j < k + 1 → (treeL a)[j]? = (treeL b)[j]? → texP (segB j) a = texP (segB j) b) := Lib.hid (fun h j hj => by
          by_cases e : j = k
          · subst e; exact h
          · exact HJ.out j (by omega))
        generalize texP (segB (k : Int)) a = ta at HP1 HM1 HJN
        generalize texP (segB (k : Int)) b = tb at HP2 HM2 HJN
        rw [HSS.out, HTT.out] at HJN
        clear HJ
        have HBL := Lib.hid hbel
        have hb : Below wr.heap.size wr wr.drew := (Below.refl _ _).drew
        have hc : wr.drew.cell? ⟨b1, off + k, none⟩ = some (.string s) := hc
        have hd : wr.drew.cell? ⟨b2, off2 + k, none⟩ = some (.string t) := hd
        have HCC := Lib.hid (show wr.cell? ⟨b1, off + k, none⟩ = some (.string s) from hc); have HDD := Lib.hid (show wr.cell? ⟨b2, off2 + k, none⟩ = some (.string t) from hd)
        clear hbel
        by_cases hst : s = t
        · subst hst
          have hk2 : ((k : Int) < 16) := by omega
          go_wp2_with fail
          refine wp_region_held_drew (S := (fun W => W.cell? ⟨b1, off + k, none⟩ = some (.string s) ∧ W.cell? ⟨b2, off2 + k, none⟩ = some (.string s))) (by kernel_rfl) ⟨hc, hd⟩ (fun hHeld => ?_)
          refine wpAnyH_take (i := 0) (oi := _) (v := ?vq1) rfl (by kernel_rfl) (by kernel_rfl) (by kernel_rfl) (fun _ _ _ h => h) (Or.inl ⟨by rfl, ?hq1⟩) (by assumption) ?rq1
          case hq1 => (intro w hSw; go_simp; try with_reducible rfl)
          try dsimp only [Act.put, List.getElem_toArray, List.getElem_cons_zero, List.getElem_cons_succ]; try simp only [List.setIfInBounds_toArray, List.set_cons_zero, List.set_cons_succ]
          refine wpAnyH_take (i := 1) (oi := _) (v := ?vq2) rfl (by kernel_rfl) (by kernel_rfl) (by kernel_rfl) (fun _ _ _ h => h) (Or.inl ⟨by rfl, ?hq2⟩) (by assumption) ?rq2
          case hq2 => (intro w hSw; go_simp; try with_reducible rfl)
          try dsimp only [Act.put, List.getElem_toArray, List.getElem_cons_zero, List.getElem_cons_succ]; try simp only [List.setIfInBounds_toArray, List.set_cons_zero, List.set_cons_succ]
          refine wpAnyH_take (i := 2) (oi := _) (v := ?vq3) rfl (by kernel_rfl) (by kernel_rfl) (by kernel_rfl) (fun _ _ _ h => h) (Or.inl ⟨by rfl, ?hq3⟩) (by assumption) ?rq3
          case hq3 => (intro w hSw; go_simp; try with_reducible rfl)
          try dsimp only [Act.put, List.getElem_toArray, List.getElem_cons_zero, List.getElem_cons_succ]; try simp only [List.setIfInBounds_toArray, List.set_cons_zero, List.set_cons_succ]
          refine wpAnyH_take (i := 3) (oi := _) (v := ?vq4) rfl (by kernel_rfl) (by kernel_rfl) (by kernel_rfl) (fun _ _ _ h => h) (Or.inl ⟨by rfl, ?hq4⟩) (by assumption) ?rq4
          case hq4 => (intro w hSw; go_simp; try with_reducible rfl)
          try dsimp only [Act.put, List.getElem_toArray, List.getElem_cons_zero, List.getElem_cons_succ]; try simp only [List.setIfInBounds_toArray, List.set_cons_zero, List.set_cons_succ]
          refine wpAnyH_take (i := 4) (oi := _) (v := ?vq5) rfl (by kernel_rfl) (by kernel_rfl) (by kernel_rfl) (fun _ _ _ h => h) (Or.inl ⟨by rfl, ?hq5⟩) (by assumption) ?rq5
          case hq5 => (intro w hSw; go_simp; try with_reducible rfl)
          try dsimp only [Act.put, List.getElem_toArray, List.getElem_cons_zero, List.getElem_cons_succ]; try simp only [List.setIfInBounds_toArray, List.set_cons_zero, List.set_cons_succ]
          refine wpAnyH_take (i := 5) (oi := _) (v := ?vq6) rfl (by kernel_rfl) (by kernel_rfl) (by kernel_rfl) (fun _ _ _ h => h) (Or.inl ⟨by rfl, ?hq6⟩) (by assumption) ?rq6
          case hq6 => (intro w hSw; go_simp; try with_reducible rfl)
          try dsimp only [Act.put, List.getElem_toArray, List.getElem_cons_zero, List.getElem_cons_succ]; try simp only [List.setIfInBounds_toArray, List.set_cons_zero, List.set_cons_succ]
          refine wpAnyH_take (i := 6) (oi := _) (v := ?vq7) rfl (by kernel_rfl) (by kernel_rfl) (by kernel_rfl) (fun _ _ _ h => h) (Or.inl ⟨by rfl, ?hq7⟩) (by assumption) ?rq7
          case hq7 => (intro w hSw; go_simp; try with_reducible rfl)
          try dsimp only [Act.put, List.getElem_toArray, List.getElem_cons_zero, List.getElem_cons_succ]; try simp only [List.setIfInBounds_toArray, List.set_cons_zero, List.set_cons_succ]
          refine wpAnyH_take (i := 7) (oi := _) (v := ?vq8) rfl (by kernel_rfl) (by kernel_rfl) (by kernel_rfl) (fun _ _ _ h => h) (Or.inl ⟨by rfl, ?hq8⟩) (by assumption) ?rq8
          case hq8 => (intro w hSw; go_simp; try with_reducible rfl)
          try dsimp only [Act.put, List.getElem_toArray, List.getElem_cons_zero, List.getElem_cons_succ]; try simp only [List.setIfInBounds_toArray, List.set_cons_zero, List.set_cons_succ]
          refine wpAnyH_take (i := 8) (oi := _) (v := ?vq9) rfl (by kernel_rfl) (by kernel_rfl) (by kernel_rfl) (fun _ _ _ h => h) (Or.inl ⟨by rfl, ?hq9⟩) (by assumption) ?rq9
          case hq9 => (intro w hSw; go_simp; try with_reducible rfl)
          try dsimp only [Act.put, List.getElem_toArray, List.getElem_cons_zero, List.getElem_cons_succ]; try simp only [List.setIfInBounds_toArray, List.set_cons_zero, List.set_cons_succ]
          refine wpAnyH_take (i := 9) (oi := _) (v := ?vq10) rfl (by kernel_rfl) (by kernel_rfl) (by kernel_rfl) (fun _ _ _ h => h) (Or.inl ⟨by rfl, ?hq10⟩) (by assumption) ?rq10
          case hq10 => (intro w hSw; go_simp; try with_reducible rfl)
          try dsimp only [Act.put, List.getElem_toArray, List.getElem_cons_zero, List.getElem_cons_succ]; try simp only [List.setIfInBounds_toArray, List.set_cons_zero, List.set_cons_succ]
          refine wpAnyH_take (i := 10) (oi := _) (v := ?vq11) rfl (by kernel_rfl) (by kernel_rfl) (by kernel_rfl) (fun _ _ _ h => h) (Or.inl ⟨by rfl, ?hq11⟩) (by assumption) ?rq11
          case hq11 => (intro w hSw; go_simp; try with_reducible rfl)
          try dsimp only [Act.put, List.getElem_toArray, List.getElem_cons_zero, List.getElem_cons_succ]; try simp only [List.setIfInBounds_toArray, List.set_cons_zero, List.set_cons_succ]
          refine wpAnyH_take (i := 11) (oi := _) (v := ?vq12) rfl (by kernel_rfl) (by kernel_rfl) (by kernel_rfl) (fun _ _ _ h => h) (Or.inl ⟨by rfl, ?hq12⟩) (by assumption) ?rq12
          case hq12 => (intro w hSw; go_simp; try with_reducible rfl)
          try dsimp only [Act.put, List.getElem_toArray, List.getElem_cons_zero, List.getElem_cons_succ]; try simp only [List.setIfInBounds_toArray, List.set_cons_zero, List.set_cons_succ]
          refine wpAnyH_take (i := 13) (oi := _) (v := ?vq13) rfl (by kernel_rfl) (by kernel_rfl) (by kernel_rfl) (fun _ _ _ h => h) (Or.inl ⟨by rfl, ?hq13⟩) (by assumption) ?rq13
          case hq13 => (intro w hSw; go_simp; try with_reducible rfl)
          try dsimp only [Act.put, List.getElem_toArray, List.getElem_cons_zero, List.getElem_cons_succ]; try simp only [List.setIfInBounds_toArray, List.set_cons_zero, List.set_cons_succ]
          refine wpAnyH_take (i := 14) (oi := _) (v := ?vq14) rfl (by kernel_rfl) (by kernel_rfl) (by kernel_rfl) (fun _ _ _ h => h) (Or.inl ⟨by rfl, ?hq14⟩) (by assumption) ?rq14
          case hq14 => (intro w hSw; go_simp; try with_reducible rfl)
          try dsimp only [Act.put, List.getElem_toArray, List.getElem_cons_zero, List.getElem_cons_succ]; try simp only [List.setIfInBounds_toArray, List.set_cons_zero, List.set_cons_succ]
          refine wpAnyH_ready (rs := [12]) (by kernel_rfl) (by simp) ?_
          refine AllReadyH.cons (o := _) rfl (fun K hK => ?_) ?_
          · rw [if_pos (by rfl)]
            go_simp
            refine (HP1.out _ hb).mono ?_
            rintro e wx ⟨vx1, rfl, hown, hbx⟩
            obtain ⟨P1, p1, rfl⟩ := own_form hown
            have RR1 := Lib.hid (Rd.of_own hown)
            clear hown
            try have RR2 := Lib.hid (RR2.out.below hbx)
            have hb := then_ hb hbx
            clear hbx
            go_wp2_with fail
            refine hK.out _ _ ⟨cell_below hb HCC.out, cell_below hb HDD.out⟩ (fun hHeld => ?_)
            clear hK K
            try dsimp only [Act.put, List.getElem_toArray, List.getElem_cons_zero, List.getElem_cons_succ]; try simp only [List.setIfInBounds_toArray, List.set_cons_zero, List.set_cons_succ]
            refine wpAnyH_ready (rs := [15]) (by kernel_rfl) (by simp) ?_
            refine AllReadyH.cons (o := _) rfl (fun K hK => ?_) ?_
            · rw [if_pos (by rfl)]
              go_simp
              refine (HP2.out _ hb).mono ?_
              rintro e wx ⟨vx2, rfl, hown, hbx⟩
              obtain ⟨P2, p2, rfl⟩ := own_form hown
              have RR2 := Lib.hid (Rd.of_own hown)
              clear hown
              try have RR1 := Lib.hid (RR1.out.below hbx)
              have hb := then_ hb hbx
              clear hbx
              go_wp2_with fail
              refine hK.out _ _ ⟨cell_below hb HCC.out, cell_below hb HDD.out⟩ (fun hHeld => ?_)
              clear hK K
              try dsimp only [Act.put, List.getElem_toArray, List.getElem_cons_zero, List.getElem_cons_succ]; try simp only [List.setIfInBounds_toArray, List.set_cons_zero, List.set_cons_succ]
              refine wpAnyH_ready (rs := [16]) (by kernel_rfl) (by simp) ?_
              refine AllReadyH.cons (o := _) rfl (fun K hK => ?_) ?_
              · rw [if_pos (by rfl)]
                go_simp
                refine (sameTexts_any P1 ta.length p1 ta P2 tb.length p2 tb _ RR1.out rfl HM1.out RR2.out rfl HM2.out).mono ?_
                rintro e wx ⟨rfl, hbx⟩
                have hb := then_ hb hbx
                clear hbx
                generalize hq : decide (ta = tb) = q
                have HQ := Lib.hid hq
                clear hq
                go_wp2_with fail
                refine hK.out _ _ ⟨cell_below hb HCC.out, cell_below hb HDD.out⟩ (fun hHeld => ?_)
                clear hK K
                try dsimp only [Act.put, List.getElem_toArray, List.getElem_cons_zero, List.getElem_cons_succ]; try simp only [List.setIfInBounds_toArray, List.set_cons_zero, List.set_cons_succ]
                refine wpAnyH_take (i := 17) (oi := _) (v := ?vq15) rfl (by kernel_rfl) (by kernel_rfl) (by kernel_rfl) (fun _ _ _ h => h) (Or.inl ⟨by rfl, ?hq15⟩) (by assumption) ?rq15
                case hq15 => (intro w hSw; go_simp; try with_reducible rfl)
                try dsimp only [Act.put, List.getElem_toArray, List.getElem_cons_zero, List.getElem_cons_succ]; try simp only [List.setIfInBounds_toArray, List.set_cons_zero, List.set_cons_succ]
                refine wpAnyH_take (i := 18) (oi := _) (v := ?vq16) rfl (by kernel_rfl) (by kernel_rfl) (by kernel_rfl) (fun _ _ _ h => h) (Or.inl ⟨by rfl, ?hq16⟩) (by assumption) ?rq16
                case hq16 => (intro w hSw; go_simp; try with_reducible rfl)
                try dsimp only [Act.put, List.getElem_toArray, List.getElem_cons_zero, List.getElem_cons_succ]; try simp only [List.setIfInBounds_toArray, List.set_cons_zero, List.set_cons_succ]
                refine wpAnyH_done (by kernel_rfl) ?_ _
                cases q
                · go_wp2
                  go_ret
                  exact ⟨true, by simp, rfl, then_ HB.out (then_ HBL.out hb)⟩
                · go_wp2
                  go_roundw
                  case rel => exact ⟨k + 1, by omega, by go_num, Lib.hid (HJN.out (fun _ => of_decide_eq_true HQ.out)), then_ HBL.out hb⟩
                  case measure => simp [intOf]; omega
              exact AllReadyH.nil
            exact AllReadyH.nil
          exact AllReadyH.nil
        · have hq : (s.toList == t.toList) = false := by rw [str_beq]; simp [hst]
          have hk2 : ((k : Int) < 16) := by omega
          go_wp2_with fail
          refine wp_region_held_drew (S := (fun W => W.cell? ⟨b1, off + k, none⟩ = some (.string s) ∧ W.cell? ⟨b2, off2 + k, none⟩ = some (.string t))) (by kernel_rfl) ⟨hc, hd⟩ (fun hHeld => ?_)
          refine wpAnyH_take (i := 0) (oi := _) (v := ?vq17) rfl (by kernel_rfl) (by kernel_rfl) (by kernel_rfl) (fun _ _ _ h => h) (Or.inl ⟨by rfl, ?hq17⟩) (by assumption) ?rq17
          case hq17 => (intro w hSw; go_simp; try with_reducible rfl)
          try dsimp only [Act.put, List.getElem_toArray, List.getElem_cons_zero, List.getElem_cons_succ]; try simp only [List.setIfInBounds_toArray, List.set_cons_zero, List.set_cons_succ]
          refine wpAnyH_take (i := 1) (oi := _) (v := ?vq18) rfl (by kernel_rfl) (by kernel_rfl) (by kernel_rfl) (fun _ _ _ h => h) (Or.inl ⟨by rfl, ?hq18⟩) (by assumption) ?rq18
          case hq18 => (intro w hSw; go_simp; try with_reducible rfl)
          try dsimp only [Act.put, List.getElem_toArray, List.getElem_cons_zero, List.getElem_cons_succ]; try simp only [List.setIfInBounds_toArray, List.set_cons_zero, List.set_cons_succ]
          refine wpAnyH_take (i := 2) (oi := _) (v := ?vq19) rfl (by kernel_rfl) (by kernel_rfl) (by kernel_rfl) (fun _ _ _ h => h) (Or.inl ⟨by rfl, ?hq19⟩) (by assumption) ?rq19
          case hq19 => (intro w hSw; go_simp; try with_reducible rfl)
          try dsimp only [Act.put, List.getElem_toArray, List.getElem_cons_zero, List.getElem_cons_succ]; try simp only [List.setIfInBounds_toArray, List.set_cons_zero, List.set_cons_succ]
          refine wpAnyH_take (i := 3) (oi := _) (v := ?vq20) rfl (by kernel_rfl) (by kernel_rfl) (by kernel_rfl) (fun _ _ _ h => h) (Or.inl ⟨by rfl, ?hq20⟩) (by assumption) ?rq20
          case hq20 => (intro w hSw; go_simp; try with_reducible rfl)
          try dsimp only [Act.put, List.getElem_toArray, List.getElem_cons_zero, List.getElem_cons_succ]; try simp only [List.setIfInBounds_toArray, List.set_cons_zero, List.set_cons_succ]
          refine wpAnyH_take (i := 4) (oi := _) (v := ?vq21) rfl (by kernel_rfl) (by kernel_rfl) (by kernel_rfl) (fun _ _ _ h => h) (Or.inl ⟨by rfl, ?hq21⟩) (by assumption) ?rq21
          case hq21 => (intro w hSw; go_simp; try with_reducible rfl)
          try dsimp only [Act.put, List.getElem_toArray, List.getElem_cons_zero, List.getElem_cons_succ]; try simp only [List.setIfInBounds_toArray, List.set_cons_zero, List.set_cons_succ]
          refine wpAnyH_take (i := 5) (oi := _) (v := ?vq22) rfl (by kernel_rfl) (by kernel_rfl) (by kernel_rfl) (fun _ _ _ h => h) (Or.inl ⟨by rfl, ?hq22⟩) (by assumption) ?rq22
          case hq22 => (intro w hSw; go_simp; try with_reducible rfl)
          try dsimp only [Act.put, List.getElem_toArray, List.getElem_cons_zero, List.getElem_cons_succ]; try simp only [List.setIfInBounds_toArray, List.set_cons_zero, List.set_cons_succ]
          refine wpAnyH_take (i := 6) (oi := _) (v := ?vq23) rfl (by kernel_rfl) (by kernel_rfl) (by kernel_rfl) (fun _ _ _ h => h) (Or.inl ⟨by rfl, ?hq23⟩) (by assumption) ?rq23
          case hq23 => (intro w hSw; go_simp; try with_reducible rfl)
          try dsimp only [Act.put, List.getElem_toArray, List.getElem_cons_zero, List.getElem_cons_succ]; try simp only [List.setIfInBounds_toArray, List.set_cons_zero, List.set_cons_succ]
          refine wpAnyH_take (i := 7) (oi := _) (v := ?vq24) rfl (by kernel_rfl) (by kernel_rfl) (by kernel_rfl) (fun _ _ _ h => h) (Or.inl ⟨by rfl, ?hq24⟩) (by assumption) ?rq24
          case hq24 => (intro w hSw; go_simp; try with_reducible rfl)
          try dsimp only [Act.put, List.getElem_toArray, List.getElem_cons_zero, List.getElem_cons_succ]; try simp only [List.setIfInBounds_toArray, List.set_cons_zero, List.set_cons_succ]
          refine wpAnyH_take (i := 8) (oi := _) (v := ?vq25) rfl (by kernel_rfl) (by kernel_rfl) (by kernel_rfl) (fun _ _ _ h => h) (Or.inl ⟨by rfl, ?hq25⟩) (by assumption) ?rq25
          case hq25 => (intro w hSw; go_simp; try with_reducible rfl)
          try dsimp only [Act.put, List.getElem_toArray, List.getElem_cons_zero, List.getElem_cons_succ]; try simp only [List.setIfInBounds_toArray, List.set_cons_zero, List.set_cons_succ]
          refine wpAnyH_take (i := 9) (oi := _) (v := ?vq26) rfl (by kernel_rfl) (by kernel_rfl) (by kernel_rfl) (fun _ _ _ h => h) (Or.inl ⟨by rfl, ?hq26⟩) (by assumption) ?rq26
          case hq26 => (intro w hSw; go_simp; try with_reducible rfl)
          try dsimp only [Act.put, List.getElem_toArray, List.getElem_cons_zero, List.getElem_cons_succ]; try simp only [List.setIfInBounds_toArray, List.set_cons_zero, List.set_cons_succ]
          refine wpAnyH_take (i := 10) (oi := _) (v := undef) rfl (by kernel_rfl) (by kernel_rfl) (by kernel_rfl) (fun _ _ _ h => h) (Or.inr ⟨by rfl, rfl⟩) (by assumption) ?_
          try dsimp only [Act.put, List.getElem_toArray, List.getElem_cons_zero, List.getElem_cons_succ]; try simp only [List.setIfInBounds_toArray, List.set_cons_zero, List.set_cons_succ]
          refine wpAnyH_take (i := 11) (oi := _) (v := undef) rfl (by kernel_rfl) (by kernel_rfl) (by kernel_rfl) (fun _ _ _ h => h) (Or.inr ⟨by rfl, rfl⟩) (by assumption) ?_
          try dsimp only [Act.put, List.getElem_toArray, List.getElem_cons_zero, List.getElem_cons_succ]; try simp only [List.setIfInBounds_toArray, List.set_cons_zero, List.set_cons_succ]
          refine wpAnyH_take (i := 12) (oi := _) (v := undef) rfl (by kernel_rfl) (by kernel_rfl) (by kernel_rfl) (fun _ _ _ h => h) (Or.inr ⟨by rfl, rfl⟩) (by assumption) ?_
          try dsimp only [Act.put, List.getElem_toArray, List.getElem_cons_zero, List.getElem_cons_succ]; try simp only [List.setIfInBounds_toArray, List.set_cons_zero, List.set_cons_succ]
          refine wpAnyH_take (i := 13) (oi := _) (v := undef) rfl (by kernel_rfl) (by kernel_rfl) (by kernel_rfl) (fun _ _ _ h => h) (Or.inr ⟨by rfl, rfl⟩) (by assumption) ?_
          try dsimp only [Act.put, List.getElem_toArray, List.getElem_cons_zero, List.getElem_cons_succ]; try simp only [List.setIfInBounds_toArray, List.set_cons_zero, List.set_cons_succ]
          refine wpAnyH_take (i := 14) (oi := _) (v := undef) rfl (by kernel_rfl) (by kernel_rfl) (by kernel_rfl) (fun _ _ _ h => h) (Or.inr ⟨by rfl, rfl⟩) (by assumption) ?_
          try dsimp only [Act.put, List.getElem_toArray, List.getElem_cons_zero, List.getElem_cons_succ]; try simp only [List.setIfInBounds_toArray, List.set_cons_zero, List.set_cons_succ]
          refine wpAnyH_take (i := 15) (oi := _) (v := undef) rfl (by kernel_rfl) (by kernel_rfl) (by kernel_rfl) (fun _ _ _ h => h) (Or.inr ⟨by rfl, rfl⟩) (by assumption) ?_
          try dsimp only [Act.put, List.getElem_toArray, List.getElem_cons_zero, List.getElem_cons_succ]; try simp only [List.setIfInBounds_toArray, List.set_cons_zero, List.set_cons_succ]
          refine wpAnyH_take (i := 16) (oi := _) (v := undef) rfl (by kernel_rfl) (by kernel_rfl) (by kernel_rfl) (fun _ _ _ h => h) (Or.inr ⟨by rfl, rfl⟩) (by assumption) ?_
          try dsimp only [Act.put, List.getElem_toArray, List.getElem_cons_zero, List.getElem_cons_succ]; try simp only [List.setIfInBounds_toArray, List.set_cons_zero, List.set_cons_succ]
          refine wpAnyH_take (i := 17) (oi := _) (v := undef) rfl (by kernel_rfl) (by kernel_rfl) (by kernel_rfl) (fun _ _ _ h => h) (Or.inr ⟨by rfl, rfl⟩) (by assumption) ?_
          try dsimp only [Act.put, List.getElem_toArray, List.getElem_cons_zero, List.getElem_cons_succ]; try simp only [List.setIfInBounds_toArray, List.set_cons_zero, List.set_cons_succ]
          refine wpAnyH_take (i := 18) (oi := _) (v := ?vq35) rfl (by kernel_rfl) (by kernel_rfl) (by kernel_rfl) (fun _ _ _ h => h) (Or.inl ⟨by rfl, ?hq35⟩) (by assumption) ?rq35
          case hq35 => (intro w hSw; go_simp; try with_reducible rfl)
          try dsimp only [Act.put, List.getElem_toArray, List.getElem_cons_zero, List.getElem_cons_succ]; try simp only [List.setIfInBounds_toArray, List.set_cons_zero, List.set_cons_succ]
          refine wpAnyH_done (by kernel_rfl) ?_ _
          go_wp2
          go_roundw
          case rel => exact ⟨k + 1, by omega, by go_num, Lib.hid (HJN.out (fun h => absurd (Option.some.inj h) hst)), then_ HBL.out hb⟩
          case measure => simp [intOf]; omega
      · obtain rfl : k = 16 := by omega
        have hbf := then_ HB.out hbel
        go_wp2
        go_ret
        exact ⟨false, fun _ => ⟨HFST.out, HJ.out⟩, rfl, hbf⟩
  · rw [decide_eq_false htt]
    clear htt
    go_wp2_with fail
    refine (root28_any A n c a w3 HR.out HN.out (by have := HL.out.1; omega) HL.out.2).mono ?_
    rintro e w4 ⟨rfl, hb1⟩
    have HX := Lib.hid (HX.out.below hb1); have HY := Lib.hid (HY.out.below hb1)
    have HR := Lib.hid (HR.out.below hb1); have HR2 := Lib.hid (HR2.out.below hb1); have HB := Lib.hid (then_ HB.out hb1)
    clear hb1
    go_wp2_with fail
    refine (root28_any B m d b w4 HR2.out HN2.out (by have := HL2.out.1; omega) HL2.out.2).mono ?_
    rintro e w5 ⟨rfl, hb1⟩
    have HX := Lib.hid (HX.out.below hb1); have HY := Lib.hid (HY.out.below hb1)
    have HR := Lib.hid (HR.out.below hb1); have HR2 := Lib.hid (HR2.out.below hb1); have HB := Lib.hid (then_ HB.out hb1)
    clear hb1
    by_cases hrr : rootL a = rootL b
    · rw [hrr]
      generalize rootL b = rr
      have hq : (rr.toList == rr.toList) = true := by simp
      clear hrr
      go_wp2
      go_ret
      exact ⟨true, by simp, rfl, HB.out⟩
    have HFST : Hid (treeL a = treeL b ∨ ¬ rootL a = rootL b) := Lib.hid (.inr hrr)
    have hq : ((rootL a).toList == (rootL b).toList) = false := by rw [str_beq]; simp [hrr]
    generalize rootL a = ra at hq ⊢
    generalize rootL b = rb at hq ⊢
    clear hrr
    go_wp2
    clear hq
    go_loopw [7] (fun i wr => ∃ k : Nat, k ≤ 16 ∧ i = .int .i64 k ∧ Hid (∀ j : Nat, j < k → (treeL a)[j]? = (treeL b)[j]? → texP (segB j) a = texP (segB j) b) ∧ Below w5.heap.size w5 wr) (fun i _ => 16 - (intOf i).toNat)
    case atStart => exact ⟨0, Nat.zero_le _, rfl, Lib.hid (fun j hj => absurd hj (Nat.not_lt_zero _)), Below.refl _ _⟩
    case round =>
      obtain ⟨k, hk, rfl, HJ, hbel⟩ := hrel
      by_cases hlt : k < 16
      · have hx : k < (treeL a).length := by rw [HTA.out]; exact hlt
        have hy : k < (treeL b).length := by rw [HTB.out]; exact hlt
        obtain ⟨b1, off, rfl, hc⟩ := (HX.out.below hbel).at_ k (by simpa using hx)
        obtain ⟨b2, off2, rfl, hd⟩ := (HY.out.below hbel).at_ k (by simpa using hy)
        simp only [List.getElem_map] at hc hd
        have HSS := Lib.hid (show (treeL a)[k]? = some (treeL a)[k] from List.getElem?_eq_getElem hx); have HTT := Lib.hid (show (treeL b)[k]? = some (treeL b)[k] from List.getElem?_eq_getElem hy)
        generalize (treeL a)[k] = s at hc HSS
        generalize (treeL b)[k] = t at hd HTT
        have HP1 := Lib.hid (fun W (h : Below wr.heap.size wr W) => texts28_any A n c a (k : Int) W ((HR.out.below hbel).below h) HN.out (by have := HL.out.1; omega) HL.out.2)
        have HP2 := Lib.hid (fun W (h : Below wr.heap.size wr W) => texts28_any B m d b (k : Int) W ((HR2.out.below hbel).below h) HN2.out (by have := HL2.out.1; omega) HL2.out.2)
        have HM1 := Lib.hid (texP_fits (segB (k : Int)) a (by have := HL.out.1; have := HN.out; omega)); have HM2 := Lib.hid (texP_fits (segB (k : Int)) b (by have := HL2.out.1; have := HN2.out; omega))
        have HJN : Hid (((treeL a)[k]? = (treeL b)[k]? → texP (segB (k : Int)) a = texP (segB (k : Int)) b) → ∀ j : Nat, j < k + 1 → (treeL a)[j]? = (treeL b)[j]? → texP (segB j) a = texP (segB j) b) := Lib.hid (fun h j hj => by
          by_cases e : j = k
          · subst e; exact h
          · exact HJ.out j (by omega))
        generalize texP (segB (k : Int)) a = ta at HP1 HM1 HJN
        generalize texP (segB (k : Int)) b = tb at HP2 HM2 HJN
        rw [HSS.out, HTT.out] at HJN
        clear HJ
        have HBL := Lib.hid hbel
        have hb : Below wr.heap.size wr wr.drew := (Below.refl _ _).drew
        have hc : wr.drew.cell? ⟨b1, off + k, none⟩ = some (.string s) := hc
        have hd : wr.drew.cell? ⟨b2, off2 + k, none⟩ = some (.string t) := hd
        have HCC := Lib.hid (show wr.cell? ⟨b1, off + k, none⟩ = some (.string s) from hc); have HDD := Lib.hid (show wr.cell? ⟨b2, off2 + k, none⟩ = some (.string t) from hd)
        clear hbel
        by_cases hst : s = t
        · subst hst
          have hk2 : ((k : Int) < 16) := by omega
          go_wp2_with fail
          refine wp_region_held_drew (S := (fun W => W.cell? ⟨b1, off + k, none⟩ = some (.string s) ∧ W.cell? ⟨b2, off2 + k, none⟩ = some (.string s))) (by kernel_rfl) ⟨hc, hd⟩ (fun hHeld => ?_)
          refine wpAnyH_take (i := 0) (oi := _) (v := ?vq36) rfl (by kernel_rfl) (by kernel_rfl) (by kernel_rfl) (fun _ _ _ h => h) (Or.inl ⟨by rfl, ?hq36⟩) (by assumption) ?rq36
          case hq36 => (intro w hSw; go_simp; try with_reducible rfl)
          try dsimp only [Act.put, List.getElem_toArray, List.getElem_cons_zero, List.getElem_cons_succ]; try simp only [List.setIfInBounds_toArray, List.set_cons_zero, List.set_cons_succ]
          refine wpAnyH_take (i := 1) (oi := _) (v := ?vq37) rfl (by kernel_rfl) (by kernel_rfl) (by kernel_rfl) (fun _ _ _ h => h) (Or.inl ⟨by rfl, ?hq37⟩) (by assumption) ?rq37
          case hq37 => (intro w hSw; go_simp; try with_reducible rfl)
          try dsimp only [Act.put, List.getElem_toArray, List.getElem_cons_zero, List.getElem_cons_succ]; try simp only [List.setIfInBounds_toArray, List.set_cons_zero, List.set_cons_succ]
          refine wpAnyH_take (i := 2) (oi := _) (v := ?vq38) rfl (by kernel_rfl) (by kernel_rfl) (by kernel_rfl) (fun _ _ _ h => h) (Or.inl ⟨by rfl, ?hq38⟩) (by assumption) ?rq38
          case hq38 => (intro w hSw; go_simp; try with_reducible rfl)
          try dsimp only [Act.put, List.getElem_toArray, List.getElem_cons_zero, List.getElem_cons_succ]; try simp only [List.setIfInBounds_toArray, List.set_cons_zero, List.set_cons_succ]
          refine wpAnyH_take (i := 3) (oi := _) (v := ?vq39) rfl (by kernel_rfl) (by kernel_rfl) (by kernel_rfl) (fun _ _ _ h => h) (Or.inl ⟨by rfl, ?hq39⟩) (by assumption) ?rq39
          case hq39 => (intro w hSw; go_simp; try with_reducible rfl)
          try dsimp only [Act.put, List.getElem_toArray, List.getElem_cons_zero, List.getElem_cons_succ]; try simp only [List.setIfInBounds_toArray, List.set_cons_zero, List.set_cons_succ]
          refine wpAnyH_take (i := 4) (oi := _) (v := ?vq40) rfl (by kernel_rfl) (by kernel_rfl) (by kernel_rfl) (fun _ _ _ h => h) (Or.inl ⟨by rfl, ?hq40⟩) (by assumption) ?rq40
          case hq40 => (intro w hSw; go_simp; try with_reducible rfl)
          try dsimp only [Act.put, List.getElem_toArray, List.getElem_cons_zero, List.getElem_cons_succ]; try simp only [List.setIfInBounds_toArray, List.set_cons_zero, List.set_cons_succ]
          refine wpAnyH_take (i := 5) (oi := _) (v := ?vq41) rfl (by kernel_rfl) (by kernel_rfl) (by kernel_rfl) (fun _ _ _ h => h) (Or.inl ⟨by rfl, ?hq41⟩) (by assumption) ?rq41
          case hq41 => (intro w hSw; go_simp; try with_reducible rfl)
          try dsimp only [Act.put, List.getElem_toArray, List.getElem_cons_zero, List.getElem_cons_succ]; try simp only [List.setIfInBounds_toArray, List.set_cons_zero, List.set_cons_succ]
          refine wpAnyH_take (i := 6) (oi := _) (v := ?vq42) rfl (by kernel_rfl) (by kernel_rfl) (by kernel_rfl) (fun _ _ _ h => h) (Or.inl ⟨by rfl, ?hq42⟩) (by assumption) ?rq42
          case hq42 => (intro w hSw; go_simp; try with_reducible rfl)
          try dsimp only [Act.put, List.getElem_toArray, List.getElem_cons_zero, List.getElem_cons_succ]; try simp only [List.setIfInBounds_toArray, List.set_cons_zero, List.set_cons_succ]
          refine wpAnyH_take (i := 7) (oi := _) (v := ?vq43) rfl (by kernel_rfl) (by kernel_rfl) (by kernel_rfl) (fun _ _ _ h => h) (Or.inl ⟨by rfl, ?hq43⟩) (by assumption) ?rq43
          case hq43 => (intro w hSw; go_simp; try with_reducible rfl)
          try dsimp only [Act.put, List.getElem_toArray, List.getElem_cons_zero, List.getElem_cons_succ]; try simp only [List.setIfInBounds_toArray, List.set_cons_zero, List.set_cons_succ]
          refine wpAnyH_take (i := 8) (oi := _) (v := ?vq44) rfl (by kernel_rfl) (by kernel_rfl) (by kernel_rfl) (fun _ _ _ h => h) (Or.inl ⟨by rfl, ?hq44⟩) (by assumption) ?rq44
          case hq44 => (intro w hSw; go_simp; try with_reducible rfl)
          try dsimp only [Act.put, List.getElem_toArray, List.getElem_cons_zero, List.getElem_cons_succ]; try simp only [List.setIfInBounds_toArray, List.set_cons_zero, List.set_cons_succ]
          refine wpAnyH_take (i := 9) (oi := _) (v := ?vq45) rfl (by kernel_rfl) (by kernel_rfl) (by kernel_rfl) (fun _ _ _ h => h) (Or.inl ⟨by rfl, ?hq45⟩) (by assumption) ?rq45
          case hq45 => (intro w hSw; go_simp; try with_reducible rfl)
          try dsimp only [Act.put, List.getElem_toArray, List.getElem_cons_zero, List.getElem_cons_succ]; try simp only [List.setIfInBounds_toArray, List.set_cons_zero, List.set_cons_succ]
          refine wpAnyH_take (i := 10) (oi := _) (v := ?vq46) rfl (by kernel_rfl) (by kernel_rfl) (by kernel_rfl) (fun _ _ _ h => h) (Or.inl ⟨by rfl, ?hq46⟩) (by assumption) ?rq46
          case hq46 => (intro w hSw; go_simp; try with_reducible rfl)
          try dsimp only [Act.put, List.getElem_toArray, List.getElem_cons_zero, List.getElem_cons_succ]; try simp only [List.setIfInBounds_toArray, List.set_cons_zero, List.set_cons_succ]
          refine wpAnyH_take (i := 11) (oi := _) (v := ?vq47) rfl (by kernel_rfl) (by kernel_rfl) (by kernel_rfl) (fun _ _ _ h => h) (Or.inl ⟨by rfl, ?hq47⟩) (by assumption) ?rq47
          case hq47 => (intro w hSw; go_simp; try with_reducible rfl)
          try dsimp only [Act.put, List.getElem_toArray, List.getElem_cons_zero, List.getElem_cons_succ]; try simp only [List.setIfInBounds_toArray, List.set_cons_zero, List.set_cons_succ]
          refine wpAnyH_take (i := 13) (oi := _) (v := ?vq48) rfl (by kernel_rfl) (by kernel_rfl) (by kernel_rfl) (fun _ _ _ h => h) (Or.inl ⟨by rfl, ?hq48⟩) (by assumption) ?rq48
          case hq48 => (intro w hSw; go_simp; try with_reducible rfl)
          try dsimp only [Act.put, List.getElem_toArray, List.getElem_cons_zero, List.getElem_cons_succ]; try simp only [List.setIfInBounds_toArray, List.set_cons_zero, List.set_cons_succ]
          refine wpAnyH_take (i := 14) (oi := _) (v := ?vq49) rfl (by kernel_rfl) (by kernel_rfl) (by kernel_rfl) (fun _ _ _ h => h) (Or.inl ⟨by rfl, ?hq49⟩) (by assumption) ?rq49
          case hq49 => (intro w hSw; go_simp; try with_reducible rfl)
          try dsimp only [Act.put, List.getElem_toArray, List.getElem_cons_zero, List.getElem_cons_succ]; try simp only [List.setIfInBounds_toArray, List.set_cons_zero, List.set_cons_succ]
          refine wpAnyH_ready (rs := [12]) (by kernel_rfl) (by simp) ?_
          refine AllReadyH.cons (o := _) rfl (fun K hK => ?_) ?_
          · rw [if_pos (by rfl)]
            go_simp
            refine (HP1.out _ hb).mono ?_
            rintro e wx ⟨vx1, rfl, hown, hbx⟩
            obtain ⟨P1, p1, rfl⟩ := own_form hown
            have RR1 := Lib.hid (Rd.of_own hown)
            clear hown
            try have RR2 := Lib.hid (RR2.out.below hbx)
            have hb := then_ hb hbx
            clear hbx
            go_wp2_with fail
            refine hK.out _ _ ⟨cell_below hb HCC.out, cell_below hb HDD.out⟩ (fun hHeld => ?_)
            clear hK K
            try dsimp only [Act.put, List.getElem_toArray, List.getElem_cons_zero, List.getElem_cons_succ]; try simp only [List.setIfInBounds_toArray, List.set_cons_zero, List.set_cons_succ]
            refine wpAnyH_ready (rs := [15]) (by kernel_rfl) (by simp) ?_
            refine AllReadyH.cons (o := _) rfl (fun K hK => ?_) ?_
            · rw [if_pos (by rfl)]
              go_simp
              refine (HP2.out _ hb).mono ?_
              rintro e wx ⟨vx2, rfl, hown, hbx⟩
              obtain ⟨P2, p2, rfl⟩ := own_form hown
              have RR2 := Lib.hid (Rd.of_own hown)
              clear hown
              try have RR1 := Lib.hid (RR1.out.below hbx)
              have hb := then_ hb hbx
              clear hbx
              go_wp2_with fail
              refine hK.out _ _ ⟨cell_below hb HCC.out, cell_below hb HDD.out⟩ (fun hHeld => ?_)
              clear hK K
              try dsimp only [Act.put, List.getElem_toArray, List.getElem_cons_zero, List.getElem_cons_succ]; try simp only [List.setIfInBounds_toArray, List.set_cons_zero, List.set_cons_succ]
              refine wpAnyH_ready (rs := [16]) (by kernel_rfl) (by simp) ?_
              refine AllReadyH.cons (o := _) rfl (fun K hK => ?_) ?_
              · rw [if_pos (by rfl)]
                go_simp
                refine (sameTexts_any P1 ta.length p1 ta P2 tb.length p2 tb _ RR1.out rfl HM1.out RR2.out rfl HM2.out).mono ?_
                rintro e wx ⟨rfl, hbx⟩
                have hb := then_ hb hbx
                clear hbx
                generalize hq : decide (ta = tb) = q
                have HQ := Lib.hid hq
                clear hq
                go_wp2_with fail
                refine hK.out _ _ ⟨cell_below hb HCC.out, cell_below hb HDD.out⟩ (fun hHeld => ?_)
                clear hK K
                try dsimp only [Act.put, List.getElem_toArray, List.getElem_cons_zero, List.getElem_cons_succ]; try simp only [List.setIfInBounds_toArray, List.set_cons_zero, List.set_cons_succ]
                refine wpAnyH_take (i := 17) (oi := _) (v := ?vq50) rfl (by kernel_rfl) (by kernel_rfl) (by kernel_rfl) (fun _ _ _ h => h) (Or.inl ⟨by rfl, ?hq50⟩) (by assumption) ?rq50
                case hq50 => (intro w hSw; go_simp; try with_reducible rfl)
                try dsimp only [Act.put, List.getElem_toArray, List.getElem_cons_zero, List.getElem_cons_succ]; try simp only [List.setIfInBounds_toArray, List.set_cons_zero, List.set_cons_succ]
                refine wpAnyH_take (i := 18) (oi := _) (v := ?vq51) rfl (by kernel_rfl) (by kernel_rfl) (by kernel_rfl) (fun _ _ _ h => h) (Or.inl ⟨by rfl, ?hq51⟩) (by assumption) ?rq51
                case hq51 => (intro w hSw; go_simp; try with_reducible rfl)
                try dsimp only [Act.put, List.getElem_toArray, List.getElem_cons_zero, List.getElem_cons_succ]; try simp only [List.setIfInBounds_toArray, List.set_cons_zero, List.set_cons_succ]
                refine wpAnyH_done (by kernel_rfl) ?_ _
                cases q
                · go_wp2
                  go_ret
                  exact ⟨true, by simp, rfl, then_ HB.out (then_ HBL.out hb)⟩
                · go_wp2
                  go_roundw
                  case rel => exact ⟨k + 1, by omega, by go_num, Lib.hid (HJN.out (fun _ => of_decide_eq_true HQ.out)), then_ HBL.out hb⟩
                  case measure => simp [intOf]; omega
              exact AllReadyH.nil
            exact AllReadyH.nil
          exact AllReadyH.nil
        · have hq : (s.toList == t.toList) = false := by rw [str_beq]; simp [hst]
          have hk2 : ((k : Int) < 16) := by omega
          go_wp2_with fail
          refine wp_region_held_drew (S := (fun W => W.cell? ⟨b1, off + k, none⟩ = some (.string s) ∧ W.cell? ⟨b2, off2 + k, none⟩ = some (.string t))) (by kernel_rfl) ⟨hc, hd⟩ (fun hHeld => ?_)
          refine wpAnyH_take (i := 0) (oi := _) (v := ?vq52) rfl (by kernel_rfl) (by kernel_rfl) (by kernel_rfl) (fun _ _ _ h => h) (Or.inl ⟨by rfl, ?hq52⟩) (by assumption) ?rq52
          case hq52 => (intro w hSw; go_simp; try with_reducible rfl)
          try dsimp only [Act.put, List.getElem_toArray, List.getElem_cons_zero, List.getElem_cons_succ]; try simp only [List.setIfInBounds_toArray, List.set_cons_zero, List.set_cons_succ]
          refine wpAnyH_take (i := 1) (oi := _) (v := ?vq53) rfl (by kernel_rfl) (by kernel_rfl) (by kernel_rfl) (fun _ _ _ h => h) (Or.inl ⟨by rfl, ?hq53⟩) (by assumption) ?rq53
          case hq53 => (intro w hSw; go_simp; try with_reducible rfl)
          try dsimp only [Act.put, List.getElem_toArray, List.getElem_cons_zero, List.getElem_cons_succ]; try simp only [List.setIfInBounds_toArray, List.set_cons_zero, List.set_cons_succ]
          refine wpAnyH_take (i := 2) (oi := _) (v := ?vq54) rfl (by kernel_rfl) (by kernel_rfl) (by kernel_rfl) (fun _ _ _ h => h) (Or.inl ⟨by rfl, ?hq54⟩) (by assumption) ?rq54
          case hq54 => (intro w hSw; go_simp; try with_reducible rfl)
          try dsimp only [Act.put, List.getElem_toArray, List.getElem_cons_zero, List.getElem_cons_succ]; try simp only [List.setIfInBounds_toArray, List.set_cons_zero, List.set_cons_succ]
          refine wpAnyH_take (i := 3) (oi := _) (v := ?vq55) rfl (by kernel_rfl) (by kernel_rfl) (by kernel_rfl) (fun _ _ _ h => h) (Or.inl ⟨by rfl, ?hq55⟩) (by assumption) ?rq55
          case hq55 => (intro w hSw; go_simp; try with_reducible rfl)
          try dsimp only [Act.put, List.getElem_toArray, List.getElem_cons_zero, List.getElem_cons_succ]; try simp only [List.setIfInBounds_toArray, List.set_cons_zero, List.set_cons_succ]
          refine wpAnyH_take (i := 4) (oi := _) (v := ?vq56) rfl (by kernel_rfl) (by kernel_rfl) (by kernel_rfl) (fun _ _ _ h => h) (Or.inl ⟨by rfl, ?hq56⟩) (by assumption) ?rq56
          case hq56 => (intro w hSw; go_simp; try with_reducible rfl)
          try dsimp only [Act.put, List.getElem_toArray, List.getElem_cons_zero, List.getElem_cons_succ]; try simp only [List.setIfInBounds_toArray, List.set_cons_zero, List.set_cons_succ]
          refine wpAnyH_take (i := 5) (oi := _) (v := ?vq57) rfl (by kernel_rfl) (by kernel_rfl) (by kernel_rfl) (fun _ _ _ h => h) (Or.inl ⟨by rfl, ?hq57⟩) (by assumption) ?rq57
          case hq57 => (intro w hSw; go_simp; try with_reducible rfl)
          try dsimp only [Act.put, List.getElem_toArray, List.getElem_cons_zero, List.getElem_cons_succ]; try simp only [List.setIfInBounds_toArray, List.set_cons_zero, List.set_cons_succ]
          refine wpAnyH_take (i := 6) (oi := _) (v := ?vq58) rfl (by kernel_rfl) (by kernel_rfl) (by kernel_rfl) (fun _ _ _ h => h) (Or.inl ⟨by rfl, ?hq58⟩) (by assumption) ?rq58
          case hq58 => (intro w hSw; go_simp; try with_reducible rfl)
          try dsimp only [Act.put, List.getElem_toArray, List.getElem_cons_zero, List.getElem_cons_succ]; try simp only [List.setIfInBounds_toArray, List.set_cons_zero, List.set_cons_succ]
          refine wpAnyH_take (i := 7) (oi := _) (v := ?vq59) rfl (by kernel_rfl) (by kernel_rfl) (by kernel_rfl) (fun _ _ _ h => h) (Or.inl ⟨by rfl, ?hq59⟩) (by assumption) ?rq59
          case hq59 => (intro w hSw; go_simp; try with_reducible rfl)
          try dsimp only [Act.put, List.getElem_toArray, List.getElem_cons_zero, List.getElem_cons_succ]; try simp only [List.setIfInBounds_toArray, List.set_cons_zero, List.set_cons_succ]
          refine wpAnyH_take (i := 8) (oi := _) (v := ?vq60) rfl (by kernel_rfl) (by kernel_rfl) (by kernel_rfl) (fun _ _ _ h => h) (Or.inl ⟨by rfl, ?hq60⟩) (by assumption) ?rq60
          case hq60 => (intro w hSw; go_simp; try with_reducible rfl)
          try dsimp only [Act.put, List.getElem_toArray, List.getElem_cons_zero, List.getElem_cons_succ]; try simp only [List.setIfInBounds_toArray, List.set_cons_zero, List.set_cons_succ]
          refine wpAnyH_take (i := 9) (oi := _) (v := ?vq61) rfl (by kernel_rfl) (by kernel_rfl) (by kernel_rfl) (fun _ _ _ h => h) (Or.inl ⟨by rfl, ?hq61⟩) (by assumption) ?rq61
          case hq61 => (intro w hSw; go_simp; try with_reducible rfl)
          try dsimp only [Act.put, List.getElem_toArray, List.getElem_cons_zero, List.getElem_cons_succ]; try simp only [List.setIfInBounds_toArray, List.set_cons_zero, List.set_cons_succ]
          refine wpAnyH_take (i := 10) (oi := _) (v := undef) rfl (by kernel_rfl) (by kernel_rfl) (by kernel_rfl) (fun _ _ _ h => h) (Or.inr ⟨by rfl, rfl⟩) (by assumption) ?_
          try dsimp only [Act.put, List.getElem_toArray, List.getElem_cons_zero, List.getElem_cons_succ]; try simp only [List.setIfInBounds_toArray, List.set_cons_zero, List.set_cons_succ]
          refine wpAnyH_take (i := 11) (oi := _) (v := undef) rfl (by kernel_rfl) (by kernel_rfl) (by kernel_rfl) (fun _ _ _ h => h) (Or.inr ⟨by rfl, rfl⟩) (by assumption) ?_
          try dsimp only [Act.put, List.getElem_toArray, List.getElem_cons_zero, List.getElem_cons_succ]; try simp only [List.setIfInBounds_toArray, List.set_cons_zero, List.set_cons_succ]
          refine wpAnyH_take (i := 12) (oi := _) (v := undef) rfl (by kernel_rfl) (by kernel_rfl) (by kernel_rfl) (fun _ _ _ h => h) (Or.inr ⟨by rfl, rfl⟩) (by assumption) ?_
          try dsimp only [Act.put, List.getElem_toArray, List.getElem_cons_zero, List.getElem_cons_succ]; try simp only [List.setIfInBounds_toArray, List.set_cons_zero, List.set_cons_succ]
          refine wpAnyH_take (i := 13) (oi := _) (v := undef) rfl (by kernel_rfl) (by kernel_rfl) (by kernel_rfl) (fun _ _ _ h => h) (Or.inr ⟨by rfl, rfl⟩) (by assumption) ?_
          try dsimp only [Act.put, List.getElem_toArray, List.getElem_cons_zero, List.getElem_cons_succ]; try simp only [List.setIfInBounds_toArray, List.set_cons_zero, List.set_cons_succ]
          refine wpAnyH_take (i := 14) (oi := _) (v := undef) rfl (by kernel_rfl) (by kernel_rfl) (by kernel_rfl) (fun _ _ _ h => h) (Or.inr ⟨by rfl, rfl⟩) (by assumption) ?_
          try dsimp only [Act.put, List.getElem_toArray, List.getElem_cons_zero, List.getElem_cons_succ]; try simp only [List.setIfInBounds_toArray, List.set_cons_zero, List.set_cons_succ]
          refine wpAnyH_take (i := 15) (oi := _) (v := undef) rfl (by kernel_rfl) (by kernel_rfl) (by kernel_rfl) (fun _ _ _ h => h) (Or.inr ⟨by rfl, rfl⟩) (by assumption) ?_
          try dsimp only [Act.put, List.getElem_toArray, List.getElem_cons_zero, List.getElem_cons_succ]; try simp only [List.setIfInBounds_toArray, List.set_cons_zero, List.set_cons_succ]
          refine wpAnyH_take (i := 16) (oi := _) (v := undef) rfl (by kernel_rfl) (by kernel_rfl) (by kernel_rfl) (fun _ _ _ h => h) (Or.inr ⟨by rfl, rfl⟩) (by assumption) ?_
          try dsimp only [Act.put, List.getElem_toArray, List.getElem_cons_zero, List.getElem_cons_succ]; try simp only [List.setIfInBounds_toArray, List.set_cons_zero, List.set_cons_succ]
          refine wpAnyH_take (i := 17) (oi := _) (v := undef) rfl (by kernel_rfl) (by kernel_rfl) (by kernel_rfl) (fun _ _ _ h => h) (Or.inr ⟨by rfl, rfl⟩) (by assumption) ?_
          try dsimp only [Act.put, List.getElem_toArray, List.getElem_cons_zero, List.getElem_cons_succ]; try simp only [List.setIfInBounds_toArray, List.set_cons_zero, List.set_cons_succ]
          refine wpAnyH_take (i := 18) (oi := _) (v := ?vq70) rfl (by kernel_rfl) (by kernel_rfl) (by kernel_rfl) (fun _ _ _ h => h) (Or.inl ⟨by rfl, ?hq70⟩) (by assumption) ?rq70
          case hq70 => (intro w hSw; go_simp; try with_reducible rfl)
          try dsimp only [Act.put, List.getElem_toArray, List.getElem_cons_zero, List.getElem_cons_succ]; try simp only [List.setIfInBounds_toArray, List.set_cons_zero, List.set_cons_succ]
          refine wpAnyH_done (by kernel_rfl) ?_ _
          go_wp2
          go_roundw
          case rel => exact ⟨k + 1, by omega, by go_num, Lib.hid (HJN.out (fun h => absurd (Option.some.inj h) hst)), then_ HBL.out hb⟩
          case measure => simp [intOf]; omega
      · obtain rfl : k = 16 := by omega
        have hbf := then_ HB.out hbel
        go_wp2
        go_ret
        exact ⟨false, fun _ => ⟨HFST.out, HJ.out⟩, rfl, hbf⟩
theorem wantS {a b : List Leaf} (h : OnceNot a b) : ((List.range 16).filter fun (i : Nat) => !decide (texP (segB (i : Int)) a = texP (segB (i : Int)) b)).map (fun (i : Nat) => (i : Int)) = unL (treeL a) (treeL b) := by
  unfold unL unK
  rw [treeL_len, treeL_len]
  congr 1
  apply List.filter_congr
  intro i hi
  have hi16 : i < 16 := List.mem_range.1 hi
  by_cases he : (treeL a)[i]? = (treeL b)[i]?
  · rw [decide_eq_true he, decide_eq_true (h.2 i hi16 he)]
  · have hne : ¬ texP (segB (i : Int)) a = texP (segB (i : Int)) b := fun e => he (by unfold treeL treeK; simp [hi16, e])
    rw [decide_eq_false he, decide_eq_false hne]
def wantK (a b : List Leaf) (k : Nat) : List Int := ((List.range k).filter fun (i : Nat) => !decide (texP (segB (i : Int)) a = texP (segB (i : Int)) b)).map fun (i : Nat) => (i : Int)
theorem wantK_yes {a b : List Leaf} {k : Nat} (h : ¬ texP (segB (k : Int)) a = texP (segB (k : Int)) b) : wantK a b (k + 1) = wantK a b k ++ [(k : Int)] := by
  unfold wantK; rw [List.range_succ, List.filter_append, List.map_append]; simp [h]
theorem wantK_no {a b : List Leaf} {k : Nat} (h : texP (segB (k : Int)) a = texP (segB (k : Int)) b) : wantK a b (k + 1) = wantK a b k := by
  unfold wantK; rw [List.range_succ, List.filter_append, List.map_append]; simp [h]
theorem wantK_len (a b : List Leaf) (k : Nat) : (wantK a b k).length ≤ k := by
  unfold wantK; rw [List.length_map]; exact Nat.le_trans (List.length_filter_le _ _) (by simp)
theorem roots_tell {a b : List Leaf} (h : OnceNot a b) : rootL a = rootL b ↔ unL (treeL a) (treeL b) = [] := by
  constructor
  · intro e
    have ht : treeL a = treeL b := h.1.resolve_right (fun hn => hn e)
    rw [ht]; unfold unL unK; simp
  · intro e
    have ht : treeL a = treeL b := by
      apply List.ext_getElem?
      intro i
      by_cases hi : i < 16
      · apply Classical.byContradiction
        intro hne
        have hm : (i : Int) ∈ unL (treeL a) (treeL b) := by
          unfold unL unK
          rw [treeL_len, treeL_len]
          exact List.mem_map.2 ⟨i, List.mem_filter.2 ⟨List.mem_range.2 hi, by simp [hne]⟩, rfl⟩
        rw [e] at hm; exact absurd hm List.not_mem_nil
      · rw [List.getElem?_eq_none (by rw [treeL_len]; omega), List.getElem?_eq_none (by rw [treeL_len]; omega)]
    unfold rootL; rw [ht]
end Go.Proofs.Ytgmafnpkhmlnnaa
