/- Preference lists and their names: by the code and by the document. -/
import Derived.Test.YtpiinfjcjpdofaaPreE
import Derived.Deep.Cut
import Derived.Says
import Derived.Deep.RegionHeld3
attribute [local go_sem ↓] Go.wp_at_zero Go.wp_at_succ
namespace Go.Proofs.Ytpiinfjcjpdofaa
open Go.RowKit Go.Mem Go.Cov
set_option linter.unusedVariables false
set_option linter.unusedSimpArgs false

theorem up_len {ms : List Mb} {m : Nat} (h : ms.length = m) : (upM ms).length ≤ m := by rw [← h]; exact upM_len ms
set_option maxRecDepth 100000 in
set_option maxHeartbeats 8000000 in
theorem list_any (A : Option Addr) (n c : Nat) (ss : List ByteArray) (B : Option Addr) (m d : Nat) (ms : List Mb) (part many : Int) (w : World) (hr : Rd w A (ss.map Value.string)) (hn : ss.length = n) (hn' : n ≤ 1000) (hr' : Rd w B (ms.flatMap Mb.cells)) (hm : ms.length = m) (hm' : m ≤ 1000) (hp : (Lit.int .i64 part).wf = true)
    (hss : ∀ s ∈ ss, s.size ≤ maxLen) (hms : okM ms) :
    Calls Try.prog 32 #[.slice A n c, .slice B m d, .int .i64 part, .int .i64 many] w (Makes 61 2 (listF ss ms part many).length (choc (listF ss ms part many)) w) := by
  have HM := Lib.hid (may_any many w)
  have HX := Lib.hid (claimed_any A n c ss B m d ms part many w hr hn hn' hr' hm hm' hp hss hms)
  have HU := Lib.hid (fun W (h : Below w.heap.size w W) => up_any B m d ms W (hr'.below h) hm (by omega))
  have HC := Lib.hid (fun W A2 c2 (h : Below w.heap.size w W) (h2 : Rd W A2 ((upM ms).flatMap Mb.cells)) => prefChoose_any A n c ss A2 (upM ms).length c2 (upM ms) part many W (hr.below h) hn hn' h2 rfl (by have := up_len hm; omega) hp hss (okM_up hms))
  have hcl := claimedF_le ss ms part many; have hnl := Nat.le_trans (chN_le ss (upM ms) part many) (up_len hm)
  rw [hm] at hcl
  unfold listF
  cases hq : mayB many with
  | false =>
    rw [hq] at HM
    clear hq HX HU HC hr hn hr' hm hss hms
    simp only [Bool.false_eq_true, ↓reduceIte]
    go_enter Try.func32, Try.ntmps32
    go_wp2_with fail
    refine HM.out.mono ?_
    rintro e w1 ⟨rfl, rfl⟩
    go_wp2_with fail
    go_ret
    exact ⟨_, rfl, World.ownsRow_nil _ _ _ _, Below.refl _ _⟩
  | true =>
    rw [hq] at HM
    clear hq hr hn hr' hm hss hms
    simp only [↓reduceIte]
    generalize claimedF ss ms part many = cl at HX hcl ⊢
    generalize chN ss (upM ms) part many = nms at HC hnl ⊢
    go_enter Try.func32, Try.ntmps32
    go_wp2_with fail
    refine HM.out.mono ?_
    rintro e w1 ⟨rfl, rfl⟩
    go_wp2_with fail
    refine HX.out.mono ?_
    rintro e w2 ⟨v2, rfl, hown, hb2⟩
    obtain ⟨A2, c2, rfl⟩ := own_form hown
    have HR2 := Lib.hid (Rd.of_own hown); have HB2 := Lib.hid hb2
    clear hown hb2 HX HM
    go_wp2_with fail
    refine (HU.out w2 HB2.out).mono ?_
    rintro e w3 ⟨v3, rfl, hown, hb3⟩
    obtain ⟨A3, c3, rfl⟩ := own_form hown
    have HR3 := Lib.hid (Rd.of_own hown); have HR2 := Lib.hid (HR2.out.below hb3); have HB3 := Lib.hid (then_ HB2.out hb3)
    clear hown hb3 HU HB2
    go_wp2_with fail
    refine (HC.out w3 A3 c3 HB3.out HR3.out).mono ?_
    rintro e w4 ⟨v4, rfl, hown, hb4⟩
    obtain ⟨A4, c4, rfl⟩ := own_form hown
    have HR4 := Lib.hid (Rd.of_own hown); have HR2 := Lib.hid (HR2.out.below hb4); have HB4 := Lib.hid (then_ HB3.out hb4)
    clear hown hb4 HC HB3 HR3
    go_wp2_with fail
    go_loopw [10, 28] (fun v i wr => ∃ k : Nat, k ≤ nms.length ∧ i = .int .i64 k ∧ Hid (wr.ownsRow w4.heap.size 61 2 v k (choc (choF cl (nms.take k)))) ∧ Hid (Below w4.heap.size w4 wr)) (fun _ i _ => nms.length - (intOf i).toNat)
    case atStart => exact ⟨0, Nat.zero_le _, rfl, Lib.hid (World.ownsRow_nil _ _ _ _), Lib.hid (Below.refl _ _)⟩
    case round =>
      obtain ⟨k, hk, rfl, HO, HB⟩ := hrel
      by_cases hlt : k < nms.length
      · obtain ⟨b, off, rfl, hcell⟩ := (HR4.out.below HB.out).at_ k (by simp; exact hlt)
        simp only [List.getElem_map] at hcell
        have HT := Lib.hid (show choF cl (nms.take (k + 1)) = _ by rw [List.take_succ_eq_append_getElem hlt, choF_snoc])
        generalize nms[k] = s at hcell HT
        have HCT := Lib.hid (containsT_any A2 cl.length c2 cl s wr (HR2.out.below HB.out) rfl (by unfold maxLen; omega))
        generalize mem s cl = q at HT HCT
        have h1 : (k : Int) < (nms.length : Int) := by omega
        have h1' : (0 : Int) ≤ (k : Int) := by omega
        have HZ := Lib.hid HB.out.size
        clear hlt
        rename World => w5
        go_wp2_with fail
        refine HCT.out.mono ?_
        rintro e w6 ⟨rfl, rfl⟩
        go_wp2_with (at_builtin; (refine wpList_app el_cho (by rfl) (.tmp 32) (.tmp 38) (by rfl) w4.heap.size _ k _ (by rfl) (HO.out.alloc _) (some ⟨w5.heap.size, 0, none⟩) 1 1 [.string s, .bool q] (by rfl) rfl (Rd.new w5 #[.string s, .bool q] _) (by intro u hu; simp at hu; rcases hu with rfl | rfl <;> rfl) (by unfold maxLen; omega) (by omega) (by have := HZ.out; simp; omega) ?_; intro v6 w6 hown6 hbel6 _ _))
        exact ⟨⟨k + 1, by omega, by go_num, Lib.hid (by rw [HT.out, choc_snoc]; exact hown6), Lib.hid ((HB.out.alloc HZ.out _).trans hbel6)⟩, by simp [intOf]; omega⟩
      · have h1 : (nms.length : Int) ≤ (k : Int) := by omega
        have hkk : k = nms.length := by omega
        have hfull : nms.take k = nms := List.take_of_length_le (by omega)
        rw [hfull] at HO
        have HKK := Lib.hid hkk
        clear hkk hfull hlt
        go_wp2_with fail
        go_ret
        have hl : (choF cl nms).length = k := by unfold choF; rw [List.length_map, HKK.out]
        rw [hl]
        exact ⟨_, rfl, own_mono HO.out HB4.out.size, then_ HB4.out HB.out⟩
set_option maxRecDepth 100000 in
set_option maxHeartbeats 8000000 in
theorem rList_any (A : Option Addr) (n c : Nat) (ss : List ByteArray) (B : Option Addr) (m d : Nat) (ms : List Mb) (part many : Int) (w : World) (hr : Rd w A (ss.map Value.string)) (hn : ss.length = n) (hn' : n ≤ 1000) (hr' : Rd w B (ms.flatMap Mb.cells)) (hm : ms.length = m) (hm' : m ≤ 16) (hp : (Lit.int .i64 part).wf = true) :
    Calls Try.prog 33 #[.slice A n c, .slice B m d, .int .i64 part, .int .i64 many] w (Makes 61 2 (listF ss ms part many).length (choc (listF ss ms part many)) w) := by
  have HX := Lib.hid (rClaimed_any A n c ss B m d ms part many w hr hn hn' hr' hm hm' hp)
  have HU := Lib.hid (fun W (h : Below w.heap.size w W) => rUp_any B m d ms W (hr'.below h) hm (by omega))
  have HC := Lib.hid (fun W A2 c2 (h : Below w.heap.size w W) (h2 : Rd W A2 ((upM ms).flatMap Mb.cells)) => rChosen_any A n c ss A2 (upM ms).length c2 (upM ms) part many W (hr.below h) hn hn' h2 rfl (by have := up_len hm; omega) hp)
  have hcl := claimedF_le ss ms part many; have hnl := Nat.le_trans (chN_le ss (upM ms) part many) (up_len hm)
  rw [hm] at hcl
  unfold listF
  generalize claimedF ss ms part many = cl at HX hcl ⊢
  generalize chN ss (upM ms) part many = nms at HC hnl ⊢
  cases hq : mayB many with
  | false =>
    simp only [Bool.false_eq_true, ↓reduceIte]
    by_cases h1 : many < 1
    · clear hq
      clear HU HC hr hn hr' hm
      go_enter Try.func33, Try.ntmps33
      go_wp2_with fail
      refine HX.out.mono ?_
      rintro e w2 ⟨v2, rfl, hown, hb2⟩
      have HB2 := Lib.hid hb2
      clear hown hb2
      go_wp2_with fail
      go_ret
      exact ⟨_, rfl, World.ownsRow_nil _ _ _ _, HB2.out⟩
    · have h1' : 1 ≤ many := by omega
      have h2 : 16 < many := by have := may_false hq; omega
      clear hq h1
      clear HU HC hr hn hr' hm
      go_enter Try.func33, Try.ntmps33
      go_wp2_with fail
      refine HX.out.mono ?_
      rintro e w2 ⟨v2, rfl, hown, hb2⟩
      have HB2 := Lib.hid hb2
      clear hown hb2
      go_wp2_with fail
      go_ret
      exact ⟨_, rfl, World.ownsRow_nil _ _ _ _, HB2.out⟩
  | true =>
    obtain ⟨h1, h2⟩ := may_true hq
    clear hq hr hn hr' hm
    simp only [↓reduceIte]
    go_enter Try.func33, Try.ntmps33
    go_wp2_with fail
    refine HX.out.mono ?_
    rintro e w2 ⟨v2, rfl, hown, hb2⟩
    obtain ⟨A2, c2, rfl⟩ := own_form hown
    have HR2 := Lib.hid (Rd.of_own hown); have HB2 := Lib.hid hb2
    clear hown hb2 HX
    go_wp2_with fail
    refine (HU.out w2 HB2.out).mono ?_
    rintro e w3 ⟨v3, rfl, hown, hb3⟩
    obtain ⟨A3, c3, rfl⟩ := own_form hown
    have HR3 := Lib.hid (Rd.of_own hown); have HR2 := Lib.hid (HR2.out.below hb3); have HB3 := Lib.hid (then_ HB2.out hb3)
    clear hown hb3 HU HB2
    go_wp2_with fail
    refine (HC.out w3 A3 c3 HB3.out HR3.out).mono ?_
    rintro e w4 ⟨v4, rfl, hown, hb4⟩
    obtain ⟨A4, c4, rfl⟩ := own_form hown
    have HR4 := Lib.hid (Rd.of_own hown); have HR2 := Lib.hid (HR2.out.below hb4); have HB4 := Lib.hid (then_ HB3.out hb4)
    clear hown hb4 HC HB3 HR3 h1 h2
    go_wp2_with fail
    go_loopw [11, 12] (fun v i wr => ∃ k : Nat, k ≤ nms.length ∧ i = .int .i64 k ∧ Hid (wr.ownsRow w4.heap.size 61 2 v k (choc (choF cl (nms.take k)))) ∧ Hid (Below w4.heap.size w4 wr)) (fun _ i _ => nms.length - (intOf i).toNat)
    case atStart => exact ⟨0, Nat.zero_le _, rfl, Lib.hid (World.ownsRow_nil _ _ _ _), Lib.hid (Below.refl _ _)⟩
    case round =>
      obtain ⟨k, hk, rfl, HO, HB⟩ := hrel
      by_cases hlt : k < nms.length
      · obtain ⟨b, off, rfl, hcell⟩ := (HR4.out.below HB.out).at_ k (by simp; exact hlt)
        simp only [List.getElem_map] at hcell
        have HT := Lib.hid (show choF cl (nms.take (k + 1)) = _ by rw [List.take_succ_eq_append_getElem hlt, choF_snoc])
        have HCS4 := Lib.hid (fun W (h : Below w4.heap.size w4 W) => (by
          obtain ⟨b', o', e, hc⟩ := (HR4.out.below h).at_ k (by simp; exact hlt)
          simp only [List.getElem_map] at hc
          injection e with e; injection e with e1 e2; subst e1 e2; exact hc : W.cell? ⟨b, off + k, none⟩ = some (.string nms[k])))
        generalize nms[k] = s at hcell HT HCS4
        rename World => w5
        have HCT := Lib.hid (rInT_any A2 cl.length c2 cl s w5.drew (HR2.out.below HB.out.drew) rfl (by omega))
        generalize mem s cl = q at HT HCT
        have h1 : (k : Int) < (nms.length : Int) := by omega
        have h1' : (0 : Int) ≤ (k : Int) := by omega
        have HZ := Lib.hid HB.out.size
        obtain ⟨Av, cv, rfl⟩ := own_form HO.out
        clear hlt
        have HC0 := Lib.hid hcell
        go_wp2_with fail
        clear hcell
        have hb : Below w5.heap.size w5 w5.drew := (Below.refl _ _).drew
        have HCS := Lib.hid (fun W (h : Below w5.heap.size w5 W) => cell_below h HC0.out)
        refine wp_region_held_drew (S := (fun W => W.cell? ⟨b, off + k, none⟩ = some (.string s))) (by kernel_rfl) (HCS.out _ hb) (fun hHeld => ?_)
        refine wpAnyH_take (i := 0) (oi := _) (v := ?vq1) rfl (by kernel_rfl) (by kernel_rfl) (by kernel_rfl) (fun _ _ _ h => h) (Or.inl ⟨by rfl, ?hq1⟩) (by assumption) ?rq1
        case hq1 => (intro w hSw; go_simp; try with_reducible rfl)
        try dsimp only [Act.put, List.getElem_toArray, List.getElem_cons_zero, List.getElem_cons_succ]; try simp only [List.setIfInBounds_toArray, List.set_cons_zero, List.set_cons_succ]
        refine wpAnyH_take (i := 1) (oi := _) (v := ?vq2) rfl (by kernel_rfl) (by kernel_rfl) (by kernel_rfl) (fun _ _ _ h => h) (Or.inl ⟨by rfl, ?hq2⟩) (by assumption) ?rq2
        case hq2 => (intro w hSw; go_simp; try with_reducible rfl)
        try dsimp only [Act.put, List.getElem_toArray, List.getElem_cons_zero, List.getElem_cons_succ]; try simp only [List.setIfInBounds_toArray, List.set_cons_zero, List.set_cons_succ]
        refine wpAnyH_take (i := 2) (oi := _) (v := ?vq3) rfl (by kernel_rfl) (by kernel_rfl) (by kernel_rfl) (fun _ _ _ h => h) (Or.inl ⟨by rfl, ?hq3⟩) (by assumption) ?rq3
        case hq3 => (intro w hSw; go_simp; try with_reducible rfl)
        try dsimp only [Act.put, List.getElem_toArray, List.getElem_cons_zero, List.getElem_cons_succ]; try simp only [List.setIfInBounds_toArray, List.set_cons_zero, List.set_cons_succ]
        refine wpAnyH_take (i := 3) (oi := _) (v := ?vq4) rfl (by kernel_rfl) (by kernel_rfl) (by kernel_rfl) (fun _ _ _ h => h) (Or.inl ⟨by rfl, ?hq4⟩) (by assumption) ?rq4
        case hq4 => (intro w hSw; go_simp; try with_reducible rfl)
        try dsimp only [Act.put, List.getElem_toArray, List.getElem_cons_zero, List.getElem_cons_succ]; try simp only [List.setIfInBounds_toArray, List.set_cons_zero, List.set_cons_succ]
        refine wpAnyH_take (i := 4) (oi := _) (v := ?vq5) rfl (by kernel_rfl) (by kernel_rfl) (by kernel_rfl) (fun _ _ _ h => h) (Or.inl ⟨by rfl, ?hq5⟩) (by assumption) ?rq5
        case hq5 => (intro w hSw; go_simp; try with_reducible rfl)
        try dsimp only [Act.put, List.getElem_toArray, List.getElem_cons_zero, List.getElem_cons_succ]; try simp only [List.setIfInBounds_toArray, List.set_cons_zero, List.set_cons_succ]
        refine wpAnyH_take (i := 5) (oi := _) (v := ?vq6) rfl (by kernel_rfl) (by kernel_rfl) (by kernel_rfl) (fun _ _ _ h => h) (Or.inl ⟨by rfl, ?hq6⟩) (by assumption) ?rq6
        case hq6 => (intro w hSw; go_simp; try with_reducible rfl)
        try dsimp only [Act.put, List.getElem_toArray, List.getElem_cons_zero, List.getElem_cons_succ]; try simp only [List.setIfInBounds_toArray, List.set_cons_zero, List.set_cons_succ]
        refine wpAnyH_take (i := 6) (oi := _) (v := ?vq7) rfl (by kernel_rfl) (by kernel_rfl) (by kernel_rfl) (fun _ _ _ h => h) (Or.inl ⟨by rfl, ?hq7⟩) (by assumption) ?rq7
        case hq7 => (intro w hSw; go_simp; try with_reducible rfl)
        try dsimp only [Act.put, List.getElem_toArray, List.getElem_cons_zero, List.getElem_cons_succ]; try simp only [List.setIfInBounds_toArray, List.set_cons_zero, List.set_cons_succ]
        refine wpAnyH_take (i := 7) (oi := _) (v := ?vq8) rfl (by kernel_rfl) (by kernel_rfl) (by kernel_rfl) (fun _ _ _ h => h) (Or.inl ⟨by rfl, ?hq8⟩) (by assumption) ?rq8
        case hq8 => (intro w hSw; go_simp; try with_reducible rfl)
        try dsimp only [Act.put, List.getElem_toArray, List.getElem_cons_zero, List.getElem_cons_succ]; try simp only [List.setIfInBounds_toArray, List.set_cons_zero, List.set_cons_succ]
        refine wpAnyH_take (i := 8) (oi := _) (v := ?vq9) rfl (by kernel_rfl) (by kernel_rfl) (by kernel_rfl) (fun _ _ _ h => h) (Or.inl ⟨by rfl, ?hq9⟩) (by assumption) ?rq9
        case hq9 => (intro w hSw; go_simp; try with_reducible rfl)
        try dsimp only [Act.put, List.getElem_toArray, List.getElem_cons_zero, List.getElem_cons_succ]; try simp only [List.setIfInBounds_toArray, List.set_cons_zero, List.set_cons_succ]
        refine wpAnyH_take (i := 9) (oi := _) (v := ?vq10) rfl (by kernel_rfl) (by kernel_rfl) (by kernel_rfl) (fun _ _ _ h => h) (Or.inl ⟨by rfl, ?hq10⟩) (by assumption) ?rq10
        case hq10 => (intro w hSw; go_simp; try with_reducible rfl)
        try dsimp only [Act.put, List.getElem_toArray, List.getElem_cons_zero, List.getElem_cons_succ]; try simp only [List.setIfInBounds_toArray, List.set_cons_zero, List.set_cons_succ]
        refine wpAnyH_ready (rs := [10]) (by kernel_rfl) (by simp) ?_
        refine AllReadyH.cons (o := _) rfl (fun K hK => ?_) ?_
        · rw [if_pos (by rfl)]
          go_simp
          refine (HCT.out).mono ?_
          rintro e wx ⟨rfl, hbx⟩
          have hb := then_ hb hbx
          clear hbx
          go_wp2_with fail
          refine hK.out _ _ (HCS.out _ hb) (fun hHeld => ?_)
          clear hK K
          try dsimp only [Act.put, List.getElem_toArray, List.getElem_cons_zero, List.getElem_cons_succ]; try simp only [List.setIfInBounds_toArray, List.set_cons_zero, List.set_cons_succ]
          refine wpAnyH_take (i := 11) (oi := _) (v := ?vq11) rfl (by kernel_rfl) (by kernel_rfl) (by kernel_rfl) (fun _ _ _ h => h) (Or.inl ⟨by rfl, ?hq11⟩) (by assumption) ?rq11
          case hq11 => (intro w hSw; go_simp; try with_reducible rfl)
          try dsimp only [Act.put, List.getElem_toArray, List.getElem_cons_zero, List.getElem_cons_succ]; try simp only [List.setIfInBounds_toArray, List.set_cons_zero, List.set_cons_succ]
          refine wpAnyH_ready (rs := [12]) (by kernel_rfl) (by simp) ?_
          refine AllReadyH.cons (o := _) rfl (fun K hK => ?_) ?_
          · rw [if_pos (by rfl)]
            go_simp
            have hal := (Below.refl wx.heap.size wx).alloc (Nat.le_refl _) (.cells #[.string s, .bool q] 61)
            have hb9 := Lib.hid hb
            have hb := then_ hb hal
            refine hK.out _ _ (HCS.out _ hb) (fun hHeld => ?_)
            clear hK K
            try dsimp only [Act.put, List.getElem_toArray, List.getElem_cons_zero, List.getElem_cons_succ]; try simp only [List.setIfInBounds_toArray, List.set_cons_zero, List.set_cons_succ]
            refine wpAnyH_ready (rs := [13]) (by kernel_rfl) (by simp) ?_
            refine AllReadyH.cons (o := _) rfl (fun K hK => ?_) ?_
            · refine step_app el_cho (by rfl) (.tmp 36) (.tmp 48) (by rfl) w4.heap.size _ k (choc (choF cl (nms.take k))) (by rfl) ((own_below HO.out hb9.out).alloc _) (some ⟨wx.heap.size, 0, none⟩) 1 1 [.string s, .bool q] (by rfl) rfl (Rd.new wx #[.string s, .bool q] _) (by intro u hu; simp at hu; rcases hu with rfl | rfl <;> rfl) (by unfold maxLen; omega) (by omega) (by have h8 := HZ.out; have h9 := hb.size; omega) ?_
              intro v6 w6 hown6 hbel6 hg6 _
              have HB6 := Lib.hid ((then_ HB.out hb).trans hbel6)
              have HO6 := Lib.hid hown6
              refine hK.out _ _ (HCS4.out _ HB6.out) (fun hHeld => ?_)
              clear hK K
              try dsimp only [Act.put, List.getElem_toArray, List.getElem_cons_zero, List.getElem_cons_succ]; try simp only [List.setIfInBounds_toArray, List.set_cons_zero, List.set_cons_succ]
              refine wpAnyH_take (i := 14) (oi := _) (v := ?vq12) rfl (by kernel_rfl) (by kernel_rfl) (by kernel_rfl) (fun _ _ _ h => h) (Or.inl ⟨by rfl, ?hq12⟩) (by assumption) ?rq12
              case hq12 => (intro w hSw; go_simp; try with_reducible rfl)
              try dsimp only [Act.put, List.getElem_toArray, List.getElem_cons_zero, List.getElem_cons_succ]; try simp only [List.setIfInBounds_toArray, List.set_cons_zero, List.set_cons_succ]
              refine wpAnyH_done (by kernel_rfl) ?_ _
              go_wp2_with fail
              exact ⟨⟨k + 1, by omega, by go_num, Lib.hid (by rw [HT.out, choc_snoc]; exact HO6.out), HB6⟩, by simp [intOf]; omega⟩
            exact AllReadyH.nil
          exact AllReadyH.nil
        exact AllReadyH.nil
      · have h1 : (nms.length : Int) ≤ (k : Int) := by omega
        have hkk : k = nms.length := by omega
        have hfull : nms.take k = nms := List.take_of_length_le (by omega)
        rw [hfull] at HO
        have HKK := Lib.hid hkk
        clear hkk hfull hlt
        go_wp2_with fail
        go_ret
        have hl : (choF cl nms).length = k := by unfold choF; rw [List.length_map, HKK.out]
        rw [hl]
        exact ⟨_, rfl, own_mono HO.out HB4.out.size, then_ HB4.out HB.out⟩
end Go.Proofs.Ytpiinfjcjpdofaa
