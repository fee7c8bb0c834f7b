/- Who is chosen by the document; who is up; claimed; the lists, their names. -/
import Derived.Test.YtpiinfjcjpdofaaPreC
import Derived.Deep.Cut
import Derived.Says
attribute [local go_sem ↓] Go.wp_at_zero Go.wp_at_succ
namespace Go.Proofs.Ytpiinfjcjpdofaa
open Go.RowKit Go.Mem Go.Cov
set_option linter.unusedVariables false
set_option linter.unusedSimpArgs false

set_option maxRecDepth 100000 in
set_option maxHeartbeats 400000 in
theorem few18_any (A : Option Addr) (n c : Nat) (ss : List ByteArray) (w : World) (hr : Rd w A (ss.map Value.string)) (hn : ss.length = n) (hm : n ≤ maxLen) :
    Calls Try.prog 30 #[.slice A n c] w (Few_ (n ≤ 20 ∧ ∀ s ∈ ss, s.size ≤ 100) w) := by
  unfold maxLen at hm
  have HL := Lib.hid hn; clear hn
  go_enter Try.func30, Try.ntmps30
  go_wp2
  go_loop [3] (fun i => ∃ k : Nat, k ≤ min n 20 ∧ i = .int .i64 k ∧ Hid (∀ s ∈ ss.take k, s.size ≤ 100)) (fun i => n - (intOf i).toNat)
  case atStart => exact ⟨0, Nat.zero_le _, rfl, Lib.hid (by simp)⟩
  case round =>
    obtain ⟨k, hk, rfl, HA⟩ := hrel
    by_cases hlt : k < min n 20
    · have hx : k < ss.length := by have := HL.out; omega
      have hk1 : k < n := by omega
      have hk2 : k < 20 := by omega
      obtain ⟨b, off, rfl, hcell⟩ := hr.at_ k (by simp; exact hx)
      simp only [List.getElem_map] at hcell
      generalize hs : ss[k] = t at hcell
      have HS := Lib.hid hs; clear hs
      by_cases hst : 100 < t.size
      · go_wp2
        go_ret
        exact ⟨false, by simp, rfl, rfl⟩
      · go_wp2
        go_round
        case rel => exact ⟨k + 1, by omega, by go_num, Lib.hid (fun s hs => by
          rw [take_succ_mem _ _ hx, HS.out] at hs
          rcases hs with h | rfl
          · exact HA.out s h
          · omega)⟩
        case measure => simp [intOf]; omega
    · have hk' : ¬ (k < n ∧ k < 20) := by omega
      have key : n ≤ 20 → n ≤ 20 ∧ ∀ s ∈ ss, s.size ≤ 100 := fun h => ⟨h, fun s hs => HA.out s (by rw [List.take_of_length_le (by rw [HL.out]; omega)]; exact hs)⟩
      have KEY := Lib.hid key; clear key
      by_cases hk1 : k < n
      all_goals
        go_wp2
        go_ret
        exact ⟨_, fun h => KEY.out (by have := of_decide_eq_true h; omega), rfl, rfl⟩

/-- what the members' own texts are -/
def okM (ms : List Mb) : Prop := ∀ x ∈ ms, x.name.size ≤ maxLen ∧ x.rack.size ≤ maxLen ∧ x.zone.size ≤ maxLen
set_option maxRecDepth 100000 in
set_option maxHeartbeats 16000000 in
theorem rChosen_any (A : Option Addr) (n c : Nat) (ss : List ByteArray) (B : Option Addr) (m d : Nat) (ms : List Mb) (part many : Int) (w : World) (hr : Rd w A (ss.map Value.string)) (hn : ss.length = n) (hn' : n ≤ 1000) (hr' : Rd w B (ms.flatMap Mb.cells)) (hm : ms.length = m) (hm' : m ≤ 16) (hp : (Lit.int .i64 part).wf = true) :
    Calls Try.prog 58 #[.slice A n c, .slice B m d, .int .i64 part, .int .i64 many] w (Makes 9 1 (chN ss ms part many).length ((chN ss ms part many).map Value.string) w) := by
  have HO := Lib.hid (rorder_any A n c ss B m d ms part w hr hn hn' hr' hm (by omega) hp)
  obtain ⟨hnd, hin, hle⟩ := WalkL.order_perm (names ms) ss ByteArray.empty part
  unfold chN
  generalize WalkL.order (names ms) ss ByteArray.empty part = ord at HO hnd hin hle ⊢
  have hnl : (names ms).length = m := by simp [names]; exact hm
  rw [hnl] at hin hle
  rw [hm]
  have HIN := Lib.hid (show ∀ k ∈ ord, k < ms.length by rw [hm]; exact hin)
  have HOL := Lib.hid hle
  have HPL := Lib.hid (show (Pref.pairsOf (rz ms ord)).length = m by rw [Pref.pairsOf_len, rz_len HIN.out, hle])
  have HM := Lib.hid hm; have HR' := Lib.hid hr'
  clear hr hn hr' hm hnd hin hle hnl
  go_enter Try.func58, Try.ntmps58
  go_wp2_with fail
  refine HO.out.mono ?_
  rintro e w1 ⟨v1, rfl, hown, hb1⟩
  rw [HOL.out] at hown
  obtain ⟨Ao, co, rfl⟩ := own_form hown
  have HRO := Lib.hid (show Rd w1 Ao (ints (natI ord)) by have h := Rd.of_own hown; rwa [nats_ints] at h)
  have HR1 := Lib.hid (HR'.out.below hb1); have HB1 := Lib.hid hb1
  clear hown hb1 HO HR'
  go_wp2_with fail
  refine (rPairs_any B m d ms Ao m co ord HIN.out w1 HR1.out HM.out HRO.out HOL.out (by omega)).mono ?_
  rintro e w2 ⟨v2, rfl, hown, hb2⟩
  rw [HPL.out] at hown
  obtain ⟨Ap, cp, rfl⟩ := own_form hown
  have HRP := Lib.hid (Rd.of_own hown)
  have HRN := Lib.hid (HRO.out.below hb2); have HRM := Lib.hid (HR1.out.below hb2); have HB4 := Lib.hid (then_ HB1.out hb2)
  have HX := Lib.hid (fun many => rPick_any Ap m cp (Pref.pairsOf (rz ms ord)) many HPL.out hm' w2 HRP.out)
  have hm2 : m ≤ 1000 := by omega
  have HLL := Lib.hid hm2
  clear hown hb2 HR1 HRO HB1
  by_cases hmn : (m : Int) < many
  · have HX2 := Lib.hid (HX.out m)
    go_wp2_with fail
    refine HX2.out.mono ?_
    rintro e w5 ⟨cs, B5, d5, hpr, rfl, hrd, hb5⟩
    have HCK := Lib.hid (pickD_pk hpr)
    have HCI := Lib.hid (And.intro hpr.le hpr.lt)
    rw [HPL.out] at HCI
    have HCS := Lib.hid hrd
    have HRN5 := Lib.hid (HRN.out.below hb5); have HRM5 := Lib.hid (HRM.out.below hb5); have HB5 := Lib.hid (then_ HB4.out hb5)
    clear hrd hb5 hpr HX2 HX HRN HRM HB4
    go_wp2_with fail
    go_loopw [11, 12] (fun v i wr => ∃ j : Nat, j ≤ cs.length ∧ i = .int .i64 j ∧ Hid (wr.ownsRow w5.heap.size 9 1 v (nmA ms ord (cs.take j)).length ((nmA ms ord (cs.take j)).map Value.string)) ∧ Hid (Below w5.heap.size w5 wr)) (fun _ i _ => cs.length - (intOf i).toNat)
    case atStart => exact ⟨0, Nat.zero_le _, rfl, Lib.hid (World.ownsRow_nil _ _ _ _), Lib.hid (Below.refl _ _)⟩
    case round =>
      obtain ⟨j, hj, rfl, HO, HB⟩ := hrel
      have hcl := HCI.out.1
      by_cases hlt : j < cs.length
      · have hjm : cs[j] < m := HCI.out.2 _ (List.getElem_mem hlt)
        obtain ⟨b5, off5, rfl, hcell5⟩ := (HCS.out.below HB.out).at_ j (by simp [ints, natI]; exact hlt)
        simp only [ints, natI, List.map_map, List.getElem_map, Function.comp_apply] at hcell5
        have HT := Lib.hid (List.take_succ_eq_append_getElem hlt)
        generalize cs[j] = u at hjm hcell5 HT
        have hux : u < ord.length := by have := HOL.out; omega
        have hum : ord[u] < ms.length := HIN.out _ (List.getElem_mem hux)
        obtain ⟨bo, offo, rfl, hcello⟩ := (HRN5.out.below HB.out).at_ u (by simp [ints, natI]; exact hux)
        simp only [ints, natI, List.map_map, List.getElem_map, Function.comp_apply] at hcello
        have HNS := Lib.hid (show nmA ms ord (cs.take (j + 1)) = _ by rw [HT.out, nmA_snoc hux hum])
        obtain ⟨bm, offm, rfl, hc0, hca, hcb, hcc⟩ := mb_row (HRM5.out.below HB.out) ord[u] hum
        generalize ord[u] = i at hum hcello HNS hc0
        generalize ms[i].name = nm at HNS hc0
        have hll := Nat.le_trans (nmA_le ms ord (cs.take j)) (List.length_take_le j cs)
        generalize nmA ms ord (cs.take j) = U at HO HNS hll
        have h1 : (j : Int) < (cs.length : Int) := by omega
        have h1' : (0 : Int) ≤ (j : Int) := by omega
        have h2 : (u : Int) < (m : Int) := by omega
        have h2' : (0 : Int) ≤ (u : Int) := by omega
        have h3 : (i : Int) < (m : Int) := by have := HM.out; omega
        have h3' : (0 : Int) ≤ (i : Int) := by omega
        have HZ := Lib.hid HB.out.size
        clear hlt hjm hux hca hcb hcc
        go_wp2_with (at_builtin; (refine wpList_app el_str (by rfl) (.tmp 31) (.tmp 43) (by rfl) w5.heap.size _ U.length _ (by rfl) (HO.out.alloc _) (some ⟨wr.heap.size, 0, none⟩) 1 1 [.string nm] (by rfl) rfl (Rd.new wr #[.string nm] _) (by intro u hu; simp at hu; subst hu; rfl) (by unfold maxLen; omega) (by omega) (by have := HZ.out; simp; omega) ?_; intro v6 w6 hown6 hbel6 _ _))
        exact ⟨⟨j + 1, by omega, by go_num, Lib.hid (by rw [HNS.out, List.map_append, List.length_append]; exact hown6), Lib.hid ((HB.out.alloc HZ.out _).trans hbel6)⟩, by simp [intOf]; omega⟩
      · have h1 : (cs.length : Int) ≤ (j : Int) := by omega
        have hfull : cs.take j = cs := List.take_of_length_le (by omega)
        rw [hfull] at HO
        go_wp2_with fail
        go_ret
        rw [min_eq1 (by omega), ← HCK.out]
        exact ⟨_, rfl, own_mono HO.out HB5.out.size, then_ HB5.out HB.out⟩
  · have hmn2 : many ≤ (m : Int) := by omega
    have HX2 := Lib.hid (HX.out many)
    go_wp2_with fail
    refine HX2.out.mono ?_
    rintro e w5 ⟨cs, B5, d5, hpr, rfl, hrd, hb5⟩
    have HCK := Lib.hid (pickD_pk hpr)
    have HCI := Lib.hid (And.intro hpr.le hpr.lt)
    rw [HPL.out] at HCI
    have HCS := Lib.hid hrd
    have HRN5 := Lib.hid (HRN.out.below hb5); have HRM5 := Lib.hid (HRM.out.below hb5); have HB5 := Lib.hid (then_ HB4.out hb5)
    clear hrd hb5 hpr HX2 HX HRN HRM HB4
    go_wp2_with fail
    go_loopw [11, 12] (fun v i wr => ∃ j : Nat, j ≤ cs.length ∧ i = .int .i64 j ∧ Hid (wr.ownsRow w5.heap.size 9 1 v (nmA ms ord (cs.take j)).length ((nmA ms ord (cs.take j)).map Value.string)) ∧ Hid (Below w5.heap.size w5 wr)) (fun _ i _ => cs.length - (intOf i).toNat)
    case atStart => exact ⟨0, Nat.zero_le _, rfl, Lib.hid (World.ownsRow_nil _ _ _ _), Lib.hid (Below.refl _ _)⟩
    case round =>
      obtain ⟨j, hj, rfl, HO, HB⟩ := hrel
      have hcl := HCI.out.1
      by_cases hlt : j < cs.length
      · have hjm : cs[j] < m := HCI.out.2 _ (List.getElem_mem hlt)
        obtain ⟨b5, off5, rfl, hcell5⟩ := (HCS.out.below HB.out).at_ j (by simp [ints, natI]; exact hlt)
        simp only [ints, natI, List.map_map, List.getElem_map, Function.comp_apply] at hcell5
        have HT := Lib.hid (List.take_succ_eq_append_getElem hlt)
        generalize cs[j] = u at hjm hcell5 HT
        have hux : u < ord.length := by have := HOL.out; omega
        have hum : ord[u] < ms.length := HIN.out _ (List.getElem_mem hux)
        obtain ⟨bo, offo, rfl, hcello⟩ := (HRN5.out.below HB.out).at_ u (by simp [ints, natI]; exact hux)
        simp only [ints, natI, List.map_map, List.getElem_map, Function.comp_apply] at hcello
        have HNS := Lib.hid (show nmA ms ord (cs.take (j + 1)) = _ by rw [HT.out, nmA_snoc hux hum])
        obtain ⟨bm, offm, rfl, hc0, hca, hcb, hcc⟩ := mb_row (HRM5.out.below HB.out) ord[u] hum
        generalize ord[u] = i at hum hcello HNS hc0
        generalize ms[i].name = nm at HNS hc0
        have hll := Nat.le_trans (nmA_le ms ord (cs.take j)) (List.length_take_le j cs)
        generalize nmA ms ord (cs.take j) = U at HO HNS hll
        have h1 : (j : Int) < (cs.length : Int) := by omega
        have h1' : (0 : Int) ≤ (j : Int) := by omega
        have h2 : (u : Int) < (m : Int) := by omega
        have h2' : (0 : Int) ≤ (u : Int) := by omega
        have h3 : (i : Int) < (m : Int) := by have := HM.out; omega
        have h3' : (0 : Int) ≤ (i : Int) := by omega
        have HZ := Lib.hid HB.out.size
        clear hlt hjm hux hca hcb hcc
        go_wp2_with (at_builtin; (refine wpList_app el_str (by rfl) (.tmp 31) (.tmp 43) (by rfl) w5.heap.size _ U.length _ (by rfl) (HO.out.alloc _) (some ⟨wr.heap.size, 0, none⟩) 1 1 [.string nm] (by rfl) rfl (Rd.new wr #[.string nm] _) (by intro u hu; simp at hu; subst hu; rfl) (by unfold maxLen; omega) (by omega) (by have := HZ.out; simp; omega) ?_; intro v6 w6 hown6 hbel6 _ _))
        exact ⟨⟨j + 1, by omega, by go_num, Lib.hid (by rw [HNS.out, List.map_append, List.length_append]; exact hown6), Lib.hid ((HB.out.alloc HZ.out _).trans hbel6)⟩, by simp [intOf]; omega⟩
      · have h1 : (cs.length : Int) ≤ (j : Int) := by omega
        have hfull : cs.take j = cs := List.take_of_length_le (by omega)
        rw [hfull] at HO
        go_wp2_with fail
        go_ret
        rw [min_eq2 (by omega), ← HCK.out]
        exact ⟨_, rfl, own_mono HO.out HB5.out.size, then_ HB5.out HB.out⟩

/-- those that are up -/
def upM (ms : List Mb) : List Mb := ms.filter Mb.up
theorem upM_len (ms : List Mb) : (upM ms).length ≤ ms.length := List.length_filter_le _ _
theorem okM_up {ms : List Mb} (h : okM ms) : okM (upM ms) := fun x hx => h x (List.mem_filter.1 hx).1
theorem mb_arr (ms : List Mb) : ms.flatMap Mb.cells = ms.flatMap (fun m : Mb => m.arr.toList) := rfl
theorem asks_up (row : Option Nat) (w : World) (ms : List Mb) : AsksRMb Try.prog row w 69 #[] (fun m => !m.up) ms where
  enter args W := by kernel_rfl
  ask W m _ _ := by
    obtain ⟨nm, rk, zn, up⟩ := m
    have hc : (W.alloc (.cells #[.string nm, .string rk, .string zn, .bool up] 34)).cell? ⟨W.heap.size, 3, none⟩ = some (.bool up) := by rw [World.cell?_alloc_at _ _ _ _ rfl]; rfl
    unfold Mb.arr
    simp only
    go_enter Try.func69, Try.ntmps69
    go_wp2_with fail
    go_ret
    exact ⟨rfl, (Below.refl _ _).alloc (Nat.le_refl _) _⟩
theorem up_any (A : Option Addr) (n c : Nat) (ms : List Mb) (w : World) (hr : Rd w A (ms.flatMap Mb.cells)) (hn : ms.length = n) (hm : n ≤ 100000) :
    Calls Try.prog 56 #[.slice A n c] w (Makes 34 4 (upM ms).length ((upM ms).flatMap Mb.cells) w) := by
  have HX := Lib.hid (cloneMb_any A n c ms w (by rw [← mb_arr]; exact hr) hn hm)
  clear hr hn
  go_enter Try.func56, Try.ntmps56
  go_wp2_with fail
  refine HX.out.mono ?_
  rintro e w1 ⟨v, rfl, hown, hb1⟩
  have HY := Lib.hid (deleteFuncMb_any w.heap.size v n ms 69 #[] (fun m => !m.up) w1 hb1.size hown hm (asks_up _ _ _))
  have HB := Lib.hid hb1
  clear hown hb1 HX
  go_wp2_with fail
  refine HY.out.mono ?_
  rintro e w2 ⟨hb2, v2, rfl, hown2⟩
  go_wp2
  go_ret
  have he : ms.filter (fun s => !(fun m : Mb => !m.up) s) = upM ms := by unfold upM; congr 1; funext x; simp
  rw [he] at hown2
  exact ⟨v2, rfl, hown2, HB.out.trans hb2⟩
end Go.Proofs.Ytpiinfjcjpdofaa
