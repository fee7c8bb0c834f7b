/- The document's Can, Best, Pick, Sides. -/
import Derived.Test.YtpiinfjcjpdofaaCovI
import Derived.Test.YtpiinfjcjpdofaaCovS
attribute [local go_sem ↓] Go.wp_at_zero Go.wp_at_succ
namespace Go.Proofs.Ytpiinfjcjpdofaa
open Go.RowKit Go.Mem Go.Cov
set_option linter.unusedVariables false
set_option linter.unusedSimpArgs false

theorem choicesZ_any (n : Nat) (many : Int) (w : World) (hn : n ≤ 16) : Calls Try.prog 50 #[.int .i64 (n : Int), .int .i64 many] w (MakesC (chz n many) w) := by
  by_cases h : many < 0
  · rw [chz_neg h]
    go_enter Try.func50, Try.ntmps50
    go_wp2_with fail
    go_ret
    exact ⟨none, 0, [], rfl, World.ownsRow_nil _ _ _ _, RowsC.nil, Below.refl _ _⟩
  · obtain ⟨m, rfl⟩ : ∃ m : Nat, many = m := ⟨many.toNat, by omega⟩
    rw [chz_nat]
    exact choices_any m n w hn
set_option maxRecDepth 100000 in
set_option maxHeartbeats 8000000 in
theorem rCan_any (A : Option Addr) (n cap : Nat) (l : List Pair) (many a b : Int) (hn : l.length = n) (hm : n ≤ 16) (w : World) (hr : Rd w A (prc l)) :
    Calls Try.prog 24 #[.slice A n cap, .int .i64 many, .int .i64 a, .int .i64 b] w fun e w' => e = .returned (.bool (doesB l many a b [] [])) ∧ Below w.heap.size w w' := by
  have HN := Lib.hid hn; have HR := Lib.hid hr
  have HX := Lib.hid (choicesZ_any n many w hm)
  have HCI := Lib.hid (fun c h => chz_in (n := n) (many := many) (c := c) h)
  have HDLE : Hid ((chz n many).length ≤ 65536) := Lib.hid (Nat.le_trans (chz_len n many) (Nat.pow_le_pow_right (by omega) hm : 2 ^ n ≤ 2 ^ 16))
  have hn1 : n ≤ 1000 := by omega
  have HQ := Lib.hid (doesB_iff (l := l) (many := many) (a := a) (b := b) (L := []) (R := []))
  rw [does_chz, hn] at HQ
  generalize doesB l many a b [] [] = r at HQ ⊢
  clear hn hr
  go_enter Try.func24, Try.ntmps24
  go_wp2_with fail
  refine HX.out.mono ?_
  rintro e w2 ⟨A7, c7, cells7, rfl, hc1, hc2, hb2⟩
  generalize chz n many = D at HCI HDLE HQ hc1 hc2
  have hdl := HDLE.out
  have HRE := Lib.hid (rest_of (g0 := none) hc1 hc2 (fun b e => by cases e))
  have HR2 := Lib.hid (HR.out.below hb2); have HB2 := Lib.hid hb2
  clear hc1 hc2 hb2 HX HR
  go_wp2_with fail
  go_loopw [10] (fun i wr => ∃ q : Nat, q ≤ D.length ∧ i = .int .i64 q ∧ Hid (∀ c ∈ D.take q, okc l a b [] [] c = false) ∧ Hid (Below w2.heap.size w2 wr)) (fun i _ => D.length - (intOf i).toNat)
  case atStart => exact ⟨0, Nat.zero_le _, rfl, Lib.hid (by simp), Lib.hid (Below.refl _ _)⟩
  case round =>
    obtain ⟨q, hq, rfl, HNO, HB⟩ := hrel
    by_cases hlt : q < D.length
    rotate_left
    · have hqn : (D.length : Int) ≤ (q : Int) := by omega
      have HE : Hid (r = false) := Lib.hid (by
        cases r with
        | false => rfl
        | true =>
          obtain ⟨c, h1, h2⟩ := HQ.out.1 rfl
          have h3 := HNO.out c (by rw [List.take_of_length_le (by omega)]; exact h1)
          rw [h2] at h3; cases h3)
      go_wp2_with fail
      go_ret
      exact ⟨ret_bool HE.out.symm, then_ HB2.out HB.out⟩
    obtain ⟨c, hcq⟩ : ∃ c, D[q]? = some c := ⟨_, List.getElem?_eq_getElem hlt⟩
    obtain ⟨Ai, ci, hce, hrow⟩ := HRE.out.at_ q c hcq
    have HG := Lib.hid (gr_of HB.out none)
    obtain ⟨b7, o7, rfl, hcell⟩ := HRE.out.rd _ HG.out q _ hce
    have HCM := Lib.hid (List.mem_of_getElem? hcq)
    have HCN := Lib.hid (HCI.out c HCM.out)
    have HTK := Lib.hid (show D.take (q + 1) = D.take q ++ [c] by rw [List.take_succ_eq_append_getElem hlt, (List.getElem?_eq_some_iff.1 hcq).2])
    have HCV := Lib.hid (covers_any _ n cap l Ai c.length ci c HN.out hn1 rfl (by have := HCN.out.2.1; omega) HCN.out.2.2 wr (HR2.out.below HB.out) (hrow wr HG.out))
    have HOK := Lib.hid (okc_iff (l := l) (a := a) (b := b) (L := []) (R := []) (c := c))
    generalize nl [] (sel l c) = x at HCV HOK
    generalize nr [] (sel l c) = y at HCV HOK
    have hqd : (q : Int) < (D.length : Int) := by omega
    have hq0 : (0 : Int) ≤ (q : Int) := by omega
    clear hce hrow hcq hlt
    go_wp2_with fail
    refine HCV.out.mono ?_
    rintro e w3 ⟨rfl, hb3⟩
    have HB3 := Lib.hid (then_ HB.out hb3)
    clear hb3 HCV hcell
    by_cases h1 : a ≤ (x : Int)
    · have hd1 : (x : Int) ≥ a := h1
      by_cases h2 : b ≤ (y : Int)
      · have hd2 : (y : Int) ≥ b := h2
        have HE : Hid (r = true) := Lib.hid (HQ.out.2 ⟨c, HCM.out, HOK.out.2 ⟨h1, h2⟩⟩)
        clear h1 h2
        go_wp2_with fail
        go_ret
        exact ⟨ret_bool HE.out.symm, then_ HB2.out HB3.out⟩
      · have hd2 : (y : Int) < b := by omega
        have HF : Hid (okc l a b [] [] c = false) := Lib.hid (by
          cases hv : okc l a b [] [] c with
          | false => rfl
          | true => exact absurd (HOK.out.1 hv).2 h2)
        clear h1 h2
        go_wp2_with fail
        exact ⟨⟨q + 1, by omega, by go_num, Lib.hid (fun d hd => by rw [HTK.out] at hd; rcases List.mem_append.1 hd with hd | hd; exact HNO.out d hd; rw [List.mem_singleton] at hd; subst hd; exact HF.out), HB3⟩, by simp [intOf]; omega⟩
    · have hd1 : (x : Int) < a := by omega
      have HF : Hid (okc l a b [] [] c = false) := Lib.hid (by
        cases hv : okc l a b [] [] c with
        | false => rfl
        | true => exact absurd (HOK.out.1 hv).1 h1)
      clear h1
      go_wp2_with fail
      exact ⟨⟨q + 1, by omega, by go_num, Lib.hid (fun d hd => by rw [HTK.out] at hd; rcases List.mem_append.1 hd with hd | hd; exact HNO.out d hd; rw [List.mem_singleton] at hd; subst hd; exact HF.out), HB3⟩, by simp [intOf]; omega⟩
/-- the best by trying all -/
structure BestD (l : List Pair) (many : Int) (x y : Nat) : Prop where
  out : ¬ (0 ≤ many ∧ many ≤ l.length) → x = 0 ∧ y = 0
  best : ∀ m : Nat, many = m → m ≤ l.length → Best l m x y
theorem bestD_of (l : List Pair) (many : Int) : BestD l many (bestF l (chz l.length many)).1 (bestF l (chz l.length many)).2 := by
  refine ⟨fun h => ?_, fun m e hm => ?_⟩
  · have : chz l.length many = [] := by
      by_cases h0 : many < 0
      · exact chz_neg h0
      · obtain ⟨m, rfl⟩ : ∃ m : Nat, many = m := ⟨many.toNat, by omega⟩
        rw [chz_nat, ch_less (by omega)]
    rw [this]
    exact ⟨rfl, rfl⟩
  · subst e
    rw [chz_nat]
    exact best_ch hm
set_option maxRecDepth 100000 in
set_option maxHeartbeats 8000000 in
theorem rBest_any (A : Option Addr) (n cap : Nat) (l : List Pair) (many : Int) (hn : l.length = n) (hm : n ≤ 16) (w : World) (hr : Rd w A (prc l)) :
    Calls Try.prog 22 #[.slice A n cap, .int .i64 many] w fun e w' => ∃ x y : Nat, e = .returned (.tuple #[.int .i64 (x : Int), .int .i64 (y : Int)]) ∧ BestD l many x y ∧ Below w.heap.size w w' := by
  have HN := Lib.hid hn; have HR := Lib.hid hr
  have HX := Lib.hid (choicesZ_any n many w hm)
  have HCI := Lib.hid (fun c h => chz_in (n := n) (many := many) (c := c) h)
  have HDLE : Hid ((chz n many).length ≤ 65536) := Lib.hid (Nat.le_trans (chz_len n many) (Nat.pow_le_pow_right (by omega) hm : 2 ^ n ≤ 2 ^ 16))
  have hn1 : n ≤ 1000 := by omega
  have HQ := Lib.hid (bestD_of l many)
  rw [hn] at HQ
  clear hn hr
  go_enter Try.func22, Try.ntmps22
  go_wp2_with fail
  refine HX.out.mono ?_
  rintro e w2 ⟨A7, c7, cells7, rfl, hc1, hc2, hb2⟩
  generalize chz n many = D at HCI HDLE HQ hc1 hc2
  have hdl := HDLE.out
  have HRE := Lib.hid (rest_of (g0 := none) hc1 hc2 (fun b e => by cases e))
  have HR2 := Lib.hid (HR.out.below hb2); have HB2 := Lib.hid hb2
  clear hc1 hc2 hb2 HX HR
  go_wp2_with fail
  go_loopw [7, 8, 9] (fun u v i wr => ∃ (q x y : Nat), q ≤ D.length ∧ u = .int .i64 x ∧ v = .int .i64 y ∧ i = .int .i64 q ∧ Hid (bestF l (D.take q) = (x, y)) ∧ Hid (Below w2.heap.size w2 wr)) (fun _ _ i _ => D.length - (intOf i).toNat)
  case atStart => exact ⟨0, 0, 0, Nat.zero_le _, rfl, rfl, rfl, Lib.hid rfl, Lib.hid (Below.refl _ _)⟩
  case round =>
    obtain ⟨q, x, y, hq, rfl, rfl, rfl, HF, HB⟩ := hrel
    by_cases hlt : q < D.length
    rotate_left
    · have hqn : (D.length : Int) ≤ (q : Int) := by omega
      have HE : Hid (BestD l many x y) := Lib.hid (by
        have h1 := HQ.out; have h2 := HF.out
        rw [List.take_of_length_le (by omega)] at h2
        rw [h2] at h1; exact h1)
      go_wp2_with fail
      go_ret2
      exact ⟨x, y, rfl, HE.out, then_ HB2.out HB.out⟩
    obtain ⟨c, hcq⟩ : ∃ c, D[q]? = some c := ⟨_, List.getElem?_eq_getElem hlt⟩
    obtain ⟨Ai, ci, hce, hrow⟩ := HRE.out.at_ q c hcq
    have HG := Lib.hid (gr_of HB.out none)
    obtain ⟨b7, o7, rfl, hcell⟩ := HRE.out.rd _ HG.out q _ hce
    have HCM := Lib.hid (List.mem_of_getElem? hcq)
    have HCN := Lib.hid (HCI.out c HCM.out)
    have HTK := Lib.hid (show D.take (q + 1) = D.take q ++ [c] by rw [List.take_succ_eq_append_getElem hlt, (List.getElem?_eq_some_iff.1 hcq).2])
    have HCV := Lib.hid (covers_any _ n cap l Ai c.length ci c HN.out hn1 rfl (by have := HCN.out.2.1; omega) HCN.out.2.2 wr (HR2.out.below HB.out) (hrow wr HG.out))
    have HFS : Hid (bestF l (D.take (q + 1)) = bestS l (x, y) c) := Lib.hid (by rw [HTK.out, bestF_snoc, HF.out])
    unfold bestS at HFS
    simp only at HFS
    generalize nl [] (sel l c) = s at HCV HFS
    generalize nr [] (sel l c) = t at HCV HFS
    have hqd : (q : Int) < (D.length : Int) := by omega
    have hq0 : (0 : Int) ≤ (q : Int) := by omega
    clear hce hrow hcq hlt
    go_wp2_with fail
    refine HCV.out.mono ?_
    rintro e w3 ⟨rfl, hb3⟩
    have HB3 := Lib.hid (then_ HB.out hb3)
    clear hb3 HCV hcell
    by_cases h1 : s > x
    · have HF2 := Lib.hid (HFS.out.trans (if_pos (.inl h1)))
      have h1' : (x : Int) < (s : Int) := by omega
      clear HFS
      go_wp2_with fail
      exact ⟨⟨q + 1, s, t, by omega, rfl, rfl, by go_num, HF2, HB3⟩, by simp [intOf]; omega⟩
    have h1' : (s : Int) ≤ (x : Int) := by omega
    by_cases h2 : s = x
    · subst h2
      by_cases h3 : t > y
      · have HF2 := Lib.hid (HFS.out.trans (if_pos (.inr ⟨rfl, h3⟩)))
        have h3' : (y : Int) < (t : Int) := by omega
        clear HFS
        go_wp2_with fail
        exact ⟨⟨q + 1, s, t, by omega, rfl, rfl, by go_num, HF2, HB3⟩, by simp [intOf]; omega⟩
      · have HF2 := Lib.hid (HFS.out.trans (if_neg (by omega)))
        have h3' : (t : Int) ≤ (y : Int) := by omega
        clear HFS
        go_wp2_with fail
        exact ⟨⟨q + 1, s, y, by omega, rfl, rfl, by go_num, HF2, HB3⟩, by simp [intOf]; omega⟩
    · have HF2 := Lib.hid (HFS.out.trans (if_neg (by omega)))
      have h2' : (s == x) = false := by simp [h2]
      have h2'' : ((s : Int) == (x : Int)) = false := by simp; omega
      clear HFS
      go_wp2_with fail
      exact ⟨⟨q + 1, x, y, by omega, rfl, rfl, by go_num, HF2, HB3⟩, by simp [intOf]; omega⟩
/-- what is picked, as the document does -/
structure PickD (l : List Pair) (many : Int) (cs : List Nat) : Prop where
  out : ¬ (0 ≤ many ∧ many ≤ l.length) → cs = []
  first : ∀ m : Nat, many = m → m ≤ l.length → ∃ x y, Best l m x y ∧ firstC l m x y [] [] = some cs
  le : cs.length ≤ l.length
  lt : ∀ i ∈ cs, i < l.length
set_option maxRecDepth 100000 in
set_option maxHeartbeats 8000000 in
theorem rPick_any (A : Option Addr) (n cap : Nat) (l : List Pair) (many : Int) (hn : l.length = n) (hm : n ≤ 16) (w : World) (hr : Rd w A (prc l)) :
    Calls Try.prog 26 #[.slice A n cap, .int .i64 many] w fun e w' => ∃ cs B d, PickD l many cs ∧ e = .returned (.slice B cs.length d) ∧ Rd w' B (ints (natI cs)) ∧ Below w.heap.size w w' := by
  have HBE := Lib.hid (fun W (hb : Below w.heap.size w W) => rBest_any A n cap l many hn hm W (hr.below hb))
  have HN := Lib.hid hn; have HR := Lib.hid hr
  have HX := Lib.hid (choicesZ_any n many w hm)
  have HCI := Lib.hid (fun c h => chz_in (n := n) (many := many) (c := c) h)
  have HDLE : Hid ((chz n many).length ≤ 65536) := Lib.hid (Nat.le_trans (chz_len n many) (Nat.pow_le_pow_right (by omega) hm : 2 ^ n ≤ 2 ^ 16))
  have hn1 : n ≤ 1000 := by omega
  clear hn hr
  go_enter Try.func26, Try.ntmps26
  go_wp2_with fail
  refine HX.out.mono ?_
  rintro e w2 ⟨A7, c7, cells7, rfl, hc1, hc2, hb2⟩
  have HCZ := Lib.hid (show l.length = n from HN.out)
  have HDE : ∃ D, Hid (D = chz n many) := ⟨_, Lib.hid rfl⟩
  obtain ⟨D, HDE⟩ := HDE
  rw [← HDE.out] at HCI HDLE hc1 hc2 ⊢
  have hdl := HDLE.out
  have HRE := Lib.hid (rest_of (g0 := none) hc1 hc2 (fun b e => by cases e))
  have HR2 := Lib.hid (HR.out.below hb2); have HB2 := Lib.hid hb2
  have HBC := Lib.hid (HBE.out w2 hb2)
  clear hc1 hc2 hb2 HX HR HBE
  go_wp2_with fail
  refine HBC.out.mono ?_
  rintro e w3 ⟨x, y, rfl, hbest, hb3⟩
  have HBD := Lib.hid hbest
  have HB23 := Lib.hid hb3
  clear hb3 hbest HBC
  go_wp2_with fail
  go_loopw [8] (fun i wr => ∃ q : Nat, q ≤ D.length ∧ i = .int .i64 q ∧ Hid (∀ c ∈ D.take q, ¬ (nl [] (sel l c) = x ∧ nr [] (sel l c) = y)) ∧ Hid (Below w2.heap.size w2 wr)) (fun i _ => D.length - (intOf i).toNat)
  case atStart => exact ⟨0, Nat.zero_le _, rfl, Lib.hid (by simp), HB23⟩
  case round =>
    clear HB23
    obtain ⟨q, hq, rfl, HNO, HB⟩ := hrel
    by_cases hlt : q < D.length
    rotate_left
    · have hqn : (D.length : Int) ≤ (q : Int) := by omega
      have HE : Hid (PickD l many []) := Lib.hid ⟨fun _ => rfl, fun m e hm' => by
        have hb := HBD.out.best m e hm'
        subst e
        have hD := HDE.out
        rw [chz_nat, ← HN.out] at hD
        obtain ⟨c, h1, h2⟩ := does_ch.1 (best_does hb)
        have h3 := (best_okc hb h1).1 h2
        exact absurd h3 (HNO.out c (by rw [List.take_of_length_le (by omega), hD]; exact h1)), Nat.zero_le _, by simp⟩
      go_wp2_with fail
      go_ret
      exact ⟨[], none, 0, HE.out, rfl, Rd.nil, then_ HB2.out HB.out⟩
    obtain ⟨c, hcq⟩ : ∃ c, D[q]? = some c := ⟨_, List.getElem?_eq_getElem hlt⟩
    obtain ⟨Ai, ci, hce, hrow⟩ := HRE.out.at_ q c hcq
    have HG := Lib.hid (gr_of HB.out none)
    obtain ⟨b7, o7, rfl, hcell⟩ := HRE.out.rd _ HG.out q _ hce
    have HCM := Lib.hid (List.mem_of_getElem? hcq)
    have HCN := Lib.hid (HCI.out c HCM.out)
    have HTK := Lib.hid (show D.take (q + 1) = D.take q ++ [c] by rw [List.take_succ_eq_append_getElem hlt, (List.getElem?_eq_some_iff.1 hcq).2])
    have HCV := Lib.hid (covers_any _ n cap l Ai c.length ci c HN.out hn1 rfl (by have := HCN.out.2.1; omega) HCN.out.2.2 wr (HR2.out.below HB.out) (hrow wr HG.out))
    have HQ : Hid (nl [] (sel l c) = x ∧ nr [] (sel l c) = y → PickD l many c) := Lib.hid (fun hxy => by
      have hD := HDE.out
      have hlen := HCN.out
      refine ⟨fun h => ?_, fun m e hm' => ?_, by rw [HN.out]; exact hlen.2.1, by rw [HN.out]; exact hlen.2.2⟩
      · exact absurd ⟨by omega, by rw [HN.out]; omega⟩ h
      · have hb := HBD.out.best m e hm'
        subst e
        rw [chz_nat, ← HN.out] at hD
        refine ⟨x, y, hb, ?_⟩
        unfold firstC
        rw [List.find?_eq_some_iff_getElem]
        have hcm : c ∈ ch l.length m := by rw [← hD]; exact HCM.out
        refine ⟨(best_okc hb hcm).2 hxy, q, by rw [← hD]; exact hlt, ?_, fun j hj => ?_⟩
        · simp only [← hD]; exact (List.getElem?_eq_some_iff.1 hcq).2
        · have hjm : (ch l.length m)[j]'(by rw [← hD]; omega) ∈ D.take q := by
            simp only [← hD]
            rw [List.mem_take_iff_getElem]
            exact ⟨j, by omega, rfl⟩
          have h5 := HNO.out _ hjm
          simp only [Bool.not_eq_true, Bool.not_eq_eq_eq_not, Bool.not_true]
          cases hv : okc l x y [] [] ((ch l.length m)[j]'(by rw [← hD]; omega)) with
          | false => rfl
          | true => exact absurd ((best_okc hb (List.getElem_mem _)).1 hv) h5)
    have HC7 := Lib.hid (fun W (hW : Below w2.heap.size w2 W) => (by
      obtain ⟨b, o, e, h⟩ := HRE.out.rd W (gr_of hW none) q _ hce
      injection e with e; injection e with e1 e2; subst e1 e2; exact h : W.cell? ⟨b7, o7 + q, none⟩ = some (.slice Ai c.length ci)))
    have HRO := Lib.hid hrow
    generalize hs : nl [] (sel l c) = s at HCV HQ
    generalize ht : nr [] (sel l c) = t at HCV HQ
    have HST := Lib.hid (And.intro hs ht)
    have hqd : (q : Int) < (D.length : Int) := by omega
    have hq0 : (0 : Int) ≤ (q : Int) := by omega
    clear hce hrow hcq hlt hs ht
    go_wp2_with fail
    refine HCV.out.mono ?_
    rintro e w4 ⟨rfl, hb4⟩
    have HB4 := Lib.hid (then_ HB.out hb4)
    have hc8 := HC7.out w4 HB4.out
    clear hb4 HCV hcell
    have HNX : Hid (¬ (s = x ∧ t = y) → ∀ d ∈ D.take (q + 1), ¬ (nl [] (sel l d) = x ∧ nr [] (sel l d) = y)) := Lib.hid (fun h d hd => by
      rw [HTK.out] at hd
      rcases List.mem_append.1 hd with hd | hd
      · exact HNO.out d hd
      · rw [List.mem_singleton] at hd; subst hd; rw [HST.out.1, HST.out.2]; exact h)
    by_cases h1 : s = x
    · subst h1
      by_cases h2 : t = y
      · subst h2
        have HF := Lib.hid (HQ.out ⟨rfl, rfl⟩)
        have HRF := Lib.hid (HRO.out w4 (gr_of HB4.out none))
        clear HQ HNX
        go_wp2_with fail
        go_ret
        exact ⟨c, Ai, ci, HF.out, rfl, HRF.out, then_ HB2.out HB4.out⟩
      · have HF := Lib.hid (HNX.out (fun h => h2 h.2))
        have h2' : (t == y) = false := by simp [h2]
        have h2'' : ((t : Int) == (y : Int)) = false := by simp; omega
        clear HQ HNX
        go_wp2_with fail
        exact ⟨⟨q + 1, by omega, by go_num, HF, HB4⟩, by simp [intOf]; omega⟩
    · have HF := Lib.hid (HNX.out (fun h => h1 h.1))
      have h2' : (s == x) = false := by simp [h1]
      have h2'' : ((s : Int) == (x : Int)) = false := by simp; omega
      clear HQ HNX
      go_wp2_with fail
      exact ⟨⟨q + 1, by omega, by go_num, HF, HB4⟩, by simp [intOf]; omega⟩
set_option maxRecDepth 100000 in
set_option maxHeartbeats 8000000 in
theorem rSides_any (A : Option Addr) (n cap : Nat) (l : List Pair) (hn : l.length = n) (hm : n ≤ 1000) (w : World) (hr : Rd w A (prc l)) :
    Calls Try.prog 27 #[.slice A n cap] w fun e w' => e = .returned (.tuple #[.int .i64 (nl [] l : Nat), .int .i64 (nr [] l : Nat)]) ∧ Below w.heap.size w w' := by
  have HN := Lib.hid hn; have HR := Lib.hid hr
  clear hn hr
  go_enter Try.func27, Try.ntmps27
  go_wp2_with fail
  go_loopw [4, 5] (fun v i wr => ∃ k : Nat, k ≤ n ∧ i = .int .i64 k ∧ Hid (wr.ownsRow w.heap.size 3 1 v k (ints (natI (List.range k)))) ∧ Hid (Below w.heap.size w wr)) (fun _ i _ => n - (intOf i).toNat)
  case atStart => exact ⟨0, Nat.zero_le _, rfl, Lib.hid (World.ownsRow_nil _ _ _ _), Lib.hid (Below.refl _ _)⟩
  case round =>
    obtain ⟨k, hk, rfl, HO, HB⟩ := hrel
    obtain ⟨Ao, co, rfl⟩ := own_form HO.out
    by_cases hlt : k < n
    · have hkn : (k : Int) < (n : Int) := by omega
      have hk0 : (0 : Int) ≤ (k : Int) := by omega
      have HZ := Lib.hid HB.out.size
      clear hlt
      go_wp2_with (at_builtin; (refine wpList_app el_int (by rfl) (.tmp 12) (.tmp 14) (by rfl) w.heap.size _ k _ (by rfl) (HO.out.alloc _) (some ⟨wr.heap.size, 0, none⟩) 1 1 [.int .i64 (k : Int)] (by rfl) rfl (Rd.new wr #[.int .i64 (k : Int)] _) (by intro u hu; simp at hu; subst hu; rfl) (by unfold maxLen; omega) (by omega) (by have := HZ.out; simp; omega) ?_; intro v1 w4 hown1 hbel1 _ _))
      exact ⟨⟨k + 1, by omega, by go_num, Lib.hid (by rw [List.range_succ, natI_snoc]; exact hown1), Lib.hid ((HB.out.alloc HZ.out _).trans hbel1)⟩, by simp [intOf]; omega⟩
    · obtain rfl : k = n := by omega
      have hkn : (k : Int) ≤ (k : Int) := Int.le_refl _
      have HCV := Lib.hid (covers_any A k cap l Ao k co (List.range k) HN.out hm (by simp) hm (fun i hi => List.mem_range.1 hi) wr (HR.out.below HB.out) (Rd.of_own HO.out))
      rw [show sel l (List.range k) = l by rw [← HN.out, sel_all]] at HCV
      go_wp2_with fail
      refine HCV.out.mono ?_
      rintro e w4 ⟨rfl, hb4⟩
      go_wp2_with fail
      go_ret2
      exact ⟨rfl, then_ HB.out hb4⟩
end Go.Proofs.Ytpiinfjcjpdofaa
