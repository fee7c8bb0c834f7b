/- The walk of the law MoveLeads. -/
import Derived.Test.YtebfmacbdjnhbaaMoveF
namespace Go.Proofs.Ytebfmacbdjnhbaa
open Go.RowKit Go.Mem
set_option linter.unusedVariables false

theorem lead_to (was now : List ByteArray) (hl : was.length = now.length) (k : Nat) (hk : k ≤ was.length) : applyL was (planTo was now k) = some (now.take k ++ was.drop k) := by
  induction k with
  | zero => simp [planTo, applyL]
  | succ k ih =>
    have ih := ih (by omega)
    have h1 : k < was.length := by omega
    have h2 : k < now.length := by omega
    rw [planTo_succ was now k h1 h2]
    have hd : was.drop k = was[k] :: was.drop (k + 1) := List.drop_eq_getElem_cons h1
    have ht : now.take (k + 1) = now.take k ++ [now[k]] := List.take_succ_eq_append_getElem h2
    have hlt : (now.take k).length = k := by rw [List.length_take]; omega
    by_cases he : was[k] = now[k]
    · rw [if_pos he, List.append_nil, ih, hd, ht, he, List.append_assoc]; rfl
    · rw [if_neg he, applyL_snoc, ih, Option.bind_some]
      have hok : applyOk (now.take k ++ was.drop k) ⟨k, was[k], now[k]⟩ := by
        refine ⟨by simp, ?_, ?_⟩
        · simp only [List.length_append, hlt, List.length_drop]; omega
        · simp only [Int.toNat_natCast]
          rw [List.getElem?_append_right (by omega), hlt, Nat.sub_self, hd]; rfl
      rw [if_pos hok]
      simp only [Int.toNat_natCast]
      rw [List.set_append_right _ _ (by omega), hlt, Nat.sub_self, hd, ht, List.append_assoc]
      rfl
theorem back_to (was now : List ByteArray) (hl : was.length = now.length) (k : Nat) (hk : k ≤ was.length) : ∀ out : List ByteArray, out.length = was.length → (∀ i, i < k → out[i]? = was[i]?) →
    applyL out (planTo was now k).reverse = some (now.take k ++ out.drop k) := by
  induction k with
  | zero => intro out _ _; simp [planTo, applyL]
  | succ k ih =>
    intro out ho hsame
    have ih := ih (by omega)
    have h1 : k < was.length := by omega
    have h2 : k < now.length := by omega
    have h3 : k < out.length := by omega
    rw [planTo_succ was now k h1 h2]
    have hd : out.drop k = out[k] :: out.drop (k + 1) := List.drop_eq_getElem_cons h3
    have ht : now.take (k + 1) = now.take k ++ [now[k]] := List.take_succ_eq_append_getElem h2
    have hok' : out[k] = was[k] := by have := hsame k (by omega); simpa [h1, h3] using this
    by_cases he : was[k] = now[k]
    · rw [if_pos he, List.append_nil, ih out ho (fun i hi => hsame i (by omega)), hd, ht, hok', he, List.append_assoc]; rfl
    · rw [if_neg he, List.reverse_append]
      simp only [List.reverse_cons, List.reverse_nil, List.nil_append, List.singleton_append, applyL]
      rw [if_pos ⟨by omega, by omega, by rw [Int.toNat_natCast, List.getElem?_eq_getElem h3, hok']⟩]
      simp only [Int.toNat_natCast]
      rw [ih (out.set k now[k]) (by simpa using ho) (fun i hi => by rw [List.getElem?_set_ne (by omega)]; exact hsame i (by omega))]
      rw [List.drop_set, if_neg (by omega), Nat.sub_self, hd, ht, List.append_assoc]
      rfl
def Mv.swap (m : Mv) : Mv := ⟨m.part, m.now, m.was⟩
theorem plan_swap (was now : List ByteArray) (k : Nat) (h1 : k ≤ was.length) (h2 : k ≤ now.length) : (planTo was now k).map Mv.swap = planTo now was k := by
  induction k with
  | zero => rfl
  | succ k ih =>
    rw [planTo_succ was now k (by omega) (by omega), planTo_succ now was k (by omega) (by omega), List.map_append, ih (by omega) (by omega)]
    by_cases he : was[k] = now[k]
    · rw [if_pos he, if_pos he.symm]; rfl
    · rw [if_neg he, if_neg (fun h => he h.symm)]; rfl
theorem leads1 (was now : List ByteArray) (n : Nat) (h1 : was.length = n) (h2 : now.length = n) : resOf (applyL was (planTo was now (min n n))) = (now, 0) := by
  rw [Nat.min_self, ← h1, lead_to was now (by omega) _ (Nat.le_refl _), List.take_of_length_le (by omega), List.drop_of_length_le (by omega), List.append_nil]; rfl
theorem leads2 (was now : List ByteArray) (n : Nat) (h1 : was.length = n) (h2 : now.length = n) : resOf (applyL was (planTo was now (min n n)).reverse) = (now, 0) := by
  rw [Nat.min_self, ← h1, back_to was now (by omega) _ (Nat.le_refl _) was rfl (fun _ _ => rfl), List.take_of_length_le (by omega), List.drop_of_length_le (by omega), List.append_nil]; rfl
theorem leads3 (was now : List ByteArray) (n : Nat) (h1 : was.length = n) (h2 : now.length = n) : resOf (applyL now ((planTo was now (min n n)).reverse.map Mv.swap)) = (was, 0) := by
  rw [List.map_reverse, plan_swap was now _ (by omega) (by omega)]
  exact leads2 now was n h2 h1

/-- two slices do not lie in one block -/
def Apart (a b : Value) : Prop := ∀ k, a.ownBlock = some k → b.ownBlock = some k → False
theorem Apart.symm {a b : Value} (h : Apart a b) : Apart b a := fun k h1 h2 => h k h2 h1
theorem Apart.kept {a b : Value} (h : Apart a b) : a.ownBlock = none ∨ a.ownBlock ≠ b.ownBlock := by
  cases ha : a.ownBlock with
  | none => exact .inl rfl
  | some k => exact .inr (fun hb => h k ha hb.symm)
theorem Apart.step {a a' b : Value} {N : Nat} (h : Apart a b) (hat : a'.ownBlock = a.ownBlock ∨ a'.ownBlock = some N) (hb : ∀ k, b.ownBlock = some k → k < N) : Apart a' b := fun k h1 h2 => by
  rcases hat with e | e
  · exact h k (e ▸ h1) h2
  · rw [e] at h1; injection h1 with h1; have := hb k h2; omega
theorem own_apart {w : World} {b : Nat} {v : Value} {e : TypeId} {sz n : Nat} {cs : List Value} (h : w.ownsRow b e sz v n cs) {k : Nat} (hk : v.ownBlock = some k) : k < w.heap.size := (h.lt k hk).2

set_option maxRecDepth 100000 in
set_option maxHeartbeats 4000000 in
theorem moveLeads_walk (A : Option Addr) (n c : Nat) (ss : List ByteArray) (B : Option Addr) (m d : Nat) (ts : List ByteArray) (w : World) (hr : Rd w A (ss.map Value.string)) (hn : ss.length = n) (hm : n ≤ maxLen)
    (hr' : Rd w B (ts.map Value.string)) (hn' : ts.length = m) (hm' : m ≤ maxLen) :
    Calls Try.prog 6 #[.slice A n c, .slice B m d] w fun e w' => e = .returned (.bool true) ∧ Below w.heap.size w w' := by
  have HN := Lib.hid hn; have HN' := Lib.hid hn'; clear hn hn'
  by_cases hnm : n = m
  case neg =>
    have hd : ((n : Int) != (m : Int)) = true := by simp; omega
    go_enter Try.func6, Try.ntmps6
    go_wp2_with fail
    refine (few19_any A n c ss 40 w hr HN.out hm (by omega)).mono ?_
    rintro e w1 ⟨rfl, rfl⟩
    generalize hf : fewT ss 40 = b1
    clear hf
    cases b1
    all_goals
      go_wp2_with fail
      refine (awake20_any _).mono ?_
      rintro e w1 ⟨rfl, hb1⟩
      go_wp2
      go_ret
      exact ⟨rfl, hb1⟩
  subst hnm
  go_enter Try.func6, Try.ntmps6
  go_wp2_with fail
  refine (few19_any A n c ss 40 w hr HN.out hm (by omega)).mono ?_
  rintro e w1 ⟨rfl, rfl⟩
  generalize hf : fewT ss 40 = b1
  have HF1 := Lib.hid hf; clear hf
  cases b1
  · go_wp2_with fail
    refine (awake20_any _).mono ?_
    rintro e w1 ⟨rfl, hb1⟩
    go_wp2
    go_ret
    exact ⟨rfl, hb1⟩
  go_wp2_with fail
  refine (few19_any B n d ts 40 w hr' HN'.out hm (by omega)).mono ?_
  rintro e w1 ⟨rfl, rfl⟩
  generalize hf : fewT ts 40 = b2
  have HF2 := Lib.hid hf; clear hf
  cases b2
  · go_wp2_with fail
    refine (awake20_any _).mono ?_
    rintro e w1 ⟨rfl, hb1⟩
    go_wp2
    go_ret
    exact ⟨rfl, hb1⟩
  have hl1 : n ≤ 40 := by have := (fewT_true HF1.out).1; rw [HN.out] at this; exact this
  clear hm hm' HF1 HF2
  go_wp2_with fail
  refine (plan_any A n c ss B n d ts w hr HN.out (by omega) hr' HN'.out (by omega)).mono ?_
  rintro e w1 ⟨v1, rfl, ho1, hb1⟩
  obtain ⟨G1, c1, rfl⟩ := own_form ho1
  have hg1 := Rd.of_own ho1
  have hpl := planTo_le ss ts (min n n)
  have hL1 := Lib.hid (leads1 ss ts n HN.out HN'.out)
  have hL2 := Lib.hid (leads2 ss ts n HN.out HN'.out)
  have hL3 := Lib.hid (leads3 ss ts n HN.out HN'.out)
  have hmv : movedTo ss ts n = (planTo ss ts (min n n)).length := by rw [Nat.min_self]; rfl
  have HMV := Lib.hid hmv
  generalize planTo ss ts (min n n) = p at hg1 hpl hL1 hL2 hL3 HMV ⊢
  clear ho1 hmv
  have hpl : p.length ≤ 40 := by omega
  go_wp2_with fail
  go_loopw [6, 7, 8] (fun v6 v7 i wr => ∃ k : Nat, k ≤ p.length ∧ i = .int .i64 ((k : Int) - 1) ∧ wr.ownsRow w1.heap.size 55 3 v6 (p.drop k).length ((p.drop k).reverse.flatMap Mv.cells) ∧
      wr.ownsRow w1.heap.size 55 3 v7 (p.drop k).length (((p.drop k).reverse.map Mv.swap).flatMap Mv.cells) ∧ Apart v7 v6 ∧ Below w1.heap.size w1 wr) (fun _ _ i _ => ((intOf i) + 1).toNat)
  case atStart => exact ⟨p.length, Nat.le_refl _, rfl, by rw [List.drop_length]; exact World.ownsRow_nil _ _ _ _, by rw [List.drop_length]; exact World.ownsRow_nil _ _ _ _, (fun k h _ => by cases h), Below.refl _ _⟩
  case round =>
    obtain ⟨k, hk, rfl, ho6, ho7, hne, hbel⟩ := hrel
    by_cases hlt : 0 < k
    · obtain ⟨k, rfl⟩ : ∃ j, k = j + 1 := ⟨k - 1, by omega⟩
      have e1 : ((k + 1 : Nat) : Int) - 1 = (k : Int) := by omega
      rw [e1]
      have hx : k < p.length := by omega
      obtain ⟨b, off, rfl, hq0, hq1, hq2⟩ := mv_row hg1 k hx
      have hdr : p.drop k = p[k] :: p.drop (k + 1) := List.drop_eq_getElem_cons hx
      have hdl : (p.drop (k + 1)).length ≤ 40 := by rw [List.length_drop]; omega
      generalize hpk : p[k] = mk at hq0 hq1 hq2 hdr
      obtain ⟨part, was, now⟩ := mk
      have HDR := Lib.hid hdr; have HO6 := Lib.hid ho6; have HO7 := Lib.hid ho7; have HNE := Lib.hid hne
      clear hdr ho6 ho7 hne hpk e1
      generalize hdd : p.drop (k + 1) = D at HDR HO6 HO7 hdl
      clear hdd
      simp only at hq0 hq1 hq2
      have HQ0 := Lib.hid hq0; have HQ1 := Lib.hid hq1; have HQ2 := Lib.hid hq2
      have hc0 := cell_below hbel hq0
      have hc1 := cell_below hbel hq1
      have hc2 := cell_below hbel hq2
      clear hq0 hq1 hq2
      have hi0 : (0 : Int) ≤ (k : Int) := by omega
      have hi1 : (k : Int) < (p.length : Int) := by omega
      go_wp2_with (at_builtin; refine wpList_app el_move rfl (.tmp 41) (.tmp 46) rfl w1.heap.size u6 D.length _ rfl (HO6.out.alloc _) (some ⟨wr.heap.size, 0, none⟩) 1 1 (Mv.cells ⟨part, was, now⟩) rfl rfl (Rd.new wr #[.int .i64 part, .string was, .string now] _) (by intro u hu; simp [Mv.cells] at hu; rcases hu with rfl | rfl | rfl <;> rfl) (by unfold maxLen; omega) (by omega) (by have := hbel.size; simp; omega) ?_; intro v6' w6 ho6' hb6 hgr6 hat6)
      have hbx : Below w1.heap.size w1 w6 := (hbel.alloc hbel.size _).trans hb6
      have hd0 := cell_below hbx HQ0.out
      have hd1 := cell_below hbx HQ1.out
      have hd2 := cell_below hbx HQ2.out
      have HO6' := Lib.hid ho6'; have HO7' := Lib.hid ((HO7.out.alloc (.cells #[.int .i64 part, .string was, .string now] 55)).kept hgr6 HNE.out.kept)
      have HAP := Lib.hid ((HNE.out.symm.step hat6 (fun k7 h7 => by have := own_apart HO7.out h7; simp; omega)).symm)
      clear ho6' hc0 hc1 hc2 HO6 HO7 hgr6 hb6 HNE hat6
      go_region_law ((refine step_app el_move rfl (.tmp 48) (.tmp 65) rfl w1.heap.size u7 D.length _ (by simp [Act.eval]) (HO7'.out.alloc _) (some ⟨w6.heap.size, 0, none⟩) 1 1 (Mv.cells ⟨part, now, was⟩) (by simp [Act.eval]) rfl (Rd.new w6 #[.int .i64 part, .string now, .string was] _) (by intro u hu; simp [Mv.cells] at hu; rcases hu with rfl | rfl | rfl <;> rfl) (by unfold maxLen; omega) (by omega) (by have := hbx.size; simp; omega) ?_; intro v7' w7 ho7' hb7 hgr7 hat7))
      all_goals
        go_wp2
        go_roundw
        case rel =>
          have h6 := (own_drew (HO6'.out.alloc (.cells #[.int .i64 part, .string now, .string was] 55))).kept hgr7 HAP.out.symm.kept
          refine ⟨k, by omega, rfl, ?_, ?_, HAP.out.step hat7 (fun k6 h => by have := own_apart HO6'.out h; simp; omega), (hbx.alloc hbx.size _).drew.trans hb7⟩
          · rw [HDR.out, List.reverse_cons, List.flatMap_append]
            simpa using h6
          · rw [HDR.out, List.reverse_cons, List.map_append, List.flatMap_append]
            simpa [Mv.swap] using ho7'
        case measure => simp [intOf]
    · obtain rfl : k = 0 := by omega
      have e1 : ((0 : Nat) : Int) - 1 = -1 := rfl
      rw [e1]
      rw [List.drop_zero] at ho6 ho7
      have hrl : p.reverse.length = p.length := List.length_reverse
      obtain ⟨G6, c6, rfl⟩ := own_form ho6
      obtain ⟨G7, c7, rfl⟩ := own_form ho7
      have hg6 := Rd.of_own ho6
      have hg7 := Rd.of_own ho7
      have hg1 := hg1.below hbel
      have hbw := then_ hb1 hbel
      have HRL := Lib.hid hrl
      clear ho6 ho7 hne hbel hb1 hrl e1
      go_wp2_with fail
      refine (apply_any A n c ss G1 _ c1 p wr (hr.below hbw) HN.out (by omega) hg1 rfl (by omega)).mono ?_
      intro e w2 h2
      obtain ⟨hb2, G2, n2, c2, rfl, hg2, hl2⟩ := h2.view
      rw [hL1.out] at hg2 hl2 ⊢
      have hbw := then_ hbw hb2
      have hg6 := hg6.below hb2
      have hg7 := hg7.below hb2
      have HL2 := Lib.hid hl2
      clear h2 hb2 hl2 hg1
      go_wp2_with fail
      refine (apply_any A n c ss G6 _ c6 p.reverse w2 (hr.below hbw) HN.out (by omega) hg6 HRL.out (by omega)).mono ?_
      intro e w3 h3
      obtain ⟨hb3, G3, n3, c3, rfl, hg3, hl3⟩ := h3.view
      rw [hL2.out] at hg3 hl3 ⊢
      have hbw := then_ hbw hb3
      have hg7 := hg7.below hb3
      have hg2 := hg2.below hb3
      have HL3 := Lib.hid hl3
      clear h3 hb3 hl3 hg6
      go_wp2_with fail
      refine (apply_any B n d ts G7 _ c7 (p.reverse.map Mv.swap) w3 (hr'.below hbw) HN'.out (by omega) hg7 (by rw [List.length_map]; exact HRL.out) (by omega)).mono ?_
      intro e w4 h4
      obtain ⟨hb4, G4, n4, c4, rfl, hg4, hl4⟩ := h4.view
      rw [hL3.out] at hg4 hl4 ⊢
      have hbw := then_ hbw hb4
      have hg2 := hg2.below hb4
      have hg3 := hg3.below hb4
      have HL4 := Lib.hid hl4
      clear h4 hb4 hl4 hg7
      go_wp2_with fail
      refine (sameTexts_any G2 n2 c2 ts B n d ts w4 hg2 HL2.out (by have h1 := HL2.out; have h2 := HN'.out; omega) (hr'.below hbw) HN'.out (by omega)).mono ?_
      rintro e w5 ⟨rfl, hb5⟩
      rw [decide_eq_true rfl]
      have hbw := then_ hbw hb5
      have hg3 := hg3.below hb5
      have hg4 := hg4.below hb5
      clear hb5 hg2
      go_wp2_with fail
      refine (sameTexts_any G3 n3 c3 ts B n d ts w5 hg3 HL3.out (by have h1 := HL3.out; have h2 := HN'.out; omega) (hr'.below hbw) HN'.out (by omega)).mono ?_
      rintro e w6 ⟨rfl, hb6⟩
      rw [decide_eq_true rfl]
      have hbw := then_ hbw hb6
      have hg4 := hg4.below hb6
      clear hb6 hg3
      go_wp2_with fail
      refine (sameTexts_any G4 n4 c4 ss A n c ss w6 hg4 HL4.out (by have h1 := HL4.out; have h2 := HN.out; omega) (hr.below hbw) HN.out (by omega)).mono ?_
      rintro e w7 ⟨rfl, hb7⟩
      rw [decide_eq_true rfl]
      have hbw := then_ hbw hb7
      clear hb7 hg4
      go_wp2_with fail
      refine (moved_any A n c ss B d ts w7 (hr.below hbw) HN.out (by omega) (hr'.below hbw) HN'.out).mono ?_
      rintro e w8 ⟨rfl, hb8⟩
      rw [HMV.out]
      have hbw := then_ hbw hb8
      clear hb8
      go_wp2_with fail
      refine (awake20_any _).mono ?_
      rintro e w9 ⟨rfl, hb9⟩
      go_wp2
      go_ret
      exact ⟨rfl, then_ hbw hb9⟩
end Go.Proofs.Ytebfmacbdjnhbaa
