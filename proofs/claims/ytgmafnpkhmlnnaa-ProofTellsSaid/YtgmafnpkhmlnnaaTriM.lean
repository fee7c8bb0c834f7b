/- The walk of ProofTells. -/
import Derived.Test.YtgmafnpkhmlnnaaTriL
attribute [local go_sem ↓] Go.wp_at_zero Go.wp_at_succ
namespace Go.Proofs.Ytgmafnpkhmlnnaa
open Go.RowKit Go.Mem Go.Num Go.Tri
set_option linter.unusedVariables false
set_option linter.unusedSimpArgs false

theorem be4_inj {n m : Nat} (hn : n < 4294967296) (hm : m < 4294967296) (h : be 4 (n : Int) = be 4 (m : Int)) : n = m := by
  have := congrArg num h
  rw [num_be4 _ (by omega) (by omega), num_be4 _ (by omega) (by omega)] at this
  omega
theorem flat_inj : ∀ (ss ts : List ByteArray), (∀ s ∈ ss, s.size < 4294967296) → (∀ s ∈ ts, s.size < 4294967296) → ss.length = ts.length → ss.flatMap textB = ts.flatMap textB → ss = ts := by
  intro ss
  induction ss with
  | nil => intro ts _ _ hl _; cases ts with
    | nil => rfl
    | cons t r => cases hl
  | cons s r ih =>
    intro ts h1 h2 hl h
    cases ts with
    | nil => cases hl
    | cons t r2 =>
      rw [List.flatMap_cons, List.flatMap_cons] at h
      unfold textB at h
      rw [List.append_assoc, List.append_assoc] at h
      obtain ⟨e1, e2⟩ := List.append_inj h (by rw [be_length, be_length])
      have es := be4_inj (h1 s List.mem_cons_self) (h2 t List.mem_cons_self) e1
      obtain ⟨e3, e4⟩ := List.append_inj e2 (by simpa using es)
      have e5 : s = t := by rw [← bs_of s, ← bs_of t, e3]
      rw [e5, ih r2 (fun x hx => h1 x (List.mem_cons_of_mem _ hx)) (fun x hx => h2 x (List.mem_cons_of_mem _ hx)) (by simpa using hl) e4]
theorem tT_inj {ss ts : List ByteArray} (l1 : ss.length < 4294967296) (l2 : ts.length < 4294967296) (h1 : ∀ s ∈ ss, s.size < 4294967296) (h2 : ∀ s ∈ ts, s.size < 4294967296) (h : tT ss = tT ts) : ss = ts := by
  have h3 := bs_inj h
  unfold textsB at h3
  obtain ⟨e1, e2⟩ := List.append_inj h3 (by rw [be_length, be_length])
  exact flat_inj ss ts h1 h2 (be4_inj l1 l2 e1) e2
theorem share_small {l : List Leaf} (hok : ∀ m ∈ l, smallL m) (k : Nat) : ∀ s ∈ shareL l k, s.size < 4294967296 := fun s hs => by
  unfold shareL texP at hs
  obtain ⟨m, hm, hs⟩ := List.mem_flatMap.1 hs
  have h1 := hok m hm
  split at hs
  · simp only [leafT, List.mem_cons, List.not_mem_nil, or_false] at hs
    rcases hs with rfl | rfl
    · have := h1.1; omega
    · have := h1.2; omega
  · exact absurd hs List.not_mem_nil
theorem share_few {l : List Leaf} (hl : l.length ≤ 1000) (k : Nat) : (shareL l k).length < 4294967296 := by have := texP_len (bktB k) l; unfold shareL; omega
theorem tells_plain {a b : List Leaf} (ha : a.length ≤ 1000) (hb : b.length ≤ 1000) (hoa : ∀ m ∈ a, smallL m) (hob : ∀ m ∈ b, smallL m) (hN : NoColl (textsF a) (textsF b)) :
    (unH (nodeL a) (nodeL b) 6 0).1 = wantL (shareL a) (shareL b) (List.range 64) := by
  have hA : Apart tT hH (shareL a) (shareL b) := fun h i hh hi he => hN _ (text_in a hh hi) _ (text_in b hh hi) he
  have h := unH_want (T := tT) (H := hH) (a := shareL a) (b := shareL b) (fun i _ he => tT_inj (share_few ha i) (share_few hb i) (share_small hoa i) (share_small hob i) he)
    (fun h i _ j he => by
      have h32 : ∀ (l : List Leaf) (h i : Nat), (node tT hH (shareL l) h i).size < 4294967296 := fun l h i => by have := nodeL_size l h i; unfold nodeL at this; omega
      have := tT_inj (by simp) (by simp) (fun s hs => by simp at hs; rcases hs with rfl | rfl <;> exact h32 _ _ _) (fun s hs => by simp at hs; rcases hs with rfl | rfl <;> exact h32 _ _ _) he
      injection this with e1 e2; injection e2 with e2 _; exact ⟨e1, e2⟩)
    hA 6 0 (Nat.le_refl _) (by decide)
  rw [← under_all]
  exact h.1
def wantB (a b : List Leaf) (k : Nat) : List Int := wantL (shareL a) (shareL b) (List.range k)
theorem wantB_yes {a b : List Leaf} {k : Nat} (h : ¬ shareL a k = shareL b k) : wantB a b (k + 1) = wantB a b k ++ [(k : Int)] := by
  unfold wantB wantL; rw [List.range_succ, List.filter_append, List.map_append]; simp [h]
theorem wantB_no {a b : List Leaf} {k : Nat} (h : shareL a k = shareL b k) : wantB a b (k + 1) = wantB a b k := by
  unfold wantB wantL; rw [List.range_succ, List.filter_append, List.map_append]; simp [h]
theorem wantB_len (a b : List Leaf) (k : Nat) : (wantB a b k).length ≤ k := by
  unfold wantB wantL; rw [List.length_map]; exact Nat.le_trans (List.length_filter_le _ _) (by simp)
/-- the shares of two lists in two blocks -/
structure Sh2 (W : World) (ga gb base : Nat) (a b : List Leaf) (va vb : Nat → Value) : Prop where
  ca : ∀ j, j < 64 → W.cell? ⟨ga, j, none⟩ = some (va j)
  cb : ∀ j, j < 64 → W.cell? ⟨gb, j, none⟩ = some (vb j)
  ra : ∀ j, j < 64 → W.ownsRow base 9 1 (va j) (texBN a j) (texBV a j)
  rb : ∀ j, j < 64 → W.ownsRow base 9 1 (vb j) (texBN b j) (texBV b j)
theorem Sh2.below {W W' : World} {ga gb base : Nat} {a b : List Leaf} {va vb : Nat → Value} (h : Sh2 W ga gb base a b va vb) (hb : Below W.heap.size W W') : Sh2 W' ga gb base a b va vb :=
  ⟨fun j hj => cell_below hb (h.ca j hj), fun j hj => cell_below hb (h.cb j hj), fun j hj => own_below (h.ra j hj) hb, fun j hj => own_below (h.rb j hj) hb⟩
set_option maxRecDepth 100000 in
set_option maxHeartbeats 8000000 in
theorem proofTells_walk (A : Option Addr) (n c : Nat) (a : List Leaf) (B : Option Addr) (m d : Nat) (b : List Leaf) (w : World)
    (hr : Rd w A (leafc a)) (hn : a.length = n) (hm : n ≤ maxLen) (hok : ∀ m ∈ a, m.ok w) (hr2 : Rd w B (leafc b)) (hn2 : b.length = m) (hm2 : m ≤ maxLen) (hok2 : ∀ m ∈ b, m.ok w) :
    Calls Try.prog 5 #[.slice A n c, .slice B m d] w fun e w' => e = .returned (.bool true) ∧ Below w.heap.size w w' := by
  have HR := Lib.hid hr; have HN := Lib.hid hn; have HR2 := Lib.hid hr2; have HN2 := Lib.hid hn2
  have HF1 := Lib.hid (few49_any A n c a w hr hn hm hok)
  have HF2 := Lib.hid (fun W (h : Below w.heap.size w W) => few49_any B m d b W (hr2.below h) hn2 hm2 (fun x hx => Leaf.ok.below (hok2 x hx) h))
  clear hr hn hok hr2 hn2 hok2 hm hm2
  go_enter Try.func5, Try.ntmps5
  go_wp2_with fail
  refine HF1.out.mono ?_
  rintro e w1 ⟨few, hfew, rfl, hb1⟩
  cases few
  · clear hfew
    go_wp2_with fail
    refine (fin49 w w1 hb1).mono ?_
    rintro e w2 ⟨rfl, hb2⟩
    go_wp2
    go_ret
    exact ⟨rfl, hb2⟩
  have HL := Lib.hid (hfew rfl); clear hfew
  go_wp2_with fail
  refine (HF2.out _ hb1).mono ?_
  rintro e w2 ⟨few, hfew, rfl, hb2⟩
  have hb2 := then_ hb1 hb2
  cases few
  · clear hfew
    go_wp2_with fail
    refine (fin49 w w2 hb2).mono ?_
    rintro e w3 ⟨rfl, hb3⟩
    go_wp2
    go_ret
    exact ⟨rfl, hb3⟩
  have HL2 := Lib.hid (hfew rfl); clear hfew HF1 HF2
  have hn : n ≤ 1000 := by have := HL.out.1; rw [HN.out] at this; omega
  have hm : m ≤ 1000 := by have := HL2.out.1; rw [HN2.out] at this; omega
  have HR := Lib.hid (HR.out.below hb2); have HR2 := Lib.hid (HR2.out.below hb2); have HB := Lib.hid hb2
  clear hb1 hb2
  go_wp2_with fail
  refine (build_any A n c a w2 HR.out HN.out hn HL.out.2).mono ?_
  rintro e w3 ⟨ta, rfl, hT, hb1⟩
  have HTA := Lib.hid hT
  have HR := Lib.hid (HR.out.below hb1); have HR2 := Lib.hid (HR2.out.below hb1); have HB := Lib.hid (then_ HB.out hb1)
  clear hb1 hT
  go_wp2_with fail
  refine (build_any B m d b w3 HR2.out HN2.out hm HL2.out.2).mono ?_
  rintro e w4 ⟨tb, rfl, hT, hb1⟩
  have HTB := Lib.hid hT; have HTA := Lib.hid (HTA.out.below hb1)
  have HR := Lib.hid (HR.out.below hb1); have HR2 := Lib.hid (HR2.out.below hb1); have HB := Lib.hid (then_ HB.out hb1)
  clear hb1 hT
  go_wp2_with fail
  refine (trieUnlike_any ta tb a b w4 HTA.out HTB.out).mono ?_
  rintro e w5 ⟨v5, rfl, hown, hb1⟩
  have HPL := Lib.hid (fun h => tells_plain (a := a) (b := b) (by have := HN.out; omega) (by have := HN2.out; omega) HL.out.2 HL2.out.2 h)
  have HPOS := Lib.hid (unH_pos (nodeL a) (nodeL b) 6 0)
  have HFEW : Hid ((unH (nodeL a) (nodeL b) 6 0).2 ≤ 1 + 2 * 6 * (unH (nodeL a) (nodeL b) 6 0).1.length) := Lib.hid (unH_few (T := tT) (H := hH) (a := shareL a) (b := shareL b) 6 0)
  have HBIG := Lib.hid (unH_big (nodeL a) (nodeL b) 6 0)
  generalize hp : (unH (nodeL a) (nodeL b) 6 0).1 = p at hown HPL HFEW HBIG
  generalize hc : (unH (nodeL a) (nodeL b) 6 0).2 = cnt at HPOS HFEW HBIG ⊢
  generalize hpl : p.length = pl at hown HFEW HBIG
  have HPLN := Lib.hid hpl
  obtain ⟨A5, c5, rfl⟩ := own_form hown
  have HU := Lib.hid (Rd.of_own hown)
  have HR := Lib.hid (HR.out.below hb1); have HR2 := Lib.hid (HR2.out.below hb1); have HB := Lib.hid (then_ HB.out hb1)
  clear hb1 hown hp hc hpl HTA HTB
  go_wp2_with fail
  refine (shares_any A n c a w5 HR.out HN.out hn HL.out.2).mono ?_
  rintro e w6 ⟨cs, rfl, hAg, hb1⟩
  have HG1 := Lib.hid hAg
  have HU := Lib.hid (HU.out.below hb1); have HR := Lib.hid (HR.out.below hb1); have HR2 := Lib.hid (HR2.out.below hb1)
  have HB6 := Lib.hid hb1
  clear hb1 hAg
  go_wp2_with fail
  refine (shares_any B m d b w6 HR2.out HN2.out hm HL2.out.2).mono ?_
  rintro e w7 ⟨cs2, rfl, hAg, hb1⟩
  obtain ⟨hcs2, vb, hcv2, hrb⟩ := hAg
  obtain ⟨hcs, va, hcv, hra⟩ := HG1.out.below hb1
  have HU := Lib.hid (HU.out.below hb1); have HR := Lib.hid (HR.out.below hb1); have HR2 := Lib.hid (HR2.out.below hb1)
  have hb57 := then_ HB6.out hb1
  have HB := Lib.hid (then_ HB.out hb57)
  have H1 := Lib.hid (one_ags hcs hcv hra); have H12 := Lib.hid (one_ags hcs2 hcv2 hrb)
  have HI := Lib.hid (show (Try.prog.info? 41).map (·.size) = some cs.size by rw [hcs]; kernel_rfl)
  have HI2 := Lib.hid (show (Try.prog.info? 41).map (·.size) = some cs2.size by rw [hcs2]; kernel_rfl)
  obtain ⟨Z, hZ⟩ : ∃ Z : Array Value, Z = #[.slice none 0 0, .slice none 0 0, .slice none 0 0, .slice none 0 0, .slice none 0 0, .slice none 0 0, .slice none 0 0, .slice none 0 0, .slice none 0 0, .slice none 0 0, .slice none 0 0, .slice none 0 0, .slice none 0 0, .slice none 0 0, .slice none 0 0, .slice none 0 0, .slice none 0 0, .slice none 0 0, .slice none 0 0, .slice none 0 0, .slice none 0 0, .slice none 0 0, .slice none 0 0, .slice none 0 0, .slice none 0 0, .slice none 0 0, .slice none 0 0, .slice none 0 0, .slice none 0 0, .slice none 0 0, .slice none 0 0, .slice none 0 0, .slice none 0 0, .slice none 0 0, .slice none 0 0, .slice none 0 0, .slice none 0 0, .slice none 0 0, .slice none 0 0, .slice none 0 0, .slice none 0 0, .slice none 0 0, .slice none 0 0, .slice none 0 0, .slice none 0 0, .slice none 0 0, .slice none 0 0, .slice none 0 0, .slice none 0 0, .slice none 0 0, .slice none 0 0, .slice none 0 0, .slice none 0 0, .slice none 0 0, .slice none 0 0, .slice none 0 0, .slice none 0 0, .slice none 0 0, .slice none 0 0, .slice none 0 0, .slice none 0 0, .slice none 0 0, .slice none 0 0, .slice none 0 0] := ⟨_, rfl⟩
  have hzz : Z.size = 64 := by rw [hZ]; rfl
  have hbb := ((Below.refl w7.heap.size w7).alloc (Nat.le_refl _) (.cells Z 41)).alloc (by simp) (.cells Z 41)
  have hga : ((w7.alloc (.cells Z 41)).alloc (.cells Z 41)).heap[w7.heap.size]? = some (.cells Z 41 (0, 0)) :=
    (((Below.refl (w7.heap.size + 1) (w7.alloc (.cells Z 41))).alloc (by simp) (.cells Z 41)).block w7.heap.size (by omega)).trans (heap_alloc_new w7 _)
  have hgb : ((w7.alloc (.cells Z 41)).alloc (.cells Z 41)).heap[w7.heap.size + 1]? = some (.cells Z 41 (0, 0)) := by
    have := heap_alloc_new (w7.alloc (.cells Z 41)) (.cells Z 41); simpa using this
  have HTH := Lib.hid (blk_there (cs := cs) hga (by rw [hzz, hcs]))
  have hga2 := blk_store (cs := cs) hga (by rw [hzz, hcs])
  have hgb2 : (((w7.alloc (.cells Z 41)).alloc (.cells Z 41)).setCells w7.heap.size 0 cs.toList).heap[w7.heap.size + 1]? = some (.cells Z 41 (0, 0)) := by
    have h1 : Blk ((w7.alloc (.cells Z 41)).alloc (.cells Z 41)) (w7.heap.size + 1) 41 Z.toList := by unfold Blk; rw [Array.toArray_toList]; exact hgb
    have := blk_setFar (b := w7.heap.size) (by omega) cs.toList 0 _ h1
    unfold Blk at this; rw [Array.toArray_toList] at this; exact this
  have HTH2 := Lib.hid (blk_there (cs := cs2) hgb2 (by rw [hzz, hcs2]))
  have hgb3 := blk_store (cs := cs2) hgb2 (by rw [hzz, hcs2])
  have hga3 : ((((w7.alloc (.cells Z 41)).alloc (.cells Z 41)).setCells w7.heap.size 0 cs.toList).setCells (w7.heap.size + 1) 0 cs2.toList).heap[w7.heap.size]? = some (.cells cs 41 (0, 0)) := by
    have h1 : Blk (((w7.alloc (.cells Z 41)).alloc (.cells Z 41)).setCells w7.heap.size 0 cs.toList) w7.heap.size 41 cs.toList := by unfold Blk; rw [Array.toArray_toList]; exact hga2
    have := blk_setFar (b := w7.heap.size + 1) (by omega) cs2.toList 0 _ h1
    unfold Blk at this; rw [Array.toArray_toList] at this; exact this
  have hbe := below_setCells (B := w7.heap.size) (b := w7.heap.size + 1) (by omega) cs2.toList 0 _ (below_setCells (B := w7.heap.size) (b := w7.heap.size) (Nat.le_refl _) cs.toList 0 _ hbb)
  have HS2 := Lib.hid (show Sh2 ((((w7.alloc (.cells Z 41)).alloc (.cells Z 41)).setCells w7.heap.size 0 cs.toList).setCells (w7.heap.size + 1) 0 cs2.toList) w7.heap.size (w7.heap.size + 1) w5.heap.size a b va vb from
    ⟨fun j hj => by rw [cell_of_row _ _ _ _ _ _ hga3]; exact hcv j hj, fun j hj => by rw [cell_of_row _ _ _ _ _ _ hgb3]; exact hcv2 j hj, fun j hj => own_below (hra j hj) hbe, fun j hj => own_below (own_mono (hrb j hj) HB6.out.size) hbe⟩)
  have HU := Lib.hid (HU.out.below hbe); have HR := Lib.hid (HR.out.below hbe); have HR2 := Lib.hid (HR2.out.below hbe); have HB := Lib.hid (then_ HB.out hbe)
  clear hb1 hb57 hcs hcv hra hcs2 hcv2 hrb hzz hbb hga hgb hga2 hgb2 hgb3 hga3 hbe HG1 HB6
  subst hZ
  go_wp2_with (first
    | (refine wpList_store_mid (by rfl) 41 (.tmp 8) (.tmp 29) (by rfl) w7.heap.size 0 cs (by rfl) (by rfl) HTH.out HI.out H1.out ?_)
    | (refine wpList_store_mid (by rfl) 41 (.tmp 9) (.tmp 31) (by rfl) (w7.heap.size + 1) 0 cs2 (by rfl) (by rfl) HTH2.out HI2.out H12.out ?_))
  generalize (((w7.alloc (.cells #[.slice none 0 0, .slice none 0 0, .slice none 0 0, .slice none 0 0, .slice none 0 0, .slice none 0 0, .slice none 0 0, .slice none 0 0, .slice none 0 0, .slice none 0 0, .slice none 0 0, .slice none 0 0, .slice none 0 0, .slice none 0 0, .slice none 0 0, .slice none 0 0, .slice none 0 0, .slice none 0 0, .slice none 0 0, .slice none 0 0, .slice none 0 0, .slice none 0 0, .slice none 0 0, .slice none 0 0, .slice none 0 0, .slice none 0 0, .slice none 0 0, .slice none 0 0, .slice none 0 0, .slice none 0 0, .slice none 0 0, .slice none 0 0, .slice none 0 0, .slice none 0 0, .slice none 0 0, .slice none 0 0, .slice none 0 0, .slice none 0 0, .slice none 0 0, .slice none 0 0, .slice none 0 0, .slice none 0 0, .slice none 0 0, .slice none 0 0, .slice none 0 0, .slice none 0 0, .slice none 0 0, .slice none 0 0, .slice none 0 0, .slice none 0 0, .slice none 0 0, .slice none 0 0, .slice none 0 0, .slice none 0 0, .slice none 0 0, .slice none 0 0, .slice none 0 0, .slice none 0 0, .slice none 0 0, .slice none 0 0, .slice none 0 0, .slice none 0 0, .slice none 0 0, .slice none 0 0] 41)).alloc (.cells #[.slice none 0 0, .slice none 0 0, .slice none 0 0, .slice none 0 0, .slice none 0 0, .slice none 0 0, .slice none 0 0, .slice none 0 0, .slice none 0 0, .slice none 0 0, .slice none 0 0, .slice none 0 0, .slice none 0 0, .slice none 0 0, .slice none 0 0, .slice none 0 0, .slice none 0 0, .slice none 0 0, .slice none 0 0, .slice none 0 0, .slice none 0 0, .slice none 0 0, .slice none 0 0, .slice none 0 0, .slice none 0 0, .slice none 0 0, .slice none 0 0, .slice none 0 0, .slice none 0 0, .slice none 0 0, .slice none 0 0, .slice none 0 0, .slice none 0 0, .slice none 0 0, .slice none 0 0, .slice none 0 0, .slice none 0 0, .slice none 0 0, .slice none 0 0, .slice none 0 0, .slice none 0 0, .slice none 0 0, .slice none 0 0, .slice none 0 0, .slice none 0 0, .slice none 0 0, .slice none 0 0, .slice none 0 0, .slice none 0 0, .slice none 0 0, .slice none 0 0, .slice none 0 0, .slice none 0 0, .slice none 0 0, .slice none 0 0, .slice none 0 0, .slice none 0 0, .slice none 0 0, .slice none 0 0, .slice none 0 0, .slice none 0 0, .slice none 0 0, .slice none 0 0, .slice none 0 0] 41)).setCells w7.heap.size 0 cs.toList).setCells (w7.heap.size + 1) 0 cs2.toList = W8 at HU HR HR2 HB HS2 ⊢
  generalize w7.heap.size = ga at HS2 ⊢
  generalize ga + 1 = gb at HS2 ⊢
  clear HTH HTH2 HI HI2 H1 H12
  go_loopw [7, 10] (fun v i wr => ∃ k : Nat, k ≤ 64 ∧ i = .int .i64 k ∧ Hid (wr.ownsRow W8.heap.size 3 1 v (wantB a b k).length (ints (wantB a b k))) ∧ Below W8.heap.size W8 wr) (fun _ i _ => 64 - (intOf i).toNat)
  case atStart => exact ⟨0, Nat.zero_le _, rfl, Lib.hid (World.ownsRow_nil _ _ _ _), Below.refl _ _⟩
  case round =>
    obtain ⟨k, hk, rfl, HV, hbel⟩ := hrel
    have hkl := wantB_len a b k
    by_cases hlt : k < 64
    · have HSK := HS2.out.below hbel
      have hca := HSK.ca k hlt; have hcb := HSK.cb k hlt
      have hra := HSK.ra k hlt; have hrb := HSK.rb k hlt
      obtain ⟨Aa, ca, hva⟩ := own_form hra
      obtain ⟨Ab, cb, hvb⟩ := own_form hrb
      rw [hva] at hca hra
      rw [hvb] at hcb hrb
      have HX := Lib.hid (fun W (h : Below wr.heap.size wr W) => sameTexts_any Aa (texBN a k) ca (shareL a k) Ab (texBN b k) cb (shareL b k) W ((Rd.of_own hra).below h) rfl (by have := texP_len (bktB k) a; have := HL.out.1; unfold texBN shareL maxLen; omega) ((Rd.of_own hrb).below h) rfl (by have := texP_len (bktB k) b; have := HL2.out.1; unfold texBN shareL maxLen; omega))
      have HYES := Lib.hid (wantB_yes (a := a) (b := b) (k := k)); have HNO := Lib.hid (wantB_no (a := a) (b := b) (k := k))
      generalize wantB a b k = u2 at HV HYES HNO hkl
      generalize shareL a k = sa at HX HYES HNO
      generalize shareL b k = sb at HX HYES HNO
      generalize texBN a k = na at hca HX
      generalize texBN b k = nb at hcb HX
      have HBL := Lib.hid hbel
      have HCA := Lib.hid hca; have HCB := Lib.hid hcb
      have hb : Below wr.heap.size wr wr.drew := (Below.refl _ _).drew
      have hca : wr.drew.cell? ⟨ga, k, none⟩ = some (.slice Aa na ca) := hca
      have hcb : wr.drew.cell? ⟨gb, k, none⟩ = some (.slice Ab nb cb) := hcb
      have hk64 : (k : Int) < 64 := by omega
      have hll : u2.length ≤ 64 := by omega
      clear HSK hra hrb hva hvb hbel hkl
      go_wp2_with fail
      refine wp_region_held_drew (S := (fun W => W.cell? ⟨ga, k, none⟩ = some (.slice Aa na ca) ∧ W.cell? ⟨gb, k, none⟩ = some (.slice Ab nb cb))) (by kernel_rfl) ⟨hca, hcb⟩ (fun hHeld => ?_)
      refine wpAnyH_take (i := 0) (oi := _) (v := ?vq1) rfl (by kernel_rfl) (by kernel_rfl) (by kernel_rfl) (fun _ _ _ h => h) (Or.inl ⟨by rfl, ?hq1⟩) (by assumption) ?rq1
      case hq1 => (intro w hSw; go_simp; try with_reducible rfl)
      try dsimp only [Act.put, List.getElem_toArray, List.getElem_cons_zero, List.getElem_cons_succ]; try simp only [List.setIfInBounds_toArray, List.set_cons_zero, List.set_cons_succ]
      refine wpAnyH_take (i := 1) (oi := _) (v := ?vq2) rfl (by kernel_rfl) (by kernel_rfl) (by kernel_rfl) (fun _ _ _ h => h) (Or.inl ⟨by rfl, ?hq2⟩) (by assumption) ?rq2
      case hq2 => (intro w hSw; go_simp; try with_reducible rfl)
      try dsimp only [Act.put, List.getElem_toArray, List.getElem_cons_zero, List.getElem_cons_succ]; try simp only [List.setIfInBounds_toArray, List.set_cons_zero, List.set_cons_succ]
      refine wpAnyH_take (i := 2) (oi := _) (v := ?vq3) rfl (by kernel_rfl) (by kernel_rfl) (by kernel_rfl) (fun _ _ _ h => h) (Or.inl ⟨by rfl, ?hq3⟩) (by assumption) ?rq3
      case hq3 => (intro w hSw; go_simp; try with_reducible rfl)
      try dsimp only [Act.put, List.getElem_toArray, List.getElem_cons_zero, List.getElem_cons_succ]; try simp only [List.setIfInBounds_toArray, List.set_cons_zero, List.set_cons_succ]
      refine wpAnyH_take (i := 3) (oi := _) (v := ?vq4) rfl (by kernel_rfl) (by kernel_rfl) (by kernel_rfl) (fun _ _ _ h => h) (Or.inl ⟨by rfl, ?hq4⟩) (by assumption) ?rq4
      case hq4 => (intro w hSw; go_simp; try with_reducible rfl)
      try dsimp only [Act.put, List.getElem_toArray, List.getElem_cons_zero, List.getElem_cons_succ]; try simp only [List.setIfInBounds_toArray, List.set_cons_zero, List.set_cons_succ]
      refine wpAnyH_take (i := 4) (oi := _) (v := ?vq5) rfl (by kernel_rfl) (by kernel_rfl) (by kernel_rfl) (fun _ _ _ h => h) (Or.inl ⟨by rfl, ?hq5⟩) (by assumption) ?rq5
      case hq5 => (intro w hSw; go_simp; try with_reducible rfl)
      try dsimp only [Act.put, List.getElem_toArray, List.getElem_cons_zero, List.getElem_cons_succ]; try simp only [List.setIfInBounds_toArray, List.set_cons_zero, List.set_cons_succ]
      refine wpAnyH_take (i := 5) (oi := _) (v := ?vq6) rfl (by kernel_rfl) (by kernel_rfl) (by kernel_rfl) (fun _ _ _ h => h) (Or.inl ⟨by rfl, ?hq6⟩) (by assumption) ?rq6
      case hq6 => (intro w hSw; go_simp; try with_reducible rfl)
      try dsimp only [Act.put, List.getElem_toArray, List.getElem_cons_zero, List.getElem_cons_succ]; try simp only [List.setIfInBounds_toArray, List.set_cons_zero, List.set_cons_succ]
      refine wpAnyH_ready (rs := [6]) (by kernel_rfl) (by simp) ?_
      refine AllReadyH.cons (o := _) rfl (fun K hK => ?_) ?_
      · rw [if_pos (by rfl)]
        go_simp
        refine (HX.out _ hb).mono ?_
        rintro e wx ⟨rfl, hbx⟩
        have hb := then_ hb hbx
        clear hbx
        generalize hq : decide (sa = sb) = q
        have HQ := Lib.hid hq
        clear hq
        go_wp2_with fail
        refine hK.out _ _ ⟨cell_below hb HCA.out, cell_below hb HCB.out⟩ (fun hHeld => ?_)
        clear hK K
        try dsimp only [Act.put, List.getElem_toArray, List.getElem_cons_zero, List.getElem_cons_succ]; try simp only [List.setIfInBounds_toArray, List.set_cons_zero, List.set_cons_succ]
        refine wpAnyH_take (i := 7) (oi := _) (v := ?vq7) rfl (by kernel_rfl) (by kernel_rfl) (by kernel_rfl) (fun _ _ _ h => h) (Or.inl ⟨by rfl, ?hq7⟩) (by assumption) ?rq7
        case hq7 => (intro w hSw; go_simp; try with_reducible rfl)
        try dsimp only [Act.put, List.getElem_toArray, List.getElem_cons_zero, List.getElem_cons_succ]; try simp only [List.setIfInBounds_toArray, List.set_cons_zero, List.set_cons_succ]
        refine wpAnyH_done (by kernel_rfl) ?_ _
        have HV1 := Lib.hid (own_below HV.out hb)
        have HB3 := Lib.hid (then_ HBL.out hb)
        have HZ3 := Lib.hid HB3.out.size
        cases q
        · have HY1 := Lib.hid (HYES.out (of_decide_eq_false HQ.out))
          go_wp2_with (at_builtin; refine wpList_app elInt (by rfl) (.tmp 44) (.tmp 46) (by rfl) W8.heap.size _ u2.length _ (by rfl) (HV1.out.alloc _) (some ⟨wx.heap.size, 0, none⟩) 1 1 [.int .i64 k] rfl rfl (Rd.new wx #[.int .i64 k] _) (by intro u hu; simp at hu; subst hu; rfl) (by unfold maxLen; omega) (by omega) (by have := HZ3.out; simp; omega) ?_; intro v1 w9 hown1 hbel1 _ _)
          go_roundw
          case rel => exact ⟨k + 1, by omega, by go_num, Lib.hid (by rw [HY1.out, List.length_append]; unfold ints at hown1 ⊢; rw [List.map_append]; exact hown1), (HB3.out.alloc HZ3.out _).trans hbel1⟩
          case measure => simp [intOf]; omega
        · have HN1 := Lib.hid (HNO.out (of_decide_eq_true HQ.out))
          go_wp2
          go_roundw
          case rel => exact ⟨k + 1, by omega, by go_num, Lib.hid (by rw [HN1.out]; exact HV1.out), HB3.out⟩
          case measure => simp [intOf]; omega
      exact AllReadyH.nil
    · have hkk : k = 64 := by omega
      have HV2 : Hid (wr.ownsRow W8.heap.size 3 1 _ (wantB a b 64).length (ints (wantB a b 64))) := Lib.hid (by rw [← hkk]; exact HV.out)
      have HPL2 : Hid (NoColl (textsF a) (textsF b) → p = wantB a b 64) := Lib.hid HPL.out
      have hwl := wantB_len a b 64
      generalize wantB a b 64 = u2 at HV2 HPL2 hwl
      obtain ⟨A9, c9, hv9⟩ := own_form HV2.out
      have hk1 : (64 : Int) ≤ (k : Int) := by omega
      have HU := Lib.hid (HU.out.below hbel); have HR := Lib.hid (HR.out.below hbel); have HR2 := Lib.hid (HR2.out.below hbel); have HB := Lib.hid (then_ HB.out hbel)
      have hc1 : (1 : Int) ≤ (cnt : Int) := by have := HPOS.out; omega
      have hc1n : 1 ≤ cnt := HPOS.out
      have hplb : pl ≤ 64 := HBIG.out.2
      have hcb : cnt ≤ 200 := by have := HBIG.out.1; omega
      have hc2 : (cnt : Int) ≤ 1 + 12 * (pl : Int) := by have := HFEW.out; omega
      have hc2n : cnt ≤ 1 + 12 * pl := by have := HFEW.out; omega
      subst hv9
      have HV3 := Lib.hid (Rd.of_own HV2.out)
      have HSI := Lib.hid (sameInts_any A5 pl c5 p A9 u2.length c9 u2 wr HU.out HPLN.out (by omega) HV3.out rfl (by omega))
      generalize u2.length = ul at HSI ⊢
      have HPP := Lib.hid hwl
      clear HV HV2 HV3 hkk hbel hlt hkl hwl HPOS HFEW HBIG
      obtain ⟨z, hz⟩ : ∃ z : Int, (pl : Int) = z := ⟨_, rfl⟩
      obtain ⟨y, hy⟩ : ∃ y : Int, (cnt : Int) = y := ⟨_, rfl⟩
      have hz0 : 0 ≤ z := by omega
      have hz64 : z ≤ 64 := by omega
      have hcz : y ≤ 1 + 12 * z := by omega
      have hy1 : 1 ≤ y := by omega
      have hy2 : y ≤ 200 := by omega
      clear hc2 hc2n hc1n hplb hc1 hcb
      go_wp2_with fail
      clear hz hy hz0 hz64 hcz hy1 hy2
      refine HSI.out.mono ?_
      rintro e w9 ⟨rfl, hb1⟩
      have HR := Lib.hid (HR.out.below hb1); have HR2 := Lib.hid (HR2.out.below hb1); have HB := Lib.hid (then_ HB.out hb1)
      clear hb1 HU HSI
      by_cases hpu : p = u2
      · rw [decide_eq_true hpu]
        clear hpu
        go_wp2_with fail
        refine (fin49 w w9 HB.out).mono ?_
        rintro e w10 ⟨rfl, hb2⟩
        go_wp2
        go_ret
        exact ⟨rfl, hb2⟩
      · rw [decide_eq_false hpu]
        have HPU := Lib.hid hpu
        clear hpu
        go_wp2_with fail
        refine (texts_any A n c a w9 HR.out HN.out hn HL.out.2).mono ?_
        rintro e x1 ⟨v1, rfl, hown, hb1⟩
        have HZA := Lib.hid (textsF_size a (by have := HN.out; omega) HL.out.2); have HZB := Lib.hid (textsF_size b (by have := HN2.out; omega) HL2.out.2)
        have HLA := Lib.hid (textsAt_len a (L := 7) (i := 0) (by decide) (by decide)); have HLB := Lib.hid (textsAt_len b (L := 7) (i := 0) (by decide) (by decide))
        rw [show textsAt a 7 0 = textsF a from rfl] at HLA
        rw [show textsAt b 7 0 = textsF b from rfl] at HLB
        have HTXB := Lib.hid (texts_any B m d b x1 (HR2.out.below hb1) HN2.out hm HL2.out.2)
        unfold MakesS at HTXB
        generalize textsF a = fa at hown HPL2 HZA HLA
        generalize textsF b = fb at HTXB HPL2 HZB HLB
        obtain ⟨P1, p1, rfl⟩ := own_form hown
        have HXA := Lib.hid (Rd.of_own hown)
        have HB := Lib.hid (then_ HB.out hb1)
        clear hb1 hown HR HR2
        go_wp2_with fail
        refine HTXB.out.mono ?_
        rintro e x2 ⟨v2, rfl, hown, hb1⟩
        obtain ⟨P2, p2, rfl⟩ := own_form hown
        have HXB := Lib.hid (Rd.of_own hown); have HXA := Lib.hid (HXA.out.below hb1)
        have HB := Lib.hid (then_ HB.out hb1)
        clear hb1 hown HTXB
        go_wp2_with fail
        refine (collide_any P1 fa.length p1 fa P2 fb.length p2 fb x2 HXA.out rfl (by have := HLA.out; omega) HZA.out HXB.out rfl (by have := HLB.out; omega) HZB.out).mono ?_
        rintro e x3 ⟨q, hq, rfl, hb1⟩
        have HB := Lib.hid (then_ HB.out hb1)
        have hqt : q = true := by
          cases q with
          | true => rfl
          | false => exact absurd (HPL2.out (hq rfl)) HPU.out
        subst hqt
        clear hb1 hq HXA HXB
        go_wp2_with fail
        refine (fin49 w x3 HB.out).mono ?_
        rintro e w10 ⟨rfl, hb2⟩
        go_wp2
        go_ret
        exact ⟨rfl, hb2⟩
end Go.Proofs.Ytgmafnpkhmlnnaa
