/- Who keeps by claim; the lists; their names: by the code and by the document. -/
import Derived.Test.YtpiinfjcjpdofaaPreD
import Derived.Deep.Cut
import Derived.Says
attribute [local go_sem ↓] Go.wp_at_zero Go.wp_at_succ
namespace Go.Proofs.Ytpiinfjcjpdofaa
open Go.RowKit Go.Mem Go.Cov
set_option linter.unusedVariables false
set_option linter.unusedSimpArgs false

set_option maxRecDepth 100000 in
set_option maxHeartbeats 1000000 in
theorem sameTexts_any (A : Option Addr) (n c : Nat) (ss : List ByteArray) (B : Option Addr) (m d : Nat) (ts : List ByteArray) (w : World) (hr : Rd w A (ss.map Value.string)) (hn : ss.length = n) (hn' : n ≤ maxLen) (hr' : Rd w B (ts.map Value.string)) (hm : ts.length = m) (hm' : m ≤ maxLen) :
    Calls Try.prog 34 #[.slice A n c, .slice B m d] w fun e w' => e = .returned (.bool (decide (ss = ts))) ∧ Below w.heap.size w w' := by
  unfold maxLen at hn' hm'
  by_cases hnm : n = m
  · subst hnm
    have hne : ((n : Int) != (n : Int)) = false := by simp
    have HN := Lib.hid hn; have HM := Lib.hid hm; clear hn hm
    go_enter Try.func34, Try.ntmps34
    go_wp2
    go_loopw [5] (fun i wr => ∃ k : Nat, k ≤ n ∧ i = .int .i64 k ∧ ss.take k = ts.take k ∧ Below w.heap.size w wr) (fun i _ => n - (intOf i).toNat)
    case atStart => exact ⟨0, Nat.zero_le _, rfl, rfl, Below.refl _ _⟩
    case round =>
      obtain ⟨k, hk, rfl, htk, hbel⟩ := hrel
      have HT := Lib.hid htk; clear htk
      by_cases hlt : k < n
      · have hx : k < ss.length := by have := HN.out; omega
        have hy : k < ts.length := by have := HM.out; omega
        obtain ⟨b, off, rfl, hcell⟩ := (hr.below hbel).at_ k (by simp; exact hx)
        obtain ⟨b', off', rfl, hcell'⟩ := (hr'.below hbel).at_ k (by simp; exact hy)
        simp only [List.getElem_map] at hcell hcell'
        have hts : ss.take (k + 1) = ss.take k ++ [ss[k]] := List.take_succ_eq_append_getElem hx
        have htt : ts.take (k + 1) = ts.take k ++ [ts[k]] := List.take_succ_eq_append_getElem hy
        have hdr : ss = ts → ss[k] = ts[k] := by rintro rfl; rfl
        generalize ss[k] = s at hcell hts hdr
        generalize ts[k] = t at hcell' htt hdr
        have HTS := Lib.hid hts; have HTT := Lib.hid htt; have HDR := Lib.hid hdr; clear hts htt hdr
        have hi0 : (0 : Int) ≤ (k : Int) := by omega
        have hi1 : (k : Int) < (n : Int) := by omega
        by_cases hst : s = t
        · subst hst
          have hee : (s.toList == s.toList) = true := by simp
          go_wp2
          go_quiet (fail)
          go_wp2
          go_roundw
          case rel => exact ⟨k + 1, by omega, by go_num, by rw [HTS.out, HTT.out, HT.out], drewN_ hbel _⟩
          case measure => simp [intOf]; omega
        · have hne' : (s.toList == t.toList) = false := by rw [str_beq]; simpa using hst
          have HST := Lib.hid hst; clear hst
          go_wp2
          go_quiet (fail)
          go_wp2
          go_ret
          exact ⟨ret_bool (by symm; rw [decide_eq_false_iff_not]; exact fun h => HST.out (HDR.out h)), drewN_ hbel _⟩
      · obtain rfl : k = n := by omega
        go_wp2
        go_ret
        refine ⟨ret_bool ?_, hbel⟩
        symm
        rw [decide_eq_true_eq]
        have := HT.out
        rwa [List.take_of_length_le (by rw [HN.out]; omega), List.take_of_length_le (by rw [HM.out]; omega)] at this
  · have hne : ((n : Int) != (m : Int)) = true := by rw [bne_iff_ne]; omega
    have HF : Hid (decide (ss = ts) = false) := by rw [Hid, decide_eq_false_iff_not]; rintro rfl; omega
    go_enter Try.func34, Try.ntmps34
    go_wp2
    go_ret
    exact ⟨ret_bool (by rw [HF.out]), Below.refl _ _⟩

theorem el_mbs : Elem Try.prog 23 34 4 56 := el_mb
set_option maxRecDepth 100000 in
set_option maxHeartbeats 4000000 in
theorem rUp_any (A : Option Addr) (n c : Nat) (ms : List Mb) (w : World) (hr : Rd w A (ms.flatMap Mb.cells)) (hn : ms.length = n) (hm : n ≤ 100000) :
    Calls Try.prog 41 #[.slice A n c] w (Makes 34 4 (upM ms).length ((upM ms).flatMap Mb.cells) w) := by
  have HN := Lib.hid hn; have HR := Lib.hid hr
  clear hn hr
  go_enter Try.func41, Try.ntmps41
  go_wp2_with fail
  go_loopw [3, 4] (fun v i wr => ∃ k : Nat, k ≤ n ∧ i = .int .i64 k ∧ Hid (wr.ownsRow w.heap.size 34 4 v (upM (ms.take k)).length ((upM (ms.take k)).flatMap Mb.cells)) ∧ Hid (Below w.heap.size w wr)) (fun _ i _ => n - (intOf i).toNat)
  case atStart => exact ⟨0, Nat.zero_le _, rfl, Lib.hid (World.ownsRow_nil _ _ _ _), Lib.hid (Below.refl _ _)⟩
  case round =>
    obtain ⟨k, hk, rfl, HO, HB⟩ := hrel
    by_cases hlt : k < n
    · have hx : k < ms.length := by have := HN.out; omega
      obtain ⟨b, off, rfl, hc0, hc1, hc2, hc3⟩ := mb_row (HR.out.below HB.out) k hx
      have HT := Lib.hid (show upM (ms.take (k + 1)) = upM (ms.take k) ++ upM [ms[k]] by rw [List.take_succ_eq_append_getElem hx]; unfold upM; rw [List.filter_append])
      have hll := Nat.le_trans (upM_len (ms.take k)) (List.length_take_le k ms)
      generalize ms[k] = x at hc0 hc1 hc2 hc3 HT
      obtain ⟨nm, rk, zn, up⟩ := x
      simp only at hc0 hc1 hc2 hc3
      generalize upM (ms.take k) = U at HO HT hll
      have hkn : (k : Int) < (n : Int) := by omega
      have hk0 : (0 : Int) ≤ (k : Int) := by omega
      have HZ := Lib.hid HB.out.size
      have hll2 : U.length ≤ 100000 := by have := HN.out; omega
      clear hlt hx hll
      cases up with
      | false =>
        have HT2 := Lib.hid (HT.out.trans (by unfold upM; simp : _ = U))
        go_wp2_with fail
        exact ⟨⟨k + 1, by omega, by go_num, Lib.hid (by rw [HT2.out]; exact HO.out), HB⟩, by simp [intOf]; omega⟩
      | true =>
        have HT2 := Lib.hid (HT.out.trans (by unfold upM; simp : _ = U ++ [⟨nm, rk, zn, true⟩]))
        go_wp2_with (at_builtin; (refine wpList_app el_mb (by rfl) (.tmp 16) (.tmp 21) (by rfl) w.heap.size _ U.length _ (by rfl) (HO.out.alloc _) (some ⟨wr.heap.size, 0, none⟩) 1 1 [.string nm, .string rk, .string zn, .bool true] (by rfl) rfl (Rd.new wr #[.string nm, .string rk, .string zn, .bool true] _) (by intro u hu; simp at hu; rcases hu with rfl | rfl | rfl | rfl <;> rfl) (by unfold maxLen; omega) (by omega) (by have := HZ.out; simp; omega) ?_; intro v6 w6 hown6 hbel6 _ _))
        exact ⟨⟨k + 1, by omega, by go_num, Lib.hid (by rw [HT2.out, List.length_append, List.flatMap_append]; exact hown6), Lib.hid ((HB.out.alloc HZ.out _).trans hbel6)⟩, by simp [intOf]; omega⟩
    · have hkn : (n : Int) ≤ (k : Int) := by omega
      have hfull : ms.take k = ms := List.take_of_length_le (by have := HN.out; omega)
      rw [hfull] at HO
      go_wp2
      go_ret
      exact ⟨_, rfl, HO.out, HB.out⟩
def mayB (q : Int) : Bool := decide (1 ≤ q) && decide (q ≤ 16)
theorem may_any (q : Int) (w : World) : Calls Try.prog 54 #[.int .i64 q] w fun e w' => e = .returned (.bool (mayB q)) ∧ w = w' := by
  unfold mayB
  go_enter Try.func54, Try.ntmps54
  by_cases h1 : 1 ≤ q
  · by_cases h2 : q ≤ 16
    · go_wp2
      go_ret
      exact ⟨ret_bool (by simp [h1, h2]), rfl⟩
    · have h2' : 16 < q := by omega
      go_wp2
      go_ret
      exact ⟨ret_bool (by simp [h1, h2]), rfl⟩
  · have h1' : q < 1 := by omega
    go_wp2
    go_ret
    exact ⟨ret_bool (by simp; omega), rfl⟩
/-- who keeps by claim -/
def claimedF (ss : List ByteArray) (ms : List Mb) (part q : Int) : List ByteArray := if mayB q then chN ss ms part q else []
theorem may_true {q : Int} (h : mayB q = true) : 1 ≤ q ∧ q ≤ 16 := by unfold mayB at h; simp at h; exact h
theorem may_false {q : Int} (h : mayB q = false) : q < 1 ∨ 16 < q := by unfold mayB at h; simp at h; omega
theorem claimed_any (A : Option Addr) (n c : Nat) (ss : List ByteArray) (B : Option Addr) (m d : Nat) (ms : List Mb) (part many : Int) (w : World) (hr : Rd w A (ss.map Value.string)) (hn : ss.length = n) (hn' : n ≤ 1000) (hr' : Rd w B (ms.flatMap Mb.cells)) (hm : ms.length = m) (hm' : m ≤ 1000) (hp : (Lit.int .i64 part).wf = true)
    (hss : ∀ s ∈ ss, s.size ≤ maxLen) (hms : okM ms) :
    Calls Try.prog 35 #[.slice A n c, .slice B m d, .int .i64 part, .int .i64 many] w (Makes 9 1 (claimedF ss ms part many).length ((claimedF ss ms part many).map Value.string) w) := by
  have HX := Lib.hid (prefChoose_any A n c ss B m d ms part many w hr hn hn' hr' hm hm' hp hss hms)
  have HM := Lib.hid (may_any many w)
  unfold claimedF
  clear hr hn hr' hm hss hms
  cases hq : mayB many with
  | false =>
    rw [hq] at HM
    clear hq
    simp only [Bool.false_eq_true, ↓reduceIte]
    go_enter Try.func35, Try.ntmps35
    go_wp2_with fail
    refine HM.out.mono ?_
    rintro e w1 ⟨rfl, rfl⟩
    go_wp2_with fail
    go_ret
    exact ⟨_, rfl, World.ownsRow_nil _ _ _ _, Below.refl _ _⟩
  | true =>
    rw [hq] at HM
    clear hq
    simp only [↓reduceIte]
    go_enter Try.func35, Try.ntmps35
    go_wp2_with fail
    refine HM.out.mono ?_
    rintro e w1 ⟨rfl, rfl⟩
    go_wp2_with fail
    refine HX.out.mono ?_
    rintro e w2 ⟨v, rfl, hown, hb⟩
    go_wp2_with fail
    go_ret
    exact ⟨v, rfl, hown, hb⟩
theorem rClaimed_any (A : Option Addr) (n c : Nat) (ss : List ByteArray) (B : Option Addr) (m d : Nat) (ms : List Mb) (part many : Int) (w : World) (hr : Rd w A (ss.map Value.string)) (hn : ss.length = n) (hn' : n ≤ 1000) (hr' : Rd w B (ms.flatMap Mb.cells)) (hm : ms.length = m) (hm' : m ≤ 16) (hp : (Lit.int .i64 part).wf = true) :
    Calls Try.prog 36 #[.slice A n c, .slice B m d, .int .i64 part, .int .i64 many] w (Makes 9 1 (claimedF ss ms part many).length ((claimedF ss ms part many).map Value.string) w) := by
  have HX := Lib.hid (rChosen_any A n c ss B m d ms part many w hr hn hn' hr' hm hm' hp)
  unfold claimedF
  clear hr hn hr' hm
  go_enter Try.func36, Try.ntmps36
  cases hq : mayB many with
  | false =>
    have HQ := Lib.hid hq
    by_cases h1 : many < 1
    · clear hq
      go_wp2_with fail
      go_ret
      exact ⟨_, rfl, World.ownsRow_nil _ _ _ _, Below.refl _ _⟩
    · have h1' : 1 ≤ many := by omega
      have h2 : 16 < many := by have := may_false hq; omega
      clear hq h1
      go_wp2_with fail
      go_ret
      exact ⟨_, rfl, World.ownsRow_nil _ _ _ _, Below.refl _ _⟩
  | true =>
    obtain ⟨h1, h2⟩ := may_true hq
    clear hq
    go_wp2_with fail
    refine HX.out.mono ?_
    rintro e w2 ⟨v, rfl, hown, hb⟩
    go_wp2_with fail
    go_ret
    exact ⟨v, rfl, hown, hb⟩
/-- a list -/
def choF (cl names : List ByteArray) : List Cho := names.map fun s => ⟨s, mem s cl⟩
def listF (ss : List ByteArray) (ms : List Mb) (part q : Int) : List Cho := if mayB q then choF (claimedF ss ms part q) (chN ss (upM ms) part q) else []
def choc (l : List Cho) : List Value := l.flatMap fun m : Cho => m.arr.toList
theorem choc_snoc (l : List Cho) (x : Cho) : choc (l ++ [x]) = choc l ++ [.string x.node, .bool x.primary] := by unfold choc; rw [List.flatMap_append]; rfl
theorem choF_snoc (cl names : List ByteArray) (s : ByteArray) : choF cl (names ++ [s]) = choF cl names ++ [⟨s, mem s cl⟩] := by unfold choF; rw [List.map_append]; rfl
theorem chN_len (ss : List ByteArray) (ms : List Mb) (part q : Int) : (chN ss ms part q).length ≤ 100000 ∨ True := .inr trivial
theorem pk_le (l : List Pair) (many : Int) : (pkL l many).length ≤ l.length := by
  unfold pkL
  split
  · rename_i h
    obtain ⟨m, rfl⟩ : ∃ m : Nat, many = m := ⟨many.toNat, by omega⟩
    rw [show ((m : Int)).toNat = m from rfl]
    cases hf : firstC l m (bestF l (ch l.length m)).1 (bestF l (ch l.length m)).2 [] [] with
    | none => simp
    | some c =>
      have := List.mem_of_find?_eq_some hf
      have := (ch_props l m c this).2.2.1
      simp only [Option.getD_some]; omega
  · simp
theorem chN_le (ss : List ByteArray) (ms : List Mb) (part q : Int) : (chN ss ms part q).length ≤ ms.length := by
  unfold chN
  refine Nat.le_trans (nmA_le _ _ _) (Nat.le_trans (pk_le _ _) ?_)
  rw [Pref.pairsOf_len]
  refine Nat.le_trans (rz_le _ _) ?_
  rw [(WalkL.order_perm _ _ _ _).2.2]; simp [names]
theorem claimedF_le (ss : List ByteArray) (ms : List Mb) (part q : Int) : (claimedF ss ms part q).length ≤ ms.length := by
  unfold claimedF; split
  · exact chN_le _ _ _ _
  · simp
end Go.Proofs.Ytpiinfjcjpdofaa
