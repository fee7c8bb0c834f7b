/- The package move and its reference: what each function returns, for every argument. -/
import Derived.Test.YtebfmacbdjnhbaaTexts
import Derived.RegionTactic
import Derived.BigRegion
import Derived.BigQuiet
import Derived.Deep.QuietTactic
import Derived.StillTailTactics
import Derived.Deep.RegionLaw
namespace Go.Proofs.Ytebfmacbdjnhbaa
open Go.RowKit Go.Mem
set_option linter.unusedVariables false

/-- a move -/
structure Mv where
  part : Int
  was : ByteArray
  now : ByteArray
def Mv.cells (m : Mv) : List Value := [.int .i64 m.part, .string m.was, .string m.now]
theorem el_move : Elem Try.prog 43 55 3 40 := Elem.of (z := .agg #[.int .i64 0, .string ByteArray.empty, .string ByteArray.empty]) Try.underlying43 (by kernel_rfl) rfl (by decide)
theorem mv_len (m : Mv) : m.cells.length = 3 := rfl

/-- what must be moved at the first 'k' places -/
def planTo (was now : List ByteArray) (k : Nat) : List Mv :=
  (List.range k).filterMap fun (i : Nat) => match was[i]?, now[i]? with | some a, some b => if a = b then none else some ⟨(i : Int), a, b⟩ | _, _ => none
theorem planTo_succ (was now : List ByteArray) (k : Nat) (h1 : k < was.length) (h2 : k < now.length) : planTo was now (k + 1) = planTo was now k ++ (if was[k] = now[k] then [] else [⟨k, was[k], now[k]⟩]) := by
  unfold planTo
  rw [List.range_succ, List.filterMap_append]
  congr 1
  by_cases h : was[k] = now[k] <;> simp [h1, h2, h]
theorem planTo_le (was now : List ByteArray) (k : Nat) : (planTo was now k).length ≤ k := by
  unfold planTo
  exact Nat.le_trans (List.length_filterMap_le _ _) (by simp)

set_option maxRecDepth 100000 in
set_option maxHeartbeats 400000 in
theorem plan_any (A : Option Addr) (n c : Nat) (ss : List ByteArray) (B : Option Addr) (m d : Nat) (ts : List ByteArray) (w : World) (hr : Rd w A (ss.map Value.string)) (hn : ss.length = n) (hm : n ≤ 1000000)
    (hr' : Rd w B (ts.map Value.string)) (hn' : ts.length = m) (hm' : m ≤ 1000000) :
    Calls Try.prog 31 #[.slice A n c, .slice B m d] w (Makes 55 3 (planTo ss ts (min n m)).length ((planTo ss ts (min n m)).flatMap Mv.cells) w) := by
  have HN := Lib.hid hn; have HN' := Lib.hid hn'; clear hn hn'
  rcases Nat.lt_or_ge m n with hnm | hnm
  all_goals
    go_enter Try.func31, Try.ntmps31
    go_wp2
    go_loopw [5, 12] (fun v i wr => ∃ k : Nat, k ≤ min n m ∧ i = .int .i64 k ∧ wr.ownsRow w.heap.size 55 3 v (planTo ss ts k).length ((planTo ss ts k).flatMap Mv.cells) ∧ Below w.heap.size w wr) (fun _ i _ => min n m - (intOf i).toNat)
    case atStart => exact ⟨0, Nat.zero_le _, rfl, World.ownsRow_nil _ _ _ _, Below.refl _ _⟩
    case round =>
      obtain ⟨k, hk, rfl, hown, hbel⟩ := hrel
      by_cases hlt : k < min n m
      · have hk1 : k < n := by omega
        have hk2 : k < m := by omega
        have hx : k < ss.length := by have := HN.out; omega
        have hx' : k < ts.length := by have := HN'.out; omega
        obtain ⟨b, off, rfl, hcell⟩ := (hr.below hbel).at_ k (by simp; exact hx)
        obtain ⟨b', off', rfl, hcell'⟩ := (hr'.below hbel).at_ k (by simp; exact hx')
        simp only [List.getElem_map] at hcell hcell'
        have hsucc := planTo_succ ss ts k hx hx'
        have hple := planTo_le ss ts k
        generalize hs : ss[k] = s at hcell hsucc
        generalize ht : ts[k] = t at hcell' hsucc
        have HS := Lib.hid hsucc; clear hsucc hs ht
        have HO := Lib.hid hown; clear hown
        have hi0 : (0 : Int) ≤ (k : Int) := by omega
        by_cases hst : s = t
        · subst hst
          go_wp2
          go_quiet (fail)
          go_wp2
          go_roundw
          case rel => exact ⟨k + 1, by omega, by go_num, by rw [HS.out, if_pos trivial, List.append_nil]; exact HO.out, drewN_ hbel _⟩
          case measure => simp [intOf]; omega
        · have hne : (s.toList == t.toList) = false := by rw [str_beq]; simpa using hst
          go_wp2
          go_quiet (fail)
          obtain ⟨wq, hwq⟩ : ∃ wq, wq = wr.drewN nq := ⟨_, rfl⟩
          have hO1 : Hid (wq.ownsRow w.heap.size 55 3 u5 (planTo ss ts k).length ((planTo ss ts k).flatMap Mv.cells)) := by rw [hwq]; exact HO.out
          have hcell1 : wq.cell? ⟨b, off + k, none⟩ = some (.string s) := by rw [hwq]; exact hcell
          have hcell1' : wq.cell? ⟨b', off' + k, none⟩ = some (.string t) := by rw [hwq]; exact hcell'
          have hbel1 : Below w.heap.size w wq := by rw [hwq]; exact drewN_ hbel _
          rw [← hwq]
          clear hwq hcell hcell' HO hbel hne
          go_wp2
          go_region_law ((refine step_app el_move rfl (.tmp 24) (.tmp 35) rfl w.heap.size u5 (planTo ss ts k).length ((planTo ss ts k).flatMap Mv.cells) (by simp [Act.eval]) (hO1.out.alloc _) (some ⟨wq.heap.size, 0, none⟩) 1 1 (Mv.cells ⟨k, s, t⟩) (by simp [Act.eval]) rfl (Rd.new wq _ _) (by intro u hu; simp [Mv.cells] at hu; rcases hu with rfl | rfl | rfl <;> rfl) (by unfold maxLen; omega) (by omega) (by have := hbel1.size; simp; omega) ?_; intro v1 w1 hown1 hbel3 _ _))
          all_goals
            go_wp2
            go_roundw
            case rel =>
              refine ⟨k + 1, by omega, by go_num, ?_, (hbel1.alloc hbel1.size _).drew.trans hbel3⟩
              rw [HS.out, if_neg hst]
              simpa using hown1
            case measure => simp [intOf]; omega
      · have hke : k = min n m := by omega
        have HK := Lib.hid hke; clear hke
        go_wp2
        go_ret
        rw [← HK.out]
        exact ⟨_, rfl, hown, hbel⟩

/-- what is gained, and what rests -/
def gainsL (was now : List ByteArray) : List ByteArray := now.filter fun s => !mem s was
def restsL (was now : List ByteArray) : List ByteArray := now.filter fun s => mem s was

theorem enter_gains (args : Array Value) (W : World) : Sem.run Try.prog (callFunc 77 args) W = .ok (.enter 77 args) W := by kernel_rfl
theorem enter_rests (args : Array Value) (W : World) : Sem.run Try.prog (callFunc 80 args) W = .ok (.enter 80 args) W := by kernel_rfl

theorem gains1_any (A : Option Addr) (n c : Nat) (ss : List ByteArray) (s : ByteArray) (g : Nat) (w : World) (hc : w.cell? ⟨g, 0, none⟩ = some (.slice A n c)) (hr : Rd w A (ss.map Value.string)) (hn : ss.length = n) (hm : n ≤ maxLen) :
    Calls Try.prog 77 #[.string s, .pointer (some ⟨g, 0, none⟩)] w fun e w' => e = .returned (.bool (mem s ss)) ∧ w = w' := by
  have HN := Lib.hid hn; clear hn
  go_enter Try.func77, Try.ntmps77
  go_wp2_with fail
  refine (contains_any A n c ss s _ hr HN.out hm).mono ?_
  rintro e w' ⟨rfl, rfl⟩
  go_wp2
  go_ret
  exact ⟨rfl, rfl⟩
theorem rests1_any (A : Option Addr) (n c : Nat) (ss : List ByteArray) (s : ByteArray) (g : Nat) (w : World) (hc : w.cell? ⟨g, 0, none⟩ = some (.slice A n c)) (hr : Rd w A (ss.map Value.string)) (hn : ss.length = n) (hm : n ≤ maxLen) :
    Calls Try.prog 80 #[.string s, .pointer (some ⟨g, 0, none⟩)] w fun e w' => e = .returned (.bool (!mem s ss)) ∧ w = w' := by
  have HN := Lib.hid hn; clear hn
  go_enter Try.func80, Try.ntmps80
  go_wp2_with fail
  refine (contains_any A n c ss s _ hr HN.out hm).mono ?_
  rintro e w' ⟨rfl, rfl⟩
  go_wp2
  go_ret
  exact ⟨rfl, rfl⟩

set_option maxRecDepth 100000 in
set_option maxHeartbeats 400000 in
theorem gains_any (A : Option Addr) (n c : Nat) (ss : List ByteArray) (B : Option Addr) (m d : Nat) (ts : List ByteArray) (w : World) (hr : Rd w A (ss.map Value.string)) (hn : ss.length = n) (hm : n ≤ 1000000)
    (hr' : Rd w B (ts.map Value.string)) (hn' : ts.length = m) (hm' : m ≤ 1000000) :
    Calls Try.prog 34 #[.slice A n c, .slice B m d] w (Makes 9 1 (gainsL ss ts).length ((gainsL ss ts).map Value.string) w) := by
  have HN := Lib.hid hn; have HN' := Lib.hid hn'; clear hn hn'
  go_enter Try.func34, Try.ntmps34
  go_wp2_with fail
  refine (clone_any B m d ts _ (hr'.alloc _) HN'.out hm').mono ?_
  rintro e w1 ⟨v, rfl, hown, hbel⟩
  have hcell : w1.cell? ⟨w.heap.size, 0, none⟩ = some (.slice A n c) := cell_below hbel (by simp)
  have hbw : Below w.heap.size w w1 := ((Below.refl _ _).alloc (Nat.le_refl _) _).trans (hbel.mono (by simp))
  have hask : Asks Try.prog (w.heap.size + 1) w1 77 #[.pointer (some ⟨w.heap.size, 0, none⟩)] (fun s => mem s ss) ts :=
    ⟨enter_gains, fun W s hb hs => (gains1_any A n c ss s w.heap.size W (by rw [hb.cell (by simp)]; exact hcell) (hr.below (hbw.trans (hb.mono (by omega)))) HN.out (by unfold maxLen; omega)).mono (fun e w' h => ⟨h.1, h.2 ▸ Below.refl _ _⟩)⟩
  go_wp2_with fail
  refine (deleteFunc_any (w.heap.size + 1) v m ts 77 #[.pointer (some ⟨w.heap.size, 0, none⟩)] (fun s => mem s ss) w1 (by have := hbel.size; simpa using this) (by simpa using hown) hm' hask).mono ?_
  rintro e w2 ⟨hb2, v2, rfl, hown2⟩
  go_wp2
  go_ret
  exact ⟨v2, rfl, own_mono hown2 (by omega), hbw.trans (hb2.mono (by omega))⟩

set_option maxRecDepth 100000 in
set_option maxHeartbeats 400000 in
theorem rests_any (A : Option Addr) (n c : Nat) (ss : List ByteArray) (B : Option Addr) (m d : Nat) (ts : List ByteArray) (w : World) (hr : Rd w A (ss.map Value.string)) (hn : ss.length = n) (hm : n ≤ 1000000)
    (hr' : Rd w B (ts.map Value.string)) (hn' : ts.length = m) (hm' : m ≤ 1000000) :
    Calls Try.prog 36 #[.slice A n c, .slice B m d] w (Makes 9 1 (restsL ss ts).length ((restsL ss ts).map Value.string) w) := by
  have HN := Lib.hid hn; have HN' := Lib.hid hn'; clear hn hn'
  go_enter Try.func36, Try.ntmps36
  go_wp2_with fail
  refine (clone_any B m d ts _ (hr'.alloc _) HN'.out hm').mono ?_
  rintro e w1 ⟨v, rfl, hown, hbel⟩
  have hcell : w1.cell? ⟨w.heap.size, 0, none⟩ = some (.slice A n c) := cell_below hbel (by simp)
  have hbw : Below w.heap.size w w1 := ((Below.refl _ _).alloc (Nat.le_refl _) _).trans (hbel.mono (by simp))
  have hask : Asks Try.prog (w.heap.size + 1) w1 80 #[.pointer (some ⟨w.heap.size, 0, none⟩)] (fun s => !mem s ss) ts :=
    ⟨enter_rests, fun W s hb hs => (rests1_any A n c ss s w.heap.size W (by rw [hb.cell (by simp)]; exact hcell) (hr.below (hbw.trans (hb.mono (by omega)))) HN.out (by unfold maxLen; omega)).mono (fun e w' h => ⟨h.1, h.2 ▸ Below.refl _ _⟩)⟩
  go_wp2_with fail
  refine (deleteFunc_any (w.heap.size + 1) v m ts 80 #[.pointer (some ⟨w.heap.size, 0, none⟩)] (fun s => !mem s ss) w1 (by have := hbel.size; simpa using this) (by simpa using hown) hm' hask).mono ?_
  rintro e w2 ⟨hb2, v2, rfl, hown2⟩
  go_wp2
  go_ret
  simp only [Bool.not_not] at hown2
  exact ⟨v2, rfl, own_mono hown2 (by omega), hbw.trans (hb2.mono (by omega))⟩

end Go.Proofs.Ytebfmacbdjnhbaa
