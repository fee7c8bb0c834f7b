/- The references of the package move: what each returns, for every argument. -/
import Derived.Test.YtebfmacbdjnhbaaMoveB
namespace Go.Proofs.Ytebfmacbdjnhbaa
open Go.RowKit Go.Mem
set_option linter.unusedVariables false

set_option maxRecDepth 100000 in
set_option maxHeartbeats 1000000 in
theorem rgains_any (A : Option Addr) (n c : Nat) (ss : List ByteArray) (B : Option Addr) (m d : Nat) (ts : List ByteArray) (w : World) (hr : Rd w A (ss.map Value.string)) (hn : ss.length = n) (hm : n ≤ 1000000)
    (hr' : Rd w B (ts.map Value.string)) (hn' : ts.length = m) (hm' : m ≤ 1000000) :
    Calls Try.prog 35 #[.slice A n c, .slice B m d] w (Makes 9 1 (gainsL ss ts).length ((gainsL ss ts).map Value.string) w) := by
  have HN := Lib.hid hn; have HN' := Lib.hid hn'; clear hn hn'
  go_enter Try.func35, Try.ntmps35
  go_wp2
  go_loopw [5, 6] (fun v i wr => ∃ k : Nat, k ≤ m ∧ i = .int .i64 k ∧ wr.ownsRow w.heap.size 9 1 v (gainsL ss (ts.take k)).length ((gainsL ss (ts.take k)).map Value.string) ∧ Below w.heap.size w wr) (fun _ i _ => m - (intOf i).toNat)
  case atStart => exact ⟨0, Nat.zero_le _, rfl, World.ownsRow_nil _ _ _ _, Below.refl _ _⟩
  case round =>
    obtain ⟨k, hk, rfl, hown, hbel⟩ := hrel
    by_cases hlt : k < m
    · have hx' : k < ts.length := by have := HN'.out; omega
      obtain ⟨b', off', rfl, hcell'⟩ := (hr'.below hbel).at_ k (by simp; exact hx')
      simp only [List.getElem_map] at hcell'
      have hle : (gainsL ss (ts.take k)).length ≤ k := Nat.le_trans (List.length_filter_le _ _) (by simp; omega)
      have hs1 : gainsL ss (ts.take (k + 1)) = gainsL ss (ts.take k) ++ (if !mem ts[k] ss then [ts[k]] else []) := by
        unfold gainsL
        rw [List.take_succ_eq_append_getElem hx', List.filter_append]
        congr 1
        by_cases h : mem ts[k] ss <;> simp [h]
      generalize ht : ts[k] = t at hcell' hs1
      have HS := Lib.hid hs1; have HO := Lib.hid hown; clear hs1 hown ht
      have hrw := hr.below hbel
      generalize hL : gainsL ss (ts.take k) = cur at HO HS hle
      clear hL
      go_wp2_with fail
      refine (in20_any A n c ss t _ hrw HN.out (by unfold maxLen; omega)).mono ?_
      rintro e w' ⟨rfl, rfl⟩
      clear hrw
      generalize hp : mem t ss = p at HS
      have HP := Lib.hid hp; clear hp
      cases p
      · go_wp2_with (at_builtin; refine wpList_app el_string rfl (.tmp 20) (.tmp 25) rfl w.heap.size _ _ _ rfl (HO.out.alloc _) (some ⟨wr.heap.size, 0, none⟩) 1 1 [.string t] rfl rfl (Rd.new wr #[.string t] _) (by intro u hu; simp at hu; subst hu; rfl) (by unfold maxLen; omega) (by omega) (by have := hbel.size; simp; omega) ?_; intro v1 w1 hown1 hbel1 _ _)
        go_roundw
        case rel => exact ⟨k + 1, by omega, by go_num, by rw [HS.out]; simpa using hown1, (hbel.alloc hbel.size _).trans hbel1⟩
        case measure => simp [intOf]; omega
      · go_wp2
        go_roundw
        case rel => exact ⟨k + 1, by omega, by go_num, by rw [HS.out]; simpa using HO.out, hbel⟩
        case measure => simp [intOf]; omega
    · obtain rfl : k = m := by omega
      go_wp2
      go_ret
      rw [List.take_of_length_le (by rw [HN'.out]; omega)] at hown
      exact ⟨_, rfl, hown, hbel⟩

set_option maxRecDepth 100000 in
set_option maxHeartbeats 1000000 in
theorem rrests_any (A : Option Addr) (n c : Nat) (ss : List ByteArray) (B : Option Addr) (m d : Nat) (ts : List ByteArray) (w : World) (hr : Rd w A (ss.map Value.string)) (hn : ss.length = n) (hm : n ≤ 1000000)
    (hr' : Rd w B (ts.map Value.string)) (hn' : ts.length = m) (hm' : m ≤ 1000000) :
    Calls Try.prog 37 #[.slice A n c, .slice B m d] w (Makes 9 1 (restsL ss ts).length ((restsL ss ts).map Value.string) w) := by
  have HN := Lib.hid hn; have HN' := Lib.hid hn'; clear hn hn'
  go_enter Try.func37, Try.ntmps37
  go_wp2
  go_loopw [5, 6] (fun v i wr => ∃ k : Nat, k ≤ m ∧ i = .int .i64 k ∧ wr.ownsRow w.heap.size 9 1 v (restsL ss (ts.take k)).length ((restsL ss (ts.take k)).map Value.string) ∧ Below w.heap.size w wr) (fun _ i _ => m - (intOf i).toNat)
  case atStart => exact ⟨0, Nat.zero_le _, rfl, World.ownsRow_nil _ _ _ _, Below.refl _ _⟩
  case round =>
    obtain ⟨k, hk, rfl, hown, hbel⟩ := hrel
    by_cases hlt : k < m
    · have hx' : k < ts.length := by have := HN'.out; omega
      obtain ⟨b', off', rfl, hcell'⟩ := (hr'.below hbel).at_ k (by simp; exact hx')
      simp only [List.getElem_map] at hcell'
      have hle : (restsL ss (ts.take k)).length ≤ k := Nat.le_trans (List.length_filter_le _ _) (by simp; omega)
      have hs1 : restsL ss (ts.take (k + 1)) = restsL ss (ts.take k) ++ (if mem ts[k] ss then [ts[k]] else []) := by
        unfold restsL
        rw [List.take_succ_eq_append_getElem hx', List.filter_append]
        congr 1
        by_cases h : mem ts[k] ss <;> simp [h]
      generalize ht : ts[k] = t at hcell' hs1
      have HS := Lib.hid hs1; have HO := Lib.hid hown; clear hs1 hown ht
      have hrw := hr.below hbel
      generalize hL : restsL ss (ts.take k) = cur at HO HS hle
      clear hL
      go_wp2_with fail
      refine (in20_any A n c ss t _ hrw HN.out (by unfold maxLen; omega)).mono ?_
      rintro e w' ⟨rfl, rfl⟩
      clear hrw
      generalize hp : mem t ss = p at HS
      have HP := Lib.hid hp; clear hp
      cases p
      · go_wp2
        go_roundw
        case rel => exact ⟨k + 1, by omega, by go_num, by rw [HS.out]; simpa using HO.out, hbel⟩
        case measure => simp [intOf]; omega
      · go_wp2_with (at_builtin; refine wpList_app el_string rfl (.tmp 19) (.tmp 24) rfl w.heap.size _ _ _ rfl (HO.out.alloc _) (some ⟨wr.heap.size, 0, none⟩) 1 1 [.string t] rfl rfl (Rd.new wr #[.string t] _) (by intro u hu; simp at hu; subst hu; rfl) (by unfold maxLen; omega) (by omega) (by have := hbel.size; simp; omega) ?_; intro v1 w1 hown1 hbel1 _ _)
        go_roundw
        case rel => exact ⟨k + 1, by omega, by go_num, by rw [HS.out]; simpa using hown1, (hbel.alloc hbel.size _).trans hbel1⟩
        case measure => simp [intOf]; omega
    · obtain rfl : k = m := by omega
      go_wp2
      go_ret
      rw [List.take_of_length_le (by rw [HN'.out]; omega)] at hown
      exact ⟨_, rfl, hown, hbel⟩
set_option maxRecDepth 100000 in
set_option maxHeartbeats 400000 in
theorem rplan_any (A : Option Addr) (n c : Nat) (ss : List ByteArray) (B : Option Addr) (m d : Nat) (ts : List ByteArray) (w : World) (hr : Rd w A (ss.map Value.string)) (hn : ss.length = n) (hm : n ≤ 1000000)
    (hr' : Rd w B (ts.map Value.string)) (hn' : ts.length = m) (hm' : m ≤ 1000000) :
    Calls Try.prog 32 #[.slice A n c, .slice B m d] w (Makes 55 3 (planTo ss ts (min n m)).length ((planTo ss ts (min n m)).flatMap Mv.cells) w) := by
  have HN := Lib.hid hn; have HN' := Lib.hid hn'; clear hn hn'
  · skip
    go_enter Try.func32, Try.ntmps32
    go_wp2
    go_loopw [5, 6] (fun v i wr => ∃ k : Nat, k ≤ min n m ∧ i = .int .i64 k ∧ wr.ownsRow w.heap.size 55 3 v (planTo ss ts k).length ((planTo ss ts k).flatMap Mv.cells) ∧ Below w.heap.size w wr) (fun _ i _ => min n m - (intOf i).toNat)
    case atStart => exact ⟨0, Nat.zero_le _, rfl, World.ownsRow_nil _ _ _ _, Below.refl _ _⟩
    case round =>
      obtain ⟨k, hk, rfl, hown, hbel⟩ := hrel
      by_cases hlt : k < min n m
      · have hk1 : k < n := by omega
        have hk2 : k < m := by omega
        have hx : k < ss.length := by have := HN.out; omega
        have hx' : k < ts.length := by have := HN'.out; omega
        obtain ⟨b, off, rfl, hcell⟩ := (hr.below hbel).at_ k (by simp; exact hx)
        obtain ⟨b', off', rfl, hcell'⟩ := (hr'.below hbel).at_ k (by simp; exact hx')
        simp only [List.getElem_map] at hcell hcell'
        have hsucc := planTo_succ ss ts k hx hx'
        have hple := planTo_le ss ts k
        generalize hs : ss[k] = s at hcell hsucc
        generalize ht : ts[k] = t at hcell' hsucc
        have HS := Lib.hid hsucc; clear hsucc hs ht
        have HO := Lib.hid hown; clear hown
        have hi0 : (0 : Int) ≤ (k : Int) := by omega
        have hd1 : decide ((k : Int) < (n : Int)) = true := by simp; omega
        have hd2 : decide ((k : Int) < (m : Int)) = true := by simp; omega
        by_cases hst : s = t
        · subst hst
          go_wp2
          go_quiet (fail)
          go_wp2
          go_roundw
          case rel => exact ⟨k + 1, by omega, by go_num, by rw [HS.out, if_pos trivial, List.append_nil]; exact HO.out, drewN_ hbel _⟩
          case measure => simp [intOf]; omega
        · have hne : (s.toList == t.toList) = false := by rw [str_beq]; simpa using hst
          go_wp2
          go_quiet (fail)
          obtain ⟨wq, hwq⟩ : ∃ wq, wq = wr.drewN nq := ⟨_, rfl⟩
          have hO1 : Hid (wq.ownsRow w.heap.size 55 3 u5 (planTo ss ts k).length ((planTo ss ts k).flatMap Mv.cells)) := by rw [hwq]; exact HO.out
          have hcell1 : wq.cell? ⟨b, off + k, none⟩ = some (.string s) := by rw [hwq]; exact hcell
          have hcell1' : wq.cell? ⟨b', off' + k, none⟩ = some (.string t) := by rw [hwq]; exact hcell'
          have hbel1 : Below w.heap.size w wq := by rw [hwq]; exact drewN_ hbel _
          rw [← hwq]
          clear hwq hcell hcell' HO hbel hne
          go_wp2
          go_region_law ((refine step_app el_move rfl (.tmp 28) (.tmp 39) rfl w.heap.size u5 (planTo ss ts k).length ((planTo ss ts k).flatMap Mv.cells) (by simp [Act.eval]) (hO1.out.alloc _) (some ⟨wq.heap.size, 0, none⟩) 1 1 (Mv.cells ⟨k, s, t⟩) (by simp [Act.eval]) rfl (Rd.new wq _ _) (by intro u hu; simp [Mv.cells] at hu; rcases hu with rfl | rfl | rfl <;> rfl) (by unfold maxLen; omega) (by omega) (by have := hbel1.size; simp; omega) ?_; intro v1 w1 hown1 hbel3 _ _))
          all_goals
            go_wp2
            go_roundw
            case rel =>
              refine ⟨k + 1, by omega, by go_num, ?_, (hbel1.alloc hbel1.size _).drew.trans hbel3⟩
              rw [HS.out, if_neg hst]
              simpa using hown1
            case measure => simp [intOf]; omega
      · have hke : k = min n m := by omega
        have HK := Lib.hid hke; clear hke
        by_cases hkn : k < n
        all_goals
          go_wp2
          go_ret
          rw [← HK.out]
          exact ⟨_, rfl, hown, hbel⟩

end Go.Proofs.Ytebfmacbdjnhbaa
