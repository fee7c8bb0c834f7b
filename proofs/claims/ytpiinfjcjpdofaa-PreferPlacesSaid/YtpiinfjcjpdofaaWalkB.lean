/- walk: the document's order of members. -/
import Derived.Test.YtpiinfjcjpdofaaWalkA
namespace Go.Proofs.Ytpiinfjcjpdofaa
open Go.RowKit Go.Mem
set_option linter.unusedVariables false
theorem el_intW : Elem Try.prog 28 3 1 8 := Elem.of (z := .int .i64 0) Try.underlying28 (by kernel_rfl) rfl (by omega)
theorem nats_snoc (l : List Nat) (i : Nat) : nats (l ++ [i]) = nats l ++ [.int .i64 (i : Int)] := by simp [nats]
theorem rot_len (ss : List ByteArray) (F : Nat) : (WalkL.rot ss ByteArray.empty F).length = ss.length := by simp [WalkL.rot]
theorem rot_take (ss : List ByteArray) (F k : Nat) (hk : k < ss.length) (hq : (F + k) % ss.length < ss.length) : (WalkL.rot ss ByteArray.empty F).take (k + 1) = (WalkL.rot ss ByteArray.empty F).take k ++ [ss[(F + k) % ss.length]] := by
  rw [List.take_succ_eq_append_getElem (by rw [rot_len]; exact hk)]
  congr 2
  simp [WalkL.rot, List.getD_eq_getElem?_getD, List.getElem?_eq_getElem hq]
theorem step_none {ns : List ByteArray} {out : List Nat} {s : ByteArray} (h : WalkL.where_ ns s = none) : WalkL.step ns out s = out := by unfold WalkL.step; rw [h]
theorem step_some {ns : List ByteArray} {out : List Nat} {s : ByteArray} {i : Nat} (h : WalkL.where_ ns s = some i) : WalkL.step ns out s = WalkL.add out i := by unfold WalkL.step; rw [h]
theorem add_in {out : List Nat} {i : Nat} (h : i ∈ out) : WalkL.add out i = out := by unfold WalkL.add; rw [if_pos h]
theorem add_new {out : List Nat} {i : Nat} (h : i ∉ out) : WalkL.add out i = out ++ [i] := by unfold WalkL.add; rw [if_neg h]
set_option maxRecDepth 100000 in
set_option maxHeartbeats 2000000 in
theorem rorder_any (A : Option Addr) (n c : Nat) (ss : List ByteArray) (B : Option Addr) (m d : Nat) (ms : List Mb) (part : Int) (w : World) (hr : Rd w A (ss.map Value.string)) (hn : ss.length = n) (hn' : n ≤ 1000) (hr' : Rd w B (ms.flatMap Mb.cells)) (hm : ms.length = m) (hm' : m ≤ 1000) (hp : (Lit.int .i64 part).wf = true) :
    Calls Try.prog 16 #[.slice A n c, .slice B m d, .int .i64 part] w (Makes 3 1 (WalkL.order (names ms) ss ByteArray.empty part).length (nats (WalkL.order (names ms) ss ByteArray.empty part)) w) := by
  have HN := Lib.hid hn; have HM := Lib.hid hm; clear hn hm
  have hnl : (names ms).length = m := by simp [names]; exact HM.out
  have HNL := Lib.hid hnl; clear hnl
  go_enter Try.func16, Try.ntmps16
  go_wp2_with fail
  refine (rfrom_any part n _ hp (by omega)).mono ?_
  rintro e w1 ⟨rfl, rfl⟩
  have hF : 0 < n → WalkL.fromN part n < n := fun h => WalkL.fromN_lt part h
  have hord : WalkL.order (names ms) ss ByteArray.empty part = WalkL.rest (WalkL.own (names ms) (WalkL.rot ss ByteArray.empty (WalkL.fromN part n))) m := by unfold WalkL.order; rw [HN.out, HNL.out]
  have HORD := Lib.hid hord; clear hord
  generalize WalkL.fromN part n = F at *
  have hrl := rot_len ss F
  have hrt := rot_take ss F
  generalize hR : WalkL.rot ss ByteArray.empty F = R at *
  have HRL := Lib.hid hrl; have HRT := Lib.hid hrt; clear hrl hrt hR
  go_wp2_with fail
  go_loopw [7, 9] (fun v i wr => ∃ k : Nat, k ≤ n ∧ i = .int .i64 k ∧ wr.ownsRow w.heap.size 3 1 v (WalkL.own (names ms) (R.take k)).length (nats (WalkL.own (names ms) (R.take k))) ∧ Below w.heap.size w wr) (fun _ i _ => n - (intOf i).toNat)
  case atStart => exact ⟨0, Nat.zero_le _, rfl, World.ownsRow_nil _ _ _ _, Below.refl _ _⟩
  case round =>
    obtain ⟨k, hk, rfl, hown, hbel⟩ := hrel
    by_cases hlt : k < n
    · have hx : k < ss.length := by have := HN.out; omega
      have hFn := hF (by omega)
      obtain ⟨q, hq⟩ : ∃ q, (F + k) % n = q := ⟨_, rfl⟩
      have hqn : q < n := by rw [← hq]; exact Nat.mod_lt _ (by omega)
      have hqs : q < ss.length := by rw [HN.out]; exact hqn
      have hqi : ((F : Int) + (k : Int)) % (n : Int) = (q : Int) := by
        rw [← hq]; simp
      obtain ⟨b, off, rfl, hcell⟩ := (hr.below hbel).at_ q (by simp; exact hqs)
      simp only [List.getElem_map] at hcell
      have hone := HRT.out k hx (by rw [HN.out, hq]; exact hqn)
      simp only [HN.out, hq] at hone
      have hsn : WalkL.own (names ms) (R.take (k + 1)) = WalkL.step (names ms) (WalkL.own (names ms) (R.take k)) ss[q] := by rw [hone, WalkL.own_snoc]
      have hle : (WalkL.own (names ms) (R.take k)).length ≤ m := by have := WalkL.own_le (names ms) (R.take k); rw [HNL.out] at this; exact this
      generalize hcur : WalkL.own (names ms) (R.take k) = cur at *
      generalize ss[q] = s at hcell hsn
      have HSN := Lib.hid hsn; have HO := Lib.hid hown; clear hsn hown hone hq hcur
      have hrw := hr'.below hbel
      have hi0 : (0 : Int) ≤ (q : Int) := by omega
      have hi1 : (q : Int) < (n : Int) := by omega
      have hn0 : ((n : Int) == 0) = false := by simp; omega
      go_wp2_with fail
      refine (rfind_any B m d ms s _ hrw HM.out (by omega)).mono ?_
      rintro e w1 ⟨rfl, rfl⟩
      clear hrw hqi
      rcases hw : WalkL.where_ (names ms) s with _ | i
      · rw [whereI_none hw]
        have HS2 : Hid (WalkL.own (names ms) (R.take (k + 1)) = cur) := Lib.hid (by rw [HSN.out, step_none hw])
        clear hw
        go_wp2
        go_roundw
        case rel => exact ⟨k + 1, by omega, by go_num, by rw [HS2.out]; exact HO.out, hbel⟩
        case measure => simp [intOf]; omega
      · rw [whereI_some hw]
        have HS2 : Hid (WalkL.own (names ms) (R.take (k + 1)) = WalkL.add cur i) := Lib.hid (by rw [HSN.out, step_some hw])
        have him : i < m := by have := WalkL.where_lt hw; rw [HNL.out] at this; exact this
        clear hw
        obtain ⟨oA, oc, rfl⟩ := own_form HO.out
        have i0 : (0 : Int) ≤ (i : Int) := by omega
        have hrd := Rd.of_own HO.out
        go_wp2_with fail
        refine (rIn_any oA _ oc cur i _ hrd rfl (by omega) (by omega)).mono ?_
        rintro e w1 ⟨rfl, rfl⟩
        clear hrd
        by_cases hin : i ∈ cur
        · rw [decide_eq_true hin]
          have HS3 : Hid (WalkL.own (names ms) (R.take (k + 1)) = cur) := Lib.hid (by rw [HS2.out, add_in hin])
          clear hin
          go_wp2
          go_roundw
          case rel => exact ⟨k + 1, by omega, by go_num, by rw [HS3.out]; exact HO.out, hbel⟩
          case measure => simp [intOf]; omega
        · rw [decide_eq_false hin]
          have HS3 : Hid (WalkL.own (names ms) (R.take (k + 1)) = cur ++ [i]) := Lib.hid (by rw [HS2.out, add_new hin])
          clear hin
          go_wp2_with (at_builtin; refine wpList_app el_intW rfl (.tmp 41) (.tmp 43) rfl w.heap.size _ _ _ rfl (HO.out.alloc _) (some ⟨wr.heap.size, 0, none⟩) 1 1 [.int .i64 (i : Int)] rfl rfl (Rd.new wr #[.int .i64 (i : Int)] _) (by intro u hu; simp at hu; subst hu; rfl) (by unfold maxLen; omega) (by omega) (by have := hbel.size; simp; omega) ?_; intro v1 w1 hown1 hbel1 _ _)
          go_roundw
          case rel => exact ⟨k + 1, by omega, by go_num, by rw [HS3.out, List.length_append, nats_snoc]; simpa using hown1, (hbel.alloc hbel.size _).trans hbel1⟩
          case measure => simp [intOf]; omega
    · have HK : Hid (k = n) := Lib.hid (by omega)
      have hge : (n : Int) ≤ (k : Int) := by omega
      have hRt : R.take k = R := List.take_of_length_le (by rw [HRL.out, HN.out, HK.out]; exact Nat.le_refl _)
      rw [hRt] at hown
      have hprops := WalkL.own_props (names ms) R
      rw [HNL.out] at hprops
      generalize WalkL.own (names ms) R = cur at *
      have HP := Lib.hid hprops; have HO := Lib.hid hown; clear hprops hown hRt HRT HRL
      obtain ⟨w2, rfl⟩ : ∃ w2, w2 = wr := ⟨_, rfl⟩
      have hsz2 := hbel.size
      go_wp2_with fail
      go_loopw [7, 11] (fun v i wr => ∃ k : Nat, k ≤ m ∧ i = .int .i64 k ∧ wr.ownsRow w.heap.size 3 1 v (WalkL.rest cur k).length (nats (WalkL.rest cur k)) ∧ Below w.heap.size w wr) (fun _ i _ => m - (intOf i).toNat)
      case atStart => exact ⟨0, Nat.zero_le _, rfl, HO.out, hbel⟩
      case round =>
        clear HO hbel
        obtain ⟨k, hk, rfl, hown, hbel⟩ := hrel
        by_cases hlt : k < m
        · have hsn := WalkL.rest_succ cur k
          have hle : (WalkL.rest cur k).length ≤ m := WalkL.rest_len_le cur m k HP.out.1 HP.out.2 hk
          generalize hL : WalkL.rest cur k = out at *
          have HSN := Lib.hid hsn; have HO := Lib.hid hown; clear hsn hown hL
          obtain ⟨oA, oc, rfl⟩ := own_form HO.out
          have hrd := Rd.of_own HO.out
          go_wp2_with fail
          refine (rIn_any oA _ oc out k _ hrd rfl (by omega) (by omega)).mono ?_
          rintro e w1 ⟨rfl, rfl⟩
          clear hrd
          by_cases hin : k ∈ out
          · rw [decide_eq_true hin]
            have HS3 : Hid (WalkL.rest cur (k + 1) = out) := Lib.hid (by rw [HSN.out, add_in hin])
            clear hin
            go_wp2
            go_roundw
            case rel => exact ⟨k + 1, by omega, by go_num, by rw [HS3.out]; exact HO.out, hbel⟩
            case measure => simp [intOf]; omega
          · rw [decide_eq_false hin]
            have HS3 : Hid (WalkL.rest cur (k + 1) = out ++ [k]) := Lib.hid (by rw [HSN.out, add_new hin])
            clear hin
            go_wp2_with (at_builtin; refine wpList_app el_intW rfl (.tmp 55) (.tmp 57) rfl w.heap.size _ _ _ rfl (HO.out.alloc _) (some ⟨wr.heap.size, 0, none⟩) 1 1 [.int .i64 (k : Int)] rfl rfl (Rd.new wr #[.int .i64 (k : Int)] _) (by intro u hu; simp at hu; subst hu; rfl) (by unfold maxLen; omega) (by omega) (by have := hbel.size; simp; omega) ?_; intro v1 w1 hown1 hbel1 _ _)
            go_roundw
            case rel => exact ⟨k + 1, by omega, by go_num, by rw [HS3.out, List.length_append, nats_snoc]; simpa using hown1, (hbel.alloc hbel.size _).trans hbel1⟩
            case measure => simp [intOf]; omega
        · have HK2 : Hid (k = m) := Lib.hid (by omega)
          have hge : (m : Int) ≤ (k : Int) := by omega
          have HO := Lib.hid hown; clear hown
          go_wp2
          go_ret
          exact ⟨_, rfl, by rw [HORD.out, ← HK2.out]; exact HO.out, hbel⟩
end Go.Proofs.Ytpiinfjcjpdofaa
