/- The walk of EraseTwice: what it asks of erase is so, for every argument. -/
import Derived.Test.YtebfmacbdjnhbaaEraseI
attribute [local go_sem ↓] Go.wp_at_zero Go.wp_at_succ
namespace Go.Proofs.Ytebfmacbdjnhbaa
open Go.RowKit Go.Mem
set_option linter.unusedVariables false

theorem erL_twice (t : ByteArray) (l : List Ev) : erL t (erL t l) = erL t l := by simp [erL, List.filter_filter]
theorem erL_comm (a b : ByteArray) (l : List Ev) : erL b (erL a l) = erL a (erL b l) := by simp [erL, List.filter_filter, Bool.and_comm]
theorem own_oth (t : ByteArray) (e : Ev) (h : ownB e.kind e.lane t = true) : oth t e = false := by
  unfold ownB at h
  rw [Bool.and_eq_true, beq_iff_eq] at h
  obtain ⟨h1, h2⟩ := h
  simp [oth, othersB, h1, h2]
theorem caL_er (t : ByteArray) (l : List Ev) : caL t (erL t l) = caL t l := by
  unfold caL erL
  rw [List.filter_filter]
  congr 1
  apply List.filter_congr
  intro e _
  cases h : ownB e.kind e.lane t
  · simp
  · simp [own_oth t e h]
/-- what is left of two tenants' events belongs to none of their lanes -/
theorem left_none {a b : ByteArray} (hab : (a.toList == b.toList) = false) (ha : a.toList.isEmpty = false) (hb : b.toList.isEmpty = false) {e : Ev} (h1 : oth a e = false) (h2 : oth b e = false) :
    (e.kind == 1) = false ∧ ((e.kind == 2) = false ∧ (e.kind == 5) = false ∨ ((e.lane.toList == a.toList) = false ∧ (e.lane.toList == b.toList) = false)) := by
  unfold oth othersB at h1 h2
  have na : a.toList ≠ [] := by intro h; simp [h] at ha
  have nb : b.toList ≠ [] := by intro h; simp [h] at hb
  have nab : a.toList ≠ b.toList := by simpa using hab
  by_cases k1 : e.kind = 1
  · simp [k1] at h1 h2; exact absurd (h1.symm.trans h2) nab
  · refine ⟨by simpa using k1, ?_⟩
    have key : (e.lane.toList = a.toList ∨ e.lane.toList = []) → (e.lane.toList = b.toList ∨ e.lane.toList = []) → (e.lane.toList == a.toList) = false ∧ (e.lane.toList == b.toList) = false := by
      rintro (x | x) (y | y)
      · exact absurd (x.symm.trans y) nab
      · exact absurd (x.symm.trans y) na
      · exact absurd (y.symm.trans x) nb
      · rw [x]; simp; exact ⟨na, nb⟩
    by_cases k2 : e.kind = 2
    · simp [k2] at h1 h2
      exact .inr (key (by by_cases x : e.lane.toList = a.toList; exact .inl x; exact .inr (h1 x)) (by by_cases x : e.lane.toList = b.toList; exact .inl x; exact .inr (h2 x)))
    · by_cases k5 : e.kind = 5
      · simp [k5] at h1 h2
        exact .inr (key (by by_cases x : e.lane.toList = a.toList; exact .inl x; exact .inr (h1 x)) (by by_cases x : e.lane.toList = b.toList; exact .inl x; exact .inr (h2 x)))
      · exact .inl ⟨by simpa using k2, by simpa using k5⟩
theorem erL_not {t : ByteArray} {l : List Ev} {e : Ev} (h : e ∈ erL t l) : e ∈ l ∧ oth t e = false := by
  have := List.mem_filter.1 h
  exact ⟨this.1, by simpa using this.2⟩

set_option maxRecDepth 100000 in
set_option maxHeartbeats 4000000 in
theorem eraseTwice_walk (A : Option Addr) (n c : Nat) (l : List Ev) (a b : ByteArray) (w : World) (hr : Rd w A (evs l)) (hn : l.length = n) (hm : n ≤ maxLen) (hok : ∀ m ∈ l, m.ok w) (ha : a.size ≤ maxLen) (hb : b.size ≤ maxLen) :
    Calls Try.prog 4 #[.slice A n c, .string a, .string b] w (YesB w) := by
  have HOK := Lib.hid hok; have HN := Lib.hid hn
  have HF := Lib.hid (few43_any ⟨A, n, c, l⟩ 60 w ⟨hr, hn, hm, hok⟩)
  clear hok hn
  unfold maxLen at hm ha hb
  go_enter Try.func4, Try.ntmps4
  go_wp2_with fail
  refine HF.out.mono ?_
  rintro e w1 ⟨b1, hb60, rfl, hb1⟩
  clear HF
  cases b1
  · go_wp2_with fail
    refine (awake45_any _).mono ?_
    rintro e w2 ⟨rfl, hb2⟩
    go_wp2
    go_ret
    exact ⟨rfl, then_ hb1 hb2⟩
  have h60 : n ≤ 60 := by have := hb60 rfl; omega
  clear hb60
  by_cases hall : 100 < a.size ∨ 100 < b.size ∨ (a.toList == b.toList) = true ∨ a.toList.isEmpty = true ∨ b.toList.isEmpty = true
  · have fin : ∀ W, Below w.heap.size w W → Calls Try.prog 16 #[] W fun e w' => e = .returned (.bool true) ∧ Below w.heap.size w w' := fun W hW => (awake45_any W).mono fun _ _ ⟨h1, h2⟩ => ⟨h1, then_ hW h2⟩
    have FIN := Lib.hid fin; clear fin
    by_cases f1 : 100 < a.size
    · go_wp2_with fail
      refine (FIN.out _ hb1).mono ?_
      rintro e w2 ⟨rfl, hb2⟩
      go_wp2
      go_ret
      exact ⟨rfl, hb2⟩
    by_cases f2 : 100 < b.size
    · go_wp2_with fail
      refine (FIN.out _ hb1).mono ?_
      rintro e w2 ⟨rfl, hb2⟩
      go_wp2
      go_ret
      exact ⟨rfl, hb2⟩
    have H := Lib.hid ((hall.resolve_left f1).resolve_left f2); clear hall
    by_cases f3 : (a.toList == b.toList) = true
    · go_wp2_with fail
      refine (FIN.out _ hb1).mono ?_
      rintro e w2 ⟨rfl, hb2⟩
      go_wp2
      go_ret
      exact ⟨rfl, hb2⟩
    rw [Bool.not_eq_true] at f3
    by_cases f4 : a.toList.isEmpty = true
    · go_wp2_with fail
      refine (FIN.out _ hb1).mono ?_
      rintro e w2 ⟨rfl, hb2⟩
      go_wp2
      go_ret
      exact ⟨rfl, hb2⟩
    have f5 : b.toList.isEmpty = true := (H.out.resolve_left (by rw [f3]; decide)).resolve_left f4
    rw [Bool.not_eq_true] at f4
    go_wp2_with fail
    refine (FIN.out _ hb1).mono ?_
    rintro e w2 ⟨rfl, hb2⟩
    go_wp2
    go_ret
    exact ⟨rfl, hb2⟩
  · have g1 : ¬ 100 < a.size := fun h => hall (.inl h)
    have g2 : ¬ 100 < b.size := fun h => hall (.inr (.inl h))
    have g3 : (a.toList == b.toList) = false := by rw [← Bool.not_eq_true]; exact fun h => hall (.inr (.inr (.inl h)))
    have g4 : a.toList.isEmpty = false := by rw [← Bool.not_eq_true]; exact fun h => hall (.inr (.inr (.inr (.inl h))))
    have g5 : b.toList.isEmpty = false := by rw [← Bool.not_eq_true]; exact fun h => hall (.inr (.inr (.inr (.inr h))))
    clear hall
    have HL := Lib.hid (fun e h1 h2 => left_none g3 g4 g5 (e := e) h1 h2)
    have hle1 := erL_le a l; have hle2 := erL_le b (erL a l); have hle3 := erL_le b l; have hle4 := caL_le a l
    rw [HN.out] at hle1 hle3 hle4
    go_wp2_with fail
    refine (erase_any A n c l a _ (hr.below hb1) HN.out (by omega)).mono ?_
    rintro e wa ⟨va, rfl, howna, hba⟩
    obtain ⟨A1, c1, rfl⟩ := own_form howna
    have hela := then_ hb1 hba
    have hrx := Lib.hid (Rd.of_own howna)
    clear howna hba
    go_wp2_with fail
    refine (erase_any A1 _ c1 (erL a l) a _ hrx.out rfl (by omega)).mono ?_
    rintro e wb ⟨vb, rfl, hownb, hbb⟩
    rw [erL_twice] at hownb
    obtain ⟨A2, c2, rfl⟩ := own_form hownb
    have helb := then_ hela hbb
    have hrx2 := Lib.hid (hrx.out.below hbb)
    have hrxx := Lib.hid (Rd.of_own hownb)
    clear hownb hbb hrx
    go_wp2_with fail
    refine (sameEvents_any A2 _ c2 A1 c1 (erL a l) _ hrxx.out hrx2.out rfl (by omega) (evs_ok (erL_ok HOK.out a) helb)).mono ?_
    rintro e wc ⟨rfl, hbc⟩
    have helc := then_ helb hbc
    have hrx3 := Lib.hid (hrx2.out.below hbc)
    clear hrxx hrx2 hbc
    go_wp2_with fail
    refine (calls_any A1 _ c1 (erL a l) a _ hrx3.out rfl (by omega)).mono ?_
    rintro e wd ⟨vd, rfl, hownd, hbd⟩
    rw [caL_er] at hownd
    obtain ⟨A3, c3, rfl⟩ := own_form hownd
    have held := then_ helc hbd
    have hrx4 := Lib.hid (hrx3.out.below hbd)
    go_wp2_with fail
    refine (calls_any A n c l a _ (hr.below held) HN.out (by omega)).mono ?_
    rintro e we ⟨ve, rfl, howne, hbe⟩
    obtain ⟨A4, c4, rfl⟩ := own_form howne
    have hele := then_ held hbe
    have hrx5 := Lib.hid (hrx4.out.below hbe); have hbe0 := hbe
    clear hrx3 hrx4 hbd hbe
    go_wp2_with fail
    refine (sameCalls_any A3 _ c3 A4 c4 (caL a l) _ ((Rd.of_own hownd).below hbe0) (Rd.of_own howne) rfl (by omega) (cals_ok (caL_ok HOK.out a) hele)).mono ?_
    rintro e wf ⟨rfl, hbf⟩
    have helf := then_ hele hbf
    have hrx6 := Lib.hid (hrx5.out.below hbf)
    clear hownd howne hrx5 hbf hbe0
    go_wp2_with fail
    refine (erase_any A1 _ c1 (erL a l) b _ hrx6.out rfl (by omega)).mono ?_
    rintro e wg ⟨vg, rfl, howng, hbg⟩
    obtain ⟨A5, c5, rfl⟩ := own_form howng
    have helg := then_ helf hbg
    have hry := Lib.hid (Rd.of_own howng)
    clear howng hrx6 hbg
    obtain ⟨m, hm⟩ : ∃ m, (erL b (erL a l)).length = m := ⟨_, rfl⟩
    rw [hm] at hle2 ⊢
    have HM := Lib.hid hm; clear hm
    go_wp2
    go_loopw [9] (fun i wr => ∃ k : Nat, k ≤ m ∧ i = .int .i64 k ∧ Below wg.heap.size wg wr) (fun i _ => m - (intOf i).toNat)
    case atStart => exact ⟨0, Nat.zero_le _, rfl, Below.refl _ _⟩
    case round =>
      obtain ⟨k, hk, rfl, hbel⟩ := hrel
      by_cases hlt : k < m
      · have hx : k < (erL b (erL a l)).length := by rw [HM.out]; exact hlt
        obtain ⟨bb, off, rfl, hrg⟩ := row_ev.at_ (hry.out.below hbel) k hx
        have hmem := List.getElem_mem hx
        generalize (erL b (erL a l))[k] = s at hrg hmem
        obtain ⟨hm1, ho2⟩ := erL_not hmem
        obtain ⟨hm2, ho1⟩ := erL_not hm1
        have hs := HL.out s ho1 ho2
        have hc0 : wr.cell? ⟨bb, off + k * 22, none⟩ = some (.int .i64 s.kind) := rangeAt_cell hrg 0 rfl
        have hc3 : wr.cell? ⟨bb, off + k * 22 + 3, none⟩ = some (.string s.lane) := rangeAt_cell hrg 3 rfl
        clear hrg hmem hm1 hm2 ho1 ho2
        generalize s.kind = kd at hs hc0
        generalize s.lane = ln at hs hc3
        obtain ⟨k1, hs⟩ := hs
        rcases hs with ⟨k2, k5⟩ | ⟨l1, l2⟩
        · go_wp2
          go_roundw
          case rel => exact ⟨k + 1, by omega, by go_num, hbel⟩
          case measure => simp [intOf]; omega
        · by_cases k2 : (kd == 2) = true
          · go_wp2
            go_roundw
            case rel => exact ⟨k + 1, by omega, by go_num, hbel⟩
            case measure => simp [intOf]; omega
          · rw [Bool.not_eq_true] at k2
            by_cases k5 : (kd == 5) = true
            · go_wp2
              go_roundw
              case rel => exact ⟨k + 1, by omega, by go_num, hbel⟩
              case measure => simp [intOf]; omega
            · rw [Bool.not_eq_true] at k5
              go_wp2
              go_roundw
              case rel => exact ⟨k + 1, by omega, by go_num, hbel⟩
              case measure => simp [intOf]; omega
      · obtain rfl : k = m := by omega
        have helr := then_ helg hbel
        have hry2 := Lib.hid (hry.out.below hbel)
        clear hry hbel
        go_wp2_with fail
        refine (erase_any A n c l b _ (hr.below helr) HN.out (by omega)).mono ?_
        rintro e wh ⟨vh, rfl, hownh, hbh⟩
        obtain ⟨A6, c6, rfl⟩ := own_form hownh
        have helh := then_ helr hbh
        have hry3 := Lib.hid (hry2.out.below hbh)
        have hrz := Lib.hid (Rd.of_own hownh)
        clear hry2 hbh hownh
        go_wp2_with fail
        refine (erase_any A6 _ c6 (erL b l) a _ hrz.out rfl (by omega)).mono ?_
        rintro e wi ⟨vi, rfl, howni, hbi⟩
        rw [← erL_comm] at howni
        obtain ⟨A7, c7, rfl⟩ := own_form howni
        have heli := then_ helh hbi
        have hry4 := Lib.hid (hry3.out.below hbi)
        have hrz2 := Lib.hid (Rd.of_own howni)
        clear hry3 hbi howni hrz
        rw [HM.out]
        go_wp2_with fail
        refine (sameEvents_any A5 k c5 A7 c7 (erL b (erL a l)) _ hry4.out hrz2.out HM.out (by omega) (evs_ok (erL_ok (erL_ok HOK.out a) b) heli)).mono ?_
        rintro e wj ⟨rfl, hbj⟩
        have helj := then_ heli hbj
        go_wp2_with fail
        refine (awake45_any _).mono ?_
        rintro e wk ⟨rfl, hbk⟩
        go_wp2
        go_ret
        exact ⟨rfl, then_ helj hbk⟩
end Go.Proofs.Ytebfmacbdjnhbaa
