/- The document's put, Racks, Zones; all places. -/
import Derived.Test.YtpiinfjcjpdofaaPreR
import Derived.Deep.Cut
import Derived.Says
attribute [local go_sem ↓] Go.wp_at_zero Go.wp_at_succ
namespace Go.Proofs.Ytpiinfjcjpdofaa
open Go.RowKit Go.Mem Go.Cov
set_option linter.unusedVariables false
set_option linter.unusedSimpArgs false

/-- texts that rise are handed back -/
def Rising_ (P : List ByteArray → Prop) (w : World) (e : Ending) (w' : World) : Prop := ∃ (r : List ByteArray) (A : Option Addr) (c : Nat), P r ∧ e = .returned (.slice A r.length c) ∧ Rd w' A (r.map Value.string) ∧ r.length ≤ c ∧ c ≤ maxLen ∧ Below w.heap.size w w'
theorem rd_drop {w : World} {b off : Nat} {l : List ByteArray} (h : Rd w (some ⟨b, off, none⟩) (l.map Value.string)) (k : Nat) : Rd w (some ⟨b, off + k, none⟩) ((l.drop k).map Value.string) := by
  intro j u hj
  obtain ⟨b', o', e, hc⟩ := h (k + j) u (by rw [List.map_drop, List.getElem?_drop] at hj; exact hj)
  injection e with e; injection e with e1 e2; subst e1 e2
  exact ⟨b, off + k, rfl, by rw [Nat.add_assoc]; exact hc⟩
theorem cells_strs (b off k : Nat) : off + k * 1 = off + k := by omega
set_option maxRecDepth 100000 in
set_option maxHeartbeats 8000000 in
theorem put_any (A : Option Addr) (n c : Nat) (l : List ByteArray) (s : ByteArray) (w : World) (h0 : l = [] → A = none ∧ c = 0) (hr : Rd w A (l.map Value.string)) (hn : l.length = n) (hm : n ≤ 1000) (hnc : n ≤ c) (hc2 : c ≤ maxLen) (hs : Pref.Rises l) :
    Calls Try.prog 62 #[.slice A n c, .string s] w (Rising_ (Pref.PutR l s) w) := by
  by_cases hl : l = []
  · subst hl
    obtain ⟨rfl, rfl⟩ := h0 rfl
    obtain rfl : n = 0 := by simpa using hn.symm
    have HP := Lib.hid (Pref.put_new (s := s) hs (k := 0) (Nat.le_refl _) (by simp) (by simp))
    clear h0 hr hn hs
    go_enter Try.func62, Try.ntmps62
    go_wp2_with fail
    go_loopw [5] (fun i wr => i = .int .i64 0 ∧ Hid (Below w.heap.size w wr)) (fun _ _ => 0)
    case atStart => exact ⟨rfl, Lib.hid (Below.refl _ _)⟩
    case round =>
      obtain ⟨rfl, HB⟩ := hrel
      have HZ0 := Lib.hid (World.ownsRow_nil wr w.heap.size 9 1)
      have HZ := Lib.hid HB.out.size
      rename World => w1
      go_wp2_with (first | (at_builtin; refine wpList_app el_str (by rfl) (.tmp 34) (.tmp 37) (by rfl) w.heap.size _ 0 [] (by rfl) HZ0.out none 0 0 (([] : List ByteArray).map Value.string) (by rfl) rfl Rd.nil (one_strs _) (by unfold maxLen; omega) (by omega) HZ.out ?_; intro v1 w2 hown1 hbel1 _ _; rw [Nat.zero_add, List.nil_append] at hown1; have HO1 := Lib.hid hown1; have HB1 := Lib.hid hbel1; have HZ1 := Lib.hid (Nat.le_trans HZ.out hbel1.size); clear hown1 hbel1; obtain ⟨A21, c21, rfl⟩ := own_form HO1.out) | (at_builtin; refine wpList_app el_str (by rfl) (.tmp 39) (.tmp 41) (by rfl) w.heap.size _ 0 _ (by rfl) (HO1.out.alloc _) (some ⟨w2.heap.size, 0, none⟩) 1 1 [.string s] (by rfl) rfl (Rd.new w2 #[.string s] _) (by intro u hu; simp at hu; subst hu; rfl) (by unfold maxLen; omega) (by omega) (by have := HZ1.out; simp; omega) ?_; intro v2 w3 hown2 hbel2 _ _; have HO2 := Lib.hid hown2; have HB2 := Lib.hid ((HB1.out.alloc HZ1.out _).trans hbel2); have HZ2 := Lib.hid (Nat.le_trans HZ1.out (show w2.heap.size ≤ w3.heap.size by have := hbel2.size; simp at this; omega)); clear hown2 hbel2; obtain ⟨A22, c22, rfl⟩ := own_form HO2.out) | (at_builtin; refine wpList_app el_str (by rfl) (.tmp 43) (.tmp 46) (by rfl) w.heap.size _ (0 + 1) _ (by rfl) HO2.out none 0 0 (([] : List ByteArray).map Value.string) (by rfl) rfl Rd.nil (one_strs _) (by unfold maxLen; omega) (by omega) HZ2.out ?_; intro v3 w4 hown3 hbel3 _ _; have HO3 := Lib.hid hown3; have HB3 := Lib.hid (HB2.out.trans hbel3); clear hown3 hbel3; obtain ⟨A23, c23, rfl⟩ := own_form HO3.out))
      go_ret
      refine ⟨[s], A23, c23, by simpa using HP.out, rfl, ?_, (own_cap HO3.out).1, (own_cap HO3.out).2, HB.out.trans HB3.out⟩
      have h := Rd.of_own HO3.out
      simpa using h
  obtain ⟨b, off, rfl, hcx⟩ := hr.at_ 0 (by simp; exact List.length_pos_iff.2 hl)
  clear hcx
  have HN := Lib.hid hn; have HR := Lib.hid hr; have HS := Lib.hid hs
  have hnp : 0 < n := by rw [← hn]; exact List.length_pos_iff.2 hl
  clear h0 hr hn hs hl
  unfold maxLen at hc2
  go_enter Try.func62, Try.ntmps62
  go_wp2_with fail
  go_loopw [5] (fun i wr => ∃ k : Nat, k ≤ n ∧ i = .int .i64 k ∧ Hid (∀ x ∈ l.take k, Pref.lt x s = true) ∧ Hid (Below w.heap.size w wr)) (fun i _ => n - (intOf i).toNat)
  case atStart => exact ⟨0, Nat.zero_le _, rfl, Lib.hid (by simp), Lib.hid (Below.refl _ _)⟩
  case round =>
    obtain ⟨k, hk, rfl, HL, HB⟩ := hrel
    have HZ := Lib.hid HB.out.size
    have HZ0 := Lib.hid (World.ownsRow_nil wr w.heap.size 9 1)
    have HRT := Lib.hid (show Rd wr (some ⟨b, off, none⟩) ((l.take k).map Value.string) by have h := (HR.out.below HB.out).take k; rwa [← List.map_take] at h)
    have HRD := Lib.hid (rd_drop (HR.out.below HB.out) k)
    have hk0 : (0 : Int) ≤ (k : Int) := by omega
    have hkc : (k : Int) ≤ (c : Int) := by omega
    have hkn2 : (k : Int) ≤ (n : Int) := by omega
    by_cases hlt : k < n
    · have hx : k < l.length := by have := HN.out; omega
      obtain ⟨b', off', e, hcell⟩ := (HR.out.below HB.out).at_ k (by simp; exact hx)
      injection e with e; injection e with e1 e2; subst e1 e2
      simp only [List.getElem_map] at hcell
      have HT := Lib.hid (List.take_succ_eq_append_getElem hx)
      have HG := Lib.hid (List.getElem?_eq_getElem hx)
      generalize l[k] = u at hcell HT HG
      have hkn : (k : Int) < (n : Int) := by omega
      by_cases hbl : Op.bytesLess u.toList s.toList = true
      · have HBL := Lib.hid (show Pref.lt u s = true from hbl)
        go_wp2_with fail
        exact ⟨⟨k + 1, by omega, by go_num, Lib.hid (fun x hx => by rw [HT.out] at hx; rcases List.mem_append.1 hx with hx | hx; exact HL.out x hx; rw [List.mem_singleton] at hx; subst hx; exact HBL.out), HB⟩, by simp [intOf]; omega⟩
      · have hbl : Op.bytesLess u.toList s.toList = false := by simpa using hbl
        have HBL := Lib.hid (show Pref.lt u s = false from hbl)
        by_cases hus : u = s
        · subst hus
          have he : (u.toList == u.toList) = true := by simp
          have HF := Lib.hid (Pref.put_in HS.out (List.mem_of_getElem? HG.out))
          have HRR := Lib.hid (HR.out.below HB.out)
          go_wp2_with fail
          go_ret
          refine ⟨l, some ⟨b, off, none⟩, c, HF.out, by rw [HN.out]; rfl, HRR.out, by rw [HN.out]; exact hnc, by unfold maxLen; omega, HB.out⟩
        · have he : (u.toList == s.toList) = false := by rw [str_beq]; exact decide_eq_false hus
          have HF := Lib.hid (Pref.put_new HS.out (k := k) (by rw [HN.out]; exact hk) HL.out (fun x hx => by rw [HG.out] at hx; injection hx with hx; subst hx; exact ⟨HBL.out, hus⟩))
          have hck : ¬ c = k := by omega
          have HLT := Lib.hid (show ((l.take k).map Value.string).length = k * 1 by rw [List.length_map, List.length_take, HN.out]; omega)
          have HLD := Lib.hid (show ((l.drop k).map Value.string).length = (n - k) * 1 by rw [List.length_map, List.length_drop, HN.out]; omega)
          have hnk : (n : Int) - (k : Int) = ((n - k : Nat) : Int) := by omega
          rename World => w1
          clear hus hlt hx HT HG HL HBL
          go_wp2_with (first | (at_builtin; refine wpList_app el_str (by rfl) (.tmp 34) (.tmp 37) (by rfl) w.heap.size _ 0 [] (by rfl) HZ0.out (some ⟨b, off, none⟩) k c ((l.take k).map Value.string) (by rfl) HLT.out HRT.out (one_strs _) (by unfold maxLen; omega) (by omega) HZ.out ?_; intro v1 w2 hown1 hbel1 _ _; rw [Nat.zero_add, List.nil_append] at hown1; have HO1 := Lib.hid hown1; have HB1 := Lib.hid hbel1; have HZ1 := Lib.hid (Nat.le_trans HZ.out hbel1.size); clear hown1 hbel1; obtain ⟨A21, c21, rfl⟩ := own_form HO1.out) | (at_builtin; refine wpList_app el_str (by rfl) (.tmp 39) (.tmp 41) (by rfl) w.heap.size _ k _ (by rfl) (HO1.out.alloc _) (some ⟨w2.heap.size, 0, none⟩) 1 1 [.string s] (by rfl) rfl (Rd.new w2 #[.string s] _) (by intro u hu; simp at hu; subst hu; rfl) (by unfold maxLen; omega) (by omega) (by have := HZ1.out; simp; omega) ?_; intro v2 w3 hown2 hbel2 _ _; have HO2 := Lib.hid hown2; have HB2 := Lib.hid ((HB1.out.alloc HZ1.out _).trans hbel2); have HZ2 := Lib.hid (Nat.le_trans HZ1.out (show w2.heap.size ≤ w3.heap.size by have := hbel2.size; simp at this; omega)); clear hown2 hbel2; obtain ⟨A22, c22, rfl⟩ := own_form HO2.out) | (at_builtin; refine wpList_app el_str (by rfl) (.tmp 43) (.tmp 46) (by rfl) w.heap.size _ (k + 1) _ (by rfl) HO2.out (some ⟨b, off + k, none⟩) (n - k) (c - k) ((l.drop k).map Value.string) (by rfl) HLD.out (rd_drop (HR.out.below (HB.out.trans HB2.out)) k) (one_strs _) (by unfold maxLen; omega) (by omega) HZ2.out ?_; intro v3 w4 hown3 hbel3 _ _; have HO3 := Lib.hid hown3; have HB3 := Lib.hid (HB2.out.trans hbel3); clear hown3 hbel3; obtain ⟨A23, c23, rfl⟩ := own_form HO3.out))
          go_ret
          have hll : (l.take k ++ s :: l.drop k).length = k + 1 + (n - k) := by rw [List.length_append, List.length_cons, List.length_take, List.length_drop, HN.out]; omega
          rw [← hll] at HO3
          refine ⟨l.take k ++ s :: l.drop k, A23, c23, HF.out, by rw [hll]; rfl, ?_, (own_cap HO3.out).1, (own_cap HO3.out).2, HB.out.trans HB3.out⟩
          have h := Rd.of_own HO3.out
          simpa using h
    · obtain rfl : k = n := by omega
      have HF := Lib.hid (Pref.put_new HS.out (k := k) (by rw [HN.out]; exact Nat.le_refl _) HL.out (fun x hx => by rw [List.getElem?_eq_none (by rw [HN.out]; exact Nat.le_refl _)] at hx; cases hx))
      have HLT := Lib.hid (show ((l.take k).map Value.string).length = k * 1 by rw [List.length_map, List.length_take, HN.out]; omega)
      have hkn : (k : Int) ≤ (k : Int) := Int.le_refl _
      have hzz : (k : Int) - (k : Int) = 0 := by omega
      rename World => w1
      clear hlt HL
      by_cases hck : c = k
      · subst hck
        go_wp2_with (first | (at_builtin; refine wpList_app el_str (by rfl) (.tmp 34) (.tmp 37) (by rfl) w.heap.size _ 0 [] (by rfl) HZ0.out (some ⟨b, off, none⟩) c c ((l.take c).map Value.string) (by rfl) HLT.out HRT.out (one_strs _) (by unfold maxLen; omega) (by omega) HZ.out ?_; intro v1 w2 hown1 hbel1 _ _; rw [Nat.zero_add, List.nil_append] at hown1; have HO1 := Lib.hid hown1; have HB1 := Lib.hid hbel1; have HZ1 := Lib.hid (Nat.le_trans HZ.out hbel1.size); clear hown1 hbel1; obtain ⟨A21, c21, rfl⟩ := own_form HO1.out) | (at_builtin; refine wpList_app el_str (by rfl) (.tmp 39) (.tmp 41) (by rfl) w.heap.size _ c _ (by rfl) (HO1.out.alloc _) (some ⟨w2.heap.size, 0, none⟩) 1 1 [.string s] (by rfl) rfl (Rd.new w2 #[.string s] _) (by intro u hu; simp at hu; subst hu; rfl) (by unfold maxLen; omega) (by omega) (by have := HZ1.out; simp; omega) ?_; intro v2 w3 hown2 hbel2 _ _; have HO2 := Lib.hid hown2; have HB2 := Lib.hid ((HB1.out.alloc HZ1.out _).trans hbel2); have HZ2 := Lib.hid (Nat.le_trans HZ1.out (show w2.heap.size ≤ w3.heap.size by have := hbel2.size; simp at this; omega)); clear hown2 hbel2; obtain ⟨A22, c22, rfl⟩ := own_form HO2.out) | (at_builtin; refine wpList_app el_str (by rfl) (.tmp 43) (.tmp 46) (by rfl) w.heap.size _ (c + 1) _ (by rfl) HO2.out (some ⟨b, off, none⟩) 0 0 (([] : List ByteArray).map Value.string) (by rfl) rfl Rd.nil (one_strs _) (by unfold maxLen; omega) (by omega) HZ2.out ?_; intro v3 w4 hown3 hbel3 _ _; have HO3 := Lib.hid hown3; have HB3 := Lib.hid (HB2.out.trans hbel3); clear hown3 hbel3; obtain ⟨A23, c23, rfl⟩ := own_form HO3.out))
        go_ret
        have hll : (l.take c ++ s :: l.drop c).length = c + 1 + 0 := by rw [List.length_append, List.length_cons, List.length_take, List.length_drop, HN.out]; omega
        rw [← hll] at HO3
        refine ⟨l.take c ++ s :: l.drop c, A23, c23, HF.out, by rw [hll]; rfl, ?_, (own_cap HO3.out).1, (own_cap HO3.out).2, HB.out.trans HB3.out⟩
        have h := Rd.of_own HO3.out
        have hdr : l.drop c = [] := List.drop_eq_nil_of_le (by rw [HN.out]; omega)
        rw [hdr]
        simpa using h
      go_wp2_with (first | (at_builtin; refine wpList_app el_str (by rfl) (.tmp 34) (.tmp 37) (by rfl) w.heap.size _ 0 [] (by rfl) HZ0.out (some ⟨b, off, none⟩) k c ((l.take k).map Value.string) (by rfl) HLT.out HRT.out (one_strs _) (by unfold maxLen; omega) (by omega) HZ.out ?_; intro v1 w2 hown1 hbel1 _ _; rw [Nat.zero_add, List.nil_append] at hown1; have HO1 := Lib.hid hown1; have HB1 := Lib.hid hbel1; have HZ1 := Lib.hid (Nat.le_trans HZ.out hbel1.size); clear hown1 hbel1; obtain ⟨A21, c21, rfl⟩ := own_form HO1.out) | (at_builtin; refine wpList_app el_str (by rfl) (.tmp 39) (.tmp 41) (by rfl) w.heap.size _ k _ (by rfl) (HO1.out.alloc _) (some ⟨w2.heap.size, 0, none⟩) 1 1 [.string s] (by rfl) rfl (Rd.new w2 #[.string s] _) (by intro u hu; simp at hu; subst hu; rfl) (by unfold maxLen; omega) (by omega) (by have := HZ1.out; simp; omega) ?_; intro v2 w3 hown2 hbel2 _ _; have HO2 := Lib.hid hown2; have HB2 := Lib.hid ((HB1.out.alloc HZ1.out _).trans hbel2); have HZ2 := Lib.hid (Nat.le_trans HZ1.out (show w2.heap.size ≤ w3.heap.size by have := hbel2.size; simp at this; omega)); clear hown2 hbel2; obtain ⟨A22, c22, rfl⟩ := own_form HO2.out) | (at_builtin; refine wpList_app el_str (by rfl) (.tmp 43) (.tmp 46) (by rfl) w.heap.size _ (k + 1) _ (by rfl) HO2.out (some ⟨b, off + k, none⟩) 0 (c - k) (([] : List ByteArray).map Value.string) (by rfl) rfl Rd.nil (one_strs _) (by unfold maxLen; omega) (by omega) HZ2.out ?_; intro v3 w4 hown3 hbel3 _ _; have HO3 := Lib.hid hown3; have HB3 := Lib.hid (HB2.out.trans hbel3); clear hown3 hbel3; obtain ⟨A23, c23, rfl⟩ := own_form HO3.out))
      go_ret
      have hll : (l.take k ++ s :: l.drop k).length = k + 1 + 0 := by rw [List.length_append, List.length_cons, List.length_take, List.length_drop, HN.out]; omega
      rw [← hll] at HO3
      refine ⟨l.take k ++ s :: l.drop k, A23, c23, HF.out, by rw [hll]; rfl, ?_, (own_cap HO3.out).1, (own_cap HO3.out).2, HB.out.trans HB3.out⟩
      have h := Rd.of_own HO3.out
      have hdr : l.drop k = [] := List.drop_eq_nil_of_le (by rw [HN.out]; omega)
      rw [hdr]
      simpa using h

set_option maxRecDepth 100000 in
set_option maxHeartbeats 8000000 in
theorem racks_any (A : Option Addr) (n c : Nat) (ms : List Mb) (w : World) (hr : Rd w A (ms.flatMap Mb.cells)) (hn : ms.length = n) (hm : n ≤ 900) :
    Calls Try.prog 42 #[.slice A n c] w (Rising_ (fun r => Pref.Rises r ∧ (∀ z, z ∈ r ↔ z ∈ ms.map Mb.rack) ∧ r.length ≤ n) w) := by
  have HN := Lib.hid hn; have HR := Lib.hid hr
  clear hn hr
  go_enter Try.func42, Try.ntmps42
  go_wp2_with fail
  go_loopw [3, 4] (fun v i wr => ∃ (k : Nat) (r : List ByteArray) (A' : Option Addr) (c' : Nat), k ≤ n ∧ i = .int .i64 k ∧ v = .slice A' r.length c' ∧ Hid (Pref.Rises r ∧ ∀ z, z ∈ r ↔ z ∈ (ms.take k).map Mb.rack) ∧ Hid (Rd wr A' (r.map Value.string)) ∧ Hid (r = [] → A' = none ∧ c' = 0) ∧ Hid (r.length ≤ c' ∧ c' ≤ maxLen ∧ r.length ≤ k) ∧ Hid (Below w.heap.size w wr)) (fun _ i _ => n - (intOf i).toNat)
  case atStart => exact ⟨0, [], none, 0, Nat.zero_le _, rfl, rfl, Lib.hid ⟨List.Pairwise.nil, by simp⟩, Lib.hid Rd.nil, Lib.hid (fun _ => ⟨rfl, rfl⟩), Lib.hid ⟨Nat.le_refl _, by unfold maxLen; omega, Nat.le_refl _⟩, Lib.hid (Below.refl _ _)⟩
  case round =>
    obtain ⟨k, r, A', c', hk, rfl, rfl, HS, HRR, H0, HC, HB⟩ := hrel
    by_cases hlt : k < n
    · have hx : k < ms.length := by have := HN.out; omega
      obtain ⟨b, off, rfl, hc0, hc1, hc2, hc3⟩ := mb_row (HR.out.below HB.out) k hx
      have HT := Lib.hid (show (ms.take (k + 1)).map Mb.rack = (ms.take k).map Mb.rack ++ [ms[k].rack] by rw [List.take_succ_eq_append_getElem hx, List.map_append]; rfl)
      generalize ms[k].rack = s at hc1 HT
      have hkn : (k : Int) < (n : Int) := by omega
      have hk0 : (0 : Int) ≤ (k : Int) := by omega
      have HX := Lib.hid (put_any A' r.length c' r s wr H0.out HRR.out rfl (by have := HC.out.2.2; omega) HC.out.1 HC.out.2.1 HS.out.1)
      clear hlt
      go_wp2_with fail
      refine HX.out.mono ?_
      rintro e w2 ⟨r2, A2, c2, hp, rfl, hrd, hl1, hl2, hb⟩
      have HP := Lib.hid hp; have HRD := Lib.hid hrd; have HB2 := Lib.hid (then_ HB.out hb); have HCC := Lib.hid (And.intro hl1 hl2)
      clear hp hrd hb hl1 hl2 HX
      go_wp2_with fail
      refine ⟨⟨k + 1, r2, A2, c2, by omega, by go_num, rfl, Lib.hid ⟨HP.out.rises, fun z => ?_⟩, HRD, Lib.hid (fun e => ?_), Lib.hid ⟨HCC.out.1, HCC.out.2, by have := HP.out.len; have := HC.out.2.2; omega⟩, HB2⟩, by simp [intOf]; omega⟩
      · rw [HP.out.mem, HS.out.2, HT.out, List.mem_append, List.mem_singleton]
      · have h := (HP.out.mem s).2 (.inr rfl)
        rw [e] at h; cases h
    · have hkn : (n : Int) ≤ (k : Int) := by omega
      have hfull : ms.take k = ms := List.take_of_length_le (by have := HN.out; omega)
      rw [hfull] at HS
      go_wp2
      go_ret
      exact ⟨r, A', c', ⟨HS.out.1, HS.out.2, by have := HC.out.2.2; omega⟩, rfl, HRR.out, HC.out.1, HC.out.2.1, HB.out⟩
set_option maxRecDepth 100000 in
set_option maxHeartbeats 8000000 in
theorem zones_any (A : Option Addr) (n c : Nat) (ms : List Mb) (w : World) (hr : Rd w A (ms.flatMap Mb.cells)) (hn : ms.length = n) (hm : n ≤ 900) :
    Calls Try.prog 43 #[.slice A n c] w (Rising_ (fun r => Pref.Rises r ∧ (∀ z, z ∈ r ↔ z ∈ ms.map Mb.zone) ∧ r.length ≤ n) w) := by
  have HN := Lib.hid hn; have HR := Lib.hid hr
  clear hn hr
  go_enter Try.func43, Try.ntmps43
  go_wp2_with fail
  go_loopw [3, 4] (fun v i wr => ∃ (k : Nat) (r : List ByteArray) (A' : Option Addr) (c' : Nat), k ≤ n ∧ i = .int .i64 k ∧ v = .slice A' r.length c' ∧ Hid (Pref.Rises r ∧ ∀ z, z ∈ r ↔ z ∈ (ms.take k).map Mb.zone) ∧ Hid (Rd wr A' (r.map Value.string)) ∧ Hid (r = [] → A' = none ∧ c' = 0) ∧ Hid (r.length ≤ c' ∧ c' ≤ maxLen ∧ r.length ≤ k) ∧ Hid (Below w.heap.size w wr)) (fun _ i _ => n - (intOf i).toNat)
  case atStart => exact ⟨0, [], none, 0, Nat.zero_le _, rfl, rfl, Lib.hid ⟨List.Pairwise.nil, by simp⟩, Lib.hid Rd.nil, Lib.hid (fun _ => ⟨rfl, rfl⟩), Lib.hid ⟨Nat.le_refl _, by unfold maxLen; omega, Nat.le_refl _⟩, Lib.hid (Below.refl _ _)⟩
  case round =>
    obtain ⟨k, r, A', c', hk, rfl, rfl, HS, HRR, H0, HC, HB⟩ := hrel
    by_cases hlt : k < n
    · have hx : k < ms.length := by have := HN.out; omega
      obtain ⟨b, off, rfl, hc0, hc1, hc2, hc3⟩ := mb_row (HR.out.below HB.out) k hx
      have HT := Lib.hid (show (ms.take (k + 1)).map Mb.zone = (ms.take k).map Mb.zone ++ [ms[k].zone] by rw [List.take_succ_eq_append_getElem hx, List.map_append]; rfl)
      generalize ms[k].zone = s at hc2 HT
      have hkn : (k : Int) < (n : Int) := by omega
      have hk0 : (0 : Int) ≤ (k : Int) := by omega
      have HX := Lib.hid (put_any A' r.length c' r s wr H0.out HRR.out rfl (by have := HC.out.2.2; omega) HC.out.1 HC.out.2.1 HS.out.1)
      clear hlt
      go_wp2_with fail
      refine HX.out.mono ?_
      rintro e w2 ⟨r2, A2, c2, hp, rfl, hrd, hl1, hl2, hb⟩
      have HP := Lib.hid hp; have HRD := Lib.hid hrd; have HB2 := Lib.hid (then_ HB.out hb); have HCC := Lib.hid (And.intro hl1 hl2)
      clear hp hrd hb hl1 hl2 HX
      go_wp2_with fail
      refine ⟨⟨k + 1, r2, A2, c2, by omega, by go_num, rfl, Lib.hid ⟨HP.out.rises, fun z => ?_⟩, HRD, Lib.hid (fun e => ?_), Lib.hid ⟨HCC.out.1, HCC.out.2, by have := HP.out.len; have := HC.out.2.2; omega⟩, HB2⟩, by simp [intOf]; omega⟩
      · rw [HP.out.mem, HS.out.2, HT.out, List.mem_append, List.mem_singleton]
      · have h := (HP.out.mem s).2 (.inr rfl)
        rw [e] at h; cases h
    · have hkn : (n : Int) ≤ (k : Int) := by omega
      have hfull : ms.take k = ms := List.take_of_length_le (by have := HN.out; omega)
      rw [hfull] at HS
      go_wp2
      go_ret
      exact ⟨r, A', c', ⟨HS.out.1, HS.out.2, by have := HC.out.2.2; omega⟩, rfl, HRR.out, HC.out.1, HC.out.2.1, HB.out⟩
set_option maxRecDepth 100000 in
set_option maxHeartbeats 4000000 in
theorem all_any (n : Nat) (w : World) (hm : n ≤ 1000) :
    Calls Try.prog 45 #[.int .i64 (n : Int)] w (Makes 3 1 n (ints (natI (List.range n))) w) := by
  go_enter Try.func45, Try.ntmps45
  go_wp2_with fail
  go_loopw [3, 4] (fun v i wr => ∃ k : Nat, k ≤ n ∧ i = .int .i64 k ∧ Hid (wr.ownsRow w.heap.size 3 1 v k (ints (natI (List.range k)))) ∧ Hid (Below w.heap.size w wr)) (fun _ i _ => n - (intOf i).toNat)
  case atStart => exact ⟨0, Nat.zero_le _, rfl, Lib.hid (World.ownsRow_nil _ _ _ _), Lib.hid (Below.refl _ _)⟩
  case round =>
    obtain ⟨k, hk, rfl, HO, HB⟩ := hrel
    obtain ⟨Ao, co, rfl⟩ := own_form HO.out
    by_cases hlt : k < n
    · have hkn : (k : Int) < (n : Int) := by omega
      have hk0 : (0 : Int) ≤ (k : Int) := by omega
      have HZ := Lib.hid HB.out.size
      clear hlt
      go_wp2_with (at_builtin; (refine wpList_app el_int (by rfl) (.tmp 10) (.tmp 12) (by rfl) w.heap.size _ k _ (by rfl) (HO.out.alloc _) (some ⟨wr.heap.size, 0, none⟩) 1 1 [.int .i64 (k : Int)] (by rfl) rfl (Rd.new wr #[.int .i64 (k : Int)] _) (by intro u hu; simp at hu; subst hu; rfl) (by unfold maxLen; omega) (by omega) (by have := HZ.out; simp; omega) ?_; intro v1 w4 hown1 hbel1 _ _))
      exact ⟨⟨k + 1, by omega, by go_num, Lib.hid (by rw [List.range_succ, natI_snoc]; exact hown1), Lib.hid ((HB.out.alloc HZ.out _).trans hbel1)⟩, by simp [intOf]; omega⟩
    · obtain rfl : k = n := by omega
      have hkn : (k : Int) ≤ (k : Int) := Int.le_refl _
      go_wp2
      go_ret
      exact ⟨_, rfl, HO.out, HB.out⟩
/-- texts that are the same, each once, are as many -/
theorem len_knl {r xs : List ByteArray} (hr : Pref.Rises r) (h : ∀ z, z ∈ r ↔ z ∈ xs) : r.length = (Pref.knl xs).length := by
  have hn := Pref.rises_nodup hr
  have e1 := cn_inj (xs := xs) (f := fun s => (Pref.idx r s : Int)) (fun a ha b hb e => Pref.idx_inj ((h a).2 ha) ((h b).2 hb) (Int.ofNat.inj e))
  have e2 := cn_inj (xs := r) (f := fun s => (Pref.idx r s : Int)) (fun a ha b hb e => Pref.idx_inj ha hb (Int.ofNat.inj e))
  have e3 : cn [] (xs.map fun s => (Pref.idx r s : Int)) = cn [] (r.map fun s => (Pref.idx r s : Int)) := cn_congr (fun _ => Iff.rfl) fun z _ => by simp only [List.mem_map, h]
  have e4 := cn_all (L := []) (xs := r.map fun s => (Pref.idx r s : Int)) (by
    rw [List.Nodup, List.pairwise_map]
    exact List.Pairwise.imp_of_mem (fun {a b} ha hb hab e => hab (Pref.idx_inj ha hb (Int.ofNat.inj e))) hn) (by simp)
  rw [List.length_map] at e4
  omega
end Go.Proofs.Ytpiinfjcjpdofaa
