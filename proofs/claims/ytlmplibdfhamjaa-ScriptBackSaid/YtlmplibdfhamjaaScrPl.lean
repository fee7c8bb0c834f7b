/- The law's 'plain': where it says yes, events may be told as bytes just as they are. -/
import Derived.Test.YtlmplibdfhamjaaScrPa
import Derived.Test.YtlmplibdfhamjaaScrY
attribute [local go_sem ↓] Go.wp_at_zero Go.wp_at_succ
namespace Go.Proofs.Ytlmplibdfhamjaa
open Go.RowKit Go.Mem Go.Num
set_option linter.unusedVariables false
set_option linter.unusedSimpArgs false

theorem ba_nil {s : ByteArray} (h : s.toList = []) : s = ⟨#[]⟩ := toList_inj (by rw [h]; simp [ByteArray.toList_eq])
theorem adm_zero {ak an : Int} {at_ ab af ax mn mr mz : ByteArray} {mu : Bool} (h0 : ak = 0) (h1 : at_.toList = []) (h2 : ab.toList = []) (h3 : af.toList = []) (h4 : ax.toList = []) (h5 : an = 0) (h6 : mn.toList = []) (h7 : mr.toList = []) (h8 : mz.toList = []) (h9 : ¬ mu = true) : (⟨ak, at_, ab, af, ax, an, ⟨mn, mr, mz, mu⟩⟩ : Adm) = zAdm := by
  rw [h0, ba_nil h1, ba_nil h2, ba_nil h3, ba_nil h4, h5, ba_nil h6, ba_nil h7, ba_nil h8, Bool.eq_false_iff.2 h9]; rfl
theorem stored_row {w w' : World} {g : Nat} {Z q : Array Value} {T : TypeId} (hg : w.heap[g]? = some (.cells Z T (0, 0))) (hz : Z.size = q.size) (h : Hid (w' = w.setCells g 0 q.toList)) : w'.heap[g]? = some (.cells q T (0, 0)) := by
  rw [h.out, setCells_row T g _ 0 w Z hg, setL_all _ _ (by simpa using hz)]
set_option maxRecDepth 100000 in
set_option maxHeartbeats 8000000 in
theorem plain_any (x : Evs) (w : World) (hok : x.ok w) : Calls Try.prog 18 #[x.v] w (FewP (∀ y ∈ x.l, plainE y) w) := by
  obtain ⟨A, n, c, l⟩ := x
  have HOK := Lib.hid hok
  obtain ⟨hr, hn, hm, hall⟩ := hok
  simp only at hr hn hm hall
  have HN := Lib.hid hn; have HR := Lib.hid hr; clear hn hall hr
  unfold maxLen at hm
  simp only [Evs.v]
  go_enter Try.func18, Try.ntmps18
  go_wp2
  go_loopw [3] (fun i wr => ∃ k : Nat, k ≤ n ∧ i = .int .i64 k ∧ Hid (Below w.heap.size w wr) ∧ Hid (∀ s ∈ l.take k, plainE s)) (fun i _ => n - (intOf i).toNat)
  case atStart => exact ⟨0, Nat.zero_le _, rfl, Lib.hid (Below.refl _ _), Lib.hid (by simp)⟩
  case round =>
    obtain ⟨k, hk, rfl, HBEL, HA⟩ := hrel
    by_cases hlt : k < n
    · have hx : k < l.length := by have := HN.out; omega
      obtain ⟨b, off, rfl, hrg⟩ := row_ev.at_ (HR.out.below HBEL.out) k hx
      have hs := (HOK.out.all l[k] (List.getElem_mem hx)).below HBEL.out
      have HT := Lib.hid (fun s => mem_take_succC l k hx s)
      generalize l[k] = s at hrg hs HT
      obtain ⟨kd, nd, tn, ln, en, ⟨ck, ct, cb, cy, cv, ⟨cA, cn, cc, cl⟩, ctm⟩, ⟨ak, at_, ab, af, ax, an, ⟨mn, mr, mz, mu⟩⟩⟩ := s
      have HCO := Lib.hid (fun (W : World) (hW : Below wr.heap.size wr W) => hs.2.2.2.2.2.1.below hW)
      have HPE : Hid ((0 ≤ kd ∧ kd ≤ 255) → (0 ≤ ck ∧ ck ≤ 255) → (0 ≤ ak ∧ ak ≤ 255) → (kd ≠ 1 → zeroC ⟨ck, ct, cb, cy, cv, ⟨cA, cn, cc, cl⟩, ctm⟩) → (kd ≠ 14 → (⟨ak, at_, ab, af, ax, an, ⟨mn, mr, mz, mu⟩⟩ : Adm) = zAdm) → plainE ⟨kd, nd, tn, ln, en, ⟨ck, ct, cb, cy, cv, ⟨cA, cn, cc, cl⟩, ctm⟩, ⟨ak, at_, ab, af, ax, an, ⟨mn, mr, mz, mu⟩⟩⟩) := Lib.hid fun a b c d e => ⟨a, b, c, d, e⟩
      obtain ⟨q, hq⟩ : ∃ q : Array Value, (#[.int .i64 kd, .string nd, .string tn, .string ln, .int .i64 en, .int .i64 ck, .string ct, .string cb, .string cy, .string cv, .slice cA cn cc, .int .i64 ctm, .int .i64 ak, .string at_, .string ab, .string af, .string ax, .int .i64 an, .string mn, .string mr, .string mz, .bool mu] : Array Value) = q := ⟨_, rfl⟩
      have hrq : wr.rangeAt b (off + k * 22) q.toList := by rw [← hq]; exact hrg
      have HI : Hid ((Try.prog.info? 89).map (·.size) = some q.size) := Lib.hid (by rw [← hq]; exact row_ev.hi)
      have H1 : Hid (∀ u ∈ q.toList, u.oneCell' = true) := Lib.hid (by rw [← hq]; intro u hu; simp only [List.mem_cons, List.not_mem_nil, or_false] at hu; rcases hu with rfl | rfl | rfl | rfl | rfl | rfl | rfl | rfl | rfl | rfl | rfl | rfl | rfl | rfl | rfl | rfl | rfl | rfl | rfl | rfl | rfl | rfl <;> rfl)
      have HZ : Hid ((#[.int .i64 0, .string ⟨#[]⟩, .string ⟨#[]⟩, .string ⟨#[]⟩, .int .i64 0, .int .i64 0, .string ⟨#[]⟩, .string ⟨#[]⟩, .string ⟨#[]⟩, .string ⟨#[]⟩, .slice none 0 0, .int .i64 0, .int .i64 0, .string ⟨#[]⟩, .string ⟨#[]⟩, .string ⟨#[]⟩, .string ⟨#[]⟩, .int .i64 0, .string ⟨#[]⟩, .string ⟨#[]⟩, .string ⟨#[]⟩, .bool false] : Array Value).size = q.size) := Lib.hid (by rw [← hq]; rfl)
      have HRQ := Lib.hid hrq; have HQ := Lib.hid hq
      clear hrg hrq hq hs
      go_upto_region 5 with (first | (refine wpList_load_arr (by rfl) _ (by rfl) b (off + k * 22) (by rfl) q HRQ.out row_ev.d HI.out ?_) | (refine wpList_store_hid (by rfl) _ _ (by rfl) wr.heap.size 0 (#[.int .i64 0, .string ⟨#[]⟩, .string ⟨#[]⟩, .string ⟨#[]⟩, .int .i64 0, .int .i64 0, .string ⟨#[]⟩, .string ⟨#[]⟩, .string ⟨#[]⟩, .string ⟨#[]⟩, .slice none 0 0, .int .i64 0, .int .i64 0, .string ⟨#[]⟩, .string ⟨#[]⟩, .string ⟨#[]⟩, .string ⟨#[]⟩, .int .i64 0, .string ⟨#[]⟩, .string ⟨#[]⟩, .string ⟨#[]⟩, .bool false]) q 89 (by rfl) (by rfl) (heap_alloc_new wr _) (by rw [HZ.out]; omega) HI.out H1.out ?_; intro w2 hw2; have y0 : w2.cell? ⟨wr.heap.size, 0, none⟩ = some (.int .i64 kd) := (by rw [cell_of_row _ _ _ _ _ _ (stored_row (heap_alloc_new wr _) HZ.out hw2), ← HQ.out]; rfl); have y5 : w2.cell? ⟨wr.heap.size, 5, none⟩ = some (.int .i64 ck) := (by rw [cell_of_row _ _ _ _ _ _ (stored_row (heap_alloc_new wr _) HZ.out hw2), ← HQ.out]; rfl); have y6 : w2.cell? ⟨wr.heap.size, 6, none⟩ = some (.string ct) := (by rw [cell_of_row _ _ _ _ _ _ (stored_row (heap_alloc_new wr _) HZ.out hw2), ← HQ.out]; rfl); have y7 : w2.cell? ⟨wr.heap.size, 7, none⟩ = some (.string cb) := (by rw [cell_of_row _ _ _ _ _ _ (stored_row (heap_alloc_new wr _) HZ.out hw2), ← HQ.out]; rfl); have y8 : w2.cell? ⟨wr.heap.size, 8, none⟩ = some (.string cy) := (by rw [cell_of_row _ _ _ _ _ _ (stored_row (heap_alloc_new wr _) HZ.out hw2), ← HQ.out]; rfl); have y9 : w2.cell? ⟨wr.heap.size, 9, none⟩ = some (.string cv) := (by rw [cell_of_row _ _ _ _ _ _ (stored_row (heap_alloc_new wr _) HZ.out hw2), ← HQ.out]; rfl); have y10 : w2.cell? ⟨wr.heap.size, 10, none⟩ = some (.slice cA cn cc) := (by rw [cell_of_row _ _ _ _ _ _ (stored_row (heap_alloc_new wr _) HZ.out hw2), ← HQ.out]; rfl); have y11 : w2.cell? ⟨wr.heap.size, 11, none⟩ = some (.int .i64 ctm) := (by rw [cell_of_row _ _ _ _ _ _ (stored_row (heap_alloc_new wr _) HZ.out hw2), ← HQ.out]; rfl); have y12 : w2.cell? ⟨wr.heap.size, 12, none⟩ = some (.int .i64 ak) := (by rw [cell_of_row _ _ _ _ _ _ (stored_row (heap_alloc_new wr _) HZ.out hw2), ← HQ.out]; rfl); have y13 : w2.cell? ⟨wr.heap.size, 13, none⟩ = some (.string at_) := (by rw [cell_of_row _ _ _ _ _ _ (stored_row (heap_alloc_new wr _) HZ.out hw2), ← HQ.out]; rfl); have y14 : w2.cell? ⟨wr.heap.size, 14, none⟩ = some (.string ab) := (by rw [cell_of_row _ _ _ _ _ _ (stored_row (heap_alloc_new wr _) HZ.out hw2), ← HQ.out]; rfl); have y15 : w2.cell? ⟨wr.heap.size, 15, none⟩ = some (.string af) := (by rw [cell_of_row _ _ _ _ _ _ (stored_row (heap_alloc_new wr _) HZ.out hw2), ← HQ.out]; rfl); have y16 : w2.cell? ⟨wr.heap.size, 16, none⟩ = some (.string ax) := (by rw [cell_of_row _ _ _ _ _ _ (stored_row (heap_alloc_new wr _) HZ.out hw2), ← HQ.out]; rfl); have y17 : w2.cell? ⟨wr.heap.size, 17, none⟩ = some (.int .i64 an) := (by rw [cell_of_row _ _ _ _ _ _ (stored_row (heap_alloc_new wr _) HZ.out hw2), ← HQ.out]; rfl); have y18 : w2.cell? ⟨wr.heap.size, 18, none⟩ = some (.string mn) := (by rw [cell_of_row _ _ _ _ _ _ (stored_row (heap_alloc_new wr _) HZ.out hw2), ← HQ.out]; rfl); have y19 : w2.cell? ⟨wr.heap.size, 19, none⟩ = some (.string mr) := (by rw [cell_of_row _ _ _ _ _ _ (stored_row (heap_alloc_new wr _) HZ.out hw2), ← HQ.out]; rfl); have y20 : w2.cell? ⟨wr.heap.size, 20, none⟩ = some (.string mz) := (by rw [cell_of_row _ _ _ _ _ _ (stored_row (heap_alloc_new wr _) HZ.out hw2), ← HQ.out]; rfl); have y21 : w2.cell? ⟨wr.heap.size, 21, none⟩ = some (.bool mu) := (by rw [cell_of_row _ _ _ _ _ _ (stored_row (heap_alloc_new wr _) HZ.out hw2), ← HQ.out]; rfl)))
      have hb2 := stored_below hw2
      have HB2 := Lib.hid (then_ HBEL.out hb2); have HB3 := Lib.hid hb2
      clear hw2 hb2 HRQ HQ HI H1 HZ HBEL
      have Y0 := Lib.hid y0
      have Y5 := Lib.hid y5
      have Y6 := Lib.hid y6
      have Y7 := Lib.hid y7
      have Y8 := Lib.hid y8
      have Y9 := Lib.hid y9
      have Y10 := Lib.hid y10
      have Y11 := Lib.hid y11
      have Y12 := Lib.hid y12
      have Y13 := Lib.hid y13
      have Y14 := Lib.hid y14
      have Y15 := Lib.hid y15
      have Y16 := Lib.hid y16
      have Y17 := Lib.hid y17
      have Y18 := Lib.hid y18
      have Y19 := Lib.hid y19
      have Y20 := Lib.hid y20
      have Y21 := Lib.hid y21
      clear y6 y7 y8 y9 y10 y11 y13 y14 y15 y16 y17 y18 y19 y20 y21
      by_cases b0 : kd < 0
      · have d0 : decide (kd < 0) = true := by simpa using b0
        clear b0
        go_wp2
        go_ret
        exact ⟨false, by simp, rfl, HB2.out⟩
      have d0 : decide (kd < 0) = false := by simpa using b0
      have B0 := Lib.hid b0; clear b0
      by_cases b1 : (255 : Int) < kd
      · have d1 : decide ((255 : Int) < kd) = true := by simpa using b1
        clear b1
        go_wp2
        go_ret
        exact ⟨false, by simp, rfl, HB2.out⟩
      have d1 : decide ((255 : Int) < kd) = false := by simpa using b1
      have B1 := Lib.hid b1; clear b1
      by_cases b2 : ck < 0
      · have d2 : decide (ck < 0) = true := by simpa using b2
        clear b2
        go_wp2
        go_ret
        exact ⟨false, by simp, rfl, HB2.out⟩
      have d2 : decide (ck < 0) = false := by simpa using b2
      have B2 := Lib.hid b2; clear b2
      by_cases b3 : (255 : Int) < ck
      · have d3 : decide ((255 : Int) < ck) = true := by simpa using b3
        clear b3
        go_wp2
        go_ret
        exact ⟨false, by simp, rfl, HB2.out⟩
      have d3 : decide ((255 : Int) < ck) = false := by simpa using b3
      have B3 := Lib.hid b3; clear b3
      by_cases b4 : ak < 0
      · have d4 : decide (ak < 0) = true := by simpa using b4
        clear b4
        go_wp2
        go_ret
        exact ⟨false, by simp, rfl, HB2.out⟩
      have d4 : decide (ak < 0) = false := by simpa using b4
      have B4 := Lib.hid b4; clear b4
      by_cases b5 : (255 : Int) < ak
      · have d5 : decide ((255 : Int) < ak) = true := by simpa using b5
        clear b5
        go_wp2
        go_ret
        exact ⟨false, by simp, rfl, HB2.out⟩
      have d5 : decide ((255 : Int) < ak) = false := by simpa using b5
      have B5 := Lib.hid b5; clear b5
      go_upto_region 7 with fail
      clear d0 d1 d2 d3 d4 d5 y5 y12
      have HPF : Hid ((kd ≠ 1 → zeroC ⟨ck, ct, cb, cy, cv, ⟨cA, cn, cc, cl⟩, ctm⟩) → (kd ≠ 14 → (⟨ak, at_, ab, af, ax, an, ⟨mn, mr, mz, mu⟩⟩ : Adm) = zAdm) → ∀ y ∈ l.take (k + 1), plainE y) := Lib.hid fun h1 h2 y hy => by
        rcases (HT.out y).1 hy with h | rfl
        · exact HA.out y h
        · exact HPE.out ⟨by have := B0.out; omega, by have := B1.out; omega⟩ ⟨by have := B2.out; omega, by have := B3.out; omega⟩ ⟨by have := B4.out; omega, by have := B5.out; omega⟩ h1 h2
      clear HT HPE HA B0 B1 B2 B3 B4 B5
      by_cases hk1 : kd = 1
      · have t1 : (kd != 1) = false := by simp [hk1]
        have t14 : (kd != 14) = true := by simp [hk1]
        have HK1 := Lib.hid hk1; clear hk1
        have y12 := Y12.out
        have y13 := Y13.out
        have y14 := Y14.out
        have y15 := Y15.out
        have y16 := Y16.out
        have y17 := Y17.out
        have y18 := Y18.out
        have y19 := Y19.out
        have y20 := Y20.out
        have y21 := Y21.out
        go_wp2
        all_goals first
          | (go_ret; exact ⟨false, by simp, rfl, HB2.out⟩)
          | (have hz := adm_zero ‹ak = 0› ‹at_.toList = []› ‹ab.toList = []› ‹af.toList = []› ‹ax.toList = []› ‹an = 0› ‹mn.toList = []› ‹mr.toList = []› ‹mz.toList = []› ‹¬mu = true›
             refine ⟨⟨k + 1, by omega, by go_num, Lib.hid (HB2.out), Lib.hid (HPF.out (fun h => absurd HK1.out h) (fun _ => hz))⟩, by simp [intOf]; omega⟩)
      have t1 : (kd != 1) = true := by simp [hk1]
      have HK1 := Lib.hid hk1; clear hk1
      have y5 := Y5.out
      have y6 := Y6.out
      have y7 := Y7.out
      have y8 := Y8.out
      have y9 := Y9.out
      have y10 := Y10.out
      have y11 := Y11.out
      have HSZ := Lib.hid (sameZ_any w2.heap.size (w2.heap.size + 1) ⟨ck, ct, cb, cy, cv, ⟨cA, cn, cc, cl⟩, ctm⟩ ((w2.alloc (.cells #[.int .i64 ck, .string ct, .string cb, .string cy, .string cv, .slice cA cn cc, .int .i64 ctm] 85)).alloc (.cells #[.int .i64 0, .string ⟨#[]⟩, .string ⟨#[]⟩, .string ⟨#[]⟩, .string ⟨#[]⟩, .slice none 0 0, .int .i64 0] 85)) (heap_alloc2_old w2 _ _) (heap_alloc2_new w2 _ _) (HCO.out _ ((HB3.out.alloc HB3.out.size _).alloc (by have := HB3.out.size; simp; omega) _)))
      have HB5 := Lib.hid ((HB2.out.alloc HB2.out.size (.cells #[.int .i64 ck, .string ct, .string cb, .string cy, .string cv, .slice cA cn cc, .int .i64 ctm] 85)).alloc (by have := HB2.out.size; simp; omega) (.cells #[.int .i64 0, .string ⟨#[]⟩, .string ⟨#[]⟩, .string ⟨#[]⟩, .string ⟨#[]⟩, .slice none 0 0, .int .i64 0] 85))
      have Z0 := Lib.hid (cell_below (show Below w2.heap.size w2 ((w2.alloc (.cells #[.int .i64 ck, .string ct, .string cb, .string cy, .string cv, .slice cA cn cc, .int .i64 ctm] 85)).alloc (.cells #[.int .i64 0, .string ⟨#[]⟩, .string ⟨#[]⟩, .string ⟨#[]⟩, .string ⟨#[]⟩, .slice none 0 0, .int .i64 0] 85)) from ((Below.refl _ _).alloc (Nat.le_refl _) _).alloc (by simp) _) Y0.out)
      have Z12 := Lib.hid (cell_below (show Below w2.heap.size w2 ((w2.alloc (.cells #[.int .i64 ck, .string ct, .string cb, .string cy, .string cv, .slice cA cn cc, .int .i64 ctm] 85)).alloc (.cells #[.int .i64 0, .string ⟨#[]⟩, .string ⟨#[]⟩, .string ⟨#[]⟩, .string ⟨#[]⟩, .slice none 0 0, .int .i64 0] 85)) from ((Below.refl _ _).alloc (Nat.le_refl _) _).alloc (by simp) _) Y12.out)
      have Z13 := Lib.hid (cell_below (show Below w2.heap.size w2 ((w2.alloc (.cells #[.int .i64 ck, .string ct, .string cb, .string cy, .string cv, .slice cA cn cc, .int .i64 ctm] 85)).alloc (.cells #[.int .i64 0, .string ⟨#[]⟩, .string ⟨#[]⟩, .string ⟨#[]⟩, .string ⟨#[]⟩, .slice none 0 0, .int .i64 0] 85)) from ((Below.refl _ _).alloc (Nat.le_refl _) _).alloc (by simp) _) Y13.out)
      have Z14 := Lib.hid (cell_below (show Below w2.heap.size w2 ((w2.alloc (.cells #[.int .i64 ck, .string ct, .string cb, .string cy, .string cv, .slice cA cn cc, .int .i64 ctm] 85)).alloc (.cells #[.int .i64 0, .string ⟨#[]⟩, .string ⟨#[]⟩, .string ⟨#[]⟩, .string ⟨#[]⟩, .slice none 0 0, .int .i64 0] 85)) from ((Below.refl _ _).alloc (Nat.le_refl _) _).alloc (by simp) _) Y14.out)
      have Z15 := Lib.hid (cell_below (show Below w2.heap.size w2 ((w2.alloc (.cells #[.int .i64 ck, .string ct, .string cb, .string cy, .string cv, .slice cA cn cc, .int .i64 ctm] 85)).alloc (.cells #[.int .i64 0, .string ⟨#[]⟩, .string ⟨#[]⟩, .string ⟨#[]⟩, .string ⟨#[]⟩, .slice none 0 0, .int .i64 0] 85)) from ((Below.refl _ _).alloc (Nat.le_refl _) _).alloc (by simp) _) Y15.out)
      have Z16 := Lib.hid (cell_below (show Below w2.heap.size w2 ((w2.alloc (.cells #[.int .i64 ck, .string ct, .string cb, .string cy, .string cv, .slice cA cn cc, .int .i64 ctm] 85)).alloc (.cells #[.int .i64 0, .string ⟨#[]⟩, .string ⟨#[]⟩, .string ⟨#[]⟩, .string ⟨#[]⟩, .slice none 0 0, .int .i64 0] 85)) from ((Below.refl _ _).alloc (Nat.le_refl _) _).alloc (by simp) _) Y16.out)
      have Z17 := Lib.hid (cell_below (show Below w2.heap.size w2 ((w2.alloc (.cells #[.int .i64 ck, .string ct, .string cb, .string cy, .string cv, .slice cA cn cc, .int .i64 ctm] 85)).alloc (.cells #[.int .i64 0, .string ⟨#[]⟩, .string ⟨#[]⟩, .string ⟨#[]⟩, .string ⟨#[]⟩, .slice none 0 0, .int .i64 0] 85)) from ((Below.refl _ _).alloc (Nat.le_refl _) _).alloc (by simp) _) Y17.out)
      have Z18 := Lib.hid (cell_below (show Below w2.heap.size w2 ((w2.alloc (.cells #[.int .i64 ck, .string ct, .string cb, .string cy, .string cv, .slice cA cn cc, .int .i64 ctm] 85)).alloc (.cells #[.int .i64 0, .string ⟨#[]⟩, .string ⟨#[]⟩, .string ⟨#[]⟩, .string ⟨#[]⟩, .slice none 0 0, .int .i64 0] 85)) from ((Below.refl _ _).alloc (Nat.le_refl _) _).alloc (by simp) _) Y18.out)
      have Z19 := Lib.hid (cell_below (show Below w2.heap.size w2 ((w2.alloc (.cells #[.int .i64 ck, .string ct, .string cb, .string cy, .string cv, .slice cA cn cc, .int .i64 ctm] 85)).alloc (.cells #[.int .i64 0, .string ⟨#[]⟩, .string ⟨#[]⟩, .string ⟨#[]⟩, .string ⟨#[]⟩, .slice none 0 0, .int .i64 0] 85)) from ((Below.refl _ _).alloc (Nat.le_refl _) _).alloc (by simp) _) Y19.out)
      have Z20 := Lib.hid (cell_below (show Below w2.heap.size w2 ((w2.alloc (.cells #[.int .i64 ck, .string ct, .string cb, .string cy, .string cv, .slice cA cn cc, .int .i64 ctm] 85)).alloc (.cells #[.int .i64 0, .string ⟨#[]⟩, .string ⟨#[]⟩, .string ⟨#[]⟩, .string ⟨#[]⟩, .slice none 0 0, .int .i64 0] 85)) from ((Below.refl _ _).alloc (Nat.le_refl _) _).alloc (by simp) _) Y20.out)
      have Z21 := Lib.hid (cell_below (show Below w2.heap.size w2 ((w2.alloc (.cells #[.int .i64 ck, .string ct, .string cb, .string cy, .string cv, .slice cA cn cc, .int .i64 ctm] 85)).alloc (.cells #[.int .i64 0, .string ⟨#[]⟩, .string ⟨#[]⟩, .string ⟨#[]⟩, .string ⟨#[]⟩, .slice none 0 0, .int .i64 0] 85)) from ((Below.refl _ _).alloc (Nat.le_refl _) _).alloc (by simp) _) Y21.out)
      go_wp2_with fail
      generalize ((w2.alloc (.cells #[.int .i64 ck, .string ct, .string cb, .string cy, .string cv, .slice cA cn cc, .int .i64 ctm] 85)).alloc (.cells #[.int .i64 0, .string ⟨#[]⟩, .string ⟨#[]⟩, .string ⟨#[]⟩, .string ⟨#[]⟩, .slice none 0 0, .int .i64 0] 85)) = W5 at HSZ HB5 Z0 Z12 Z13 Z14 Z15 Z16 Z17 Z18 Z19 Z20 Z21 ⊢
      refine HSZ.out.mono ?_
      clear y0 y5 y6 y7 y8 y9 y10 y11
      rintro e w6 ⟨bz, hp, rfl, hb6⟩
      have HP := Lib.hid hp; clear hp
      have HB6 := Lib.hid (then_ HB5.out hb6)
      have Z0 := Lib.hid (cell_below hb6 Z0.out)
      have Z12 := Lib.hid (cell_below hb6 Z12.out)
      have Z13 := Lib.hid (cell_below hb6 Z13.out)
      have Z14 := Lib.hid (cell_below hb6 Z14.out)
      have Z15 := Lib.hid (cell_below hb6 Z15.out)
      have Z16 := Lib.hid (cell_below hb6 Z16.out)
      have Z17 := Lib.hid (cell_below hb6 Z17.out)
      have Z18 := Lib.hid (cell_below hb6 Z18.out)
      have Z19 := Lib.hid (cell_below hb6 Z19.out)
      have Z20 := Lib.hid (cell_below hb6 Z20.out)
      have Z21 := Lib.hid (cell_below hb6 Z21.out)
      clear hb6
      cases bz
      · go_wp2
        go_ret
        exact ⟨false, by simp, rfl, HB6.out⟩
      have HZC := Lib.hid (HP.out rfl); clear HP
      have y0 := Z0.out
      by_cases hk2 : kd = 14
      · have t14 : (kd != 14) = false := by simp [hk2]
        have HK2 := Lib.hid hk2; clear hk2
        go_wp2
        refine ⟨⟨k + 1, by omega, by go_num, Lib.hid (HB6.out), Lib.hid (HPF.out (fun _ => HZC.out) (fun h => absurd HK2.out h))⟩, by simp [intOf]; omega⟩
      have t14 : (kd != 14) = true := by simp [hk2]
      clear hk2
      have y12 := Z12.out
      have y13 := Z13.out
      have y14 := Z14.out
      have y15 := Z15.out
      have y16 := Z16.out
      have y17 := Z17.out
      have y18 := Z18.out
      have y19 := Z19.out
      have y20 := Z20.out
      have y21 := Z21.out
      go_wp2
      all_goals first
        | (go_ret; exact ⟨false, by simp, rfl, HB6.out⟩)
        | (have hz := adm_zero ‹ak = 0› ‹at_.toList = []› ‹ab.toList = []› ‹af.toList = []› ‹ax.toList = []› ‹an = 0› ‹mn.toList = []› ‹mr.toList = []› ‹mz.toList = []› ‹¬mu = true›
           refine ⟨⟨k + 1, by omega, by go_num, Lib.hid (HB6.out), Lib.hid (HPF.out (fun _ => HZC.out) (fun _ => hz))⟩, by simp [intOf]; omega⟩)
    · obtain rfl : k = n := by omega
      have HF : Hid (∀ y ∈ l, plainE y) := Lib.hid (by have := HA.out; rwa [List.take_of_length_le (by rw [HN.out]; omega)] at this)
      go_wp2
      go_ret
      exact ⟨true, fun _ => HF.out, rfl, HBEL.out⟩
end Go.Proofs.Ytlmplibdfhamjaa
