/- The reference of plan.Do: what it returns, for every argument. -/
import Derived.Test.YtebfmacbdjnhbaaPlanC
namespace Go.Proofs.Ytebfmacbdjnhbaa
open Go.RowKit Go.Mem
set_option linter.unusedVariables false

set_option maxRecDepth 100000 in
set_option maxHeartbeats 2000000 in
theorem rdo_any (A : Option Addr) (n c : Nat) (ss : List ByteArray) (place : ByteArray) (B : Option Addr) (m d : Nat) (ms : List Ord) (w : World) (hr : Rd w A (ss.map Value.string)) (hn : ss.length = n) (hm : n ≤ 100000)
    (hr' : Rd w B (ms.flatMap Ord.cells)) (hn' : ms.length = m) (hm' : m ≤ 100000) :
    Calls Try.prog 52 #[.slice A n c, .string place, .slice B m d] w (Applies (doL place ss ms) w) := by
  have hl : (ss.map Value.string).length = n * 1 := by simp [hn]
  have HL := Lib.hid hl; have HN := Lib.hid hn; have HN' := Lib.hid hn'; clear hn hn' hl
  go_enter Try.func52, Try.ntmps52
  go_wp2_with (at_builtin; refine wpList_app el_string rfl (.tmp 13) (.tmp 14) rfl w.heap.size _ 0 [] rfl (World.ownsRow_nil _ _ _ _) A n c (ss.map Value.string) rfl HL.out hr (one_strings _) (by unfold maxLen; omega) (by omega) (Nat.le_refl _) ?_; intro v w1 hown hbel _ _)
  rw [Nat.zero_add, List.nil_append, ← HN.out] at hown
  have HO := Lib.hid hown; clear hown
  go_loopw [8, 9] (fun v i wr => ∃ k : Nat, ∃ cur : List ByteArray, k ≤ m ∧ i = .int .i64 k ∧ doL place ss (ms.take k) = some cur ∧ wr.ownsRow w.heap.size 9 1 v cur.length (cur.map Value.string) ∧ Below w.heap.size w wr) (fun _ i _ => m - (intOf i).toNat)
  case atStart => exact ⟨0, ss, Nat.zero_le _, rfl, rfl, HO.out, hbel⟩
  case round =>
    clear HO hbel
    obtain ⟨k, cur, hk, rfl, happ, hown, hbel⟩ := hrel
    have hcl := doL_len happ
    rw [HN.out] at hcl
    have HA := Lib.hid happ; clear happ
    by_cases hlt : k < m
    · have hx : k < ms.length := by have := HN'.out; omega
      have hcl : cur.length ≤ 200000 := by rw [List.length_take] at hcl; omega
      obtain ⟨b, off, rfl, hc0, hc1, hc2⟩ := ord_row (hr'.below hbel) k hx
      have hsn := doL_snoc place ss (ms.take k) ms[k]
      rw [← List.take_succ_eq_append_getElem hx, HA.out, Option.bind_some] at hsn
      have hnone : doL place ss (ms.take (k + 1)) = none → doL place ss ms = none := fun h => by
        have := doL_none place ss _ (ms.drop (k + 1)) h
        rwa [List.take_append_drop] at this
      have HNO := Lib.hid hnone; clear hnone
      generalize ms[k] = mk at hc0 hc1 hc2 hsn
      obtain ⟨xp, xf, xt⟩ := mk
      simp only at hc0 hc1 hc2
      obtain ⟨G, cc, rfl⟩ := own_form hown
      have HO := Lib.hid hown; clear hown
      by_cases hpl : xp = place
      · have hd : (xp.toList == place.toList) = true := by rw [str_beq]; simpa using hpl
        have hsn' : doL place ss (ms.take (k + 1)) = if mayL cur ⟨xp, xf, xt⟩ then some (if xf = ByteArray.empty then cur.filter (fun s => !decide (s = xt)) else cur ++ [xt]) else none := by
          rw [hsn]; unfold stepL; rw [if_pos hpl]
        have HS := Lib.hid hsn'; clear hsn hsn' hpl
        by_cases hfe : xf = ByteArray.empty
        · have hd2 : (xf.toList.isEmpty) = true := by rw [isEmpty_iff]; simpa using hfe
          have hml : mayL cur ⟨xp, xf, xt⟩ = (mem xt cur && cur.any (fun s => !decide (s = xt))) := by simp [mayL, hfe]
          rw [hml] at HS
          have HFE := Lib.hid hfe; clear hfe hml
          obtain ⟨W, hW⟩ : ∃ W, W = wr.alloc (.cells #[.string xp, .string xf, .string xt] 77) := ⟨_, rfl⟩
          have hp2 : W.cell? ⟨wr.heap.size, 2, none⟩ = some (.string xt) := by rw [hW]; simp
          have HOW : Hid (W.ownsRow w.heap.size 9 1 (.slice G cur.length cc) cur.length (cur.map Value.string)) := by rw [hW]; exact HO.out.alloc _
          have hbw : Below w.heap.size w W := by rw [hW]; exact hbel.alloc hbel.size _
          have hrd := Rd.of_own HOW.out
          go_wp2
          rw [← hW]
          clear hW hc0 hc1 hc2 HO hbel
          go_loopw [11, 12] (fun v i wr => ∃ j : Nat, j ≤ cur.length ∧ i = .int .i64 j ∧ wr.ownsRow W.heap.size 9 1 v ((cur.take j).filter (fun s => !decide (s = xt))).length (((cur.take j).filter (fun s => !decide (s = xt))).map Value.string) ∧ Below W.heap.size W wr) (fun _ i _ => cur.length - (intOf i).toNat)
          case atStart => exact ⟨0, Nat.zero_le _, rfl, World.ownsRow_nil _ _ _ _, Below.refl _ _⟩
          case round =>
            obtain ⟨j, hj, rfl, ho, hb⟩ := hrel
            by_cases hlj : j < cur.length
            · obtain ⟨b2, off2, rfl, hcl⟩ := (hrd.below hb).at_ j (by simp; exact hlj)
              simp only [List.getElem_map] at hcl
              have hp2' := cell_below hb hp2
              have hfl : ((cur.take j).filter (fun s => !decide (s = xt))).length ≤ 200000 := Nat.le_trans (List.length_filter_le _ _) (by rw [List.length_take]; omega)
              have hts : (cur.take (j + 1)).filter (fun s => !decide (s = xt)) = (cur.take j).filter (fun s => !decide (s = xt)) ++ (if cur[j] = xt then [] else [cur[j]]) := by
                rw [List.take_succ_eq_append_getElem hlj, List.filter_append]
                congr 1
                by_cases h : cur[j] = xt <;> simp [h]
              generalize cur[j] = t at hcl hts
              have HT := Lib.hid hts; have HOR := Lib.hid ho; clear hts ho
              have hi0 : (0 : Int) ≤ (j : Int) := by omega
              have hi1 : (j : Int) < (cur.length : Int) := by omega
              generalize hF : (cur.take j).filter (fun s => !decide (s = xt)) = F at HT HOR hfl
              clear hF
              by_cases htx : t = xt
              · have hne : (t.toList == xt.toList) = true := by rw [str_beq]; simpa using htx
                have HTX := Lib.hid htx; clear htx
                go_wp2
                go_quiet (fail)
                go_wp2
                go_roundw
                case rel => exact ⟨j + 1, by omega, by go_num, by rw [HT.out]; simpa [HTX.out] using own_drewN HOR.out _, drewN_ hb _⟩
                case measure => simp [intOf]; omega
              · have hne : (t.toList == xt.toList) = false := by rw [str_beq]; simpa using htx
                go_wp2
                go_quiet (fail)
                obtain ⟨wq, hwq⟩ : ∃ wq, wq = wr.drewN nq := ⟨_, rfl⟩
                have HOQ : Hid (wq.ownsRow W.heap.size 9 1 u11 F.length (F.map Value.string)) := by rw [hwq]; exact HOR.out
                have hcq : wq.cell? ⟨b2, off2 + j, none⟩ = some (.string t) := by rw [hwq]; exact hcl
                have hbq : Below W.heap.size W wq := by rw [hwq]; exact drewN_ hb _
                rw [← hwq]
                clear hwq hcl HOR hb hp2'
                go_wp2_with (at_builtin; refine wpList_app el_string rfl (.tmp 62) (.tmp 67) rfl W.heap.size _ _ _ rfl (HOQ.out.alloc _) (some ⟨wq.heap.size, 0, none⟩) 1 1 [.string t] rfl rfl (Rd.new wq #[.string t] _) (by intro u hu; simp at hu; subst hu; rfl) (by unfold maxLen; omega) (by omega) (by have := hbq.size; simp; omega) ?_; intro v3 w3 hown3 hbel3 _ _)
                go_roundw
                case rel => exact ⟨j + 1, by omega, by go_num, by rw [HT.out]; simpa [htx] using hown3, (hbq.alloc hbq.size _).trans hbel3⟩
                case measure => simp [intOf]; omega
            · obtain rfl : j = cur.length := by omega
              rw [List.take_length] at ho
              have hp2' := cell_below hb hp2
              have hrd' := hrd.below hb
              have hbw' := hbw.trans (hb.mono hbw.size)
              obtain ⟨G5, c5, rfl⟩ := own_form ho
              have HOR := Lib.hid ho
              have hany : (cur.any (fun s => !decide (s = xt))) = !decide ((cur.filter (fun s => !decide (s = xt))).length = 0) := by
                rw [Bool.eq_iff_iff]
                simp [List.any_eq_true, List.length_eq_zero_iff, List.filter_eq_nil_iff]
              rw [hany] at HS
              have HSZ := Lib.hid hbw.size
              clear hb ho hany hrd hbw HOW hp2
              generalize hF : cur.filter (fun s => !decide (s = xt)) = F at HS HOR
              clear hF
              go_wp2_with fail
              refine (in50_any G cur.length cc cur xt _ hrd' rfl (by unfold maxLen; omega)).mono ?_
              rintro e w' ⟨rfl, rfl⟩
              clear hrd'
              generalize hmm : mem xt cur = mm at HS
              clear hmm
              cases mm
              · go_wp2
                go_ret2
                exact ⟨hbw', .inr ⟨HNO.out (by rw [HS.out]; simp), rfl⟩⟩
              · by_cases hF0 : F.length = 0
                · have hd0 : ((F.length : Int) == 0) = true := beq_iff_eq.2 (by omega)
                  have HF0 := Lib.hid hF0; clear hF0
                  go_wp2
                  go_ret2
                  exact ⟨hbw', .inr ⟨HNO.out (by rw [HS.out]; simp [HF0.out]), rfl⟩⟩
                · have hd0 : ((F.length : Int) == 0) = false := beq_eq_false_iff_ne.2 (by omega)
                  go_wp2
                  go_roundw
                  case rel => exact ⟨k + 1, F, by omega, by go_num, by rw [HS.out]; simp [HFE.out, hF0], own_mono HOR.out HSZ.out, hbw'⟩
                  case measure => simp [intOf]; omega
        · have hd2 : (xf.toList.isEmpty) = false := by rw [isEmpty_iff]; simpa using hfe
          have hml : mayL cur ⟨xp, xf, xt⟩ = (!mem xt cur && mem xf cur) := by simp [mayL, hfe]
          rw [hml] at HS
          clear hml
          have hrd := (Rd.of_own HO.out).alloc (.cells #[.string xp, .string xf, .string xt] 77)
          go_wp2_with fail
          refine (in50_any G cur.length cc cur xf _ hrd rfl (by unfold maxLen; omega)).mono ?_
          rintro e w' ⟨rfl, rfl⟩
          generalize hmm : mem xf cur = mm at HS
          clear hmm
          cases mm
          · go_wp2
            go_ret2
            exact ⟨hbel.alloc hbel.size _, .inr ⟨HNO.out (by rw [HS.out]; simp), rfl⟩⟩
          · go_wp2_with fail
            refine (in50_any G cur.length cc cur xt _ hrd rfl (by unfold maxLen; omega)).mono ?_
            rintro e w' ⟨rfl, rfl⟩
            clear hrd
            generalize hmm : mem xt cur = mm at HS
            clear hmm
            cases mm
            · go_wp2_with (at_builtin; refine wpList_app el_string rfl (.tmp 44) (.tmp 47) rfl w.heap.size (.slice G cur.length cc) _ _ rfl ((HO.out.alloc _).alloc _) (some ⟨wr.heap.size + 1, 0, none⟩) 1 1 [.string xt] rfl rfl (by exact rd_new (wr.alloc _) #[.string xt] _ _ (by simp) rfl) (by intro u hu; simp at hu; subst hu; rfl) (by unfold maxLen; omega) (by omega) (by have := hbel.size; simp; omega) ?_; intro v3 w3 hown3 hbel3 _ _)
              go_roundw
              case rel => exact ⟨k + 1, cur ++ [xt], by omega, by go_num, by rw [HS.out]; simp [hfe], by simpa using hown3, ((hbel.alloc hbel.size _).alloc (by have := hbel.size; simp; omega) _).trans hbel3⟩
              case measure => simp [intOf]; omega
            · go_wp2
              go_ret2
              exact ⟨hbel.alloc hbel.size _, .inr ⟨HNO.out (by rw [HS.out]; simp), rfl⟩⟩
      · have hd : (xp.toList == place.toList) = false := by rw [str_beq]; simpa using hpl
        have hsn' : doL place ss (ms.take (k + 1)) = some cur := by rw [hsn]; unfold stepL; rw [if_neg hpl]
        have HS := Lib.hid hsn'; clear hsn hsn' hpl
        go_wp2
        go_roundw
        case rel => exact ⟨k + 1, cur, by omega, by go_num, HS.out, HO.out.alloc _, hbel.alloc hbel.size _⟩
        case measure => simp [intOf]; omega
    · obtain rfl : k = m := by omega
      go_wp2
      go_ret2
      have ha := HA.out
      rw [← HN'.out, List.take_length] at ha
      exact ⟨hbel, .inl ⟨cur, _, ha, rfl, hown⟩⟩

end Go.Proofs.Ytebfmacbdjnhbaa
