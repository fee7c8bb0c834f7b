/- The references of the package move, second part: Few, Same, Apply, Moved. -/
import Derived.Test.YtebfmacbdjnhbaaMoveC
namespace Go.Proofs.Ytebfmacbdjnhbaa
open Go.RowKit Go.Mem
set_option linter.unusedVariables false

/-- an answer that says, if it is yes, that there are few -/
def SaysFew (n q : Nat) (w : World) (e : Ending) (w' : World) : Prop := ∃ b : Bool, (b = true → n ≤ q) ∧ e = .returned (.bool b) ∧ w = w'

set_option maxRecDepth 100000 in
set_option maxHeartbeats 1000000 in
theorem few20_any (B : Option Addr) (m d : Nat) (ms : List Mv) (w : World) (hr : Rd w B (ms.flatMap Mv.cells)) (hn : ms.length = m) (hm : m ≤ maxLen) :
    Calls Try.prog 26 #[.slice B m d] w (SaysFew m 20 w) := by
  unfold maxLen at hm
  have HN := Lib.hid hn; clear hn
  go_enter Try.func26, Try.ntmps26
  go_wp2
  go_loop [3] (fun i => ∃ k : Nat, k ≤ m ∧ k ≤ 20 ∧ i = .int .i64 k) (fun i => m - (intOf i).toNat)
  case atStart => exact ⟨0, Nat.zero_le _, by omega, rfl⟩
  case round =>
    obtain ⟨k, hk, hk20, rfl⟩ := hrel
    by_cases hlt : k < m
    · by_cases hlt2 : k < 20
      · have hx : k < ms.length := by have := HN.out; omega
        obtain ⟨b, off, rfl, hc0, hc1, hc2⟩ := mv_row hr k hx
        generalize ms[k] = mk at hc0 hc1 hc2
        obtain ⟨part, was, now⟩ := mk
        simp only at hc0 hc1 hc2
        by_cases h1 : 100 < was.size
        · go_wp2
          go_ret
          exact ⟨false, by simp, rfl, rfl⟩
        by_cases h2 : 100 < now.size
        · go_wp2
          go_ret
          exact ⟨false, by simp, rfl, rfl⟩
        go_wp2
        go_round
        case rel => exact ⟨k + 1, by omega, by omega, by go_num⟩
        case measure => simp [intOf]; omega
      · go_wp2
        go_ret
        exact ⟨_, fun h => by simp at h; omega, rfl, rfl⟩
    · go_wp2
      go_ret
      exact ⟨_, fun h => by simp at h; omega, rfl, rfl⟩

set_option maxRecDepth 100000 in
set_option maxHeartbeats 1000000 in
theorem same20_any (A : Option Addr) (n c : Nat) (ss : List Mv) (B : Option Addr) (m d : Nat) (ts : List Mv) (w : World) (hr : Rd w A (ss.flatMap Mv.cells)) (hn : ss.length = n) (hm : n ≤ 1000000)
    (hr' : Rd w B (ts.flatMap Mv.cells)) (hn' : ts.length = m) (hm' : m ≤ 1000000) (hss : ss = ts) :
    Calls Try.prog 30 #[.slice A n c, .slice B m d] w fun e w' => e = .returned (.bool true) ∧ Below w.heap.size w w' := by
  subst hss
  obtain rfl : n = m := by omega
  have HN := Lib.hid hn; clear hn hn' hm'
  go_enter Try.func30, Try.ntmps30
  go_wp2
  go_loopw [5] (fun i wr => ∃ k : Nat, k ≤ n ∧ i = .int .i64 k ∧ Below w.heap.size w wr) (fun i _ => n - (intOf i).toNat)
  case atStart => exact ⟨0, Nat.zero_le _, rfl, Below.refl _ _⟩
  case round =>
    obtain ⟨k, hk, rfl, hbel⟩ := hrel
    by_cases hlt : k < n
    · have hx : k < ss.length := by have := HN.out; omega
      obtain ⟨b, off, rfl, hc0, hc1, hc2⟩ := mv_row (hr.below hbel) k hx
      obtain ⟨b', off', rfl, hd0, hd1, hd2⟩ := mv_row (hr'.below hbel) k hx
      have hd : decide ((k : Int) < (n : Int)) = true := by simp; omega
      have hi0 : (0 : Int) ≤ (k : Int) := by omega
      generalize ss[k] = mk at hc0 hc1 hc2 hd0 hd1 hd2
      obtain ⟨part, was, now⟩ := mk
      simp only at hc0 hc1 hc2 hd0 hd1 hd2
      go_wp2
      go_quiet (fail)
      go_wp2
      go_roundw
      case rel => exact ⟨k + 1, by omega, by go_num, drewN_ hbel _⟩
      case measure => simp [intOf]; omega
    · obtain rfl : k = n := by omega
      have hd : decide ((k : Int) < (k : Int)) = false := by simp
      go_wp2
      go_ret
      exact ⟨rfl, hbel⟩

/-- how many places are not the same -/
def movedTo (a b : List ByteArray) (k : Nat) : Nat := (planTo a b k).length

set_option maxRecDepth 100000 in
set_option maxHeartbeats 1000000 in
theorem moved_any (A : Option Addr) (n c : Nat) (ss : List ByteArray) (B : Option Addr) (d : Nat) (ts : List ByteArray) (w : World) (hr : Rd w A (ss.map Value.string)) (hn : ss.length = n) (hm : n ≤ 1000000)
    (hr' : Rd w B (ts.map Value.string)) (hn' : ts.length = n) :
    Calls Try.prog 38 #[.slice A n c, .slice B n d] w fun e w' => e = .returned (.int .i64 (movedTo ss ts n : Nat)) ∧ Below w.heap.size w w' := by
  have HN := Lib.hid hn; have HN' := Lib.hid hn'; clear hn hn'
  go_enter Try.func38, Try.ntmps38
  go_wp2
  go_loopw [5, 6] (fun v i wr => ∃ k : Nat, k ≤ n ∧ i = .int .i64 k ∧ v = .int .i64 (movedTo ss ts k : Nat) ∧ Below w.heap.size w wr) (fun _ i _ => n - (intOf i).toNat)
  case atStart => exact ⟨0, Nat.zero_le _, rfl, by simp [movedTo, planTo], Below.refl _ _⟩
  case round =>
    obtain ⟨k, hk, rfl, rfl, hbel⟩ := hrel
    by_cases hlt : k < n
    · have hx : k < ss.length := by have := HN.out; omega
      have hx' : k < ts.length := by have := HN'.out; omega
      obtain ⟨b, off, rfl, hcell⟩ := (hr.below hbel).at_ k (by simp; exact hx)
      obtain ⟨b', off', rfl, hcell'⟩ := (hr'.below hbel).at_ k (by simp; exact hx')
      simp only [List.getElem_map] at hcell hcell'
      have hsucc := planTo_succ ss ts k hx hx'
      have hple := planTo_le ss ts k
      have hd : decide ((k : Int) < (n : Int)) = true := by simp; omega
      have hi0 : (0 : Int) ≤ (k : Int) := by omega
      have hs1 : movedTo ss ts (k + 1) = movedTo ss ts k + (if ss[k] = ts[k] then 0 else 1) := by
        unfold movedTo; rw [hsucc, List.length_append]; by_cases h : ss[k] = ts[k] <;> simp [h]
      have hle : movedTo ss ts k ≤ k := hple
      clear hsucc hple
      generalize ss[k] = s at hcell hs1
      generalize ts[k] = t at hcell' hs1
      have HS := Lib.hid hs1; clear hs1
      generalize hq : movedTo ss ts k = q at hle HS
      clear hq
      by_cases hst : s = t
      · have hne : (s.toList == t.toList) = true := by rw [str_beq]; simpa using hst
        have HST := Lib.hid hst; clear hst
        go_wp2
        go_quiet (fail)
        go_wp2
        go_roundw
        case rel => exact ⟨k + 1, by omega, by go_num, by rw [HS.out, if_pos HST.out]; rfl, drewN_ hbel _⟩
        case measure => simp [intOf]; omega
      · have hne : (s.toList == t.toList) = false := by rw [str_beq]; simpa using hst
        go_wp2
        go_quiet (fail)
        go_wp2
        go_roundw
        case rel => exact ⟨k + 1, by omega, by go_num, by rw [HS.out, if_neg hst]; go_num, drewN_ hbel _⟩
        case measure => simp [intOf]; omega
    · obtain rfl : k = n := by omega
      have hd : decide ((k : Int) < (k : Int)) = false := by simp
      go_wp2
      go_ret
      exact ⟨rfl, hbel⟩

theorem rd_drop {w : World} {g o : Nat} {cs : List Value} (h : Rd w (some ⟨g, o, none⟩) cs) (k : Nat) : Rd w (some ⟨g, o + k, none⟩) (cs.drop k) := fun j u hj => by
  rw [List.getElem?_drop] at hj
  obtain ⟨b, off, e, hc⟩ := h _ u hj
  injection e with e
  injection e with e1 e2
  subst e1 e2
  exact ⟨g, o + k, rfl, by rw [Nat.add_assoc]; exact hc⟩
theorem set_eq_take_drop {T : Type} (l : List T) (q : Nat) (x : T) (h : q < l.length) : l.set q x = l.take q ++ x :: l.drop (q + 1) := by
  rw [List.set_eq_take_append_cons_drop, if_pos h]

set_option maxRecDepth 100000 in
set_option maxHeartbeats 2000000 in
theorem rapply_any (A : Option Addr) (n c : Nat) (ss : List ByteArray) (B : Option Addr) (m d : Nat) (ms : List Mv) (w : World) (hr : Rd w A (ss.map Value.string)) (hn : ss.length = n) (hm : n ≤ 1000000)
    (hr' : Rd w B (ms.flatMap Mv.cells)) (hn' : ms.length = m) (hm' : m ≤ 1000000) :
    Calls Try.prog 29 #[.slice A n c, .slice B m d] w (Applies (applyL ss ms) w) := by
  have hl : (ss.map Value.string).length = n * 1 := by simp [hn]
  have HL := Lib.hid hl; have HN' := Lib.hid hn'; clear hn hn' hl
  go_enter Try.func29, Try.ntmps29
  go_wp2_with (at_builtin; refine wpList_app el_string rfl (.tmp 10) (.tmp 11) rfl w.heap.size _ 0 [] rfl (World.ownsRow_nil _ _ _ _) A n c (ss.map Value.string) rfl HL.out hr (one_strings _) (by unfold maxLen; omega) (by omega) (Nat.le_refl _) ?_; intro v1 w1 hown1 hbel1 _ _)
  rw [Nat.zero_add, List.nil_append] at hown1
  obtain ⟨G1, cc1, rfl⟩ := own_form hown1
  have HO1 := Lib.hid hown1; clear hown1
  go_loopw [6, 7] (fun v i wr => ∃ k : Nat, ∃ cur : List ByteArray, k ≤ m ∧ i = .int .i64 k ∧ applyL ss (ms.take k) = some cur ∧ wr.ownsRow w.heap.size 9 1 v n (cur.map Value.string) ∧ Below w.heap.size w wr) (fun _ i _ => m - (intOf i).toNat)
  case atStart => exact ⟨0, ss, Nat.zero_le _, rfl, rfl, HO1.out, hbel1⟩
  case round =>
    clear HO1 hbel1
    obtain ⟨k, cur, hk, rfl, happ, hown, hbel⟩ := hrel
    obtain ⟨G, cc, rfl⟩ := own_form hown
    have HA := Lib.hid happ; have HO := Lib.hid hown; clear happ hown
    by_cases hlt : k < m
    · have hx : k < ms.length := by have := HN'.out; omega
      obtain ⟨b, off, rfl, hc0, hc1, hc2⟩ := mv_row (hr'.below hbel) k hx
      have hsn := applyL_snoc ss (ms.take k) ms[k]
      rw [← List.take_succ_eq_append_getElem hx, HA.out, Option.bind_some] at hsn
      have hnone : applyL ss (ms.take (k + 1)) = none → applyL ss ms = none := fun h => by
        have := applyL_none ss _ (ms.drop (k + 1)) h
        rwa [List.take_append_drop] at this
      have HNO := Lib.hid hnone; clear hnone
      generalize ms[k] = mk at hc0 hc1 hc2 hsn
      obtain ⟨part, was, now⟩ := mk
      have HS := Lib.hid hsn; clear hsn
      have hcl : cur.length = n := by have := HO.out.1; simpa using this
      have HCL := Lib.hid hcl; clear hcl
      simp only at hc0 hc1 hc2
      by_cases hp0 : part < 0
      · have hd0 : decide (part < 0) = true := by simpa using hp0
        go_wp2
        go_quiet (fail)
        go_wp2
        go_ret2
        refine ⟨(drewN_ (hbel.alloc hbel.size _) _), .inr ⟨HNO.out ?_, rfl⟩⟩
        rw [HS.out, if_neg (fun h => by have hcl := HCL.out; obtain ⟨h1, h2, h3⟩ := h; simp only at h1 h2 h3; omega)]
      have hd0 : decide (part < 0) = false := by simpa using hp0
      by_cases hp1 : (n : Int) ≤ part
      · have hd1 : decide ((n : Int) ≤ part) = true := by simpa using hp1
        go_wp2
        go_quiet (fail)
        go_wp2
        go_ret2
        refine ⟨(drewN_ (hbel.alloc hbel.size _) _), .inr ⟨HNO.out ?_, rfl⟩⟩
        rw [HS.out, if_neg (fun h => by have hcl := HCL.out; obtain ⟨h1, h2, h3⟩ := h; simp only at h1 h2 h3; omega)]
      have hd1 : decide ((n : Int) ≤ part) = false := by simpa using hp1
      obtain ⟨q, rfl⟩ : ∃ q : Nat, part = q := ⟨part.toNat, by omega⟩
      have hq : q < n := by omega
      have hqi : (q : Int) < (n : Int) := by omega
      have hq0 : (0 : Int) ≤ (q : Int) := by omega
      obtain ⟨g, rfl, hg1, hg2, hnc⟩ := own_pos HO.out (by omega)
      obtain ⟨⟨u, hu, hcell⟩, hfro⟩ := own_cells HO.out q (by omega)
      have hqc : q < cur.length := by have := HCL.out; omega
      obtain rfl : u = .string cur[q] := by simp [hqc] at hu; exact hu.symm
      clear hu
      generalize hcq : cur[q] = t at hcell
      have HQ := Lib.hid hcq; clear hcq
      by_cases hst : t = was
      · have hne : (t.toList == was.toList) = true := by rw [str_beq]; simpa using hst
        have HST := Lib.hid hst; clear hst
        have hok : applyOk cur ⟨q, was, now⟩ := ⟨hq0, by have := HCL.out; simp only; omega, by simp only [Int.toNat_natCast]; rw [List.getElem?_eq_getElem hqc, HQ.out, HST.out]⟩
        have HOK := Lib.hid hok; clear hok
        go_wp2
        go_quiet (fail)
        obtain ⟨W, hW⟩ : ∃ W, W = (wr.alloc (.cells #[.int .i64 q, .string was, .string now] 55)).drewN nq := ⟨_, rfl⟩
        have hp0' : W.cell? ⟨wr.heap.size, 0, none⟩ = some (.int .i64 q) := by rw [hW]; simp
        have hp2' : W.cell? ⟨wr.heap.size, 2, none⟩ = some (.string now) := by rw [hW]; simp
        have HOW : Hid (W.ownsRow w.heap.size 9 1 (.slice (some ⟨g, 0, none⟩) n cc) n (cur.map Value.string)) := by rw [hW]; exact own_drewN (HO.out.alloc _) _
        have hbw : Below w.heap.size w W := by rw [hW]; exact drewN_ (hbel.alloc hbel.size _) _
        rw [← hW]
        clear hW hc0 hc1 hc2 HO hcell hfro hbel
        have hrd := Rd.of_own HOW.out
        have hl1 : ((cur.take q).map Value.string).length = q * 1 := by simp; omega
        have hl3 : ((cur.drop (q + 1)).map Value.string).length = (n - (q + 1)) * 1 := by have := HCL.out; simp; omega
        have HL1 := Lib.hid hl1; have HL3 := Lib.hid hl3; clear hl1 hl3
        have hr1 : Rd W (some ⟨g, 0, none⟩) ((cur.take q).map Value.string) := by rw [List.map_take]; exact hrd.take q
        have hr3 : Rd W (some ⟨g, q + 1, none⟩) ((cur.drop (q + 1)).map Value.string) := by rw [List.map_drop]; have := rd_drop hrd (q + 1); rwa [Nat.zero_add] at this
        have hnext : W.ownsRow W.heap.size 9 1 (.slice none 0 0) 0 [] := World.ownsRow_nil _ _ _ _
        have HNX := Lib.hid hnext; clear hnext
        have hfin : (cur.set q now).map Value.string = (cur.take q).map Value.string ++ [.string now] ++ (cur.drop (q + 1)).map Value.string := by
          rw [set_eq_take_drop _ _ _ hqc]; simp
        have HF := Lib.hid hfin; clear hfin
        by_cases hcc : cc = q + 1
        · obtain rfl : n = q + 1 := by omega
          subst hcc
          have hnil : (cur.drop (q + 1)).map Value.string = [] := by have := HL3.out; exact List.eq_nil_of_length_eq_zero (by rw [this]; simp)
          have HNIL := Lib.hid hnil; clear hnil
          go_wp2_with (first
            | (at_builtin; refine wpList_app el_string rfl (.tmp 43) (.tmp 47) rfl W.heap.size _ 0 [] rfl HNX.out (some ⟨g, 0, none⟩) q (q + 1) _ rfl HL1.out hr1 (one_strings _) (by unfold maxLen; omega) (by omega) (Nat.le_refl _) ?_; intro v1 w1 hown1 hbel1 _ _; have hp2'' := cell_below hbel1 hp2'; have hp0'' := cell_below hbel1 hp0')
            | (at_builtin; refine wpList_app el_string rfl (.tmp 49) (.tmp 52) rfl W.heap.size _ _ _ rfl (hown1.alloc _) (some ⟨w1.heap.size, 0, none⟩) 1 1 [.string now] rfl rfl (Rd.new w1 #[.string now] _) (by intro u hu; simp at hu; subst hu; rfl) (by unfold maxLen; omega) (by omega) (by have := hbel1.size; simp; omega) ?_; intro v2 w2 hown2 hbel2 _ _; have hbel12 := hbel1.trans (((Below.refl _ _).alloc hbel1.size _).trans hbel2); have hp0''' := cell_below hbel12 hp0')
            | (at_builtin; refine wpList_app el_string rfl (.tmp 54) (.tmp 59) rfl W.heap.size _ _ _ rfl hown2 (some ⟨g, 0, none⟩) 0 0 [] rfl rfl Rd.nil (by simp) (by unfold maxLen; omega) (by omega) (by exact hbel12.size) ?_; intro v3 w3 hown3 hbel3 _ _))
          go_roundw
          case rel =>
            refine ⟨k + 1, cur.set q now, by omega, by go_num, by rw [HS.out, if_pos HOK.out, Int.toNat_natCast], ?_, ?_⟩
            · have h3 := own_mono hown3 hbw.size
              rw [HF.out, HNIL.out]
              rw [show 0 + q + 1 + 0 = q + 1 by omega, List.nil_append] at h3
              exact h3
            · exact hbw.trans ((hbel12.trans hbel3).mono hbw.size)
          case measure => simp [intOf]; omega
        · go_wp2_with (first
            | (at_builtin; refine wpList_app el_string rfl (.tmp 43) (.tmp 47) rfl W.heap.size _ 0 [] rfl HNX.out (some ⟨g, 0, none⟩) q cc _ rfl HL1.out hr1 (one_strings _) (by unfold maxLen; omega) (by omega) (Nat.le_refl _) ?_; intro v1 w1 hown1 hbel1 _ _; have hp2'' := cell_below hbel1 hp2'; have hp0'' := cell_below hbel1 hp0')
            | (at_builtin; refine wpList_app el_string rfl (.tmp 49) (.tmp 52) rfl W.heap.size _ _ _ rfl (hown1.alloc _) (some ⟨w1.heap.size, 0, none⟩) 1 1 [.string now] rfl rfl (Rd.new w1 #[.string now] _) (by intro u hu; simp at hu; subst hu; rfl) (by unfold maxLen; omega) (by omega) (by have := hbel1.size; simp; omega) ?_; intro v2 w2 hown2 hbel2 _ _; have hbel12 := hbel1.trans (((Below.refl _ _).alloc hbel1.size _).trans hbel2); have hp0''' := cell_below hbel12 hp0')
            | (at_builtin; refine wpList_app el_string rfl (.tmp 54) (.tmp 59) rfl W.heap.size _ _ _ rfl hown2 (some ⟨g, q + 1, none⟩) (n - (q + 1)) (cc - (q + 1)) _ rfl HL3.out (hr3.below hbel12) (one_strings _) (by unfold maxLen; omega) (by omega) (by exact hbel12.size) ?_; intro v3 w3 hown3 hbel3 _ _))
          go_roundw
          case rel =>
            refine ⟨k + 1, cur.set q now, by omega, by go_num, by rw [HS.out, if_pos HOK.out, Int.toNat_natCast], ?_, ?_⟩
            · have h3 := own_mono hown3 hbw.size
              rw [HF.out]
              rw [show 0 + q + 1 + (n - (q + 1)) = n by omega, List.nil_append] at h3
              exact h3
            · exact hbw.trans ((hbel12.trans hbel3).mono hbw.size)
          case measure => simp [intOf]; omega
      · have hne : (t.toList == was.toList) = false := by rw [str_beq]; simpa using hst
        go_wp2
        go_quiet (fail)
        go_wp2
        go_ret2
        refine ⟨(drewN_ (hbel.alloc hbel.size _) _), .inr ⟨HNO.out ?_, rfl⟩⟩
        rw [HS.out, if_neg (fun h => by obtain ⟨h1, h2, h3⟩ := h; simp only at h1 h2 h3; rw [Int.toNat_natCast, List.getElem?_eq_getElem hqc, HQ.out] at h3; injection h3 with h3; exact hst h3)]
    · obtain rfl : k = m := by omega
      go_wp2
      go_ret2
      have ha := HA.out
      rw [← HN'.out, List.take_length] at ha
      have hcl : cur.length = n := by have := HO.out.1; simpa using this
      exact ⟨hbel, .inl ⟨cur, _, ha, rfl, by rw [hcl]; exact HO.out⟩⟩
end Go.Proofs.Ytebfmacbdjnhbaa
