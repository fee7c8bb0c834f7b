/- Few leaves; whether leaves are those of a bucket, by the document; what must come, whatever the arguments are. -/
import Derived.Test.YtgmafnpkhmlnnaaTriG
import Derived.Test.YtgmafnpkhmlnnaaOctW
import Derived.AtR
attribute [local go_sem ↓] Go.wp_at_zero Go.wp_at_succ
namespace Go.Proofs.Ytgmafnpkhmlnnaa
open Go.RowKit Go.Mem Go.Num Go.Tri
set_option linter.unusedVariables false
set_option linter.unusedSimpArgs false

set_option maxRecDepth 100000 in
set_option maxHeartbeats 2000000 in
theorem few49_any (A : Option Addr) (n c : Nat) (l : List Leaf) (w : World) (hr : Rd w A (leafc l)) (hn : l.length = n) (hm : n ≤ maxLen) (hok : ∀ m ∈ l, m.ok w) :
    Calls Try.prog 25 #[.slice A n c] w (FewL l 12 w) := by
  have HN := Lib.hid hn; have HR := Lib.hid hr; have HOK := Lib.hid hok; clear hn hr hok
  unfold maxLen at hm
  go_enter Try.func25, Try.ntmps25
  go_wp2
  go_loopw [3] (fun i wr => ∃ k : Nat, k ≤ n ∧ i = .int .i64 k ∧ Below w.heap.size w wr ∧ Hid (∀ s ∈ l.take k, smallL s)) (fun i _ => n - (intOf i).toNat)
  case atStart => exact ⟨0, Nat.zero_le _, rfl, Below.refl _ _, Lib.hid (by simp)⟩
  case round =>
    obtain ⟨k, hk, rfl, hbel, HA⟩ := hrel
    by_cases hend : k < n ∧ k < 12
    · obtain ⟨hlt, hlq⟩ := hend
      have hx : k < l.length := by have := HN.out; omega
      obtain ⟨b, off, rfl, hrg⟩ := row_leaf.at_ (HR.out.below hbel) k hx
      have hs := HOK.out l[k] (List.getElem_mem hx)
      have HT := Lib.hid (fun s => mem_take_succ l k hx s)
      generalize l[k] = s at hrg hs HT
      obtain ⟨sp, sd⟩ := s
      have c0 : wr.cell? ⟨b, off + k * 2, none⟩ = some (.string sp) := rangeAt_cell hrg 0 rfl
      have c1 : wr.cell? ⟨b, off + k * 2 + 1, none⟩ = some (.string sd) := rangeAt_cell hrg 1 rfl
      clear hrg
      obtain ⟨hk1, hk2⟩ := hs
      simp only at hk1 hk2
      unfold maxLen at hk1 hk2
      by_cases g1 : 100 < sp.size
      · go_wp2
        go_ret
        exact ⟨false, by simp, rfl, hbel⟩
      by_cases g2 : 100 < sd.size
      · go_wp2
        go_ret
        exact ⟨false, by simp, rfl, hbel⟩
      go_wp2
      go_roundw
      case rel => exact ⟨k + 1, by omega, by go_num, hbel, Lib.hid fun s hs => by
        rcases (HT.out s).1 hs with h | rfl
        · exact HA.out s h
        · exact ⟨by simp only; omega, by simp only; omega⟩⟩
      case measure => simp [intOf]; omega
    · have HE : Hid (k = n ∨ 12 ≤ k) := Lib.hid (by omega)
      have HL : Hid ((n : Int) ≤ 12 → l.length ≤ 12 ∧ ∀ m ∈ l, smallL m) := Lib.hid fun h => ⟨by rw [HN.out]; omega, by
        have hkn : k = n := by rcases HE.out with h1 | h1 <;> omega
        have := HA.out
        rwa [List.take_of_length_le (by rw [HN.out]; omega)] at this⟩
      by_cases hlt : k < n
      · have hq : ¬ k < 12 := fun h => hend ⟨hlt, h⟩
        clear hend
        go_wp2
        all_goals (go_ret; exact ⟨_, fun h => HL.out (by simpa using h), rfl, hbel⟩)
      · obtain rfl : k = n := by omega
        clear hend
        go_wp2
        all_goals (go_ret; exact ⟨_, fun h => HL.out (by simpa using h), rfl, hbel⟩)
set_option maxRecDepth 100000 in
set_option maxHeartbeats 4000000 in
theorem rcheck_any (root : ByteArray) (k : Int) (A : Option Addr) (n c : Nat) (l : List Leaf) (B : Option Addr) (m d : Nat) (ss : List ByteArray) (w : World) (hr : Rd w A (leafc l)) (hn : l.length = n) (hm : n ≤ 1000) (hok : ∀ m ∈ l, smallL m)
    (hr2 : Rd w B (ss.map Value.string)) (hn2 : ss.length = m) (hm2 : m ≤ maxLen) (hok2 : ∀ s ∈ ss, s.size ≤ 100000) :
    Calls Try.prog 44 #[.string root, .int .i64 k, .slice A n c, .slice B m d] w fun e w' => e = .returned (.bool (chkB root k l ss)) ∧ Below w.heap.size w w' := by
  have HR := Lib.hid hr; have HN := Lib.hid hn; have HR2 := Lib.hid hr2; have HN2 := Lib.hid hn2; have HOK := Lib.hid hok; have HOK2 := Lib.hid hok2
  clear hr hn hok hr2 hn2 hok2
  unfold maxLen at hm2
  by_cases h0 : k < 0
  · have hF : chkB root k l ss = false := by unfold chkB; rw [decide_eq_false]; intro h; omega
    rw [hF]
    have HF := Lib.hid hF; clear hF
    go_enter Try.func44, Try.ntmps44
    go_wp2
    go_ret
    exact ⟨rfl, Below.refl _ _⟩
  by_cases h1 : 64 ≤ k
  · have hF : chkB root k l ss = false := by unfold chkB; rw [decide_eq_false]; intro h; omega
    rw [hF]
    have HF := Lib.hid hF; clear hF
    go_enter Try.func44, Try.ntmps44
    go_wp2
    go_ret
    exact ⟨rfl, Below.refl _ _⟩
  obtain ⟨kn, rfl⟩ : ∃ kn : Nat, k = kn := ⟨k.toNat, by omega⟩
  by_cases h6 : m = 6
  rotate_left
  · have hF : chkB root kn l ss = false := by unfold chkB; rw [decide_eq_false]; intro h; exact h6 (by rw [← HN2.out]; exact h.2.2.1)
    rw [hF]
    have HF := Lib.hid hF; clear hF
    have hne : ((m : Int) != 6) = true := by simp; omega
    go_enter Try.func44, Try.ntmps44
    go_wp2
    go_ret
    exact ⟨rfl, Below.refl _ _⟩
  subst h6
  have HC : Hid (chkB root kn l ss = decide (climb hashT kn (hashT (leavesT l)) ss = root)) := Lib.hid (by
    unfold chkB; rw [decide_eq_decide]; constructor
    · intro h; simpa using h.2.2.2
    · intro h; exact ⟨by omega, by omega, HN2.out, by simpa using h⟩)
  rw [HC.out]
  clear HC
  go_enter Try.func44, Try.ntmps44
  go_wp2
  go_loopw [9, 10] (fun v i wr => ∃ k : Nat, k ≤ n ∧ i = .int .i64 k ∧ Hid (wr.ownsRow w.heap.size 9 1 v (leavesT (l.take k)).length ((leavesT (l.take k)).map Value.string)) ∧ Below w.heap.size w wr) (fun _ i _ => n - (intOf i).toNat)
  case atStart => exact ⟨0, Nat.zero_le _, rfl, Lib.hid (World.ownsRow_nil _ _ _ _), Below.refl _ _⟩
  case round =>
    obtain ⟨k, hk, rfl, HO, hbel⟩ := hrel
    by_cases hlt : k < n
    · have hx : k < l.length := by have := HN.out; omega
      obtain ⟨b, off, rfl, hrg⟩ := row_leaf.at_ HR.out k hx
      have hll : (leavesT (l.take k)).length ≤ 2000 := by rw [leavesT_len, List.length_take]; omega
      have HS := Lib.hid (leavesT_succ hx)
      generalize leavesT (l.take k) = u at HO hll HS
      generalize l[k] = s at hrg HS
      obtain ⟨sp, sd⟩ := s
      have W0 := Lib.hid (show w.cell? ⟨b, off + k * 2, none⟩ = some (.string sp) from rangeAt_cell hrg 0 rfl)
      have W1 := Lib.hid (show w.cell? ⟨b, off + k * 2 + 1, none⟩ = some (.string sd) from rangeAt_cell hrg 1 rfl)
      have c0 := cell_below hbel W0.out
      have HZ1 := Lib.hid hbel.size; have HB1 := Lib.hid hbel
      clear hrg hbel
      go_wp2_with (first
        | (at_builtin; refine wpList_app elStr (by rfl) (.tmp 30) (.tmp 36) (by rfl) w.heap.size _ u.length _ (by rfl) (HO.out.alloc _) (some ⟨wr.heap.size, 0, none⟩) 1 1 [.string sp] rfl rfl (Rd.new wr #[.string sp] _) (by intro u hu; simp at hu; subst hu; rfl) (by unfold maxLen; omega) (by omega) (by have := HZ1.out; simp; omega) ?_; intro v1 w2 hown1 hbel1 _ _; have hb3 := (HB1.out.alloc HZ1.out _).trans hbel1; have c1 := cell_below hb3 W1.out; have HZ2 := Lib.hid hb3.size)
        | (at_builtin; refine wpList_app elStr (by rfl) (.tmp 38) (.tmp 44) (by rfl) w.heap.size v1 (u.length + 1) _ (by rfl) (hown1.alloc _) (some ⟨w2.heap.size, 0, none⟩) 1 1 [.string sd] rfl rfl (Rd.new w2 #[.string sd] _) (by intro u hu; simp at hu; subst hu; rfl) (by unfold maxLen; omega) (by omega) (by have := HZ2.out; simp; omega) ?_; intro v2 w3 hown2 hbel2 _ _))
      go_roundw
      case rel => exact ⟨k + 1, by omega, by go_num, Lib.hid (by rw [HS.out, List.length_append, List.map_append]; simpa using hown2), (hb3.alloc HZ2.out _).trans hbel2⟩
      case measure => simp [intOf]; omega
    · have hfull : l.take k = l := List.take_of_length_le (by rw [HN.out]; omega)
      have hkn : (n : Int) ≤ (k : Int) := by omega
      rw [hfull] at HO
      obtain ⟨A0, c0, rfl⟩ := own_form HO.out
      have HX := Lib.hid (Rd.of_own HO.out)
      have HSZ := Lib.hid (show 4 * (leavesT l).length + sumSize (leavesT l) + 16 ≤ 1099511627776 by have := leavesT_size l HOK.out; have := HN.out; rw [leavesT_len]; omega)
      have HS0 := Lib.hid (show hashT (leavesT l) = hashT (leavesT l) from rfl)
      generalize hul : leavesT l = u at HX HSZ HS0 ⊢
      have HUL := Lib.hid hul
      have HR2 := Lib.hid (HR2.out.below hbel); have HB0 := Lib.hid hbel
      clear hul HO hbel hfull HR
      go_wp2_with fail
      refine (shaRef A0 u.length c0 u wr HX.out rfl HSZ.out).mono ?_
      rintro e w1 ⟨rfl, hb1⟩
      have HR2 := Lib.hid (HR2.out.below hb1); have HB := Lib.hid (then_ HB0.out hb1)
      have hz0 := hashT_size u
      generalize hs0 : hashT u = s0 at hz0 ⊢
      have HS0 := Lib.hid (show hashT (leavesT l) = s0 by rw [HUL.out]; exact hs0)
      clear hs0 hb1 HX
      rename World => wq
      have HZ0 := Lib.hid hz0
      clear hz0
      go_wp2
      go_loopw [1, 11, 12] (fun kb sv i wr => ∃ (j q : Nat) (s : ByteArray), j ≤ 6 ∧ i = .int .i64 j ∧ kb = .int .i64 q ∧ q < 64 ∧ sv = .string s ∧ s.size = 32 ∧ Hid (climb hashT q s (ss.drop j) = climb hashT kn s0 ss) ∧ Below wq.heap.size wq wr) (fun _ _ i _ => 6 - (intOf i).toNat)
      case atStart => exact ⟨0, kn, s0, Nat.zero_le _, rfl, rfl, by omega, rfl, HZ0.out, Lib.hid rfl, Below.refl _ _⟩
      case round =>
        obtain ⟨j, q, s, hj, rfl, rfl, hq, rfl, hsz, HC, hbel⟩ := hrel
        by_cases hlt : j < 6
        · have hx : j < ss.length := by have := HN2.out; omega
          obtain ⟨b, off, rfl, hcell⟩ := (HR2.out.below hbel).at_ j (by simpa using hx)
          simp only [List.getElem_map] at hcell
          have hoz := HOK2.out ss[j] (List.getElem_mem hx)
          have HD := Lib.hid (show ss.drop j = ss[j] :: ss.drop (j + 1) from List.drop_eq_getElem_cons hx)
          generalize ss[j] = o at hcell hoz HD
          rw [HD.out, climb_cons] at HC
          have HBL := Lib.hid hbel
          have HQ2 := Lib.hid (quo_two q); have HRM := Lib.hid (rem_two q)
          have hq2 := quo_two q; have hrm := rem_two q
          have hj6 : ((j : Int) < 6) := by omega
          clear hbel HD
          by_cases hev : q % 2 = 0
          · have hP : pairOf q s o = [s, o] := by unfold pairOf; rw [if_pos hev]
            rw [hP] at HC
            have hdd : ((q : Int).tmod 2 == 0) = true := by rw [rem_two, hev]; rfl
            have HDD := Lib.hid hdd
            clear hP
            go_wp2_with fail
            have hal := (Below.refl wr.heap.size wr).alloc (Nat.le_refl _) (.cells #[.string s, .string o] 9)
            refine (shaRef (some ⟨wr.heap.size, 0, none⟩) 2 2 [s, o] _ (by exact Rd.new wr #[.string s, .string o] _) rfl (by simp [sumSize]; omega)).mono ?_
            rintro e w2 ⟨rfl, hb2⟩
            have hb2 := then_ hal hb2
            clear hal
            have hz2 := hashT_size [s, o]
            generalize hashT [s, o] = s2 at hz2 HC ⊢
            have HZ2 := Lib.hid hz2; have HB2 := Lib.hid (then_ HBL.out hb2)
            clear hz2 hb2
            go_wp2
            go_roundw
            case rel => exact ⟨j + 1, q / 2, s2, by omega, by go_num, by first | rfl | (rw [HQ2.out]), by omega, rfl, HZ2.out, HC, HB2.out⟩
            case measure => simp [intOf]; omega
          · have hP : pairOf q s o = [o, s] := by unfold pairOf; rw [if_neg hev]
            rw [hP] at HC
            have hdd : ((q : Int).tmod 2 == 0) = false := by rw [rem_two]; simp; omega
            have HDD := Lib.hid hdd
            clear hP
            go_wp2_with fail
            have hal := (Below.refl wr.heap.size wr).alloc (Nat.le_refl _) (.cells #[.string o, .string s] 9)
            refine (shaRef (some ⟨wr.heap.size, 0, none⟩) 2 2 [o, s] _ (by exact Rd.new wr #[.string o, .string s] _) rfl (by simp [sumSize]; omega)).mono ?_
            rintro e w2 ⟨rfl, hb2⟩
            have hb2 := then_ hal hb2
            clear hal
            have hz2 := hashT_size [o, s]
            generalize hashT [o, s] = s2 at hz2 HC ⊢
            have HZ2 := Lib.hid hz2; have HB2 := Lib.hid (then_ HBL.out hb2)
            clear hz2 hb2
            go_wp2
            go_roundw
            case rel => exact ⟨j + 1, q / 2, s2, by omega, by go_num, by first | rfl | (rw [HQ2.out]), by omega, rfl, HZ2.out, HC, HB2.out⟩
            case measure => simp [intOf]; omega
        · obtain rfl : j = 6 := by omega
          have HCC : Hid (s = climb hashT kn s0 ss) := Lib.hid (by
            have := HC.out
            rw [List.drop_of_length_le (by rw [HN2.out]; exact Nat.le_refl _)] at this
            exact this)
          have HB2 := Lib.hid (then_ HB.out hbel)
          have HSB := Lib.hid (str_beq s root)
          have HCC2 := HCC
          clear hbel HC HCC
          go_wp2
          go_ret
          exact ⟨by rw [HS0.out, ← HCC2.out, ← HSB.out]; rfl, HB2.out⟩
end Go.Proofs.Ytgmafnpkhmlnnaa
