/- The walk of TreeLeaves. -/
import Derived.Test.YtgmafnpkhmlnnaaLvs
import Derived.Test.YtgmafnpkhmlnnaaInR
import Derived.Test.YtgmafnpkhmlnnaaFewO
import Derived.Test.YtgmafnpkhmlnnaaTreeG
import Derived.AtR
import Derived.BigQuiet
attribute [local go_sem ↓] Go.wp_at_zero Go.wp_at_succ
namespace Go.Proofs.Ytgmafnpkhmlnnaa
open Go.RowKit Go.Mem Go.Num
set_option linter.unusedVariables false
set_option linter.unusedSimpArgs false

/-- a bool that tells whether something is so -/
def TellsB (P : Prop) (w : World) (e : Ending) (w' : World) : Prop := ∃ q : Bool, (q = true ↔ P) ∧ e = .returned (.bool q) ∧ Below w.heap.size w w'
theorem toList_inj {a b : ByteArray} (h : a.toList = b.toList) : a = b := WideShapes.bytes_inj (by rwa [ByteArray.toList_eq, ByteArray.toList_eq] at h)
theorem take_eq_of {T : Type} {a b : List T} {k : Nat} (h1 : k < a.length) (h2 : k < b.length) (h : a.take k = b.take k) (he : a[k] = b[k]) : a.take (k + 1) = b.take (k + 1) := by
  rw [List.take_succ_eq_append_getElem h1, List.take_succ_eq_append_getElem h2, h, he]
theorem leaf_parts (s t : Leaf) : s = t ∨ (¬ s.place.toList = t.place.toList) ∨ (s.place = t.place ∧ ¬ s.digest.toList = t.digest.toList) := by
  by_cases h1 : s.place.toList = t.place.toList
  · by_cases h2 : s.digest.toList = t.digest.toList
    · left
      obtain ⟨sp, sd⟩ := s; obtain ⟨tp, td⟩ := t
      simp only at h1 h2
      rw [toList_inj h1, toList_inj h2]
    · exact .inr (.inr ⟨toList_inj h1, h2⟩)
  · exact .inr (.inl h1)
set_option maxRecDepth 100000 in
set_option maxHeartbeats 4000000 in
theorem sameL_any (A : Option Addr) (n c : Nat) (xs : List Leaf) (B : Option Addr) (m d : Nat) (ys : List Leaf) (w : World) (hr : Rd w A (leafc xs)) (hn : xs.length = n) (hm : n ≤ maxLen)
    (hr' : Rd w B (leafc ys)) (hn' : ys.length = m) (hm' : m ≤ maxLen) :
    Calls Try.prog 40 #[.slice A n c, .slice B m d] w (TellsB (xs = ys) w) := by
  have HN := Lib.hid hn; have HN2 := Lib.hid hn'; clear hn hn'
  unfold maxLen at hm hm'
  by_cases hnm : n = m
  · subst hnm
    go_enter Try.func40, Try.ntmps40
    go_wp2
    go_loopw [5] (fun i wr => ∃ k : Nat, k ≤ n ∧ i = .int .i64 k ∧ Hid (xs.take k = ys.take k) ∧ Below w.heap.size w wr) (fun i _ => n - (intOf i).toNat)
    case atStart => exact ⟨0, Nat.zero_le _, rfl, Lib.hid rfl, Below.refl _ _⟩
    case round =>
      obtain ⟨k, hk, rfl, HT, hbel⟩ := hrel
      by_cases hlt : k < n
      · have hx : k < xs.length := by have := HN.out; omega
        have hx' : k < ys.length := by have := HN2.out; omega
        obtain ⟨b, off, rfl, hrg⟩ := row_leaf.at_ (hr.below hbel) k hx
        obtain ⟨b', off', rfl, hrg'⟩ := row_leaf.at_ (hr'.below hbel) k hx'
        have HNX := Lib.hid (fun h => take_eq_of hx hx' HT.out h)
        have HNE : Hid (xs[k] ≠ ys[k] → ¬ xs = ys) := Lib.hid (fun h e => h (by subst e; rfl))
        generalize xs[k] = s at hrg HNX HNE
        generalize ys[k] = t at hrg' HNX HNE
        have hp := leaf_parts s t
        obtain ⟨sk, sv⟩ := s; obtain ⟨tk, tv⟩ := t
        have hd : decide ((k : Int) < (n : Int)) = true := by simp; omega
        have hi0 : (0 : Int) ≤ (k : Int) := by omega
        have hin : (k : Int) < (n : Int) := by omega
        simp only at hp
        have c0 : wr.cell? ⟨b, off + k * 2, none⟩ = some (.string sk) := rangeAt_cell hrg 0 rfl
        have c1 : wr.cell? ⟨b, off + k * 2 + 1, none⟩ = some (.string sv) := rangeAt_cell hrg 1 rfl
        have d0 : wr.cell? ⟨b', off' + k * 2, none⟩ = some (.string tk) := rangeAt_cell hrg' 0 rfl
        have d1 : wr.cell? ⟨b', off' + k * 2 + 1, none⟩ = some (.string tv) := rangeAt_cell hrg' 1 rfl
        clear hrg hrg'
        rcases hp with he | hne
        · injection he with h1 h2; subst h1 h2
          have HN3 := Lib.hid (HNX.out rfl); clear HNX HNE
          go_wp2
          go_quiet (fail)
          go_wp2
          go_roundw
          case rel => exact ⟨k + 1, by omega, by go_num, HN3, drewN_ hbel _⟩
          case measure => simp [intOf]; omega
        · have HF : Hid (¬ xs = ys) := Lib.hid (HNE.out (by
            intro he; injection he with h1 h2; subst h1 h2; simp at hne))
          clear HNX HNE
          rcases hne with h1 | ⟨h1, h2⟩
          · go_wp2
            go_quiet (fail)
            go_wp2
            go_ret
            exact ⟨false, by simp [HF.out], rfl, drewN_ hbel _⟩
          · subst h1
            go_wp2
            go_quiet (fail)
            go_wp2
            go_ret
            exact ⟨false, by simp [HF.out], rfl, drewN_ hbel _⟩
      · obtain rfl : k = n := by omega
        have HF : Hid (xs = ys) := Lib.hid (by have := HT.out; rwa [List.take_of_length_le (by rw [HN.out]; omega), List.take_of_length_le (by rw [HN2.out]; omega)] at this)
        go_wp2
        go_ret
        exact ⟨true, by simp [HF.out], rfl, hbel⟩
  · have hd : ((n : Int) != (m : Int)) = true := by simp; omega
    have hd2 : (n != m) = true := by simp; omega
    have HF : Hid (¬ xs = ys) := Lib.hid (fun e => hnm (by rw [← HN.out, ← HN2.out, e]))
    go_enter Try.func40, Try.ntmps40
    go_wp2
    go_ret
    exact ⟨false, by simp [HF.out], rfl, Below.refl _ _⟩
theorem flat_sum_le {T : Type} (f : T → List UInt8) (B : Nat) : ∀ l : List T, (∀ x ∈ l, (f x).length ≤ B) → (l.flatMap f).length ≤ B * l.length
  | [], _ => by simp
  | x :: l, h => by
    have h1 := flat_sum_le f B l (fun y hy => h y (by simp [hy]))
    have h2 := h x (by simp)
    rw [List.flatMap_cons, List.length_append, List.length_cons, Nat.mul_succ]; omega
theorem few_objB {o : Ob} (h : fewO o) : (objB o).length + 128 ≤ 1099511627776 := by
  obtain ⟨⟨h1, h2⟩, h3, h4⟩ := h
  have e1 := flat_sum_le seenB 1000 o.ctx.l (fun x hx => by rw [seenB_length]; have := h2 x hx; unfold smallS at this; omega)
  have e2 := flat_sum_le sibB 1000 o.sibs.l (fun x hx => by rw [sibB_length]; have := h4 x hx; unfold smallB at this; omega)
  unfold objB ctxB sibsB
  simp only [List.length_append, be_length]; omega
set_option maxRecDepth 100000 in
set_option maxHeartbeats 8000000 in
theorem treeLeaves_walk (A : Option Addr) (n c : Nat) (its : List Item) (B : Option Addr) (m d : Nat) (l : List Leaf) (C : Option Addr) (o f : Nat) (xs : List Int) (w : World)
    (hr : Rd w A (itemc its)) (hn : its.length = n) (hm : n ≤ maxLen) (hok : ∀ m ∈ its, m.ok w) (hr2 : Rd w B (leafc l)) (hn2 : l.length = m) (hm2 : m ≤ maxLen) (hok2 : ∀ m ∈ l, m.ok w) (hr3 : Rd w C (ints xs)) (hn3 : xs.length = o) (hm3 : o ≤ maxLen) :
    Calls Try.prog 9 #[.slice A n c, .slice B m d, .slice C o f] w fun e w' => e = .returned (.bool true) ∧ Below w.heap.size w w' := by
  have HR := Lib.hid (show Rd w A (its.flatMap fun m => m.arr.toList) from hr); have HN := Lib.hid hn; have HOK := Lib.hid hok; have HR2 := Lib.hid hr2; have HN2 := Lib.hid hn2; have HR3 := Lib.hid hr3; have HN3 := Lib.hid hn3
  have HF := Lib.hid (few28_any B m d l w hr2 hn2 hm2 hok2)
  unfold maxLen at hm hm2 hm3
  have HAW := Lib.hid (fun (W : World) (h : Below w.heap.size w W) => fin28 w W h)
  clear hr hn hok hr2 hn2 hok2 hr3 hn3
  go_enter Try.func9, Try.ntmps9
  by_cases hn8 : 8 < n
  · go_wp2_with fail
    refine (HAW.out _ (Below.refl _ _)).mono ?_
    rintro e w2 ⟨rfl, hb2⟩
    go_wp2
    go_ret
    exact ⟨rfl, hb2⟩
  go_wp2_with fail
  refine HF.out.mono ?_
  rintro e w1 ⟨few, hfew, rfl, hb1⟩
  cases few
  · clear hfew
    go_wp2_with fail
    refine (HAW.out w1 hb1).mono ?_
    rintro e w2 ⟨rfl, hb2⟩
    go_wp2
    go_ret
    exact ⟨rfl, hb2⟩
  have HL := Lib.hid (hfew rfl); clear hfew HF
  by_cases ho20 : 20 < o
  · go_wp2_with fail
    refine (HAW.out w1 hb1).mono ?_
    rintro e w2 ⟨rfl, hb2⟩
    go_wp2
    go_ret
    exact ⟨rfl, hb2⟩
  have HB1 := Lib.hid hb1
  clear hb1
  go_wp2
  go_loopw [7] (fun i wr => ∃ k : Nat, k ≤ n ∧ i = .int .i64 k ∧ Hid (∀ x ∈ its.take k, fewO x.obj) ∧ Below w.heap.size w wr) (fun i _ => n - (intOf i).toNat)
  case atStart => exact ⟨0, Nat.zero_le _, rfl, Lib.hid (by simp), HB1.out⟩
  case round =>
    obtain ⟨k, hk, rfl, HA, hbel⟩ := hrel
    by_cases hlt : k < n
    · have hx : k < its.length := by have := HN.out; omega
      obtain ⟨b, off, rfl, hrg⟩ := row_item.at_ (HR.out.below hbel) k hx
      have hs := (HOK.out its[k] (List.getElem_mem hx)).below hbel
      have HT := Lib.hid (fun s => mem_take_succC its k hx s)
      have HFO := Lib.hid (few07_any its[k].obj wr hs.2)
      have hp := hs.1
      clear hs
      generalize its[k] = s at hrg HT HFO hp
      obtain ⟨p, ⟨cx, sb⟩⟩ := s
      simp only [Ob.arr] at HFO hp
      have c0 : wr.cell? ⟨b, off + k * 3, none⟩ = some (.string p) := rangeAt_cell hrg 0 rfl
      have c1 : wr.cell? ⟨b, off + k * 3 + 1, none⟩ = some cx.v := rangeAt_cell hrg 1 rfl
      have c2 : wr.cell? ⟨b, off + k * 3 + 2, none⟩ = some sb.v := rangeAt_cell hrg 2 rfl
      clear hrg
      unfold maxLen at hp
      have hcv : ∃ A n k, cx.v = .slice A n k := ⟨_, _, _, rfl⟩
      have hsv : ∃ A n k, sb.v = .slice A n k := ⟨_, _, _, rfl⟩
      generalize cx.v = cv at hcv c1 HFO
      generalize sb.v = sv at hsv c2 HFO
      obtain ⟨cA, cn, ck, rfl⟩ := hcv
      obtain ⟨sA, sn, sk, rfl⟩ := hsv
      have HBL := Lib.hid hbel
      clear hbel
      by_cases hp100 : 100 < p.size
      · go_wp2_with fail
        refine (HAW.out wr HBL.out).mono ?_
        rintro e w2 ⟨rfl, hb2⟩
        go_wp2
        go_ret
        exact ⟨rfl, hb2⟩
      go_wp2_with fail
      refine HFO.out.mono ?_
      rintro e w3 ⟨few, hfew, rfl, hb3⟩
      have HB3 := Lib.hid (then_ HBL.out hb3)
      clear c0 c1 c2 hb3
      cases few
      · clear hfew
        go_wp2_with fail
        refine (HAW.out w3 HB3.out).mono ?_
        rintro e w2 ⟨rfl, hb2⟩
        go_wp2
        go_ret
        exact ⟨rfl, hb2⟩
      have HFF := Lib.hid (hfew rfl)
      clear hfew
      go_wp2
      go_roundw
      case rel => exact ⟨k + 1, by omega, by go_num, Lib.hid fun x hx => by
        rcases (HT.out x).1 hx with h | rfl
        · exact HA.out x h
        · exact HFF.out, HB3.out⟩
      case measure => simp [intOf]; omega
    · obtain rfl : k = n := by omega
      rw [List.take_of_length_le (by rw [HN.out]; omega)] at HA
      have HI : Hid (∀ (W : World), Below w.heap.size w W → ∀ x ∈ its, x.ok W ∧ (objB x.obj).length + 128 ≤ 1099511627776) := Lib.hid (fun W h x hx => ⟨(HOK.out x hx).below h, few_objB (HA.out x hx)⟩)
      have HB := Lib.hid hbel
      have hk8 : k ≤ 8 := by omega
      have hm20 : m ≤ 20 := by have := HL.out.1; rw [HN2.out] at this; exact this
      have HML := Lib.hid (show (its.map leafO).length = k by rw [List.length_map]; exact HN.out)
      clear hbel HB1 HA
      go_wp2_with fail
      refine (leaves_any A k c its wr (HR.out.below HB.out) HN.out (by omega) (HI.out wr HB.out)).mono ?_
      rintro e w2 ⟨v2, rfl, hown, hb1⟩
      rw [HML.out] at hown
      obtain ⟨A2, c2, rfl⟩ := own_form hown
      have HX := Lib.hid (Rd.of_own hown)
      have HB := Lib.hid (then_ HB.out hb1)
      clear hb1 hown
      go_wp2_with fail
      refine (rleaves_any A k c its w2 (HR.out.below HB.out) HN.out (by omega) (HI.out w2 HB.out)).mono ?_
      rintro e w3 ⟨v3, rfl, hown, hb1⟩
      rw [HML.out] at hown
      obtain ⟨A3, c3, rfl⟩ := own_form hown
      have HY := Lib.hid (Rd.of_own hown); have HX := Lib.hid (HX.out.below hb1)
      have HB := Lib.hid (then_ HB.out hb1)
      clear hb1 hown
      go_wp2_with fail
      refine (sameL_any A2 k c2 (its.map leafO) A3 k c3 (its.map leafO) w3 HX.out HML.out (by unfold maxLen; omega) HY.out HML.out (by unfold maxLen; omega)).mono ?_
      rintro e w4 ⟨q, hq, rfl, hb1⟩
      obtain rfl : q = true := hq.2 rfl
      have HB := Lib.hid (then_ HB.out hb1)
      clear hb1 hq HX HY
      go_wp2_with fail
      refine (in_any B m d l C o f xs w4 (HR2.out.below HB.out) HN2.out (by omega) HL.out.2 (HR3.out.below HB.out) HN3.out (by omega)).mono ?_
      rintro e w5 ⟨v5, rfl, hown, hb1⟩
      have HIL := Lib.hid (show (inL (segIn xs) l).length ≤ maxLen from Nat.le_trans (inL_len _ _) (by rw [HN2.out]; unfold maxLen; omega))
      have HRI := Lib.hid (fun (W : World) (h : Below w.heap.size w W) => rin_any B m d l C o f xs W (HR2.out.below h) HN2.out (by omega) HL.out.2 (HR3.out.below h) HN3.out (by omega))
      unfold MakesL at HRI
      generalize inL (segIn xs) l = u at hown HIL HRI
      generalize hul : u.length = ul at hown HIL HRI
      have HUE := Lib.hid hul
      obtain ⟨A5, c5, rfl⟩ := own_form hown
      have HX := Lib.hid (Rd.of_own hown)
      have HB := Lib.hid (then_ HB.out hb1)
      clear hb1 hown hul
      go_wp2_with fail
      refine (HRI.out w5 HB.out).mono ?_
      rintro e w6 ⟨v6, rfl, hown, hb1⟩
      obtain ⟨A6, c6, rfl⟩ := own_form hown
      have HY := Lib.hid (Rd.of_own hown); have HX := Lib.hid (HX.out.below hb1)
      have HB := Lib.hid (then_ HB.out hb1)
      clear hb1 hown HRI
      go_wp2_with fail
      refine (sameL_any A5 ul c5 u A6 ul c6 u w6 HX.out HUE.out HIL.out HY.out HUE.out HIL.out).mono ?_
      rintro e w7 ⟨q, hq, rfl, hb1⟩
      obtain rfl : q = true := hq.2 rfl
      have HB := Lib.hid (then_ HB.out hb1)
      clear hb1 hq
      go_wp2_with fail
      refine (HAW.out w7 HB.out).mono ?_
      rintro e w8 ⟨rfl, hb2⟩
      go_wp2
      go_ret
      exact ⟨rfl, hb2⟩
end Go.Proofs.Ytgmafnpkhmlnnaa
