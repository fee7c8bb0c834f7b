/- The walk of RegwireBack: what it asks of regwire is so, for every argument. -/
import Derived.Test.YtlmplibdfhamjaaWireH
attribute [local go_sem ↓] Go.wp_at_zero Go.wp_at_succ
namespace Go.Proofs.Ytlmplibdfhamjaa
open Go.RowKit Go.Mem Go.Num
set_option linter.unusedVariables false
set_option linter.unusedSimpArgs false

theorem rdEnt_app (e : Ent) (hs : small e) (hn : (Lit.int .i64 e.reg.n).wf = true) (r : List UInt8) : rdEnt (eB e ++ r, true) = (e, (r, true)) := by
  obtain ⟨k, ⟨n, b, v⟩⟩ := e
  obtain ⟨h1, h2, h3⟩ := hs
  simp only at h1 h2 h3 hn
  rw [Lit.wf_int_iff] at hn
  have hT : ∀ (t : ByteArray) (q : List UInt8), t.size ≤ 300 → rdText (textB t ++ q, true) = (t.data.toList, (q, true)) := fun t q ht => by
    unfold textB
    have := rdText_app t.data.toList q (by simp; omega)
    have e : ((t.data.toList.length : Nat) : Int) = (t.size : Int) := by simp
    rw [e] at this
    exact this
  unfold eB
  simp only [List.append_assoc]
  unfold rdEnt
  rw [hT k _ (by omega)]
  simp only
  have hlo := hn.1; have hhi := hn.2
  rw [rdNum8_app n _ hlo hhi]
  simp only
  rw [hT b _ (by omega)]
  simp only
  rw [hT v _ (by omega)]
  simp only [bs_of]
theorem rd0_raw (l : List Ent) (h30 : l.length ≤ 30) (hs : ∀ m ∈ l, small m) (hw : ∀ m ∈ l, (Lit.int .i64 m.reg.n).wf = true) : rd0 (bs (rawB l)) = (l, ([], true)) := by
  have h := rdAll_app (rd := rdEnt) (wr := eB) l 65536 (by omega) (by omega) (fun x hx r => rdEnt_app x (hs x hx) (hw x hx) r) []
  rw [List.append_nil] at h
  unfold rd0 rawB
  exact h
theorem raw_inj (l m : List Ent) (h30 : l.length ≤ 30) (hs : ∀ m ∈ l, small m) (hw : ∀ m ∈ l, (Lit.int .i64 m.reg.n).wf = true) (h30' : m.length ≤ 30) (hs' : ∀ e ∈ m, small e) (hw' : ∀ e ∈ m, (Lit.int .i64 e.reg.n).wf = true) (h : bs (rawB l) = bs (rawB m)) : l = m := by
  have h1 := rd0_raw l h30 hs hw
  rw [h, rd0_raw m h30' hs' hw'] at h1
  exact (congrArg (·.1) h1).symm
theorem ofGood_raw (l : List Ent) (h30 : l.length ≤ 30) (hs : ∀ m ∈ l, small m) (hw : ∀ m ∈ l, (Lit.int .i64 m.reg.n).wf = true) (hm : mayL l = true) : ofGood (bs (rawB l)) = true := by
  unfold ofGood
  rw [rd0_raw l h30 hs hw]
  simp only [hm, beq_self_eq_true, Bool.and_true]
  rfl
theorem raw_small (l : List Ent) (h30 : l.length ≤ 30) (hs : ∀ m ∈ l, small m) : (bs (rawB l)).size ≤ 65536 ∧ 20 * l.length + eSum l + 128 ≤ 140737488355328 := by
  have h1 := small_sum l hs
  have h2 : (l.flatMap eB).length = 20 * l.length + eSum l := by
    clear h1 h30 hs
    induction l with
    | nil => rfl
    | cons e l ih =>
      rw [List.flatMap_cons, List.length_append, ih]
      unfold eSum eB eSize
      simp only [List.length_append, textB_length, be_length, List.length_cons, List.map_cons, List.sum_cons]
      omega
  rw [bs_size]
  unfold rawB
  rw [List.length_append, be_length, h2]
  omega
/-- what the bytes of few entries that may be give -/
theorem back_plain (l : List Ent) (h30 : l.length ≤ 30) (hs : ∀ m ∈ l, small m) (hw : ∀ m ∈ l, (Lit.int .i64 m.reg.n).wf = true) (hm : mayL l = true) :
    bytesV l = bs (rawB l) ∧ errL l = 0 ∧ ofL (bs (rawB l)) = l ∧ ofErr (bs (rawB l)) = 0 := by
  have hg := ofGood_raw l h30 hs hw hm
  refine ⟨by unfold bytesV; rw [if_pos hm], errL_yes hm, ?_, ?_⟩
  · unfold ofL; rw [if_pos hg, rd0_raw l h30 hs hw]
  · unfold ofErr; rw [if_pos hg]

set_option maxRecDepth 100000 in
set_option maxHeartbeats 8000000 in
theorem regwireBack_walk (A : Option Addr) (n c : Nat) (la : List Ent) (B : Option Addr) (m d : Nat) (lb : List Ent) (s : ByteArray) (w : World) (hr : Rd w A (entc la)) (hn : la.length = n) (hm : n ≤ maxLen) (hok : ∀ m ∈ la, m.ok w)
    (hr' : Rd w B (entc lb)) (hn' : lb.length = m) (hm' : m ≤ maxLen) (hok' : ∀ m ∈ lb, m.ok w) (hs : s.size ≤ maxLen) :
    Calls Try.prog 11 #[.slice A n c, .slice B m d, .string s] w (TrueW w) := by
  have HFA := Lib.hid (few10_any A n c la 30 w hr hn hm hok)
  have HFB := Lib.hid (fun W (hW : Below w.heap.size w W) => few10_any B m d lb 30 W (hr'.below hW) hn' hm' (fun x hx => (hok' x hx).below hW))
  have HMA := Lib.hid (fun W (hW : Below w.heap.size w W) => may10_any A n c la W (hr.below hW) hn hm (fun x hx => (hok x hx).below hW))
  have HMB := Lib.hid (fun W (hW : Below w.heap.size w W) => may10_any B m d lb W (hr'.below hW) hn' hm' (fun x hx => (hok' x hx).below hW))
  have HBA := Lib.hid (fun W (hW : Below w.heap.size w W) => bytes12_any A n c la W (hr.below hW) hn hm (fun x hx => (hok x hx).below hW))
  have HBB := Lib.hid (fun W (hW : Below w.heap.size w W) => bytes12_any B m d lb W (hr'.below hW) hn' hm' (fun x hx => (hok' x hx).below hW))
  have HWA : Hid (∀ m ∈ la, (Lit.int .i64 m.reg.n).wf = true) := Lib.hid (fun x hx => (hok x hx).2.1)
  have HWB : Hid (∀ m ∈ lb, (Lit.int .i64 m.reg.n).wf = true) := Lib.hid (fun x hx => (hok' x hx).2.1)
  have HR := Lib.hid hr; have HR' := Lib.hid hr'; have HN := Lib.hid hn; have HN' := Lib.hid hn'; have HM := Lib.hid hm; have HM' := Lib.hid hm'
  clear hr hr' hn hn' hm hm' hok hok'
  unfold maxLen at hs
  generalize hma : mayL la = p at HMA
  generalize hmb : mayL lb = q at HMB
  have HPA := Lib.hid hma; have HPB := Lib.hid hmb; clear hma hmb
  go_enter Try.func11, Try.ntmps11
  go_wp2_with fail
  refine HFA.out.mono ?_
  rintro e w1 ⟨b1, hfa, rfl, hb1⟩
  have HFEWA := Lib.hid hfa; clear hfa HFA
  cases b1
  · go_wp2_with fail
    refine (fin12 w _ hb1).mono ?_
    rintro e w9 ⟨rfl, hb9⟩
    go_wp2
    go_ret
    exact ⟨rfl, hb9⟩
  go_wp2_with fail
  refine (HFB.out _ hb1).mono ?_
  rintro e w2 ⟨b2, hfb, rfl, hb2⟩
  have HFEWB := Lib.hid hfb; have HB := Lib.hid (then_ hb1 hb2); clear hfb HFB hb1 hb2
  cases b2
  · go_wp2_with fail
    refine (fin12 w _ HB.out).mono ?_
    rintro e w9 ⟨rfl, hb9⟩
    go_wp2
    go_ret
    exact ⟨rfl, hb9⟩
  go_wp2_with fail
  refine (HMA.out _ HB.out).mono ?_
  rintro e w3 ⟨rfl, hb3⟩
  have HB := Lib.hid (then_ HB.out hb3); clear HMA hb3
  cases p
  · go_wp2_with fail
    refine (fin12 w _ HB.out).mono ?_
    rintro e w9 ⟨rfl, hb9⟩
    go_wp2
    go_ret
    exact ⟨rfl, hb9⟩
  go_wp2_with fail
  refine (HMB.out _ HB.out).mono ?_
  rintro e w4 ⟨rfl, hb4⟩
  have HB := Lib.hid (then_ HB.out hb4); clear HMB hb4
  cases q
  · go_wp2_with fail
    refine (fin12 w _ HB.out).mono ?_
    rintro e w9 ⟨rfl, hb9⟩
    go_wp2
    go_ret
    exact ⟨rfl, hb9⟩
  by_cases h10 : 1024 < s.size
  · go_wp2_with fail
    refine (fin12 w _ HB.out).mono ?_
    rintro e w9 ⟨rfl, hb9⟩
    go_wp2
    go_ret
    exact ⟨rfl, hb9⟩
  obtain ⟨ha30, hasm⟩ := HFEWA.out trivial
  obtain ⟨hb30, hbsm⟩ := HFEWB.out trivial
  have ha30 : la.length ≤ 30 := by omega
  have hb30 : lb.length ≤ 30 := by omega
  clear HFEWA HFEWB
  have hpa := back_plain la ha30 hasm HWA.out HPA.out
  have hpb := back_plain lb hb30 hbsm HWB.out HPB.out
  have hla := (raw_small la ha30 hasm).2
  have hlb := (raw_small lb hb30 hbsm).2
  rw [HN.out] at hla
  rw [HN'.out] at hlb
  have HXB := Lib.hid (show bytesV lb = bytesV la → la = lb from fun h => by rw [hpa.1, hpb.1] at h; exact (raw_inj la lb ha30 hasm HWA.out hb30 hbsm HWB.out h.symm))
  have HXC : Hid (la = lb → bytesV lb = bytesV la) := Lib.hid (fun h => by rw [h])
  have hof := fun W => of12_any (bytesV la) W (by rw [hpa.1]; exact (raw_small la ha30 hasm).1)
  unfold OfR at hof
  have hba := fun W hW => HBA.out W hW hla
  have hbb := fun W hW => HBB.out W hW hlb
  unfold BytesR at hba hbb
  rw [hpa.2.1] at hba
  rw [hpb.2.1] at hbb
  have h4 : ofL (bytesV la) = la ∧ ofErr (bytesV la) = 0 := by rw [hpa.1]; exact hpa.2.2
  rw [h4.1, h4.2, HN.out] at hof
  clear hpa hpb h4 hla hlb hasm hbsm HBA HBB ha30 hb30 HWA HWB HPA HPB
  generalize bytesV la = xa at *
  generalize bytesV lb = xb at *
  have HBA := Lib.hid hba; have HBB := Lib.hid hbb; have HOF := Lib.hid hof
  clear hba hbb hof
  have h16 : s.size ≤ 65536 := by omega
  obtain ⟨hln, hty, hsum⟩ := rd0_facts s h16
  have hos := fun W => of12_any s W h16
  unfold OfR at hos
  have HOS := Lib.hid hos; clear hos
  have HG : Hid (∀ g, ofGood s = g → ofL s = (if g then (rd0 s).1 else []) ∧ ofErr s = (if g then 0 else 3)) := Lib.hid (fun g h => ⟨by unfold ofL; rw [h], by unfold ofErr; rw [h]⟩)
  have hlL : (ofL s).length ≤ 65536 ∧ (∀ m ∈ ofL s, Tiny 65536 m) ∧ 20 * (ofL s).length + eSum (ofL s) + 128 ≤ 140737488355328 := by
    unfold ofL
    split
    · exact ⟨hln, hty, by omega⟩
    · exact ⟨by simp, by simp, by simp [eSum]⟩
  have HLL := Lib.hid hlL
  have HGB : Hid (ofGood s = true → ((bytesV (ofL s)).toList == s.toList) = true ∧ errL (ofL s) = 0) := Lib.hid (fun h => by
    have h2 := h
    unfold ofGood at h2
    simp only [Bool.and_eq_true] at h2
    have h3 : ofL s = (rd0 s).1 := by unfold ofL; rw [if_pos h]
    rw [h3]
    exact ⟨by unfold bytesV; rw [if_pos h2.1.2]; exact h2.2, errL_yes h2.1.2⟩)
  have HGE : Hid (ofErr s = if ofGood s then 0 else 3) := Lib.hid (by rfl)
  clear hlL hln hty hsum h16 HG
  generalize ofErr s = es at HOS HGE
  generalize ofGood s = g at HGE HGB
  generalize ofL s = L at HOS HLL HGB
  go_wp2_with fail
  refine (HBA.out _ HB.out).mono ?_
  rintro e w5 ⟨rfl, hb5⟩
  have HB := Lib.hid (then_ HB.out hb5); clear hb5 HBA
  go_wp2_with fail
  refine (HBB.out _ HB.out).mono ?_
  rintro e w6 ⟨rfl, hb6⟩
  have HB := Lib.hid (then_ HB.out hb6); clear hb6 HBB
  go_wp2_with fail
  refine (HOF.out _).mono ?_
  rintro e w7 ⟨v7, rfl, hown7, hb7⟩
  obtain ⟨A7, c7, rfl⟩ := own_form hown7
  have HB := Lib.hid (then_ HB.out hb7); clear HOF
  go_wp2_with fail
  refine (same10_any A7 n c7 la A n c la _ (Rd.of_own hown7) HN.out HM.out (HR.out.below HB.out) HN.out HM.out).mono ?_
  rintro e w8 ⟨q, hq, rfl, hb8⟩
  have hq1 : q = true := hq.2 rfl
  subst hq1
  have HB := Lib.hid (then_ HB.out hb8); clear hb8 hb7 hown7 hq
  go_wp2_with fail
  refine (same10_any A n c la B m d lb _ (HR.out.below HB.out) HN.out HM.out (HR'.out.below HB.out) HN'.out HM'.out).mono ?_
  rintro e w9 ⟨q, hq, rfl, hb9⟩
  have HB := Lib.hid (then_ HB.out hb9); clear hb9
  have heq : (xa.toList == xb.toList) = q := by
    rw [str_beq, Bool.eq_iff_iff, hq, decide_eq_true_eq]
    exact ⟨fun h => HXB.out h.symm, fun h => (HXC.out h).symm⟩
  clear hq HXB HXC
  have hqq : (q != q) = false := by cases q <;> rfl
  have hqq2 : (q == q) = true := by cases q <;> rfl
  go_wp2_with fail
  refine (HOS.out _).mono ?_
  rintro e w10 ⟨v10, rfl, hown10, hb10⟩
  obtain ⟨A10, c10, rfl⟩ := own_form hown10
  have HB10 := Lib.hid (then_ HB.out hb10)
  have HRL := Lib.hid (Rd.of_own hown10)
  clear hown10 hb10 HB HOS
  cases g
  · have he : es = 3 := HGE.out
    subst he
    go_wp2_with fail
    refine (fin12 w _ HB10.out).mono ?_
    rintro e w11 ⟨rfl, hb11⟩
    go_wp2
    go_ret
    exact ⟨rfl, hb11⟩
  have he : es = 0 := HGE.out
  subst he
  obtain ⟨hv1, hv2⟩ := HGB.out rfl
  have HBL := Lib.hid (bytes12_any A10 L.length c10 L _ HRL.out rfl (Nat.le_trans HLL.out.1 (by decide)) (fun m hm => (HLL.out.2.1 m hm).ok (by decide) _) HLL.out.2.2)
  unfold BytesR at HBL
  rw [hv2] at HBL
  generalize bytesV L = t at HBL hv1
  clear hv2 HGE HGB HLL
  go_wp2_with fail
  refine HBL.out.mono ?_
  rintro e w11 ⟨rfl, hb11⟩
  have HB11 := Lib.hid (then_ HB10.out hb11); clear hb11 HBL
  go_wp2_with fail
  refine (fin12 w _ HB11.out).mono ?_
  rintro e w12 ⟨rfl, hb12⟩
  go_wp2
  go_ret
  exact ⟨rfl, hb12⟩
end Go.Proofs.Ytlmplibdfhamjaa
