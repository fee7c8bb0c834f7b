/- The cluster and the events of bytes, by the code. -/
import Derived.Test.YtlmplibdfhamjaaScrZ
import Derived.Test.YtlmplibdfhamjaaScrG
import Derived.Test.YtlmplibdfhamjaaScrQ
attribute [local go_sem ↓] Go.wp_at_zero Go.wp_at_succ
namespace Go.Proofs.Ytlmplibdfhamjaa
open Go.RowKit Go.Mem Go.Num
set_option linter.unusedVariables false
set_option linter.unusedSimpArgs false

theorem ctxB_bare (c : Ctx) : ctxB c.bare.l = ctxB c.l := by
  unfold ctxB Ctx.bare
  simp only [List.length_map, List.flatMap_map]
  rfl
theorem evB_bare (e : Ev) : evB e.bare = evB e := by
  unfold evB
  have h1 : headB e.bare = headB e := rfl
  have h2 : restB e.bare = restB e := by
    unfold restB
    have h3 : calB e.bare.call = calB e.call := by
      show be 1 e.call.kind ++ (textB e.call.token ++ textB e.call.bucket ++ textB e.call.key ++ textB e.call.value) ++ ctxB e.call.ctx.bare.l ++ be 8 e.call.time = _
      rw [ctxB_bare]; rfl
    rw [h3]; rfl
  rw [h1, h2]
theorem evsB_bare (l : List Ev) : evsB (l.map Ev.bare) = evsB l := by
  unfold evsB
  rw [List.length_map, List.flatMap_map]
  congr 1
  exact congrArg (fun f => l.flatMap f) (funext fun e => evB_bare e)
def scr0 (s : ByteArray) : (List Memb × List Ent × List Ev) × St := rdScr (s.data.toList, true)
def scrGood (s : ByteArray) : Bool := rdDone (scr0 s).2 && ((bs (scrB (scr0 s).1.1 (scr0 s).1.2.1 (scr0 s).1.2.2)).toList == s.toList)
def scrM (s : ByteArray) : List Memb := if scrGood s then (scr0 s).1.1 else []
def scrE (s : ByteArray) : List Ent := if scrGood s then (scr0 s).1.2.1 else []
def scrL (s : ByteArray) : List Ev := if scrGood s then (scr0 s).1.2.2 else []
def scrErr (s : ByteArray) : Int := if scrGood s then 0 else 3
/-- what Of answers -/
def OfS (s : ByteArray) (w : World) (e : Ending) (w' : World) : Prop :=
  ∃ (m : Mems) (en : Ents) (x : Evs), e = .returned (.tuple #[.agg (setup m en), x.v, .int .i64 (scrErr s)]) ∧ m.ok w' ∧ en.ok w' ∧ x.ok w' ∧ m.l = scrM s ∧ en.l = scrE s ∧ x.l.map Ev.bare = scrL s ∧ Below w.heap.size w w'
theorem sev_all {T : Type} {P : T → Prop} {rd : St → T × St} (hl : ∀ st, (rd st).2.1.length ≤ st.1.length) (hp : ∀ st, st.1.length ≤ 140737488355328 → P (rd st).1) : ∀ (n : Nat) (st : St), st.1.length ≤ 140737488355328 → ∀ x ∈ (sevG rd n st).1, P x
  | 0, st, h, x, hx => by simp [sevG] at hx
  | n + 1, st, h, x, hx => by
    unfold sevG at hx
    split at hx
    · simp only [List.mem_cons] at hx
      rcases hx with rfl | hx
      · exact hp st h
      · exact sev_all hl hp n _ (Nat.le_trans (hl st) h) x hx
    · simp at hx
theorem rdEnts_ok (st : St) (h : st.1.length ≤ 140737488355328) : ∀ m ∈ (rdAll rdEnt 65536 st).1, ∀ w, m.ok w := by
  intro m hm
  have key : ∀ x ∈ (sevG rdEnt (rdCount 65536 st).1.toNat (rdCount 65536 st).2).1, ∀ w, x.ok w := sev_all (P := fun x : Ent => ∀ w, x.ok w) rdEnt_len (fun s hs w => by
    have h1 := text_max s hs
    have h2 := rdNum_len 8 (rdText s).2
    have h3 := (rdText_len s).1
    have h4 := (rdText_len (rdNum 8 (rdText s).2).2).1
    exact ⟨h1, numWf _, text_max _ (by omega), text_max _ (by omega)⟩) _ _ (Nat.le_trans (rdCount_len 65536 st) h)
  unfold rdAll outT at hm
  simp only at hm
  split at hm
  · exact key m hm
  · simp at hm
theorem done_good {st : St} (h : rdDone st = true) : st.2 = true := by unfold rdDone at h; simp at h; exact h.1
theorem scr_len (s : ByteArray) (hs : s.size ≤ 1048576) (h : rdDone (scr0 s).2 = true) : (scrB (scr0 s).1.1 (scr0 s).1.2.1 (scr0 s).1.2.2).length + 1024 ≤ 140737488355328 := by
  have h1 := (uses_scr (s.data.toList, true) (done_good h)).2
  have h2 : s.data.toList.length = s.size := rfl
  simp only at h1
  unfold scr0
  omega
/-- what Of holds: its result, the reader's box, the cluster -/
structure OX (w : World) (b q : Nat) (W : World) (a0 a1 : Value) : Prop where
  bel : Below w.heap.size w W
  r : SBox 26 #[.slice none 0 0, .slice none 0 0] w.heap.size W
  p : SBox 91 #[.pointer (some ⟨b, 0, none⟩)] q W
  x : SBox 26 #[a0, a1] (q + 1) W
section
variable {w W W' : World} {b q : Nat} {a0 a1 : Value}
theorem OX.call (h : OX w b q W a0 a1) (hb : w.heap.size < b) (hq : b < q) (ho : Only b W W') : OX w b q W' a0 a1 :=
  ⟨h.bel.trans (ho.belowB (by omega) h.bel.size), h.r.only (by omega) ho, h.p.only (by omega) ho, h.x.only (by omega) ho⟩
theorem OX.below (h : OX w b q W a0 a1) (hb : Below W.heap.size W W') : OX w b q W' a0 a1 := ⟨then_ h.bel hb, h.r.below hb, h.p.below hb, h.x.below hb⟩
theorem OX.set0 (h : OX w b q W a0 a1) (hb : w.heap.size < q) (u : Value) : OX w b q (W.setCell ⟨q + 1, 0, none⟩ u) u a1 :=
  ⟨h.bel.setCell (by simp; omega) u, (heap_setCell_other W _ _ u (by simp; omega)).trans h.r, (heap_setCell_other W _ _ u (by simp)).trans h.p, heap_setCell_same W _ 0 _ _ u h.x⟩
theorem OX.set1 (h : OX w b q W a0 a1) (hb : w.heap.size < q) (u : Value) : OX w b q (W.setCell ⟨q + 1, 1, none⟩ u) a0 u :=
  ⟨h.bel.setCell (by simp; omega) u, (heap_setCell_other W _ _ u (by simp; omega)).trans h.r, (heap_setCell_other W _ _ u (by simp)).trans h.p, heap_setCell_same W _ 1 _ _ u h.x⟩
theorem OX.res (h : OX w b q W a0 a1) (u v : Value) : SBox 26 #[u, v] w.heap.size ((W.setCell ⟨w.heap.size, 0, none⟩ u).setCell ⟨w.heap.size, 1, none⟩ v) :=
  heap_setCell_same _ _ 1 _ _ v (heap_setCell_same W _ 0 _ _ u h.r)
end
theorem results_cell_row3 {P : Program} {fn : Func} {p u v : Tmp} {ty : TypeId} (h : fn.results = #[.cell p ty, .tmp u, .tmp v]) (tmps : Array Value) (w : World) (g : Nat) (t : TypeId) (cs : Array Value) (fr : Nat × Nat) (d : TypeDesc)
    (hp : tmps.getD p undef = .pointer (some ⟨g, 0, none⟩)) (hg : w.heap[g]? = some (.cells cs t fr))
    (hu : P.underlying ty = some d) (hd : (match d with | .struct _ | .array _ _ => true | _ => false) = true) (hi : (P.info? ty).map (·.size) = some cs.size) :
    (results fn tmps).run P w = .ok (.tuple #[.agg cs, tmps.getD u undef, tmps.getD v undef]) w := by
  have hp' : tmps[p]?.getD undef = .pointer (some ⟨g, 0, none⟩) := by simpa using hp
  simp [results, h, hp', asAddr, run_loadVar_row w g t ty cs fr d hg hu hd hi]
theorem agr_fin {B g : Nat} {w w' : World} (hb : Below w.heap.size w w') (hg : g < B) (u v : Value) : Agr B w ((w'.setCell ⟨g, 0, none⟩ u).setCell ⟨g, 1, none⟩ v) := fun k h1 h2 =>
  ((heap_setCell_other _ _ k v (by simp; omega)).trans (heap_setCell_other w' _ k u (by simp; omega))).trans (hb.block k h2)
theorem news_any (s : ByteArray) (w : World) : Calls Try.prog 44 #[.string s] (w.alloc (.cells #[.slice none 0 0, .slice none 0 0] 26)) fun e w' => e = .returned (.pointer (some ⟨w.heap.size + 1, 0, none⟩)) ∧ RdO (w.heap.size + 1) (s.data.toList, true) w' ∧ Below w.heap.size w w' ∧ Hid (w'.heap.size = w.heap.size + 2) ∧ SBox 26 #[.slice none 0 0, .slice none 0 0] w.heap.size w' := by
  have h := new_any s (w.alloc (.cells #[.slice none 0 0, .slice none 0 0] 26))
  rw [show (w.alloc (.cells #[.slice none 0 0, .slice none 0 0] 26)).heap.size = w.heap.size + 1 by simp] at h
  refine h.mono ?_
  rintro e w' ⟨rfl, h1, h2, h3⟩
  exact ⟨rfl, h1, ((Below.refl _ _).alloc (Nat.le_refl _) _).trans (h2.mono (by omega)), Lib.hid h3, (h2.block w.heap.size (by omega)).trans (heap_alloc_new w _)⟩
set_option maxRecDepth 100000 in
set_option maxHeartbeats 4000000 in
theorem sOf_any (s : ByteArray) (w : World) (hs : s.size ≤ 1048576) : Calls Try.prog 14 #[.string s] w (OfS s w) := by
  have hsz : s.data.toList.length = s.size := rfl
  have hslen := scr_len s hs
  obtain ⟨ml, s1, e1⟩ : ∃ v s', rdSev rdMem 65536 (s.data.toList, true) = (v, s') := ⟨_, _, rfl⟩
  obtain ⟨el, s2, e2⟩ : ∃ v s', rdAll rdEnt 65536 s1 = (v, s') := ⟨_, _, rfl⟩
  obtain ⟨vl, s3, e3⟩ : ∃ v s', rdSev rdEv 16384 s2 = (v, s') := ⟨_, _, rfl⟩
  have hscr : scr0 s = ((ml, el, vl), s3) := by unfold scr0 rdScr; rw [e1]; simp only [e2, e3]
  have l1 := rdSev_len rdMem_len 65536 (s.data.toList, true)
  rw [e1] at l1
  simp only at l1
  have l2 := rdAll_len rdEnt_len 65536 s1
  rw [e2] at l2
  simp only at l2
  have hel := rdEnts_ok s1 (by omega)
  rw [e2] at hel
  simp only at hel
  have t1 := fun W hW => rMems_any (w.heap.size + 1) (s.data.toList, true) W hW (by simp only; omega)
  unfold rdMems at t1
  rw [e1] at t1
  have t2 := fun W hW => rEntries_any (w.heap.size + 1) s1 W hW (by omega)
  rw [e2] at t2
  have t3 := fun W hW => rEvs_any (w.heap.size + 1) s2 W hW (by omega)
  unfold rdEvs at t3
  rw [e3] at t3
  have t4 := fun W hW => rDone_any (w.heap.size + 1) s3 W hW
  simp only at t1 t2 t3
  have hgood : scrGood s = (rdDone s3 && ((bs (scrB ml el vl)).toList == s.toList)) := by unfold scrGood; rw [hscr]
  have hfin : ∀ g, scrGood s = g → scrM s = (if g then ml else []) ∧ scrE s = (if g then el else []) ∧ scrL s = (if g then vl else []) ∧ scrErr s = (if g then 0 else 3) := fun g hg => by
    unfold scrM scrE scrL scrErr; rw [hg, hscr]; exact ⟨rfl, rfl, rfl, rfl⟩
  rw [hscr] at hslen
  simp only at hslen
  have T1 := Lib.hid t1; have T2 := Lib.hid t2; have T3 := Lib.hid t3; have T4 := Lib.hid t4; have HG := Lib.hid hgood; have HFIN := Lib.hid hfin; have HSLEN := Lib.hid hslen; have HEL := Lib.hid hel
  clear t1 t2 t3 t4 hgood hfin hslen hel l1 l2 e1 e2 e3 hscr hsz hs
  go_enter Try.func14, Try.ntmps14
  go_wp2_with fail
  refine (news_any s w).mono ?_
  rintro e w1 ⟨rfl, hr1, hb1, HZ1, hr⟩
  have hqw : w.heap.size < w1.heap.size := by have := HZ1.out; omega
  have hbq : w.heap.size + 1 < w1.heap.size := by have := HZ1.out; omega
  have hox : OX w (w.heap.size + 1) w1.heap.size ((w1.alloc (.cells #[.pointer (some ⟨w.heap.size + 1, 0, none⟩)] 91)).alloc (.cells #[.slice none 0 0, .slice none 0 0] 26)) (.slice none 0 0) (.slice none 0 0) :=
    ⟨(hb1.alloc hb1.size _).alloc (by have := hb1.size; simp; omega) _, (hr.alloc' _).alloc' _, heap_alloc2_old w1 _ _, heap_alloc2_new w1 _ _⟩
  have HR := Lib.hid (show RdO (w.heap.size + 1) (s.data.toList, true) ((w1.alloc (.cells #[.pointer (some ⟨w.heap.size + 1, 0, none⟩)] 91)).alloc (.cells #[.slice none 0 0, .slice none 0 0] 26)) from Two.alloc (Two.alloc hr1 _) _)
  have HX := Lib.hid hox
  clear hr1 hb1 hr hox
  have x0 := HX.out.x.cell 0 rfl; have f0 := HX.out.x.froz 0
  go_wp2_with fail
  generalize (w1.alloc (.cells #[.pointer (some ⟨w.heap.size + 1, 0, none⟩)] 91)).alloc (.cells #[.slice none 0 0, .slice none 0 0] 26) = W0 at *
  have hw0 := HX.out.x.lt
  refine (T1.out _ HR.out).mono ?_
  clear x0 f0
  rintro e w2 ⟨v, rfl, hown, hr2, ho2⟩
  obtain ⟨mA, mc, rfl⟩ := own_form hown
  have HM : Hid (∃ B, w1.heap.size + 1 < B ∧ ∀ W, Agr B w2 W → Mems.ok W ⟨mA, ml.length, mc, ml⟩) := Lib.hid ⟨_, hw0, fun W hW => ⟨Rd.of_own (own_agr hown (Nat.le_refl _) hW), rfl, own_maxS hown⟩⟩
  obtain ⟨BM, hBM, hM⟩ := HM.out
  have HM := Lib.hid hM
  have HX := Lib.hid (HX.out.call (by omega) hbq ho2)
  clear hown hM ho2 hw0
  have x0 := HX.out.x.cell 0 rfl; have f0 := HX.out.x.froz 0
  have HX := Lib.hid (HX.out.set0 hqw (.slice mA ml.length mc))
  have HR := Lib.hid (rdo_set hr2 (show w.heap.size + 1 ≠ w1.heap.size + 1 by omega) 0 (.slice mA ml.length mc))
  have HM := Lib.hid (fun (W : World) hW => HM.out W (Agr.setCell (i := 0) (u := .slice mA ml.length mc) hBM hW))
  clear hr2
  have b0 := HX.out.p.cell 0 rfl
  go_wp2_with fail
  clear x0 f0 b0
  generalize w2.setCell ⟨w1.heap.size + 1, 0, none⟩ (.slice mA ml.length mc) = W2 at HX HR HM ⊢
  have hw0 := HX.out.x.lt
  refine (T2.out _ HR.out).mono ?_
  rintro e w3 ⟨v, rfl, hown, hr3, ho3⟩
  obtain ⟨eA, ec, rfl⟩ := own_form hown
  have HE : Hid (∃ B, w1.heap.size + 1 < B ∧ ∀ W, Agr B w3 W → Ents.ok W ⟨eA, el.length, ec, el⟩) := Lib.hid ⟨_, hw0, fun W hW => ⟨Rd.of_own (own_agr hown (Nat.le_refl _) hW), rfl, own_maxS hown, fun m hm => HEL.out m hm W⟩⟩
  obtain ⟨BE, hBE, hE⟩ := HE.out
  have HE := Lib.hid hE
  have HX := Lib.hid (HX.out.call (by omega) hbq ho3)
  have HM := Lib.hid (fun (W : World) hW => HM.out W (Agr.only hW ho3 (by omega)))
  clear hown hE ho3 hw0
  have x1 := HX.out.x.cell 1 rfl; have f1 := HX.out.x.froz 1
  have HX := Lib.hid (HX.out.set1 hqw (.slice eA el.length ec))
  have HR := Lib.hid (rdo_set hr3 (show w.heap.size + 1 ≠ w1.heap.size + 1 by omega) 1 (.slice eA el.length ec))
  have HM := Lib.hid (fun (W : World) hW => HM.out W (Agr.setCell (i := 1) (u := .slice eA el.length ec) hBM hW))
  have HE := Lib.hid (fun (W : World) hW => HE.out W (Agr.setCell (i := 1) (u := .slice eA el.length ec) hBE hW))
  clear hr3
  have b0 := HX.out.p.cell 0 rfl
  go_wp2_with fail
  clear x1 f1 b0
  generalize w3.setCell ⟨w1.heap.size + 1, 1, none⟩ (.slice eA el.length ec) = W3 at HX HR HM HE ⊢
  have hw0 := HX.out.x.lt
  refine (T3.out _ HR.out).mono ?_
  rintro e w4 ⟨⟨xA, xn, xc, xs⟩, rfl, hbare, hlast, hr4, ho4⟩
  have hbr : xs.map Ev.bare = vl := by unfold Evs.bare at hbare; simp only [Evs.mk.injEq] at hbare; exact hbare.2.2.2
  have hbb : scrB ml el xs = scrB ml el vl := by unfold scrB; rw [← hbr, evsB_bare]
  have HBR := Lib.hid hbr; have HBB := Lib.hid hbb
  clear hbare hbr hbb
  have HV := Lib.hid hlast
  have HX := Lib.hid (HX.out.call (by omega) hbq ho4)
  have HM := Lib.hid (fun (W : World) hW => HM.out W (Agr.only hW ho4 (by omega)))
  have HE := Lib.hid (fun (W : World) hW => HE.out W (Agr.only hW ho4 (by omega)))
  have HW3 := Lib.hid hw0
  have HR := Lib.hid hr4
  clear hlast hr4 ho4 hw0
  simp only [Evs.v]
  have b0 := HX.out.p.cell 0 rfl
  go_wp2_with fail
  clear b0
  refine (T4.out _ HR.out).mono ?_
  rintro e w5 ⟨rfl, rfl⟩
  have HZ : Hid (∀ W, Mems.ok W ⟨none, 0, 0, []⟩ ∧ Ents.ok W ⟨none, 0, 0, []⟩ ∧ Evs.ok W ⟨none, 0, 0, []⟩) := Lib.hid fun W => ⟨⟨fun j u hj => by simp at hj, rfl, Nat.zero_le _⟩, ⟨fun j u hj => by simp at hj, rfl, Nat.zero_le _, fun m hm => by simp at hm⟩, ⟨fun j u hj => by simp at hj, rfl, Nat.zero_le _, fun m hm => by simp at hm⟩⟩
  generalize hdn : rdDone s3 = dn at HG HSLEN
  cases dn with
  | false =>
    have HF := Lib.hid (HFIN.out false (by rw [HG.out]; rfl)); clear HG HFIN hdn
    have r0 := HX.out.r.cell 0 rfl; have r1 := HX.out.r.cell 1 rfl; have q0 := HX.out.r.froz 0; have q1 := HX.out.r.froz 1
    go_wp2_with fail
    refine bodyPost_ret (results_cell_row3 rfl _ _ w.heap.size _ #[.slice none 0 0, .slice none 0 0] (0, 0) _ rfl (HX.out.res _ _) Try.underlying26 rfl rfl) rfl ?_
    obtain ⟨g1, g2, g3, g4⟩ := HF.out
    obtain ⟨z1, z2, z3⟩ := HZ.out ((w4.setCell ⟨w.heap.size, 0, none⟩ (.slice none 0 0)).setCell ⟨w.heap.size, 1, none⟩ (.slice none 0 0))
    exact ⟨⟨none, 0, 0, []⟩, ⟨none, 0, 0, []⟩, ⟨none, 0, 0, []⟩, by rw [g4]; rfl, z1, z2, z3, g1.symm, g2.symm, g3.symm, (HX.out.bel.setCell (by simp) _).setCell (by simp) _⟩
  | true =>
    have hlen := HSLEN.out rfl
    have HBY := Lib.hid (sBytes_any ⟨mA, ml.length, mc, ml⟩ ⟨eA, el.length, ec, el⟩ ⟨xA, xn, xc, xs⟩ w4 (HM.out _ (Agr.refl _ _)) (HE.out _ (Agr.refl _ _)) (HV.out _ (Agr.refl _ _)) (by rw [HBB.out]; exact hlen))
    unfold SaysT at HBY
    rw [HBB.out] at HBY
    generalize bs (scrB ml el vl) = t at HBY HG
    clear HSLEN hlen
    simp only [setup, Evs.v] at HBY
    generalize hq : (t.toList == s.toList) = qq at HG
    cases qq with
    | false =>
      have HF := Lib.hid (HFIN.out false (by rw [HG.out]; rfl)); clear HG HFIN hdn
      have x0 := HX.out.x.cell 0 rfl; have x1 := HX.out.x.cell 1 rfl
      go_wp2_with fail
      refine HBY.out.mono ?_
      clear x0 x1
      rintro e w6 ⟨rfl, hb6⟩
      have HX := Lib.hid (HX.out.below hb6)
      have r0 := HX.out.r.cell 0 rfl; have r1 := HX.out.r.cell 1 rfl; have q0 := HX.out.r.froz 0; have q1 := HX.out.r.froz 1
      go_wp2_with fail
      refine bodyPost_ret (results_cell_row3 rfl _ _ w.heap.size _ #[.slice none 0 0, .slice none 0 0] (0, 0) _ rfl (HX.out.res _ _) Try.underlying26 rfl rfl) rfl ?_
      obtain ⟨g1, g2, g3, g4⟩ := HF.out
      obtain ⟨z1, z2, z3⟩ := HZ.out ((w6.setCell ⟨w.heap.size, 0, none⟩ (.slice none 0 0)).setCell ⟨w.heap.size, 1, none⟩ (.slice none 0 0))
      exact ⟨⟨none, 0, 0, []⟩, ⟨none, 0, 0, []⟩, ⟨none, 0, 0, []⟩, by rw [g4]; rfl, z1, z2, z3, g1.symm, g2.symm, g3.symm, (HX.out.bel.setCell (by simp) _).setCell (by simp) _⟩
    | true =>
      have HF := Lib.hid (HFIN.out true (by rw [HG.out]; rfl)); clear HG HFIN hdn
      have x0 := HX.out.x.cell 0 rfl; have x1 := HX.out.x.cell 1 rfl
      go_wp2_with fail
      refine HBY.out.mono ?_
      clear x0 x1
      rintro e w6 ⟨rfl, hb6⟩
      have HX := Lib.hid (HX.out.below hb6)
      have r0 := HX.out.r.cell 0 rfl; have r1 := HX.out.r.cell 1 rfl; have q0 := HX.out.r.froz 0; have q1 := HX.out.r.froz 1
      have x0 := HX.out.x.cell 0 rfl; have x1 := HX.out.x.cell 1 rfl
      go_wp2_with fail
      refine bodyPost_ret (results_cell_row3 rfl _ _ w.heap.size _ #[.slice mA ml.length mc, .slice eA el.length ec] (0, 0) _ rfl (HX.out.res _ _) Try.underlying26 rfl rfl) rfl ?_
      obtain ⟨g1, g2, g3, g4⟩ := HF.out
      have hw3 := HW3.out
      exact ⟨⟨mA, ml.length, mc, ml⟩, ⟨eA, el.length, ec, el⟩, ⟨xA, xn, xc, xs⟩, by rw [g4]; rfl, HM.out _ (agr_fin hb6 (by omega) _ _), HE.out _ (agr_fin hb6 (by omega) _ _), HV.out _ (agr_fin hb6 (by omega) _ _), g1.symm, g2.symm, HBR.out.trans g3.symm, (HX.out.bel.setCell (by simp) _).setCell (by simp) _⟩
end Go.Proofs.Ytlmplibdfhamjaa
