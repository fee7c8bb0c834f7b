/- The search for a number's pair: the closure that calls itself. -/
import Derived.Test.YtpiinfjcjpdofaaCovB
import Derived.AtR
import Derived.Deep.RegionHeld3
import Derived.IntWalk
import Derived.Deep.DrawnRows
attribute [local go_sem ↓] Go.wp_at_zero Go.wp_at_succ
namespace Go.Proofs.Ytpiinfjcjpdofaa
open Go.RowKit Go.Mem Go.Cov
set_option linter.unusedVariables false
set_option linter.unusedSimpArgs false

theorem enter_try (args : Array Value) (W : World) : Sem.run Try.prog (callFunc 76 args) W = .ok (.enter 76 args) W := by kernel_rfl
/-- what the search has at hand -/
structure St (A : Option Addr) (n c : Nat) (l : List Pair) (pb lb rb sb p0 s0 y0 : Nat) (fL fR : Int → Option Int) (S : List Int) (w : World) : Prop where
  has : Has w A n c l pb lb rb sb p0 s0 y0
  ml : MZ w lb fL (l.map (·.1))
  mr : MZ w rb fR (l.map (·.2))
  ms : MZ w sb (seenF S) (l.map (·.2))
section
variable {A : Option Addr} {n c : Nat} {l : List Pair} {pb lb rb sb p0 s0 y0 : Nat} {fL fR : Int → Option Int} {S : List Int} {w w' : World}
theorem St.below (h : St A n c l pb lb rb sb p0 s0 y0 fL fR S w) (hb : Below w.heap.size w w') : St A n c l pb lb rb sb p0 s0 y0 fL fR S w' :=
  ⟨h.has.below hb, h.ml.block (hb.block _ h.ml.lt), h.mr.block (hb.block _ h.mr.lt), h.ms.block (hb.block _ h.ms.lt)⟩
theorem St.seen (h : St A n c l pb lb rb sb p0 s0 y0 fL fR S w) (hne : lb ≠ rb ∧ lb ≠ sb ∧ rb ≠ sb) {S' : List Int} (hg : w.grownBy w' (some sb)) (hm : MZ w' sb (seenF S') (l.map (·.2))) : St A n c l pb lb rb sb p0 s0 y0 fL fR S' w' :=
  ⟨h.has.turn h.ml h.mr h.ms (Turn.grown hg (.inr (.inr rfl)) (Nat.le_refl _)), h.ml.block (hg.block _ h.ml.lt (fun e => hne.2.1 (by injection e))), h.mr.block (hg.block _ h.mr.lt (fun e => hne.2.2 (by injection e))), hm⟩
end
/-- two entries, each made and then stored -/
theorem two_put {lb rb sb : Nat} (hne : lb ≠ rb ∧ lb ≠ sb ∧ rb ≠ sb) {fL fR : Int → Option Int} {XL XR : List Int} {W : World} (ml : MZ W lb fL XL) (mr : MZ W rb fR XR) (hXL : XL.length ≤ 1000) (hXR : XR.length ≤ 1000) {u q : Int} (hu : inOk u) (hq : inOk q) (huX : u ∈ XL) (hqX : q ∈ XR) {z : Int} (hz : (Lit.int .i64 z).wf = true) :
    ∃ (v0 : Value) (st : Nat) (w1 w2 : World) (v1 : Value) (st2 : Nat) (w3 w4 : World),
      (Instr.mapEntry 75 (.map (some lb)) (.int .i64 u)).run Try.prog W = .ok (.tuple #[v0, goInt st]) w1 ∧ (Instr.entryStore 75 (.map (some lb)) (.int .i64 (st : Int)) (.int .i64 z)).run Try.prog w1 = .ok () w2 ∧
      (Instr.mapEntry 75 (.map (some rb)) (.int .i64 q)).run Try.prog w2 = .ok (.tuple #[v1, goInt st2]) w3 ∧ (Instr.entryStore 75 (.map (some rb)) (.int .i64 (st2 : Int)) (.int .i64 z)).run Try.prog w3 = .ok () w4 ∧
      (Turn W.heap.size (Three lb rb sb) W w1 ∧ Turn W.heap.size (Three lb rb sb) W w2 ∧ Turn W.heap.size (Three lb rb sb) W w3 ∧ Turn W.heap.size (Three lb rb sb) W w4) ∧
      MZ w4 lb (put fL u z) XL ∧ MZ w4 rb (put fR q z) XR ∧ (∀ f X, MZ W sb f X → MZ w4 sb f X) := by
  obtain ⟨v0, st, w1, e1, g1, z1, k1⟩ := ml.entry hXL hu huX
  obtain ⟨w2, e2, m2, g2, z2⟩ := k1 w1 z rfl hz
  have nb : ∀ {a b : Nat}, a ≠ b → some a ≠ some b := fun h e => h (by injection e)
  have mr2 : MZ w2 rb fR XR := (mr.block (g1.block _ mr.lt (nb (Ne.symm hne.1)))).block (g2.block _ (by rw [z1]; exact mr.lt) (nb (Ne.symm hne.1)))
  obtain ⟨v1, st2, w3, e3, g3, z3, k3⟩ := mr2.entry hXR hq hqX
  obtain ⟨w4, e4, m4, g4, z4⟩ := k3 w3 z rfl hz
  have t1 : Turn W.heap.size (Three lb rb sb) W w1 := Turn.grown g1 (.inl rfl) (Nat.le_refl _)
  have t2 : Turn W.heap.size (Three lb rb sb) W w2 := t1.trans (Turn.grown g2 (.inl rfl) (by omega))
  have t3 : Turn W.heap.size (Three lb rb sb) W w3 := t2.trans (Turn.grown g3 (.inr (.inl rfl)) (by omega))
  have t4 : Turn W.heap.size (Three lb rb sb) W w4 := t3.trans (Turn.grown g4 (.inr (.inl rfl)) (by omega))
  have l3 := (m2.block (g3.block _ m2.lt (nb hne.1))).block (g4.block _ (by rw [z3]; exact m2.lt) (nb hne.1))
  refine ⟨v0, st, w1, w2, v1, st2, w3, w4, e1, e2, e3, e4, ⟨t1, t2, t3, t4⟩, l3, m4, fun f X hs => ?_⟩
  have := hs.lt
  exact (((hs.block (g1.block _ hs.lt (nb (Ne.symm hne.2.1)))).block (g2.block _ (by omega) (nb (Ne.symm hne.2.1)))).block (g3.block _ (by omega) (nb (Ne.symm hne.2.2)))).block (g4.block _ (by omega) (nb (Ne.symm hne.2.2)))
theorem Turn.undrew {W W' : World} {base : Nat} {may : Nat → Prop} (h : Turn base may W.drew W') : Turn base may W W' := ⟨h.os, h.tape, h.output, h.size, h.block⟩
theorem Turn.drewN {W W' : World} {base : Nat} {may : Nat → Prop} (h : Turn base may W W') (m : Nat) : Turn base may W (W'.drewN m) := ⟨h.os, h.tape, h.output, h.size, h.block⟩
/-- what a search comes to -/
def Tried (l : List Pair) (lb rb sb : Nat) (T : List Nat) (S : List Int) (u : Int) (fL fR : Int → Option Int) (w : World) (e : Ending) (w' : World) : Prop :=
  Turn w.heap.size (Three lb rb sb) w w' ∧
  ((∃ T' fL' fR' S', e = .returned (.bool true) ∧ Won l T T' u S ∧ Acc l T T' u fL' fR' ∧ MZ w' lb fL' (l.map (·.1)) ∧ MZ w' rb fR' (l.map (·.2)) ∧ MZ w' sb (seenF S') (l.map (·.2))) ∨
   (∃ S', e = .returned (.bool false) ∧ Lost l T S S' ∧ Nb l u S' ∧ MZ w' lb fL (l.map (·.1)) ∧ MZ w' rb fR (l.map (·.2)) ∧ MZ w' sb (seenF S') (l.map (·.2))))
theorem tried_bool {l : List Pair} {lb rb sb : Nat} {T : List Nat} {S : List Int} {u : Int} {fL fR : Int → Option Int} {w w' : World} {e : Ending} (h : Tried l lb rb sb T S u fL fR w e w') :
    ∃ qb : Bool, e = .returned (.bool qb) ∧ ((qb = true ∧ ∃ T' fL' fR' S', Won l T T' u S ∧ Acc l T T' u fL' fR' ∧ MZ w' lb fL' (l.map (·.1)) ∧ MZ w' rb fR' (l.map (·.2)) ∧ MZ w' sb (seenF S') (l.map (·.2))) ∨
      (qb = false ∧ ∃ S', Lost l T S S' ∧ Nb l u S' ∧ MZ w' lb fL (l.map (·.1)) ∧ MZ w' rb fR (l.map (·.2)) ∧ MZ w' sb (seenF S') (l.map (·.2)))) := by
  rcases h.2 with ⟨T', a, b, c, h1, h2⟩ | ⟨c, h1, h2⟩
  · exact ⟨true, h1, .inl ⟨rfl, T', a, b, c, h2⟩⟩
  · exact ⟨false, h1, .inr ⟨rfl, c, h2⟩⟩
theorem wf_nat {k : Nat} (h : k ≤ 100000) : (Lit.int .i64 (k : Int)).wf = true := by
  unfold Lit.wf; simp [IntKind.min, IntKind.max, IntKind.signed, IntKind.bits]; omega
theorem wf_small {z : Int} (h0 : 0 ≤ z) (h : z ≤ 100000) : (Lit.int .i64 z).wf = true := by
  unfold Lit.wf; simp [IntKind.min, IntKind.max, IntKind.signed, IntKind.bits]; omega
set_option maxRecDepth 100000 in
set_option maxHeartbeats 8000000 in
theorem try_any (A : Option Addr) (n c : Nat) (l : List Pair) (pb lb rb sb p0 s0 y0 : Nat) (hn : l.length = n) (hm : n ≤ 1000) (hok : okP l) (hne : lb ≠ rb ∧ lb ≠ sb ∧ rb ≠ sb) (T : List Nat) (hap : Ap l T) (fL fR : Int → Option Int)
    (hL : ∀ v z, fL v = some z ↔ ∃ a ∈ T, lf l a = v ∧ z = (a : Int)) (hR : ∀ v z, fR v = some z ↔ ∃ a ∈ T, rt l a = v ∧ z = (a : Int)) :
    ∀ (d : Nat) (u : Int) (S : List Int) (w : World), cn S (l.map (·.2)) < d → (∀ o ∈ T, lf l o = u → rt l o ∈ S) → St A n c l pb lb rb sb p0 s0 y0 fL fR S w →
    Calls Try.prog 76 #[.int .i64 u, .pointer (some ⟨p0, 0, none⟩), .pointer (some ⟨s0, 0, none⟩), .pointer (some ⟨y0, 0, none⟩)] w (Tried l lb rb sb T S u fL fR w) := by
  have HN := Lib.hid hn; have HOK := Lib.hid hok; have HNE := Lib.hid hne; have HAP := Lib.hid hap; have HL := Lib.hid hL; have HR := Lib.hid hR
  clear hn hok hne hap hL hR
  intro d
  induction d with
  | zero => intro u S w h; omega
  | succ d ih =>
    intro u S w hd hu hS
    have HIH := Lib.hid ih; have HD := Lib.hid hd; have HU := Lib.hid hu; have HS := Lib.hid hS
    clear ih hd hu hS
    have hcp := HS.out.has.cp; have hb0 := HS.out.has.b0
    go_enter Try.func76, Try.ntmps76
    go_wp2_with fail
    clear hcp hb0
    go_loopw [15] (fun i wr => ∃ (k : Nat) (S' : List Int), k ≤ n ∧ i = .int .i64 k ∧ Hid (Lost l T S S') ∧ Hid (∀ x ∈ l.take k, x.1 = u → x.2 ∈ S') ∧ Hid (St A n c l pb lb rb sb p0 s0 y0 fL fR S' wr) ∧ Hid (Turn w.heap.size (Three lb rb sb) w wr)) (fun i _ => n - (intOf i).toNat)
    case atStart => exact ⟨0, S, Nat.zero_le _, rfl, Lib.hid (Lost.refl _ _ _), Lib.hid (by simp), HS, Lib.hid (Turn.refl _)⟩
    case round =>
      clear HS
      obtain ⟨k, S', hk, rfl, HLO, HSE, HS, HT⟩ := hrel
      by_cases hlt : k < n
      · have hx : k < l.length := by have := HN.out; omega
        obtain ⟨b, off, rfl, hc0, hc1⟩ := prc_at HS.out.has.rd hx
        have HLF := Lib.hid (lf_at hx); have HRT := Lib.hid (rt_at hx)
        have HIN := Lib.hid (List.getElem_mem hx)
        have HTK := Lib.hid (List.take_succ_eq_append_getElem hx)
        have HPO := Lib.hid (HOK.out _ HIN.out)
        generalize l[k] = pq at hc0 hc1 HLF HRT HIN HTK HPO
        obtain ⟨p, q⟩ := pq
        simp only at hc0 hc1
        have hkn : (k : Int) < (n : Int) := by omega
        have hk0 : (0 : Int) ≤ (k : Int) := by omega
        have hal : Below wr.heap.size wr (wr.alloc (.cells #[.int .i64 p, .int .i64 q] 50)) := (Below.refl _ _).alloc (Nat.le_refl _) _
        have HS1 := Lib.hid (HS.out.below hal)
        have HT1 := Lib.hid (HT.out.trans ((Turn.of_below hal).mono HT.out.size (fun _ _ e => e)))
        have HZ := Lib.hid HT.out.size
        clear hal
        by_cases hpu : p = u
        rotate_left
        · have hne : (p != u) = true := by simp [hpu]
          have HP := Lib.hid hpu
          clear hpu
          go_wp2_with fail
          refine ⟨⟨k + 1, S', by omega, by go_num, HLO, Lib.hid (fun x hx he => ?_), HS1, HT1⟩, by simp [intOf]; omega⟩
          rw [HTK.out] at hx
          rcases List.mem_append.1 hx with hx | hx
          · exact HSE.out x hx he
          · rw [List.mem_singleton] at hx; subst hx; exact absurd he HP.out
        · have hpu' : u = p := hpu.symm
          clear hpu
          subst hpu'
          have hnf : (u != u) = false := by simp
          have hcs := HS1.out.has.cs
          have hxc0 : (wr.alloc (.cells #[.int .i64 u, .int .i64 q] 50)).cell? ⟨wr.heap.size, 0, none⟩ = some (.int .i64 u) := by rw [World.cell?_alloc_at _ _ _ _ rfl]; rfl
          have hxc1 : (wr.alloc (.cells #[.int .i64 u, .int .i64 q] 50)).cell? ⟨wr.heap.size, 1, none⟩ = some (.int .i64 q) := by rw [World.cell?_alloc_at _ _ _ _ rfl]; rfl
          have HX1 := Lib.hid hxc1
          have HXB := Lib.hid (show wr.heap.size < (wr.alloc (.cells #[.int .i64 u, .int .i64 q] 50)).heap.size by simp)
          have HSB := Lib.hid (show sb < wr.heap.size ∧ lb < wr.heap.size ∧ rb < wr.heap.size from ⟨HS.out.ms.lt, HS.out.ml.lt, HS.out.mr.lt⟩)
          by_cases hq : q ∈ S'
          · have hlook := HS1.out.ms.look HPO.out.2
            rw [show seenF S' q = some 1 from if_pos hq] at hlook
            simp only [Option.getD_some] at hlook
            have HQ := Lib.hid hq; clear hq hxc0 hxc1
            go_wp2_with fail
            refine ⟨⟨k + 1, S', by omega, by go_num, HLO, Lib.hid (fun x hx he => ?_), HS1, HT1⟩, by simp [intOf]; omega⟩
            rw [HTK.out] at hx
            rcases List.mem_append.1 hx with hx | hx
            · exact HSE.out x hx he
            · rw [List.mem_singleton] at hx; subst hx; exact HQ.out
          · have hlook := HS1.out.ms.look HPO.out.2
            rw [show seenF S' q = none from if_neg hq] at hlook
            simp only [Option.getD_none] at hlook
            have HQ := Lib.hid hq; clear hq
            have HQR := Lib.hid (show q ∈ l.map (·.2) from List.mem_map.2 ⟨(u, q), HIN.out, rfl⟩)
            have HUL := Lib.hid (show u ∈ l.map (·.1) from List.mem_map.2 ⟨(u, q), HIN.out, rfl⟩)
            go_wp2_with (at_mapUpdate; refine wpList_mz_put rfl _ _ _ rfl HS1.out.ms (by rw [List.length_map, HN.out]; omega) rfl q HPO.out.2 HQR.out rfl 1 rfl (by decide) ?_; intro w2 hm2 hg2; rw [seenF_put] at hm2)
            clear hlook hcs hxc0 hxc1
            have HS2 := Lib.hid (HS1.out.seen HNE.out hg2 hm2)
            have HT2 := Lib.hid (HT1.out.trans ((Turn.grown hg2 (.inr (.inr rfl)) (Nat.le_refl _)).mono (by have := HT1.out.size; omega) (fun _ _ e => e)))
            have HX2 := Lib.hid (show w2.cell? ⟨wr.heap.size, 1, none⟩ = some (.int .i64 q) from (World.cell?_of_block (a := ⟨wr.heap.size, 1, none⟩) (hg2.block wr.heap.size HXB.out (fun e => by injection e with e; have := HSB.out.1; omega))).trans HX1.out)
            have HXB2 := Lib.hid (show wr.heap.size < w2.heap.size from Nat.lt_of_lt_of_le HXB.out hg2.size)
            clear hm2 hg2 HS1 HT1 HX1 HXB
            have HCL := Lib.hid (fun W (h : Turn w2.heap.size (Three lb rb sb) w2 W) => (⟨(HS2.out.has.turn HS2.out.ml HS2.out.mr HS2.out.ms h), h.cell (a := ⟨wr.heap.size, 1, none⟩) (by rintro (e | e | e) <;> (have := HSB.out; simp only at e; omega)) HX2.out⟩ : Has W (some ⟨b, off, none⟩) n c l pb lb rb sb p0 s0 y0 ∧ W.cell? ⟨wr.heap.size, 1, none⟩ = some (.int .i64 q)))
            have hc6 := HS2.out.has.cp; have hb6 := HS2.out.has.b2; have hx6 := HX2.out
            have hl6 : ∀ m, (Instr.lookup 75 (.map (some rb)) (.int .i64 q) true).run Try.prog (w2.drewN m) = .ok (.tuple #[.int .i64 ((fR q).getD 0), .bool (fR q).isSome]) (w2.drewN m) := fun m => MZ.look_ok (MZ.block (w' := w2.drewN m) HS2.out.mr rfl) HPO.out.2
            generalize wr.heap.size = xb at HX2 HCL hx6 HSB HXB2 ⊢
            have HFR := Lib.hid (fun z => HR.out q z)
            cases hfq : fR q with
            | none =>
              rw [hfq] at hl6
              simp only [Option.getD_none, Option.isSome_none] at hl6
              have HFQ := Lib.hid hfq; clear hfq
              go_wp2
              go_quiet (fail)
              rename_i nq
              have HT3 := Lib.hid (HT2.out.drewN nq); have HS3 := Lib.hid (HS2.out.below (w' := w2.drewN nq) (drewN_ (Below.refl _ _) nq)); have HX3 := Lib.hid (show (w2.drewN nq).cell? ⟨xb, 1, none⟩ = some (.int .i64 q) from HX2.out)
              have HXB3 := Lib.hid (show xb < (w2.drewN nq).heap.size from HXB2.out)
              clear hc6 hb6 hx6 hl6 HCL HS2 HT2 HX2
              generalize w2.drewN nq = w3 at HT3 HS3 HX3 HXB3 ⊢
              go_wp2_with fail
              have HMO := Lib.hid HLO.out.more
              have HUU := Lib.hid (show ∀ o ∈ T, lf l o = lf l k → rt l o ∈ S' from fun o ho e => HMO.out _ (HU.out o ho (by rw [e, HLF.out])))
              have HFREE := Lib.hid (show ∀ b ∈ T, rt l b ≠ rt l k from fun b hb e => by
                have := (HFR.out (b : Int)).2 ⟨b, hb, by rw [e, HRT.out], rfl⟩
                rw [HFQ.out] at this; cases this)
              have HWON : Hid (Won l T (swap l T k) u S) := Lib.hid (by
                have := won_free HAP.out hx (by rw [HRT.out]; exact HQ.out) HUU.out HFREE.out
                rw [HLF.out] at this
                exact Won.less this HMO.out)
              have HACC : Hid (Acc l T (swap l T k) u (put fL u k) (put fR q k)) := Lib.hid (by
                have := acc_free HWON.out.ap HL.out HR.out
                rw [HLF.out, HRT.out] at this
                exact this)
              generalize swap l T k = TT at HWON HACC
              refine wp_region_held_drew (S := (fun _ => True)) (by kernel_rfl) trivial (fun hHeld => ?_)
              refine wpAnyH_take (i := 0) (oi := _) (v := ?vq16) rfl (by kernel_rfl) (by kernel_rfl) (by kernel_rfl) (fun _ _ _ h => h) (Or.inl ⟨by rfl, ?hq16⟩) (by assumption) ?rq16
              case hq16 => (intro w hSw; go_simp; try with_reducible rfl)
              try dsimp only [Act.put, List.getElem_toArray, List.getElem_cons_zero, List.getElem_cons_succ]; try simp only [List.setIfInBounds_toArray, List.set_cons_zero, List.set_cons_succ]
              refine wpAnyH_take (i := 1) (oi := _) (v := ?vq17) rfl (by kernel_rfl) (by kernel_rfl) (by kernel_rfl) (fun _ _ _ h => h) (Or.inl ⟨by rfl, ?hq17⟩) (by assumption) ?rq17
              case hq17 => (intro w hSw; go_simp; try with_reducible rfl)
              try dsimp only [Act.put, List.getElem_toArray, List.getElem_cons_zero, List.getElem_cons_succ]; try simp only [List.setIfInBounds_toArray, List.set_cons_zero, List.set_cons_succ]
              refine wpAnyH_take (i := 2) (oi := _) (v := ?vq18) rfl (by kernel_rfl) (by kernel_rfl) (by kernel_rfl) (fun _ _ _ h => h) (Or.inl ⟨by rfl, ?hq18⟩) (by assumption) ?rq18
              case hq18 => (intro w hSw; go_simp; try with_reducible rfl)
              try dsimp only [Act.put, List.getElem_toArray, List.getElem_cons_zero, List.getElem_cons_succ]; try simp only [List.setIfInBounds_toArray, List.set_cons_zero, List.set_cons_succ]
              refine wpAnyH_take (i := 3) (oi := _) (v := undef) rfl (by kernel_rfl) (by kernel_rfl) (by kernel_rfl) (fun _ _ _ h => h) (Or.inr ⟨by rfl, rfl⟩) (by assumption) ?_
              try dsimp only [Act.put, List.getElem_toArray, List.getElem_cons_zero, List.getElem_cons_succ]; try simp only [List.setIfInBounds_toArray, List.set_cons_zero, List.set_cons_succ]
              refine wpAnyH_take (i := 4) (oi := _) (v := undef) rfl (by kernel_rfl) (by kernel_rfl) (by kernel_rfl) (fun _ _ _ h => h) (Or.inr ⟨by rfl, rfl⟩) (by assumption) ?_
              try dsimp only [Act.put, List.getElem_toArray, List.getElem_cons_zero, List.getElem_cons_succ]; try simp only [List.setIfInBounds_toArray, List.set_cons_zero, List.set_cons_succ]
              refine wpAnyH_take (i := 5) (oi := _) (v := undef) rfl (by kernel_rfl) (by kernel_rfl) (by kernel_rfl) (fun _ _ _ h => h) (Or.inr ⟨by rfl, rfl⟩) (by assumption) ?_
              try dsimp only [Act.put, List.getElem_toArray, List.getElem_cons_zero, List.getElem_cons_succ]; try simp only [List.setIfInBounds_toArray, List.set_cons_zero, List.set_cons_succ]
              refine wpAnyH_take (i := 6) (oi := _) (v := undef) rfl (by kernel_rfl) (by kernel_rfl) (by kernel_rfl) (fun _ _ _ h => h) (Or.inr ⟨by rfl, rfl⟩) (by assumption) ?_
              try dsimp only [Act.put, List.getElem_toArray, List.getElem_cons_zero, List.getElem_cons_succ]; try simp only [List.setIfInBounds_toArray, List.set_cons_zero, List.set_cons_succ]
              refine wpAnyH_take (i := 7) (oi := _) (v := undef) rfl (by kernel_rfl) (by kernel_rfl) (by kernel_rfl) (fun _ _ _ h => h) (Or.inr ⟨by rfl, rfl⟩) (by assumption) ?_
              try dsimp only [Act.put, List.getElem_toArray, List.getElem_cons_zero, List.getElem_cons_succ]; try simp only [List.setIfInBounds_toArray, List.set_cons_zero, List.set_cons_succ]
              refine wpAnyH_take (i := 8) (oi := _) (v := undef) rfl (by kernel_rfl) (by kernel_rfl) (by kernel_rfl) (fun _ _ _ h => h) (Or.inr ⟨by rfl, rfl⟩) (by assumption) ?_
              try dsimp only [Act.put, List.getElem_toArray, List.getElem_cons_zero, List.getElem_cons_succ]; try simp only [List.setIfInBounds_toArray, List.set_cons_zero, List.set_cons_succ]
              refine wpAnyH_take (i := 9) (oi := _) (v := undef) rfl (by kernel_rfl) (by kernel_rfl) (by kernel_rfl) (fun _ _ _ h => h) (Or.inr ⟨by rfl, rfl⟩) (by assumption) ?_
              try dsimp only [Act.put, List.getElem_toArray, List.getElem_cons_zero, List.getElem_cons_succ]; try simp only [List.setIfInBounds_toArray, List.set_cons_zero, List.set_cons_succ]
              refine wpAnyH_take (i := 10) (oi := _) (v := undef) rfl (by kernel_rfl) (by kernel_rfl) (by kernel_rfl) (fun _ _ _ h => h) (Or.inr ⟨by rfl, rfl⟩) (by assumption) ?_
              try dsimp only [Act.put, List.getElem_toArray, List.getElem_cons_zero, List.getElem_cons_succ]; try simp only [List.setIfInBounds_toArray, List.set_cons_zero, List.set_cons_succ]
              refine wpAnyH_take (i := 11) (oi := _) (v := undef) rfl (by kernel_rfl) (by kernel_rfl) (by kernel_rfl) (fun _ _ _ h => h) (Or.inr ⟨by rfl, rfl⟩) (by assumption) ?_
              try dsimp only [Act.put, List.getElem_toArray, List.getElem_cons_zero, List.getElem_cons_succ]; try simp only [List.setIfInBounds_toArray, List.set_cons_zero, List.set_cons_succ]
              refine wpAnyH_take (i := 12) (oi := _) (v := undef) rfl (by kernel_rfl) (by kernel_rfl) (by kernel_rfl) (fun _ _ _ h => h) (Or.inr ⟨by rfl, rfl⟩) (by assumption) ?_
              try dsimp only [Act.put, List.getElem_toArray, List.getElem_cons_zero, List.getElem_cons_succ]; try simp only [List.setIfInBounds_toArray, List.set_cons_zero, List.set_cons_succ]
              refine wpAnyH_take (i := 13) (oi := _) (v := ?vq29) rfl (by kernel_rfl) (by kernel_rfl) (by kernel_rfl) (fun _ _ _ h => h) (Or.inl ⟨by rfl, ?hq29⟩) (by assumption) ?rq29
              case hq29 => (intro w hSw; go_simp; try with_reducible rfl)
              try dsimp only [Act.put, List.getElem_toArray, List.getElem_cons_zero, List.getElem_cons_succ]; try simp only [List.setIfInBounds_toArray, List.set_cons_zero, List.set_cons_succ]
              refine wpAnyH_done (by kernel_rfl) ?_ _
              have HT4 := HT3; have HH4 := Lib.hid HS3.out.has; have ML4 := Lib.hid HS3.out.ml; have MR4 := Lib.hid HS3.out.mr; have MS4 := Lib.hid HS3.out.ms; have HX4 := HX3; have HXB4 := HXB3
              clear HS3 HX3 HT3
              generalize w3 = w4 at *
              have HT4 := Lib.hid HT4.out.drew; have HH4 := Lib.hid (HH4.out.below (Below.refl _ _).drew); have ML4 := Lib.hid (ML4.out.block (w' := w4.drew) rfl); have MR4 := Lib.hid (MR4.out.block (w' := w4.drew) rfl); have MS4 := Lib.hid (MS4.out.block (w' := w4.drew) rfl); have HX4 := Lib.hid (show w4.drew.cell? ⟨xb, 1, none⟩ = some (.int .i64 q) from HX4.out); have HXB4 := Lib.hid (show xb < w4.drew.heap.size from HXB4.out)
              generalize w4.drew = w5 at HT4 HH4 ML4 MR4 MS4 HX4 HXB4 ⊢
              obtain ⟨v0, st, x1, x2, v1, st2, x3, x4, he1, he2, he3, he4, ⟨ht1, ht2, ht3, ht4⟩, hml, hmr, hms⟩ := two_put (lb := lb) (rb := rb) (sb := sb) HNE.out (W := w5.drew) (ML4.out.block rfl) (MR4.out.block rfl) (by rw [List.length_map, HN.out]; omega) (by rw [List.length_map, HN.out]; omega) HPO.out.1 HPO.out.2 HUL.out HQR.out (z := (k : Int)) (wf_nat (by omega))
              have HFIN : Hid (Tried l lb rb sb T S u fL fR w (.returned (.bool true)) x4) := Lib.hid ⟨HT4.out.trans (ht4.undrew.mono (by have := HT4.out.size; simp; omega) (fun _ _ e => e)), .inl ⟨TT, put fL u k, put fR q k, _, rfl, HWON.out, HACC.out, hml, hmr, hms _ _ (MS4.out.block rfl)⟩⟩
              have HC := Lib.hid (fun W (h : Turn w5.drew.heap.size (Three lb rb sb) w5.drew W) => (let H := HH4.out.turn ML4.out MR4.out MS4.out h.undrew; ⟨H.cp, H.b1, H.b2, h.undrew.cell (a := ⟨xb, 1, none⟩) (by rintro (e | e | e) <;> (have := HSB.out; simp only at e; omega)) HX4.out⟩ : W.cell? ⟨p0, 0, none⟩ = some (.pointer (some ⟨pb, 0, none⟩)) ∧ W.cell? ⟨pb, 1, none⟩ = some (.map (some lb)) ∧ W.cell? ⟨pb, 2, none⟩ = some (.map (some rb)) ∧ W.cell? ⟨xb, 1, none⟩ = some (.int .i64 q)))
              have HT1 := Lib.hid ht1; have HT2 := Lib.hid ht2; have HT3 := Lib.hid ht3; have HT4x := Lib.hid ht4
              clear ht1 ht2 ht3 ht4 hml hmr hms HT4 HH4 ML4 MR4 MS4 HX4
              go_wp2_with fail
              refine wp_region_held_drew (S := (fun W => W.cell? ⟨p0, 0, none⟩ = some (.pointer (some ⟨pb, 0, none⟩)) ∧ W.cell? ⟨pb, 1, none⟩ = some (.map (some lb)) ∧ W.cell? ⟨pb, 2, none⟩ = some (.map (some rb)) ∧ W.cell? ⟨xb, 1, none⟩ = some (.int .i64 q))) (by kernel_rfl) (HC.out _ (Turn.refl _)) (fun hHeld => ?_)
              refine wpAnyH_take (i := 0) (oi := _) (v := ?vq1) rfl (by kernel_rfl) (by kernel_rfl) (by kernel_rfl) (fun _ _ _ h => h) (Or.inl ⟨by rfl, ?hq1⟩) (by assumption) ?rq1
              case hq1 => (intro w hSw; go_simp; try with_reducible rfl)
              try dsimp only [Act.put, List.getElem_toArray, List.getElem_cons_zero, List.getElem_cons_succ]; try simp only [List.setIfInBounds_toArray, List.set_cons_zero, List.set_cons_succ]
              refine wpAnyH_take (i := 1) (oi := _) (v := ?vq2) rfl (by kernel_rfl) (by kernel_rfl) (by kernel_rfl) (fun _ _ _ h => h) (Or.inl ⟨by rfl, ?hq2⟩) (by assumption) ?rq2
              case hq2 => (intro w hSw; go_simp; try with_reducible rfl)
              try dsimp only [Act.put, List.getElem_toArray, List.getElem_cons_zero, List.getElem_cons_succ]; try simp only [List.setIfInBounds_toArray, List.set_cons_zero, List.set_cons_succ]
              refine wpAnyH_take (i := 2) (oi := _) (v := ?vq3) rfl (by kernel_rfl) (by kernel_rfl) (by kernel_rfl) (fun _ _ _ h => h) (Or.inl ⟨by rfl, ?hq3⟩) (by assumption) ?rq3
              case hq3 => (intro w hSw; go_simp; try with_reducible rfl)
              try dsimp only [Act.put, List.getElem_toArray, List.getElem_cons_zero, List.getElem_cons_succ]; try simp only [List.setIfInBounds_toArray, List.set_cons_zero, List.set_cons_succ]
              refine wpAnyH_take (i := 3) (oi := _) (v := ?vq4) rfl (by kernel_rfl) (by kernel_rfl) (by kernel_rfl) (fun _ _ _ h => h) (Or.inl ⟨by rfl, ?hq4⟩) (by assumption) ?rq4
              case hq4 => (intro w hSw; go_simp; try with_reducible rfl)
              try dsimp only [Act.put, List.getElem_toArray, List.getElem_cons_zero, List.getElem_cons_succ]; try simp only [List.setIfInBounds_toArray, List.set_cons_zero, List.set_cons_succ]
              refine wpAnyH_take (i := 4) (oi := _) (v := ?vq5) rfl (by kernel_rfl) (by kernel_rfl) (by kernel_rfl) (fun _ _ _ h => h) (Or.inl ⟨by rfl, ?hq5⟩) (by assumption) ?rq5
              case hq5 => (intro w hSw; go_simp; try with_reducible rfl)
              try dsimp only [Act.put, List.getElem_toArray, List.getElem_cons_zero, List.getElem_cons_succ]; try simp only [List.setIfInBounds_toArray, List.set_cons_zero, List.set_cons_succ]
              refine wpAnyH_take (i := 5) (oi := _) (v := ?vq6) rfl (by kernel_rfl) (by kernel_rfl) (by kernel_rfl) (fun _ _ _ h => h) (Or.inl ⟨by rfl, ?hq6⟩) (by assumption) ?rq6
              case hq6 => (intro w hSw; go_simp; try with_reducible rfl)
              try dsimp only [Act.put, List.getElem_toArray, List.getElem_cons_zero, List.getElem_cons_succ]; try simp only [List.setIfInBounds_toArray, List.set_cons_zero, List.set_cons_succ]
              refine wpAnyH_take (i := 6) (oi := _) (v := ?vq7) rfl (by kernel_rfl) (by kernel_rfl) (by kernel_rfl) (fun _ _ _ h => h) (Or.inl ⟨by rfl, ?hq7⟩) (by assumption) ?rq7
              case hq7 => (intro w hSw; go_simp; try with_reducible rfl)
              try dsimp only [Act.put, List.getElem_toArray, List.getElem_cons_zero, List.getElem_cons_succ]; try simp only [List.setIfInBounds_toArray, List.set_cons_zero, List.set_cons_succ]
              refine wpAnyH_take (i := 7) (oi := _) (v := ?vq8) rfl (by kernel_rfl) (by kernel_rfl) (by kernel_rfl) (fun _ _ _ h => h) (Or.inl ⟨by rfl, ?hq8⟩) (by assumption) ?rq8
              case hq8 => (intro w hSw; go_simp; try with_reducible rfl)
              try dsimp only [Act.put, List.getElem_toArray, List.getElem_cons_zero, List.getElem_cons_succ]; try simp only [List.setIfInBounds_toArray, List.set_cons_zero, List.set_cons_succ]
              refine wpAnyH_take (i := 8) (oi := _) (v := ?vq9) rfl (by kernel_rfl) (by kernel_rfl) (by kernel_rfl) (fun _ _ _ h => h) (Or.inl ⟨by rfl, ?hq9⟩) (by assumption) ?rq9
              case hq9 => (intro w hSw; go_simp; try with_reducible rfl)
              try dsimp only [Act.put, List.getElem_toArray, List.getElem_cons_zero, List.getElem_cons_succ]; try simp only [List.setIfInBounds_toArray, List.set_cons_zero, List.set_cons_succ]
              refine wpAnyH_take (i := 9) (oi := _) (v := ?vq10) rfl (by kernel_rfl) (by kernel_rfl) (by kernel_rfl) (fun _ _ _ h => h) (Or.inl ⟨by rfl, ?hq10⟩) (by assumption) ?rq10
              case hq10 => (intro w hSw; go_simp; try with_reducible rfl)
              try dsimp only [Act.put, List.getElem_toArray, List.getElem_cons_zero, List.getElem_cons_succ]; try simp only [List.setIfInBounds_toArray, List.set_cons_zero, List.set_cons_succ]
              refine wpAnyH_take (i := 10) (oi := _) (v := ?vq11) rfl (by kernel_rfl) (by kernel_rfl) (by kernel_rfl) (fun _ _ _ h => h) (Or.inl ⟨by rfl, ?hq11⟩) (by assumption) ?rq11
              case hq11 => (intro w hSw; go_simp; try with_reducible rfl)
              try dsimp only [Act.put, List.getElem_toArray, List.getElem_cons_zero, List.getElem_cons_succ]; try simp only [List.setIfInBounds_toArray, List.set_cons_zero, List.set_cons_succ]
              refine wpAnyH_take (i := 11) (oi := _) (v := ?vq12) rfl (by kernel_rfl) (by kernel_rfl) (by kernel_rfl) (fun _ _ _ h => h) (Or.inl ⟨by rfl, ?hq12⟩) (by assumption) ?rq12
              case hq12 => (intro w hSw; go_simp; try with_reducible rfl)
              try dsimp only [Act.put, List.getElem_toArray, List.getElem_cons_zero, List.getElem_cons_succ]; try simp only [List.setIfInBounds_toArray, List.set_cons_zero, List.set_cons_succ]
              refine wpAnyH_take (i := 12) (oi := _) (v := ?vq13) rfl (by kernel_rfl) (by kernel_rfl) (by kernel_rfl) (fun _ _ _ h => h) (Or.inl ⟨by rfl, ?hq13⟩) (by assumption) ?rq13
              case hq13 => (intro w hSw; go_simp; try with_reducible rfl)
              try dsimp only [Act.put, List.getElem_toArray, List.getElem_cons_zero, List.getElem_cons_succ]; try simp only [List.setIfInBounds_toArray, List.set_cons_zero, List.set_cons_succ]
              refine wpAnyH_ready (rs := [13]) (by kernel_rfl) (by simp) ?_
              refine AllReadyH.cons (o := _) rfl (fun K hK => ?_) ?_
              · rw [if_pos (by rfl)]
                go_simp
                refine hK.out _ _ (HC.out _ HT1.out) (fun hHeld => ?_)
                clear hK K
                try dsimp only [Act.put, List.getElem_toArray, List.getElem_cons_zero, List.getElem_cons_succ]; try simp only [List.setIfInBounds_toArray, List.set_cons_zero, List.set_cons_succ]
                refine wpAnyH_take (i := 14) (oi := _) (v := ?vq14) rfl (by kernel_rfl) (by kernel_rfl) (by kernel_rfl) (fun _ _ _ h => h) (Or.inl ⟨by rfl, ?hq14⟩) (by assumption) ?rq14
                case hq14 => (intro w hSw; go_simp; try with_reducible rfl)
                try dsimp only [Act.put, List.getElem_toArray, List.getElem_cons_zero, List.getElem_cons_succ]; try simp only [List.setIfInBounds_toArray, List.set_cons_zero, List.set_cons_succ]
                refine wpAnyH_ready (rs := [15]) (by kernel_rfl) (by simp) ?_
                refine AllReadyH.cons (o := _) rfl (fun K hK => ?_) ?_
                · rw [if_pos (by rfl)]
                  go_simp
                  refine hK.out _ _ (HC.out _ HT2.out) (fun hHeld => ?_)
                  clear hK K
                  try dsimp only [Act.put, List.getElem_toArray, List.getElem_cons_zero, List.getElem_cons_succ]; try simp only [List.setIfInBounds_toArray, List.set_cons_zero, List.set_cons_succ]
                  refine wpAnyH_ready (rs := [16]) (by kernel_rfl) (by simp) ?_
                  refine AllReadyH.cons (o := _) rfl (fun K hK => ?_) ?_
                  · rw [if_pos (by rfl)]
                    go_simp
                    refine hK.out _ _ (HC.out _ HT3.out) (fun hHeld => ?_)
                    clear hK K
                    try dsimp only [Act.put, List.getElem_toArray, List.getElem_cons_zero, List.getElem_cons_succ]; try simp only [List.setIfInBounds_toArray, List.set_cons_zero, List.set_cons_succ]
                    refine wpAnyH_take (i := 17) (oi := _) (v := ?vq15) rfl (by kernel_rfl) (by kernel_rfl) (by kernel_rfl) (fun _ _ _ h => h) (Or.inl ⟨by rfl, ?hq15⟩) (by assumption) ?rq15
                    case hq15 => (intro w hSw; go_simp; try with_reducible rfl)
                    try dsimp only [Act.put, List.getElem_toArray, List.getElem_cons_zero, List.getElem_cons_succ]; try simp only [List.setIfInBounds_toArray, List.set_cons_zero, List.set_cons_succ]
                    refine wpAnyH_ready (rs := [18]) (by kernel_rfl) (by simp) ?_
                    refine AllReadyH.cons (o := _) rfl (fun K hK => ?_) ?_
                    · rw [if_pos (by rfl)]
                      go_simp
                      refine hK.out _ _ (HC.out _ HT4x.out) (fun hHeld => ?_)
                      clear hK K
                      try dsimp only [Act.put, List.getElem_toArray, List.getElem_cons_zero, List.getElem_cons_succ]; try simp only [List.setIfInBounds_toArray, List.set_cons_zero, List.set_cons_succ]
                      refine wpAnyH_done (by kernel_rfl) ?_ _
                      clear he1 he2 he3 he4
                      go_wp2
                      go_ret
                      exact HFIN.out
                    exact AllReadyH.nil
                  exact AllReadyH.nil
                exact AllReadyH.nil
              exact AllReadyH.nil
            | some z =>
              obtain ⟨o, ho, hoq, hoz⟩ := (HFR.out z).1 hfq
              subst hoz
              rw [hfq] at hl6
              simp only [Option.getD_some, Option.isSome_some] at hl6
              have HO := Lib.hid (And.intro ho hoq)
              have hon : o < l.length := HAP.out.lt o ho
              have HON := Lib.hid hon
              clear hfq ho hoq
              go_wp2
              go_quiet (fail)
              rename_i nq
              have HT3 := Lib.hid (HT2.out.drewN nq); have HS3 := Lib.hid (HS2.out.below (w' := w2.drewN nq) (drewN_ (Below.refl _ _) nq)); have HX3 := Lib.hid (show (w2.drewN nq).cell? ⟨xb, 1, none⟩ = some (.int .i64 q) from HX2.out)
              have HXB3 := Lib.hid (show xb < (w2.drewN nq).heap.size from HXB2.out)
              clear hc6 hb6 hx6 hl6 HCL HS2 HT2 HX2
              generalize w2.drewN nq = w3 at HT3 HS3 HX3 HXB3 ⊢
              obtain ⟨b', off', hbo, hd0, hd1⟩ := prc_at HS3.out.has.rd hon
              injection hbo with hbo
              injection hbo with hbo1 hbo2
              subst hbo1 hbo2
              rw [← lf_at hon] at hd0
              have HD0 := Lib.hid hd0
              have HMO := Lib.hid HLO.out.more
              have HUU := Lib.hid (show ∀ p ∈ T, lf l p = lf l k → rt l p ∈ S' from fun p hp e => HMO.out _ (HU.out p hp (by rw [e, HLF.out])))
              have HREC := Lib.hid (HIH.out (lf l o) (q :: S') w3.drew (by
                  have h1 := cn_one HQR.out HQ.out
                  have h2 := cn_less (S := S) (S' := S') (xs := l.map (·.2)) HMO.out
                  have := HD.out; omega) (fun p hp e => by
                  rw [HAP.out.left p hp o HO.out.1 e, HO.out.2]; simp) (HS3.out.below (Below.refl _ _).drew))
              have HWT := Lib.hid (fun T' (hw : Won l T T' (lf l o) (q :: S')) => (by
                have h9 := won_take HAP.out hx (by rw [HRT.out]; exact HQ.out) HUU.out HO.out.1 (by rw [HRT.out]; exact HO.out.2) (by rw [HRT.out]; exact hw)
                rw [HLF.out] at h9
                exact Won.less h9 HMO.out : Won l T (swap l T' k) u S))
              have HAT := Lib.hid (fun T' gL gR (hw : Won l T T' (lf l o) (q :: S')) (ha : Acc l T T' (lf l o) gL gR) => (by
                have h9 := acc_take HAP.out (HWT.out T' hw).ap (by rw [HRT.out]; exact HQ.out) HUU.out HO.out.1 (by rw [HRT.out]; exact HO.out.2) (by rw [HRT.out]; exact hw) ha
                rw [HLF.out, HRT.out] at h9
                exact h9 : Acc l T (swap l T' k) u (put gL u k) (put gR q k)))
              have HST := Lib.hid (fun S'' (h : Lost l T (q :: S') S'') (hn : Nb l (lf l o) S'') => (by
                have h9 : Lost l T S' S'' := Lost.step (a := o) HO.out.1 (by rw [HO.out.2]; exact h) hn
                exact ⟨HLO.out.trans h9, h.more q (by simp), h9.more⟩ : Lost l T S S'' ∧ q ∈ S'' ∧ ∀ y ∈ S', y ∈ S''))
              have hon2 : (o : Int) < (n : Int) := by have := HN.out; omega
              have ho0 : (0 : Int) ≤ (o : Int) := by omega
              have hk7 := HS3.out.has
              have HK7 := Lib.hid (⟨hk7.cy, hk7.cp, hk7.b0, hd0⟩ : w3.drew.cell? ⟨y0, 0, none⟩ = some (.func (.func 76) #[] #[.pointer (some ⟨p0, 0, none⟩), .pointer (some ⟨s0, 0, none⟩), .pointer (some ⟨y0, 0, none⟩)]) ∧ w3.drew.cell? ⟨p0, 0, none⟩ = some (.pointer (some ⟨pb, 0, none⟩)) ∧ w3.drew.cell? ⟨pb, 0, none⟩ = some (.slice (some ⟨b, off, none⟩) n c) ∧ w3.drew.cell? ⟨b, off + o * 2, none⟩ = some (.int .i64 (lf l o)))
              clear hk7 hd0 hd1 hon
              generalize lf l o = uo at HREC HWT HAT HST HK7 HD0
              have hcf := enter_try
              go_wp2_with fail
              have HC7 := Lib.hid (fun W (h : Turn w3.drew.heap.size (Three lb rb sb) w3.drew W) => (let H := HS3.out.has.turn HS3.out.ml HS3.out.mr HS3.out.ms h.undrew; ⟨H.cy, H.cp, H.b0, h.undrew.cell (a := ⟨b, off + o * 2, none⟩) (fun e => by rcases e with e | e | e; exact HS3.out.ml.no_cell HD0.out e; exact HS3.out.mr.no_cell HD0.out e; exact HS3.out.ms.no_cell HD0.out e) HD0.out⟩ : (fun W => W.cell? ⟨y0, 0, none⟩ = some (.func (.func 76) #[] #[.pointer (some ⟨p0, 0, none⟩), .pointer (some ⟨s0, 0, none⟩), .pointer (some ⟨y0, 0, none⟩)]) ∧ W.cell? ⟨p0, 0, none⟩ = some (.pointer (some ⟨pb, 0, none⟩)) ∧ W.cell? ⟨pb, 0, none⟩ = some (.slice (some ⟨b, off, none⟩) n c) ∧ W.cell? ⟨b, off + o * 2, none⟩ = some (.int .i64 uo)) W))
              refine wp_region_held_drew (S := (fun W => W.cell? ⟨y0, 0, none⟩ = some (.func (.func 76) #[] #[.pointer (some ⟨p0, 0, none⟩), .pointer (some ⟨s0, 0, none⟩), .pointer (some ⟨y0, 0, none⟩)]) ∧ W.cell? ⟨p0, 0, none⟩ = some (.pointer (some ⟨pb, 0, none⟩)) ∧ W.cell? ⟨pb, 0, none⟩ = some (.slice (some ⟨b, off, none⟩) n c) ∧ W.cell? ⟨b, off + o * 2, none⟩ = some (.int .i64 uo))) (by kernel_rfl) HK7.out (fun hHeld => ?_)
              refine wpAnyH_take (i := 0) (oi := _) (v := ?vq45) rfl (by kernel_rfl) (by kernel_rfl) (by kernel_rfl) (fun _ _ _ h => h) (Or.inl ⟨by rfl, ?hq45⟩) (by assumption) ?rq45
              case hq45 => (intro w hSw; go_simp; try with_reducible rfl)
              try dsimp only [Act.put, List.getElem_toArray, List.getElem_cons_zero, List.getElem_cons_succ]; try simp only [List.setIfInBounds_toArray, List.set_cons_zero, List.set_cons_succ]
              refine wpAnyH_take (i := 1) (oi := _) (v := ?vq46) rfl (by kernel_rfl) (by kernel_rfl) (by kernel_rfl) (fun _ _ _ h => h) (Or.inl ⟨by rfl, ?hq46⟩) (by assumption) ?rq46
              case hq46 => (intro w hSw; go_simp; try with_reducible rfl)
              try dsimp only [Act.put, List.getElem_toArray, List.getElem_cons_zero, List.getElem_cons_succ]; try simp only [List.setIfInBounds_toArray, List.set_cons_zero, List.set_cons_succ]
              refine wpAnyH_take (i := 2) (oi := _) (v := ?vq47) rfl (by kernel_rfl) (by kernel_rfl) (by kernel_rfl) (fun _ _ _ h => h) (Or.inl ⟨by rfl, ?hq47⟩) (by assumption) ?rq47
              case hq47 => (intro w hSw; go_simp; try with_reducible rfl)
              try dsimp only [Act.put, List.getElem_toArray, List.getElem_cons_zero, List.getElem_cons_succ]; try simp only [List.setIfInBounds_toArray, List.set_cons_zero, List.set_cons_succ]
              refine wpAnyH_take (i := 3) (oi := _) (v := ?vq48) rfl (by kernel_rfl) (by kernel_rfl) (by kernel_rfl) (fun _ _ _ h => h) (Or.inl ⟨by rfl, ?hq48⟩) (by assumption) ?rq48
              case hq48 => (intro w hSw; go_simp; try with_reducible rfl)
              try dsimp only [Act.put, List.getElem_toArray, List.getElem_cons_zero, List.getElem_cons_succ]; try simp only [List.setIfInBounds_toArray, List.set_cons_zero, List.set_cons_succ]
              refine wpAnyH_take (i := 4) (oi := _) (v := ?vq49) rfl (by kernel_rfl) (by kernel_rfl) (by kernel_rfl) (fun _ _ _ h => h) (Or.inl ⟨by rfl, ?hq49⟩) (by assumption) ?rq49
              case hq49 => (intro w hSw; go_simp; try with_reducible rfl)
              try dsimp only [Act.put, List.getElem_toArray, List.getElem_cons_zero, List.getElem_cons_succ]; try simp only [List.setIfInBounds_toArray, List.set_cons_zero, List.set_cons_succ]
              refine wpAnyH_take (i := 5) (oi := _) (v := ?vq50) rfl (by kernel_rfl) (by kernel_rfl) (by kernel_rfl) (fun _ _ _ h => h) (Or.inl ⟨by rfl, ?hq50⟩) (by assumption) ?rq50
              case hq50 => (intro w hSw; go_simp; try with_reducible rfl)
              try dsimp only [Act.put, List.getElem_toArray, List.getElem_cons_zero, List.getElem_cons_succ]; try simp only [List.setIfInBounds_toArray, List.set_cons_zero, List.set_cons_succ]
              refine wpAnyH_take (i := 6) (oi := _) (v := ?vq51) rfl (by kernel_rfl) (by kernel_rfl) (by kernel_rfl) (fun _ _ _ h => h) (Or.inl ⟨by rfl, ?hq51⟩) (by assumption) ?rq51
              case hq51 => (intro w hSw; go_simp; try with_reducible rfl)
              try dsimp only [Act.put, List.getElem_toArray, List.getElem_cons_zero, List.getElem_cons_succ]; try simp only [List.setIfInBounds_toArray, List.set_cons_zero, List.set_cons_succ]
              refine wpAnyH_take (i := 7) (oi := _) (v := ?vq52) rfl (by kernel_rfl) (by kernel_rfl) (by kernel_rfl) (fun _ _ _ h => h) (Or.inl ⟨by rfl, ?hq52⟩) (by assumption) ?rq52
              case hq52 => (intro w hSw; go_simp; try with_reducible rfl)
              try dsimp only [Act.put, List.getElem_toArray, List.getElem_cons_zero, List.getElem_cons_succ]; try simp only [List.setIfInBounds_toArray, List.set_cons_zero, List.set_cons_succ]
              refine wpAnyH_take (i := 8) (oi := _) (v := ?vq53) rfl (by kernel_rfl) (by kernel_rfl) (by kernel_rfl) (fun _ _ _ h => h) (Or.inl ⟨by rfl, ?hq53⟩) (by assumption) ?rq53
              case hq53 => (intro w hSw; go_simp; try with_reducible rfl)
              try dsimp only [Act.put, List.getElem_toArray, List.getElem_cons_zero, List.getElem_cons_succ]; try simp only [List.setIfInBounds_toArray, List.set_cons_zero, List.set_cons_succ]
              refine wpAnyH_take (i := 9) (oi := _) (v := ?vq54) rfl (by kernel_rfl) (by kernel_rfl) (by kernel_rfl) (fun _ _ _ h => h) (Or.inl ⟨by rfl, ?hq54⟩) (by assumption) ?rq54
              case hq54 => (intro w hSw; go_simp; try with_reducible rfl)
              try dsimp only [Act.put, List.getElem_toArray, List.getElem_cons_zero, List.getElem_cons_succ]; try simp only [List.setIfInBounds_toArray, List.set_cons_zero, List.set_cons_succ]
              refine wpAnyH_take (i := 10) (oi := _) (v := ?vq55) rfl (by kernel_rfl) (by kernel_rfl) (by kernel_rfl) (fun _ _ _ h => h) (Or.inl ⟨by rfl, ?hq55⟩) (by assumption) ?rq55
              case hq55 => (intro w hSw; go_simp; try with_reducible rfl)
              try dsimp only [Act.put, List.getElem_toArray, List.getElem_cons_zero, List.getElem_cons_succ]; try simp only [List.setIfInBounds_toArray, List.set_cons_zero, List.set_cons_succ]
              refine wpAnyH_take (i := 11) (oi := _) (v := ?vq56) rfl (by kernel_rfl) (by kernel_rfl) (by kernel_rfl) (fun _ _ _ h => h) (Or.inl ⟨by rfl, ?hq56⟩) (by assumption) ?rq56
              case hq56 => (intro w hSw; go_simp; try with_reducible rfl)
              try dsimp only [Act.put, List.getElem_toArray, List.getElem_cons_zero, List.getElem_cons_succ]; try simp only [List.setIfInBounds_toArray, List.set_cons_zero, List.set_cons_succ]
              refine wpAnyH_ready (rs := [12]) (by kernel_rfl) (by simp) ?_
              refine AllReadyH.cons (o := _) rfl (fun K hK => ?_) ?_
              · rw [if_pos (by rfl)]
                go_simp
                refine HREC.out.mono ?_
                rintro e wx htr
                have HTX := Lib.hid htr.1
                obtain ⟨qb, rfl, hqb⟩ := tried_bool htr
                have HQB := Lib.hid hqb
                clear htr hqb
                go_wp2_with fail
                refine hK.out _ _ (HC7.out _ HTX.out) (fun hHeld => ?_)
                clear hK K
                try dsimp only [Act.put, List.getElem_toArray, List.getElem_cons_zero, List.getElem_cons_succ]; try simp only [List.setIfInBounds_toArray, List.set_cons_zero, List.set_cons_succ]
                refine wpAnyH_take (i := 13) (oi := _) (v := ?vq57) rfl (by kernel_rfl) (by kernel_rfl) (by kernel_rfl) (fun _ _ _ h => h) (Or.inl ⟨by rfl, ?hq57⟩) (by assumption) ?rq57
                case hq57 => (intro w hSw; go_simp; try with_reducible rfl)
                try dsimp only [Act.put, List.getElem_toArray, List.getElem_cons_zero, List.getElem_cons_succ]; try simp only [List.setIfInBounds_toArray, List.set_cons_zero, List.set_cons_succ]
                refine wpAnyH_done (by kernel_rfl) ?_ _
                rcases HQB.out with ⟨hqt, T2, gL, gR, Sx, hw, ha, m1, m2, m3⟩ | ⟨hqf, Sx, hlo, hnb, m1, m2, m3⟩
                · subst hqt
                  have HT4 := Lib.hid (HT3.out.trans (HTX.out.undrew.mono (by have := HT3.out.size; simp; omega) (fun _ _ e => e))); have HH4 := Lib.hid (HS3.out.has.turn HS3.out.ml HS3.out.mr HS3.out.ms HTX.out.undrew)
                  have HX4 := Lib.hid (HTX.out.undrew.cell (a := ⟨xb, 1, none⟩) (by rintro (e | e | e) <;> (have := HSB.out; simp only at e; omega)) HX3.out); have HXB4 := Lib.hid (Nat.lt_of_lt_of_le HXB3.out HTX.out.undrew.size)
                  have ML4 := Lib.hid m1; have MR4 := Lib.hid m2; have MS4 := Lib.hid m3; have HWON := Lib.hid (HWT.out T2 hw); have HACC := Lib.hid (HAT.out T2 gL gR hw ha)
                  generalize swap l T2 k = TT at HWON HACC
                  clear hw ha m1 m2 m3 HQB HTX HS3 HT3 HX3 HXB3 HC7 HK7 HREC hcf
                  rename World => w5
                  obtain ⟨v0, st, x1, x2, v1, st2, x3, x4, he1, he2, he3, he4, ⟨ht1, ht2, ht3, ht4⟩, hml, hmr, hms⟩ := two_put (lb := lb) (rb := rb) (sb := sb) HNE.out (W := w5.drew) (ML4.out.block rfl) (MR4.out.block rfl) (by rw [List.length_map, HN.out]; omega) (by rw [List.length_map, HN.out]; omega) HPO.out.1 HPO.out.2 HUL.out HQR.out (z := (k : Int)) (wf_nat (by omega))
                  have HFIN : Hid (Tried l lb rb sb T S u fL fR w (.returned (.bool true)) x4) := Lib.hid ⟨HT4.out.trans (ht4.undrew.mono (by have := HT4.out.size; simp; omega) (fun _ _ e => e)), .inl ⟨TT, put gL u k, put gR q k, _, rfl, HWON.out, HACC.out, hml, hmr, hms _ _ (MS4.out.block rfl)⟩⟩
                  have HC := Lib.hid (fun W (h : Turn w5.drew.heap.size (Three lb rb sb) w5.drew W) => (let H := HH4.out.turn ML4.out MR4.out MS4.out h.undrew; ⟨H.cp, H.b1, H.b2, h.undrew.cell (a := ⟨xb, 1, none⟩) (by rintro (e | e | e) <;> (have := HSB.out; simp only at e; omega)) HX4.out⟩ : W.cell? ⟨p0, 0, none⟩ = some (.pointer (some ⟨pb, 0, none⟩)) ∧ W.cell? ⟨pb, 1, none⟩ = some (.map (some lb)) ∧ W.cell? ⟨pb, 2, none⟩ = some (.map (some rb)) ∧ W.cell? ⟨xb, 1, none⟩ = some (.int .i64 q)))
                  have HT1 := Lib.hid ht1; have HT2 := Lib.hid ht2; have HT3 := Lib.hid ht3; have HT4x := Lib.hid ht4
                  clear ht1 ht2 ht3 ht4 hml hmr hms HT4 HH4 ML4 MR4 MS4 HX4
                  go_wp2_with fail
                  refine wp_region_held_drew (S := (fun W => W.cell? ⟨p0, 0, none⟩ = some (.pointer (some ⟨pb, 0, none⟩)) ∧ W.cell? ⟨pb, 1, none⟩ = some (.map (some lb)) ∧ W.cell? ⟨pb, 2, none⟩ = some (.map (some rb)) ∧ W.cell? ⟨xb, 1, none⟩ = some (.int .i64 q))) (by kernel_rfl) (HC.out _ (Turn.refl _)) (fun hHeld => ?_)
                  refine wpAnyH_take (i := 0) (oi := _) (v := ?vq30) rfl (by kernel_rfl) (by kernel_rfl) (by kernel_rfl) (fun _ _ _ h => h) (Or.inl ⟨by rfl, ?hq30⟩) (by assumption) ?rq30
                  case hq30 => (intro w hSw; go_simp; try with_reducible rfl)
                  try dsimp only [Act.put, List.getElem_toArray, List.getElem_cons_zero, List.getElem_cons_succ]; try simp only [List.setIfInBounds_toArray, List.set_cons_zero, List.set_cons_succ]
                  refine wpAnyH_take (i := 1) (oi := _) (v := ?vq31) rfl (by kernel_rfl) (by kernel_rfl) (by kernel_rfl) (fun _ _ _ h => h) (Or.inl ⟨by rfl, ?hq31⟩) (by assumption) ?rq31
                  case hq31 => (intro w hSw; go_simp; try with_reducible rfl)
                  try dsimp only [Act.put, List.getElem_toArray, List.getElem_cons_zero, List.getElem_cons_succ]; try simp only [List.setIfInBounds_toArray, List.set_cons_zero, List.set_cons_succ]
                  refine wpAnyH_take (i := 2) (oi := _) (v := ?vq32) rfl (by kernel_rfl) (by kernel_rfl) (by kernel_rfl) (fun _ _ _ h => h) (Or.inl ⟨by rfl, ?hq32⟩) (by assumption) ?rq32
                  case hq32 => (intro w hSw; go_simp; try with_reducible rfl)
                  try dsimp only [Act.put, List.getElem_toArray, List.getElem_cons_zero, List.getElem_cons_succ]; try simp only [List.setIfInBounds_toArray, List.set_cons_zero, List.set_cons_succ]
                  refine wpAnyH_take (i := 3) (oi := _) (v := ?vq33) rfl (by kernel_rfl) (by kernel_rfl) (by kernel_rfl) (fun _ _ _ h => h) (Or.inl ⟨by rfl, ?hq33⟩) (by assumption) ?rq33
                  case hq33 => (intro w hSw; go_simp; try with_reducible rfl)
                  try dsimp only [Act.put, List.getElem_toArray, List.getElem_cons_zero, List.getElem_cons_succ]; try simp only [List.setIfInBounds_toArray, List.set_cons_zero, List.set_cons_succ]
                  refine wpAnyH_take (i := 4) (oi := _) (v := ?vq34) rfl (by kernel_rfl) (by kernel_rfl) (by kernel_rfl) (fun _ _ _ h => h) (Or.inl ⟨by rfl, ?hq34⟩) (by assumption) ?rq34
                  case hq34 => (intro w hSw; go_simp; try with_reducible rfl)
                  try dsimp only [Act.put, List.getElem_toArray, List.getElem_cons_zero, List.getElem_cons_succ]; try simp only [List.setIfInBounds_toArray, List.set_cons_zero, List.set_cons_succ]
                  refine wpAnyH_take (i := 5) (oi := _) (v := ?vq35) rfl (by kernel_rfl) (by kernel_rfl) (by kernel_rfl) (fun _ _ _ h => h) (Or.inl ⟨by rfl, ?hq35⟩) (by assumption) ?rq35
                  case hq35 => (intro w hSw; go_simp; try with_reducible rfl)
                  try dsimp only [Act.put, List.getElem_toArray, List.getElem_cons_zero, List.getElem_cons_succ]; try simp only [List.setIfInBounds_toArray, List.set_cons_zero, List.set_cons_succ]
                  refine wpAnyH_take (i := 6) (oi := _) (v := ?vq36) rfl (by kernel_rfl) (by kernel_rfl) (by kernel_rfl) (fun _ _ _ h => h) (Or.inl ⟨by rfl, ?hq36⟩) (by assumption) ?rq36
                  case hq36 => (intro w hSw; go_simp; try with_reducible rfl)
                  try dsimp only [Act.put, List.getElem_toArray, List.getElem_cons_zero, List.getElem_cons_succ]; try simp only [List.setIfInBounds_toArray, List.set_cons_zero, List.set_cons_succ]
                  refine wpAnyH_take (i := 7) (oi := _) (v := ?vq37) rfl (by kernel_rfl) (by kernel_rfl) (by kernel_rfl) (fun _ _ _ h => h) (Or.inl ⟨by rfl, ?hq37⟩) (by assumption) ?rq37
                  case hq37 => (intro w hSw; go_simp; try with_reducible rfl)
                  try dsimp only [Act.put, List.getElem_toArray, List.getElem_cons_zero, List.getElem_cons_succ]; try simp only [List.setIfInBounds_toArray, List.set_cons_zero, List.set_cons_succ]
                  refine wpAnyH_take (i := 8) (oi := _) (v := ?vq38) rfl (by kernel_rfl) (by kernel_rfl) (by kernel_rfl) (fun _ _ _ h => h) (Or.inl ⟨by rfl, ?hq38⟩) (by assumption) ?rq38
                  case hq38 => (intro w hSw; go_simp; try with_reducible rfl)
                  try dsimp only [Act.put, List.getElem_toArray, List.getElem_cons_zero, List.getElem_cons_succ]; try simp only [List.setIfInBounds_toArray, List.set_cons_zero, List.set_cons_succ]
                  refine wpAnyH_take (i := 9) (oi := _) (v := ?vq39) rfl (by kernel_rfl) (by kernel_rfl) (by kernel_rfl) (fun _ _ _ h => h) (Or.inl ⟨by rfl, ?hq39⟩) (by assumption) ?rq39
                  case hq39 => (intro w hSw; go_simp; try with_reducible rfl)
                  try dsimp only [Act.put, List.getElem_toArray, List.getElem_cons_zero, List.getElem_cons_succ]; try simp only [List.setIfInBounds_toArray, List.set_cons_zero, List.set_cons_succ]
                  refine wpAnyH_take (i := 10) (oi := _) (v := ?vq40) rfl (by kernel_rfl) (by kernel_rfl) (by kernel_rfl) (fun _ _ _ h => h) (Or.inl ⟨by rfl, ?hq40⟩) (by assumption) ?rq40
                  case hq40 => (intro w hSw; go_simp; try with_reducible rfl)
                  try dsimp only [Act.put, List.getElem_toArray, List.getElem_cons_zero, List.getElem_cons_succ]; try simp only [List.setIfInBounds_toArray, List.set_cons_zero, List.set_cons_succ]
                  refine wpAnyH_take (i := 11) (oi := _) (v := ?vq41) rfl (by kernel_rfl) (by kernel_rfl) (by kernel_rfl) (fun _ _ _ h => h) (Or.inl ⟨by rfl, ?hq41⟩) (by assumption) ?rq41
                  case hq41 => (intro w hSw; go_simp; try with_reducible rfl)
                  try dsimp only [Act.put, List.getElem_toArray, List.getElem_cons_zero, List.getElem_cons_succ]; try simp only [List.setIfInBounds_toArray, List.set_cons_zero, List.set_cons_succ]
                  refine wpAnyH_take (i := 12) (oi := _) (v := ?vq42) rfl (by kernel_rfl) (by kernel_rfl) (by kernel_rfl) (fun _ _ _ h => h) (Or.inl ⟨by rfl, ?hq42⟩) (by assumption) ?rq42
                  case hq42 => (intro w hSw; go_simp; try with_reducible rfl)
                  try dsimp only [Act.put, List.getElem_toArray, List.getElem_cons_zero, List.getElem_cons_succ]; try simp only [List.setIfInBounds_toArray, List.set_cons_zero, List.set_cons_succ]
                  refine wpAnyH_ready (rs := [13]) (by kernel_rfl) (by simp) ?_
                  refine AllReadyH.cons (o := _) rfl (fun K hK => ?_) ?_
                  · rw [if_pos (by rfl)]
                    go_simp
                    refine hK.out _ _ (HC.out _ HT1.out) (fun hHeld => ?_)
                    clear hK K
                    try dsimp only [Act.put, List.getElem_toArray, List.getElem_cons_zero, List.getElem_cons_succ]; try simp only [List.setIfInBounds_toArray, List.set_cons_zero, List.set_cons_succ]
                    refine wpAnyH_take (i := 14) (oi := _) (v := ?vq43) rfl (by kernel_rfl) (by kernel_rfl) (by kernel_rfl) (fun _ _ _ h => h) (Or.inl ⟨by rfl, ?hq43⟩) (by assumption) ?rq43
                    case hq43 => (intro w hSw; go_simp; try with_reducible rfl)
                    try dsimp only [Act.put, List.getElem_toArray, List.getElem_cons_zero, List.getElem_cons_succ]; try simp only [List.setIfInBounds_toArray, List.set_cons_zero, List.set_cons_succ]
                    refine wpAnyH_ready (rs := [15]) (by kernel_rfl) (by simp) ?_
                    refine AllReadyH.cons (o := _) rfl (fun K hK => ?_) ?_
                    · rw [if_pos (by rfl)]
                      go_simp
                      refine hK.out _ _ (HC.out _ HT2.out) (fun hHeld => ?_)
                      clear hK K
                      try dsimp only [Act.put, List.getElem_toArray, List.getElem_cons_zero, List.getElem_cons_succ]; try simp only [List.setIfInBounds_toArray, List.set_cons_zero, List.set_cons_succ]
                      refine wpAnyH_ready (rs := [16]) (by kernel_rfl) (by simp) ?_
                      refine AllReadyH.cons (o := _) rfl (fun K hK => ?_) ?_
                      · rw [if_pos (by rfl)]
                        go_simp
                        refine hK.out _ _ (HC.out _ HT3.out) (fun hHeld => ?_)
                        clear hK K
                        try dsimp only [Act.put, List.getElem_toArray, List.getElem_cons_zero, List.getElem_cons_succ]; try simp only [List.setIfInBounds_toArray, List.set_cons_zero, List.set_cons_succ]
                        refine wpAnyH_take (i := 17) (oi := _) (v := ?vq44) rfl (by kernel_rfl) (by kernel_rfl) (by kernel_rfl) (fun _ _ _ h => h) (Or.inl ⟨by rfl, ?hq44⟩) (by assumption) ?rq44
                        case hq44 => (intro w hSw; go_simp; try with_reducible rfl)
                        try dsimp only [Act.put, List.getElem_toArray, List.getElem_cons_zero, List.getElem_cons_succ]; try simp only [List.setIfInBounds_toArray, List.set_cons_zero, List.set_cons_succ]
                        refine wpAnyH_ready (rs := [18]) (by kernel_rfl) (by simp) ?_
                        refine AllReadyH.cons (o := _) rfl (fun K hK => ?_) ?_
                        · rw [if_pos (by rfl)]
                          go_simp
                          refine hK.out _ _ (HC.out _ HT4x.out) (fun hHeld => ?_)
                          clear hK K
                          try dsimp only [Act.put, List.getElem_toArray, List.getElem_cons_zero, List.getElem_cons_succ]; try simp only [List.setIfInBounds_toArray, List.set_cons_zero, List.set_cons_succ]
                          refine wpAnyH_done (by kernel_rfl) ?_ _
                          clear he1 he2 he3 he4
                          go_wp2
                          go_ret
                          exact HFIN.out
                        exact AllReadyH.nil
                      exact AllReadyH.nil
                    exact AllReadyH.nil
                  exact AllReadyH.nil
                · subst hqf
                  have HT4 := Lib.hid (HT3.out.trans (HTX.out.undrew.mono (by have := HT3.out.size; simp; omega) (fun _ _ e => e))); have HH4 := Lib.hid (HS3.out.has.turn HS3.out.ml HS3.out.mr HS3.out.ms HTX.out.undrew)
                  have HX4 := Lib.hid (HTX.out.undrew.cell (a := ⟨xb, 1, none⟩) (by rintro (e | e | e) <;> (have := HSB.out; simp only at e; omega)) HX3.out); have HXB4 := Lib.hid (Nat.lt_of_lt_of_le HXB3.out HTX.out.undrew.size)
                  have HST2 := HST.out Sx hlo hnb
                  have HS4 := Lib.hid (⟨HH4.out, m1, m2, m3⟩ : St (some ⟨b, off, none⟩) n c l pb lb rb sb p0 s0 y0 fL fR Sx _)
                  have HST3 := Lib.hid HST2
                  clear hlo hnb m1 m2 m3 HQB HTX HS3 HT3 HX3 HXB3 HC7 HK7 HREC hcf HST2 HH4
                  go_wp2_with fail
                  refine ⟨⟨k + 1, Sx, by omega, by go_num, Lib.hid HST3.out.1, Lib.hid (fun x hx he => ?_), HS4, HT4⟩, by simp [intOf]; omega⟩
                  rw [HTK.out] at hx
                  rcases List.mem_append.1 hx with hx | hx
                  · exact HST3.out.2.2 _ (HSE.out x hx he)
                  · rw [List.mem_singleton] at hx; subst hx; exact HST3.out.2.1
              exact AllReadyH.nil
      · have hkn : (n : Int) ≤ (k : Int) := by omega
        have hk2 : l.length ≤ k := by have := HN.out; omega
        have HNB := Lib.hid (show Nb l u S' from fun x hx he => HSE.out x (by rw [List.take_of_length_le hk2]; exact hx) he)
        clear hk2
        go_wp2_with fail
        go_ret
        exact ⟨HT.out, .inr ⟨S', rfl, HLO.out, HNB.out, HS.out.ml, HS.out.mr, HS.out.ms⟩⟩
end Go.Proofs.Ytpiinfjcjpdofaa
