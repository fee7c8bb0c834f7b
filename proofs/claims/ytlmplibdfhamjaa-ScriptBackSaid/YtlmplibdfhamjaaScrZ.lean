/- The bytes of a cluster and of events, by the code. -/
import Derived.Test.YtlmplibdfhamjaaScrY
attribute [local go_sem ↓] Go.wp_at_zero Go.wp_at_succ
namespace Go.Proofs.Ytlmplibdfhamjaa
open Go.RowKit Go.Mem Go.Num
set_option linter.unusedVariables false
set_option linter.unusedSimpArgs false

theorem SBox.only {T : TypeId} {c : Array Value} {b q : Nat} {W W' : World} (h : SBox T c q W) (hq : q ≠ b) (ho : Only b W W') : SBox T c q W' := (ho.block q (Array.getElem?_eq_some_iff.1 h).1 (fun e => hq (by injection e))).trans h
theorem SBox.below {T : TypeId} {c : Array Value} {q : Nat} {W W' : World} (h : SBox T c q W) (hb : Below W.heap.size W W') : SBox T c q W' := (hb.block q (Array.getElem?_eq_some_iff.1 h).1).trans h
theorem SBox.froz {T : TypeId} {c : Array Value} {q : Nat} {W : World} (h : SBox T c q W) (i : Nat) : W.frozen? ⟨q, i, none⟩ = false := frozen_of_row _ _ _ _ _ h
theorem SBox.lt {T : TypeId} {c : Array Value} {q : Nat} {W : World} (h : SBox T c q W) : q < W.heap.size := (Array.getElem?_eq_some_iff.1 h).1
/-- a cluster's members and entries -/
structure Mems where
  A : Option Addr
  n : Nat
  c : Nat
  l : List Memb
structure Mems.ok (w : World) (x : Mems) : Prop where
  rd : Rd w x.A (x.l.flatMap fun m : Memb => m.arr.toList)
  len : x.l.length = x.n
  le : x.n ≤ maxLen
def setup (m : Mems) (e : Ents) : Array Value := #[.slice m.A m.n m.c, .slice e.A e.n e.c]
theorem Mems.ok.below {w w' : World} {x : Mems} (h : x.ok w) (hb : Below w.heap.size w w') : x.ok w' := ⟨h.rd.below hb, h.len, h.le⟩
theorem scrB_length (ms : List Memb) (es : List Ent) (l : List Ev) : (scrB ms es l).length = (memsB ms).length + (20 * es.length + eSum es + 4) + (evsB l).length := by
  unfold scrB rawB; simp only [List.length_append, be_length, flatE_length]; unfold eSum; omega
set_option maxRecDepth 100000 in
set_option maxHeartbeats 4000000 in
theorem sBytes_any (m : Mems) (e : Ents) (x : Evs) (w : World) (hm : m.ok w) (he : e.ok w) (hx : x.ok w) (hlen : (scrB m.l e.l x.l).length + 1024 ≤ 140737488355328) :
    Calls Try.prog 19 #[.agg (setup m e), x.v] w (SaysT (scrB m.l e.l x.l) w) := by
  rw [scrB_length] at hlen
  have hmn := hm.len; have hen := he.len; have hxn := hx.len
  have HM := Lib.hid (fun (W : World) (hW : Below w.heap.size w W) => (hm.below hW).rd)
  have HE := Lib.hid he.rd
  have HEL : Hid (0 < (entc e.l).length → ∀ ad, e.A = some ad → ad.block < w.heap.size + 1) := Lib.hid (fun h0 ad hA => by have := rd_blk he.rd h0 ad hA; omega)
  have HV := Lib.hid (fun (W : World) (hW : Below w.heap.size w W) => (hx.below hW).rd)
  have HO := Lib.hid (fun (W : World) (hW : Below w.heap.size w W) (y : Ev) (hy : y ∈ x.l) => ((hx.below hW).all y hy).2.2.2.2.2.1.2.2.2.2.2.1)
  have HF : Hid (scrB m.l e.l x.l = memsB m.l ++ rawB e.l ++ evsB x.l) := Lib.hid rfl
  generalize scrB m.l e.l x.l = F at HF ⊢
  obtain ⟨mA, mn, mc, ms⟩ := m
  obtain ⟨eA, en, ec, es⟩ := e
  obtain ⟨xA, xn, xc, xs⟩ := x
  simp only at hmn hen hxn hlen HM HE HEL HV HO HF
  have HMN := Lib.hid hmn; have HEN := Lib.hid hen; have HXN := Lib.hid hxn; have HLEN := Lib.hid hlen
  clear hmn hen hxn hlen hm he hx
  simp only [setup, Evs.v]
  have hz0 : (w.alloc (.cells #[.slice mA mn mc, .slice eA en ec] 26)).heap.size = w.heap.size + 1 := by simp
  have hb0 : Below w.heap.size w (w.alloc (.cells #[.slice mA mn mc, .slice eA en ec] 26)) := (Below.refl _ _).alloc (Nat.le_refl _) _
  have hs0 := SBox.new w 26 #[.slice mA mn mc, .slice eA en ec]
  have hs1 := (hs0.alloc' (.cells #[.pointer none, .slice none 0 0] 65)).alloc' (.cells #[.pointer (some ⟨w.heap.size + 1, 0, none⟩)] 106)
  have hw0 := (Wr.new (w.alloc (.cells #[.slice mA mn mc, .slice eA en ec] 26))).alloc (.cells #[.pointer (some ⟨w.heap.size + 1, 0, none⟩)] 106)
  rw [hz0] at hw0
  have hq0 := SBox.new ((w.alloc (.cells #[.slice mA mn mc, .slice eA en ec] 26)).alloc (.cells #[.pointer none, .slice none 0 0] 65)) 106 #[.pointer (some ⟨w.heap.size + 1, 0, none⟩)]
  rw [show ((w.alloc (.cells #[.slice mA mn mc, .slice eA en ec] 26)).alloc (.cells #[.pointer none, .slice none 0 0] 65)).heap.size = w.heap.size + 2 by simp] at hq0
  have hb2 : Below w.heap.size w (((w.alloc (.cells #[.slice mA mn mc, .slice eA en ec] 26)).alloc (.cells #[.pointer none, .slice none 0 0] 65)).alloc (.cells #[.pointer (some ⟨w.heap.size + 1, 0, none⟩)] 106)) := ((hb0.alloc (by simp) _).alloc (by simp; omega) _)
  have hz2 : (((w.alloc (.cells #[.slice mA mn mc, .slice eA en ec] 26)).alloc (.cells #[.pointer none, .slice none 0 0] 65)).alloc (.cells #[.pointer (some ⟨w.heap.size + 1, 0, none⟩)] 106)).heap.size = w.heap.size + 3 := by simp
  have HS := Lib.hid hs1; have HW := Lib.hid hw0; have HQ := Lib.hid hq0; have HB := Lib.hid hb2; have HZ := Lib.hid hz2
  clear hz0 hb0 hs0 hs1 hw0 hq0 hb2 hz2
  have s0 := HS.out.cell 0 rfl
  have q0 := HQ.out.cell 0 rfl
  go_enter Try.func19, Try.ntmps19
  go_wp2_with fail
  generalize ((w.alloc (.cells #[.slice mA mn mc, .slice eA en ec] 26)).alloc (.cells #[.pointer none, .slice none 0 0] 65)).alloc (.cells #[.pointer (some ⟨w.heap.size + 1, 0, none⟩)] 106) = W0 at *
  refine (wMems_turn (w.heap.size + 1) (w.heap.size + 1) [] mA mn mc ms W0 HW.out (fun W hW => HM.out W (HB.out.trans (hW.mono (by omega)))) HMN.out (by have := HLEN.out; simp; omega) (by have := HZ.out; omega)).mono ?_
  clear s0 q0
  rintro e w1 ⟨rfl, hw1, ht1⟩
  have HS := Lib.hid (HS.out.step (by omega) (by decide) ht1)
  have HQ := Lib.hid (HQ.out.step (by omega) (by decide) ht1)
  have HB := Lib.hid (HB.out.trans (ht1.bel.mono (by omega)))
  have hz1 := ht1.size
  have HZ1 : Hid (w.heap.size + 3 ≤ w1.heap.size) := Lib.hid (by have := HZ.out; omega)
  have HW := Lib.hid hw1
  clear hw1 ht1 hz1
  have s1 := HS.out.cell 1 rfl
  have q0 := HQ.out.cell 0 rfl
  go_wp2_with fail
  refine (wEntries_any (w.heap.size + 1) (w.heap.size + 1) _ eA en ec es w1 HW.out (HE.out.below HB.out) HEL.out HEN.out (by have := HLEN.out; have := HEN.out; simp only [List.nil_append]; omega) (by have := HZ1.out; omega)).mono ?_
  clear s1 q0
  rintro e w2 ⟨rfl, hw2, ht2⟩
  have HQ := Lib.hid (HQ.out.step (by omega) (by decide) ht2)
  have HB := Lib.hid (HB.out.trans (ht2.bel.mono (by omega)))
  have hz1 := ht2.size
  have HZ2 : Hid (w.heap.size + 3 ≤ w2.heap.size) := Lib.hid (by have := HZ1.out; omega)
  have HW := Lib.hid hw2
  clear hw2 ht2 hz1
  have q0 := HQ.out.cell 0 rfl
  go_wp2_with fail
  refine (wEvs_turn (w.heap.size + 1) (w.heap.size + 1) _ xA xn xc xs w2 HW.out (fun W hW => HV.out W (HB.out.trans (hW.mono (by omega)))) (fun W hW y hy => HO.out W (HB.out.trans (hW.mono (by omega))) y hy) HXN.out (by have := HLEN.out; have h2 : (rawB es).length = 20 * es.length + eSum es + 4 := (by unfold rawB; simp only [List.length_append, be_length, flatE_length]; unfold eSum; omega); simp only [List.nil_append, List.length_append]; omega) (by have := HZ2.out; omega)).mono ?_
  clear q0
  rintro e w3 ⟨rfl, hw3, ht3⟩
  have HQ := Lib.hid (HQ.out.step (by omega) (by decide) ht3)
  have HB := Lib.hid (HB.out.trans (ht3.bel.mono (by omega)))
  have hz1 := ht3.size
  have HZ3 : Hid (w.heap.size + 1 ≤ w3.heap.size) := Lib.hid (by have := HZ2.out; omega)
  have HW := Lib.hid hw3
  clear hw3 ht3 hz1
  have q0 := HQ.out.cell 0 rfl
  go_wp2_with fail
  refine (wBytes_any (w.heap.size + 1) (w.heap.size + 1) _ _ HW.out.holds HZ3.out).mono ?_
  rintro e w4 ⟨rfl, hb4, -, -⟩
  go_wp2
  go_ret
  exact ⟨ret_string (by rw [HF.out]; simp only [bs, List.append_assoc]), HB.out.trans (hb4.mono (by omega))⟩
end Go.Proofs.Ytlmplibdfhamjaa
