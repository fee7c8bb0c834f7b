/- writer: begun; an answer done; nobody's writer; what must come. -/
import Derived.Test.YtebfmacbdjnhbaaWriterC
attribute [local go_sem ↓] Go.wp_at_zero Go.wp_at_succ
namespace Go.Proofs.Ytebfmacbdjnhbaa
open Go.RowKit Go.Mem
set_option linter.unusedVariables false
def NewW (p : Pr) (l : List Ch) (w : World) (e : Ending) (w' : World) : Prop := ∃ g M T, T ≤ w'.heap.size ∧ e = .returned (.pointer (some ⟨g, 0, none⟩)) ∧ WrAt w' w.heap.size T g M 0 (Wt.new p l) ∧ Below w.heap.size w w'
def Wt.zero (p : Pr) (l : List Ch) : Wt := { p := p, l := l, f := fun _ => none, full := false, state := 0, err := 0 }
theorem wr_new {V : World} {base M : Nat} {p : Pr} {l : List Ch} {LA : Option Addr} {ln lc : Nat} (h2 : V.ownsRow base 71 2 (.slice LA ln lc) ln (l.flatMap Ch.cells)) (h3 : l.length = ln) (hd : DictS V M 0 (fun _ => none) 0) (ho : (Value.slice LA ln lc).ownBlock ≠ some M) (hb : base ≤ M) (hb2 : base ≤ V.heap.size) :
    WrAt (V.alloc (.cells ((Wt.zero p l).cells (.slice LA ln lc) M) 100)) base (V.heap.size + 1) V.heap.size M 0 (Wt.zero p l) := by
  have hlt := hd.lt
  refine ⟨LA, ln, lc, 0, 0, heap_alloc_new V _, h2.alloc _, h3, hd.alloc _, Nat.le_refl _, ⟨by omega, fun e => ?_, ho⟩, hb2, hb, by omega, by omega, fun i hi => by have := (h2.lt i hi).2; omega⟩
  have := (h2.lt _ e).2
  omega
set_option maxRecDepth 100000 in
set_option maxHeartbeats 2000000 in
theorem new_any (p : Pr) (A : Option Addr) (n c : Nat) (l : List Ch) (w : World) (hr : Rd w A (l.flatMap Ch.cells)) (hn : l.length = n) (hm : n ≤ 1000) (hs : ∀ s ∈ nodes l, txOk s) :
    Calls Try.prog 60 #[.agg p.arr, .slice A n c] w (NewW p l w) := by
  have HN := Lib.hid hn; have HS := Lib.hid hs; clear hn hs
  obtain ⟨pn, pr, pw, ppr, ppw, sv, ms, bs⟩ := p
  unfold Pr.arr
  simp only
  have hmm := @run_makeMap Try.prog
  have hpx : ∀ W : World, Below (w.alloc (.cells #[.int .i64 pn, .int .i64 pr, .int .i64 pw, .int .i64 ppr, .int .i64 ppw, .bool sv, .bool ms, .bool bs] 58)).heap.size (w.alloc (.cells #[.int .i64 pn, .int .i64 pr, .int .i64 pw, .int .i64 ppr, .int .i64 ppw, .bool sv, .bool ms, .bool bs] 58)) W → (W.cell? ⟨w.heap.size, 0, none⟩ = some (.int .i64 pn) ∧ W.cell? ⟨w.heap.size, 1, none⟩ = some (.int .i64 pr) ∧ W.cell? ⟨w.heap.size, 2, none⟩ = some (.int .i64 pw) ∧ W.cell? ⟨w.heap.size, 3, none⟩ = some (.int .i64 ppr) ∧ W.cell? ⟨w.heap.size, 4, none⟩ = some (.int .i64 ppw) ∧ W.cell? ⟨w.heap.size, 5, none⟩ = some (.bool sv) ∧ W.cell? ⟨w.heap.size, 6, none⟩ = some (.bool ms) ∧ W.cell? ⟨w.heap.size, 7, none⟩ = some (.bool bs)) :=
    fun W hb => ⟨(hb.cell (by simp)).trans (by simp), (hb.cell (by simp)).trans (by simp), (hb.cell (by simp)).trans (by simp), (hb.cell (by simp)).trans (by simp), (hb.cell (by simp)).trans (by simp), (hb.cell (by simp)).trans (by simp), (hb.cell (by simp)).trans (by simp), (hb.cell (by simp)).trans (by simp)⟩
  have HPX := Lib.hid hpx; clear hpx
  generalize hW0 : w.alloc (.cells #[.int .i64 pn, .int .i64 pr, .int .i64 pw, .int .i64 ppr, .int .i64 ppw, .bool sv, .bool ms, .bool bs] 58) = W0 at HPX
  have hb0 : Below w.heap.size w W0 := by rw [← hW0]; exact (Below.refl _ _).alloc (Nat.le_refl _) _
  have hsz0 : W0.heap.size = w.heap.size + 1 := by rw [← hW0]; simp
  have HW0 := Lib.hid hW0
  clear hW0
  go_enter Try.func60, Try.ntmps60
  go_upto_region 1 with fail
  rw [HW0.out]
  obtain ⟨d0, d1, d2, d3, d4, d5, d6, d7⟩ := HPX.out W0 (Below.refl _ _)
  go_region_held3 (fun W => (W.cell? ⟨w.heap.size, 0, none⟩ = some (.int .i64 pn) ∧ W.cell? ⟨w.heap.size, 1, none⟩ = some (.int .i64 pr) ∧ W.cell? ⟨w.heap.size, 2, none⟩ = some (.int .i64 pw) ∧ W.cell? ⟨w.heap.size, 3, none⟩ = some (.int .i64 ppr) ∧ W.cell? ⟨w.heap.size, 4, none⟩ = some (.int .i64 ppw) ∧ W.cell? ⟨w.heap.size, 5, none⟩ = some (.bool sv) ∧ W.cell? ⟨w.heap.size, 6, none⟩ = some (.bool ms) ∧ W.cell? ⟨w.heap.size, 7, none⟩ = some (.bool bs))) (first | go_keep | (exact HPX.out _ hy1) | (exact HPX.out _ (hy1.alloc hy1.size _)) | (exact HPX.out _ ((Below.refl _ _).alloc (Nat.le_refl _) _)))
    ((go_at_call 94; refine (cloneC_any A n c l _ (by first | exact (hr.below hb0).drew | exact ((hr.below hb0).drew.alloc _) | exact ((hr.below hb0).alloc _).drew) HN.out (by omega)).mono ?_; rintro e x1 ⟨v1, rfl, ho1, hb1⟩; obtain ⟨vA, vc, rfl⟩ := own_form ho1; have hy1 : Below W0.heap.size W0 x1 := (by first | exact ((Below.refl _ _).drew).trans hb1 | exact ((((Below.refl _ _).drew).alloc (by simp) _).trans (hb1.mono (by simp))) | exact ((((Below.refl _ _).alloc (by simp) _).drew).trans (hb1.mono (by simp))))))
  · have hy2 : Below w.heap.size w x1 := hb0.trans (hy1.mono (by omega))
    have hsz := hy2.size
    have hn0 : WrAt ((x1.alloc (.map #[] 0)).alloc (.cells ((Wt.zero ⟨pn, pr, pw, ppr, ppw, sv, ms, bs⟩ l).cells (.slice vA n vc) x1.heap.size) 100)) w.heap.size ((x1.alloc (.map #[] 0)).heap.size + 1) (x1.alloc (.map #[] 0)).heap.size x1.heap.size 0 (Wt.zero ⟨pn, pr, pw, ppr, ppw, sv, ms, bs⟩ l) :=
      wr_new (own_mono (ho1.alloc _) (by simp; omega)) HN.out (Dict.made _ _ _ _ _ _) (fun e => by have := (ho1.lt _ e).2; omega) hsz (by simp; omega)
    rw [show (x1.alloc (.map #[] 0)).heap.size = x1.heap.size + 1 by simp] at hn0
    have hz : Below w.heap.size w ((x1.alloc (.map #[] 0)).alloc (.cells ((Wt.zero ⟨pn, pr, pw, ppr, ppw, sv, ms, bs⟩ l).cells (.slice vA n vc) x1.heap.size) 100)) := (hy2.alloc hsz _).alloc (by simp; omega) _
    go_wp2_with fail
    refine (decide_any _ w.heap.size _ _ _ 0 (Wt.zero ⟨pn, pr, pw, ppr, ppw, sv, ms, bs⟩ l) hn0 (by show l.length ≤ 1000; have := HN.out; omega) HS.out).mono ?_
    rintro e x2 ⟨rfl, hw2, hk2⟩
    have hW2 := Lib.hid hw2
    have hB2 : Below w.heap.size w x2 := hz.trans (hk2.below (by omega) hsz (by simp; omega))
    have HSZ := Lib.hid hk2.size
    clear hw2 hk2 hn0 hz
    go_wp2
    go_ret
    exact ⟨_, _, _, by have := HSZ.out; simp at this; omega, rfl, hW2.out, hB2⟩
  · have hy2 : Below w.heap.size w x1 := hb0.trans (hy1.mono (by omega))
    have hsz := hy2.size
    have hn0 : WrAt (x1.alloc (.cells ((Wt.zero ⟨pn, pr, pw, ppr, ppw, sv, ms, bs⟩ l).cells (.slice vA n vc) W0.heap.size) 100)) w.heap.size (x1.heap.size + 1) x1.heap.size W0.heap.size 0 (Wt.zero ⟨pn, pr, pw, ppr, ppw, sv, ms, bs⟩ l) :=
      wr_new (own_mono ho1 (by simp; omega)) HN.out ((Dict.made W0.drew _ _ _ _ _).below hb1) (fun e => by have := (ho1.lt _ e).1; simp at this; omega) (by omega) hsz
    have hz : Below w.heap.size w (x1.alloc (.cells ((Wt.zero ⟨pn, pr, pw, ppr, ppw, sv, ms, bs⟩ l).cells (.slice vA n vc) W0.heap.size) 100)) := hy2.alloc hsz _
    rw [hsz0] at hn0 hz
    go_wp2_with fail
    refine (decide_any _ w.heap.size _ _ _ 0 (Wt.zero ⟨pn, pr, pw, ppr, ppw, sv, ms, bs⟩ l) hn0 (by show l.length ≤ 1000; have := HN.out; omega) HS.out).mono ?_
    rintro e x2 ⟨rfl, hw2, hk2⟩
    have hW2 := Lib.hid hw2
    have hB2 : Below w.heap.size w x2 := hz.trans (hk2.below (by omega) (by omega) (by simp; omega))
    have HSZ := Lib.hid hk2.size
    clear hw2 hk2 hn0 hz
    go_wp2
    go_ret
    exact ⟨_, _, _, by have := HSZ.out; simp at this; omega, rfl, hW2.out, hB2⟩
end Go.Proofs.Ytebfmacbdjnhbaa
