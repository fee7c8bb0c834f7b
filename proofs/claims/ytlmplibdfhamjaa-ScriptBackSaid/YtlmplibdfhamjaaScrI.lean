/- Sameness of members, of clusters and events, by the document: what says the same is told to be the same. -/
import Derived.Test.YtlmplibdfhamjaaScrF
import Derived.Test.YtlmplibdfhamjaaSameE
import Derived.Test.YtlmplibdfhamjaaScrH
attribute [local go_sem ↓] Go.wp_at_zero Go.wp_at_succ
namespace Go.Proofs.Ytlmplibdfhamjaa
open Go.RowKit Go.Mem Go.Num
set_option linter.unusedVariables false
set_option linter.unusedSimpArgs false

set_option maxRecDepth 100000 in
set_option maxHeartbeats 2000000 in
theorem same13Y_any (A : Option Addr) (n c : Nat) (B : Option Addr) (d : Nat) (l : List Memb) (w : World) (hr : Rd w A (l.flatMap fun m : Memb => m.arr.toList)) (hr' : Rd w B (l.flatMap fun m : Memb => m.arr.toList)) (hn : l.length = n) (hm : n ≤ maxLen) :
    Calls Try.prog 59 #[.slice A n c, .slice B n d] w (YesB w) := by
  have HN := Lib.hid hn; clear hn
  unfold maxLen at hm
  go_enter Try.func59, Try.ntmps59
  go_wp2
  go_loopw [5] (fun i wr => ∃ k : Nat, k ≤ n ∧ i = .int .i64 k ∧ Below w.heap.size w wr) (fun i _ => n - (intOf i).toNat)
  case atStart => exact ⟨0, Nat.zero_le _, rfl, Below.refl _ _⟩
  case round =>
    obtain ⟨k, hk, rfl, hbel⟩ := hrel
    by_cases hlt : k < n
    · have hx : k < l.length := by have := HN.out; omega
      obtain ⟨b, off, rfl, hrg⟩ := row_memb.at_ (hr.below hbel) k hx
      obtain ⟨b', off', rfl, hrg'⟩ := row_memb.at_ (hr'.below hbel) k hx
      generalize l[k] = s at hrg hrg'
      obtain ⟨nm, rk, zn, up⟩ := s
      have hd : decide ((k : Int) < (n : Int)) = true := by simp; omega
      have hi0 : (0 : Int) ≤ (k : Int) := by omega
      have hin : (k : Int) < (n : Int) := by omega
      have c0 : wr.cell? ⟨b, off + k * 4, none⟩ = some (.string nm) := rangeAt_cell hrg 0 rfl
      have c1 : wr.cell? ⟨b, off + k * 4 + 1, none⟩ = some (.string rk) := rangeAt_cell hrg 1 rfl
      have c2 : wr.cell? ⟨b, off + k * 4 + 2, none⟩ = some (.string zn) := rangeAt_cell hrg 2 rfl
      have c3 : wr.cell? ⟨b, off + k * 4 + 3, none⟩ = some (.bool up) := rangeAt_cell hrg 3 rfl
      have d0 : wr.cell? ⟨b', off' + k * 4, none⟩ = some (.string nm) := rangeAt_cell hrg' 0 rfl
      have d1 : wr.cell? ⟨b', off' + k * 4 + 1, none⟩ = some (.string rk) := rangeAt_cell hrg' 1 rfl
      have d2 : wr.cell? ⟨b', off' + k * 4 + 2, none⟩ = some (.string zn) := rangeAt_cell hrg' 2 rfl
      have d3 : wr.cell? ⟨b', off' + k * 4 + 3, none⟩ = some (.bool up) := rangeAt_cell hrg' 3 rfl
      clear hrg hrg'
      go_wp2
      go_quiet (fail)
      go_wp2
      go_roundw
      case rel => exact ⟨k + 1, by omega, by go_num, drewN_ hbel _⟩
      case measure => simp [intOf]; omega
    · obtain rfl : k = n := by omega
      have hd : decide ((k : Int) < (k : Int)) = false := by simp
      go_wp2
      go_ret
      exact ⟨rfl, hbel⟩
set_option maxRecDepth 100000 in
set_option maxHeartbeats 2000000 in
theorem same47_any (m m' : Mems) (e e' : Ents) (x x' : Evs) (w : World) (hm : m.ok w) (hm' : m'.ok w) (he : e.ok w) (he' : e'.ok w) (hx : x.ok w) (hx' : x'.ok w) (h1 : m.l = m'.l) (h2 : e.l = e'.l) (h3 : x.l.map Ev.bare = x'.l.map Ev.bare) (h4 : x.n ≤ 100000) :
    Calls Try.prog 16 #[.agg (setup m e), .agg (setup m' e'), x.v, x'.v] w (YesB w) := by
  obtain ⟨mA, mn, mc, ms⟩ := m
  obtain ⟨mA', mn', mc', ms'⟩ := m'
  obtain ⟨eA, en, ec, es⟩ := e
  obtain ⟨eA', en', ec', es'⟩ := e'
  obtain ⟨xA, xn, xc, xs⟩ := x
  obtain ⟨xA', xn', xc', xs'⟩ := x'
  simp only at h1 h2 h3 h4
  subst h1 h2
  obtain rfl : mn = mn' := hm.len.symm.trans hm'.len
  obtain rfl : en = en' := he.len.symm.trans he'.len
  obtain rfl : xn = xn' := by have a := hx.len; have b := hx'.len; have c := bare_len h3; simp only at a b; omega
  have H1 := Lib.hid (fun (W : World) (hW : Below w.heap.size w W) => same13Y_any mA mn mc mA' mc' ms W (hm.rd.below hW) (hm'.rd.below hW) hm.len hm.le)
  have H2 := Lib.hid (fun (W : World) (hW : Below w.heap.size w W) => same10_any eA en ec es eA' en ec' es W (he.rd.below hW) he.len he.le (he'.rd.below hW) he'.len he'.le)
  have H3 := Lib.hid (fun (W : World) (hW : Below w.heap.size w W) => sameEvents2 xA xn xc xA' xc' xs xs' W (hx.rd.below hW) (hx'.rd.below hW) hx.len h4 (fun y hy => (hx.all y hy).below hW) (fun y hy => (hx'.all y hy).below hW) h3)
  clear hm hm' he he' hx hx' h3 h4
  simp only [setup, Evs.v]
  have hb := ((Below.refl w.heap.size w).alloc (Nat.le_refl _) (.cells #[.slice mA mn mc, .slice eA en ec] 26)).alloc (by simp) (.cells #[.slice mA' mn mc', .slice eA' en ec'] 26)
  have q1 := SBox.new (w.alloc (.cells #[.slice mA mn mc, .slice eA en ec] 26)) 26 #[.slice mA' mn mc', .slice eA' en ec']
  rw [show (w.alloc (.cells #[.slice mA mn mc, .slice eA en ec] 26)).heap.size = w.heap.size + 1 by simp] at q1
  have q0 := (SBox.new w 26 #[.slice mA mn mc, .slice eA en ec]).alloc' (.cells #[.slice mA' mn mc', .slice eA' en ec'] 26)
  have HB := Lib.hid hb; have Q0 := Lib.hid q0; have Q1 := Lib.hid q1
  clear hb q0 q1
  have a0 := Q0.out.cell 0 rfl; have b0 := Q1.out.cell 0 rfl
  go_enter Try.func16, Try.ntmps16
  go_wp2_with fail
  generalize (w.alloc (.cells #[.slice mA mn mc, .slice eA en ec] 26)).alloc (.cells #[.slice mA' mn mc', .slice eA' en ec'] 26) = W0 at *
  refine (H1.out _ HB.out).mono ?_
  clear a0 b0
  rintro e w1 ⟨rfl, hb1⟩
  have HB := Lib.hid (then_ HB.out hb1); have Q0 := Lib.hid (Q0.out.below hb1); have Q1 := Lib.hid (Q1.out.below hb1)
  clear hb1
  have a0 := Q0.out.cell 1 rfl; have b0 := Q1.out.cell 1 rfl
  go_wp2_with fail
  refine (H2.out _ HB.out).mono ?_
  clear a0 b0
  rintro e w2 ⟨q, hq, rfl, hb2⟩
  obtain rfl : q = true := hq.2 trivial
  have HB := Lib.hid (then_ HB.out hb2)
  clear hb2 hq
  go_wp2_with fail
  refine (H3.out _ HB.out).mono ?_
  rintro e w3 ⟨rfl, hb3⟩
  go_wp2
  go_ret
  exact ⟨rfl, then_ HB.out hb3⟩
end Go.Proofs.Ytlmplibdfhamjaa
