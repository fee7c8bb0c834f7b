/- quorum: strict properties. -/
import Derived.Test.YtebfmacbdjnhbaaQuorumJ
namespace Go.Proofs.Ytebfmacbdjnhbaa
open Go.RowKit Go.Mem
set_option linter.unusedVariables false
def inA (x : Int) : Bool := decide (1 ≤ x) && decide (x ≤ 16)
def inB (x : Int) : Bool := decide (0 ≤ x) && decide (x ≤ 16)
theorem mayA_any (s : ByteArray) (hs : s = ⟨#[110]⟩ ∨ s = ⟨#[114]⟩ ∨ s = ⟨#[119]⟩) (x : Int) (w : World) :
    Calls Try.prog 110 #[.string s, .int .i64 x] w fun e w' => e = .returned (.bool (inA x)) ∧ w = w' := by
  have key : ∀ a b : Bool, decide (1 ≤ x) = a → decide (x ≤ 16) = b → Calls Try.prog 110 #[.string s, .int .i64 x] w fun e w' => e = .returned (.bool (a && b)) ∧ w = w' := by
    intro a b ha hb
    rcases hs with rfl | rfl | rfl
    all_goals
      cases a
      · go_enter Try.func110, Try.ntmps110
        go_wp2
        go_ret
        exact ⟨rfl, rfl⟩
      · cases b
        all_goals
          go_enter Try.func110, Try.ntmps110
          go_wp2
          go_ret
          exact ⟨rfl, rfl⟩
  exact key _ _ rfl rfl
theorem mayB_any (s : ByteArray) (hs : s = ⟨#[112, 114]⟩ ∨ s = ⟨#[112, 119]⟩) (x : Int) (w : World) :
    Calls Try.prog 110 #[.string s, .int .i64 x] w fun e w' => e = .returned (.bool (inB x)) ∧ w = w' := by
  have key : ∀ a b : Bool, decide (0 ≤ x) = a → decide (x ≤ 16) = b → Calls Try.prog 110 #[.string s, .int .i64 x] w fun e w' => e = .returned (.bool (a && b)) ∧ w = w' := by
    intro a b ha hb
    rcases hs with rfl | rfl
    all_goals
      cases a
      · go_enter Try.func110, Try.ntmps110
        go_wp2
        go_ret
        exact ⟨rfl, rfl⟩
      · cases b
        all_goals
          go_enter Try.func110, Try.ntmps110
          go_wp2
          go_ret
          exact ⟨rfl, rfl⟩
  exact key _ _ rfl rfl
/-- may properties be? -/
def Pr.may (p : Pr) : Prop := inA p.n = true ∧ inB p.pr = true ∧ inB p.pw = true
def Checks (p : Pr) (w : World) (e : Ending) (w' : World) : Prop := ∃ c : Int, (c = 0 → p.may) ∧ (c = 0 ∨ c = 1) ∧ e = .returned (.int .i64 c) ∧ Below w.heap.size w w'
set_option maxRecDepth 100000 in
set_option maxHeartbeats 2000000 in
theorem check21_any (p : Pr) (w : World) : Calls Try.prog 88 #[.agg p.arr] w (Checks p w) := by
  obtain ⟨pn, pr, pw, ppr, ppw, sv, mi, bs⟩ := p
  unfold Pr.arr
  simp only
  have hbw : Below w.heap.size w (w.alloc (.cells #[.int .i64 pn, .int .i64 pr, .int .i64 pw, .int .i64 ppr, .int .i64 ppw, .bool sv, .bool mi, .bool bs] 58)) := (Below.refl _ _).alloc (Nat.le_refl _) _
  go_enter Try.func88, Try.ntmps88
  go_wp2_with fail
  refine (mayA_any ⟨#[110]⟩ (.inl rfl) pn _).mono ?_
  rintro e w1 ⟨rfl, rfl⟩
  generalize hb0 : inA pn = b0
  have H0 := Lib.hid hb0; clear hb0
  cases b0
  · go_wp2
    go_ret
    exact ⟨1, by simp, .inr rfl, rfl, hbw⟩
  go_wp2_with fail
  refine (mayA_any ⟨#[114]⟩ (.inr (.inl rfl)) pr _).mono ?_
  rintro e w1 ⟨rfl, rfl⟩
  generalize hb1 : inA pr = b1
  have H1 := Lib.hid hb1; clear hb1
  cases b1
  · go_wp2
    go_ret
    exact ⟨1, by simp, .inr rfl, rfl, hbw⟩
  go_wp2_with fail
  refine (mayA_any ⟨#[119]⟩ (.inr (.inr rfl)) pw _).mono ?_
  rintro e w1 ⟨rfl, rfl⟩
  generalize hb2 : inA pw = b2
  have H2 := Lib.hid hb2; clear hb2
  cases b2
  · go_wp2
    go_ret
    exact ⟨1, by simp, .inr rfl, rfl, hbw⟩
  go_wp2_with fail
  refine (mayB_any ⟨#[112, 114]⟩ (.inl rfl) ppr _).mono ?_
  rintro e w1 ⟨rfl, rfl⟩
  generalize hb3 : inB ppr = b3
  have H3 := Lib.hid hb3; clear hb3
  cases b3
  · go_wp2
    go_ret
    exact ⟨1, by simp, .inr rfl, rfl, hbw⟩
  go_wp2_with fail
  refine (mayB_any ⟨#[112, 119]⟩ (.inr rfl) ppw _).mono ?_
  rintro e w1 ⟨rfl, rfl⟩
  generalize hb4 : inB ppw = b4
  have H4 := Lib.hid hb4; clear hb4
  cases b4
  · go_wp2
    go_ret
    exact ⟨1, by simp, .inr rfl, rfl, hbw⟩
  by_cases g0 : pn < pr
  · go_wp2
    go_ret
    exact ⟨1, by simp, .inr rfl, rfl, hbw⟩
  by_cases g1 : pn < pw
  · go_wp2
    go_ret
    exact ⟨1, by simp, .inr rfl, rfl, hbw⟩
  by_cases g2 : pn < ppr
  · go_wp2
    go_ret
    exact ⟨1, by simp, .inr rfl, rfl, hbw⟩
  by_cases g3 : pn < ppw
  · go_wp2
    go_ret
    exact ⟨1, by simp, .inr rfl, rfl, hbw⟩
  go_wp2
  go_ret
  exact ⟨0, fun _ => ⟨H0.out, H3.out, H4.out⟩, .inl rfl, rfl, hbw⟩
def StrictR (p : Pr) (w : World) (e : Ending) (w' : World) : Prop := ∃ b : Bool, (b = true → p.n < p.pr + p.pw) ∧ e = .returned (.bool b) ∧ Below w.heap.size w w'
set_option maxRecDepth 100000 in
set_option maxHeartbeats 2000000 in
theorem strict_any (p : Pr) (w : World) : Calls Try.prog 47 #[.agg p.arr] w (StrictR p w) := by
  obtain ⟨pn, pr, pw, ppr, ppw, sv, mi, bs⟩ := p
  have hpx : ∀ W : World, Below (w.alloc (.cells #[.int .i64 pn, .int .i64 pr, .int .i64 pw, .int .i64 ppr, .int .i64 ppw, .bool sv, .bool mi, .bool bs] 58)).heap.size (w.alloc (.cells #[.int .i64 pn, .int .i64 pr, .int .i64 pw, .int .i64 ppr, .int .i64 ppw, .bool sv, .bool mi, .bool bs] 58)) W → (W.cell? ⟨w.heap.size, 0, none⟩ = some (.int .i64 pn) ∧ W.cell? ⟨w.heap.size, 3, none⟩ = some (.int .i64 ppr) ∧ W.cell? ⟨w.heap.size, 4, none⟩ = some (.int .i64 ppw)) ∧ Below w.heap.size w W :=
    fun W hb => ⟨⟨(hb.cell (by simp)).trans (by simp), (hb.cell (by simp)).trans (by simp), (hb.cell (by simp)).trans (by simp)⟩, ba hb⟩
  have HPX := Lib.hid hpx; clear hpx
  unfold Pr.arr
  simp only
  go_enter Try.func47, Try.ntmps47
  go_wp2_with fail
  refine (check21_any ⟨pn, pr, pw, ppr, ppw, sv, mi, bs⟩ _).mono ?_
  rintro e w1 ⟨c, hc, hc', rfl, hb1⟩
  obtain ⟨⟨c0, c3, c4⟩, hbw⟩ := HPX.out w1 hb1
  have HC := Lib.hid hc; clear hc hb1
  rcases hc' with rfl | rfl
  · have hm := HC.out rfl
    obtain ⟨h1, h2, h3⟩ := hm
    unfold inA at h1
    unfold inB at h2 h3
    rw [Bool.and_eq_true, decide_eq_true_eq, decide_eq_true_eq] at h1 h2 h3
    simp only at h1 h2 h3
    obtain ⟨h1, h1'⟩ := h1
    obtain ⟨h2, h2'⟩ := h2
    obtain ⟨h3, h3'⟩ := h3
    go_wp2
    go_ret
    exact ⟨_, fun h => of_decide_eq_true h, rfl, hbw⟩
  · go_wp2
    go_ret
    exact ⟨false, by simp, rfl, hbw⟩
end Go.Proofs.Ytebfmacbdjnhbaa
