/- Sameness of numbers, contexts, calls and events by the document: what is the same is told to be. -/
import Derived.Test.YtebfmacbdjnhbaaEraseC
import Derived.Deep.QuietTactic
import Derived.BigQuiet
namespace Go.Proofs.Ytebfmacbdjnhbaa
open Go.RowKit Go.Mem
set_option linter.unusedVariables false

theorem drewN_drewN (w : World) (a b : Nat) : (w.drewN a).drewN b = w.drewN (a + b) := by
  induction b with
  | zero => rfl
  | succ b ih => exact congrArg World.drew ih
/-- 'it says yes, and has drawn at most' -/
def Yes (w : World) (e : Ending) (w' : World) : Prop := e = .returned (.bool true) ∧ ∃ q, w' = w.drewN q
theorem Calls.quiet_yes {P : Program} {f : FuncId} {args : Array Value} {w : World} {n : Nat} (h : Calls P f args (w.drewN n) (Yes (w.drewN n))) : Calls P f args (w.drewN n) fun e w'' => e = .returned (.bool true) ∧ ∃ m, w'' = w.drewN m :=
  h.mono fun _ _ ⟨he, q, hq⟩ => ⟨he, n + q, by rw [hq, drewN_drewN]⟩

set_option maxRecDepth 100000 in
set_option maxHeartbeats 1000000 in
theorem sameIntsY_any (A : Option Addr) (n c : Nat) (B : Option Addr) (d : Nat) (ss : List Int) (w : World) (hr : Rd w A (ss.map (Value.int .i64))) (hr' : Rd w B (ss.map (Value.int .i64))) (hn : ss.length = n) (hm : n ≤ maxLen) :
    Calls Try.prog 117 #[.slice A n c, .slice B n d] w (Yes w) := by
  unfold maxLen at hm
  have HN := Lib.hid hn; clear hn
  go_enter Try.func117, Try.ntmps117
  go_wp2
  go_loopw [5] (fun i wr => ∃ k : Nat, k ≤ n ∧ i = .int .i64 k ∧ Hid (∃ q, wr = w.drewN q)) (fun i _ => n - (intOf i).toNat)
  case atStart => exact ⟨0, Nat.zero_le _, rfl, Lib.hid ⟨0, rfl⟩⟩
  case round =>
    obtain ⟨k, hk, rfl, HQ⟩ := hrel
    obtain ⟨q, hq⟩ := HQ.out
    by_cases hlt : k < n
    · have hx : k < ss.length := by have := HN.out; omega
      obtain ⟨b, off, rfl, hcell⟩ := (hr.drewN q).at_ k (by simp; exact hx)
      obtain ⟨b', off', rfl, hcell'⟩ := (hr'.drewN q).at_ k (by simp; exact hx)
      rw [← hq] at hcell hcell'
      have HQ2 := Lib.hid hq; clear hq
      simp only [List.getElem_map] at hcell hcell'
      have hd : decide ((k : Int) < (n : Int)) = true := by simp; omega
      have hi0 : (0 : Int) ≤ (k : Int) := by omega
      generalize ss[k] = s at hcell hcell'
      have hne : (s != s) = false := by rw [bne_eq_false_iff_eq]
      go_wp2
      go_quiet (fail)
      go_wp2
      go_roundw
      case rel => exact ⟨k + 1, by omega, by go_num, Lib.hid ⟨_, by rw [HQ2.out, drewN_drewN]⟩⟩
      case measure => simp [intOf]; omega
    · obtain rfl : k = n := by omega
      have hd : decide ((k : Int) < (k : Int)) = false := by simp
      clear hq
      go_wp2
      go_ret
      exact ⟨rfl, HQ.out⟩
theorem nums_same (a b : Nums) (w : World) (ha : a.ok w) (hb : b.ok w) (h : a.l = b.l) : Calls Try.prog 117 #[a.v, b.v] w (Yes w) := by
  obtain ⟨A, n, c, l⟩ := a
  obtain ⟨B, m, d, l'⟩ := b
  simp only at h
  subst h
  have hm : n = m := ha.len.symm.trans hb.len
  subst hm
  exact sameIntsY_any A n c B d l w ha.rd hb.rd ha.len ha.le

theorem Nums.ok.drewN {w : World} {x : Nums} (h : x.ok w) (q : Nat) : x.ok (w.drewN q) := ⟨h.rd.drewN q, h.len, h.le, h.all⟩
theorem Seen.ok.drewN {w : World} {x : Seen} (h : x.ok w) (q : Nat) : x.ok (w.drewN q) := ⟨h.1, h.2.1, h.2.2.drewN q⟩
theorem Ctx.ok.drewN {w : World} {x : Ctx} (h : x.ok w) (q : Nat) : x.ok (w.drewN q) := ⟨h.rd.drewN q, h.len, h.le, fun m hm => (h.all m hm).drewN q⟩

set_option maxRecDepth 100000 in
set_option maxHeartbeats 2000000 in
theorem ctx_same (x : Ctx) (w : World) (hok : x.ok w) : Calls Try.prog 102 #[x.v, x.v] w (Yes w) := by
  obtain ⟨A, n, c, l⟩ := x
  have HOK := Lib.hid hok
  obtain ⟨hr, hn, hm, _⟩ := hok
  simp only at hr hn hm
  have HN := Lib.hid hn; clear hn
  unfold maxLen at hm
  unfold Ctx.v
  simp only
  go_enter Try.func102, Try.ntmps102
  go_wp2
  go_loopw [5] (fun i wr => ∃ k : Nat, k ≤ n ∧ i = .int .i64 k ∧ Hid (∃ q, wr = w.drewN q)) (fun i _ => n - (intOf i).toNat)
  case atStart => exact ⟨0, Nat.zero_le _, rfl, Lib.hid ⟨0, rfl⟩⟩
  case round =>
    obtain ⟨k, hk, rfl, HQ⟩ := hrel
    obtain ⟨q, hq⟩ := HQ.out
    by_cases hlt : k < n
    · have hx : k < l.length := by have := HN.out; omega
      obtain ⟨b, off, rfl, hrg⟩ := row_seen.at_ (hr.drewN q) k hx
      have hs := ((HOK.out.all l[k] (List.getElem_mem hx)).drewN q).2.2
      rw [← hq] at hrg hs
      have HQ2 := Lib.hid hq; clear hq
      have hd : decide ((k : Int) < (n : Int)) = true := by simp; omega
      have hi0 : (0 : Int) ≤ (k : Int) := by omega
      generalize l[k] = s at hrg hs
      have hc0 : wr.cell? ⟨b, off + k * 3, none⟩ = some (.string s.node) := rangeAt_cell hrg 0 rfl
      have hc1 : wr.cell? ⟨b, off + k * 3 + 1, none⟩ = some (.int .i64 s.base) := rangeAt_cell hrg 1 rfl
      have hc2 : wr.cell? ⟨b, off + k * 3 + 2, none⟩ = some s.more.v := rangeAt_cell hrg 2 rfl
      clear hrg
      have HC := fun z => Lib.hid (nums_same s.more s.more _ (hs.drewN z) (hs.drewN z) rfl)
      clear hs
      generalize s.node = nd at hc0
      generalize s.base = ba at hc1
      generalize hmv : s.more.v = mv at hc2 HC
      clear hmv
      have hn1 : (nd.toList == nd.toList) = true := by rw [beq_iff_eq]
      have hn2 : (ba != ba) = false := by rw [bne_eq_false_iff_eq]
      go_wp2
      go_quiet ((go_at_call 117; exact Calls.quiet_yes (HC _).out))
      go_wp2
      go_roundw
      case rel => exact ⟨k + 1, by omega, by go_num, Lib.hid ⟨_, by rw [HQ2.out, drewN_drewN]⟩⟩
      case measure => simp [intOf]; omega
    · obtain rfl : k = n := by omega
      have hd : decide ((k : Int) < (k : Int)) = false := by simp
      clear hq
      go_wp2
      go_ret
      exact ⟨rfl, HQ.out⟩

set_option maxRecDepth 100000 in
set_option maxHeartbeats 1000000 in
theorem sibs_none (w : World) : Calls Try.prog 103 #[.slice none 0 0, .slice none 0 0] w (Yes w) := by
  go_enter Try.func103, Try.ntmps103
  go_wp2
  go_loopw [5] (fun i wr => i = .int .i64 0 ∧ wr = w) (fun i _ => 0)
  case atStart => exact ⟨rfl, rfl⟩
  case round =>
    obtain ⟨rfl, rfl⟩ := hrel
    go_wp2
    go_ret
    exact ⟨rfl, 0, rfl⟩
/-- 'it says yes, and what was there is as it was' -/
def YesB (w : World) (e : Ending) (w' : World) : Prop := e = .returned (.bool true) ∧ Below w.heap.size w w'
theorem Yes.below {w w' : World} {e : Ending} (h : Yes w e w') : YesB w e w' := ⟨h.1, by obtain ⟨_, q, rfl⟩ := h; exact drewN_ (Below.refl _ _) q⟩
set_option maxRecDepth 100000 in
set_option maxHeartbeats 1000000 in
theorem obj_same (x : Ctx) (w : World) (hok : x.ok w) : Calls Try.prog 73 #[.agg #[x.v, .slice none 0 0], .agg #[x.v, .slice none 0 0]] w (YesB w) := by
  have HC := Lib.hid (ctx_same x ((w.alloc (.cells #[x.v, .slice none 0 0] 111)).alloc (.cells #[x.v, .slice none 0 0] 111)) (hok.below (((Below.refl _ _).alloc (Nat.le_refl _) _).alloc (by simp) _)))
  generalize hxv : x.v = xv at HC
  clear hxv
  go_enter Try.func73, Try.ntmps73
  go_wp2_with fail
  refine HC.out.mono ?_
  rintro e w1 ⟨rfl, q, hq⟩
  have HQ := Lib.hid hq
  have hc : ∀ g j : Nat, w1.cell? ⟨g, j, none⟩ = ((w.alloc (.cells #[xv, .slice none 0 0] 111)).alloc (.cells #[xv, .slice none 0 0] 111)).cell? ⟨g, j, none⟩ := fun g j => by rw [hq]; rfl
  have hc1 : w1.cell? ⟨w.heap.size, 1, none⟩ = some (.slice none 0 0) := by rw [hc]; simp
  have hc2 : w1.cell? ⟨w.heap.size + 1, 1, none⟩ = some (.slice none 0 0) := by rw [hc]; simp
  clear hq hc
  go_wp2_with fail
  refine (sibs_none _).mono ?_
  rintro e w2 h2
  have h3 := h2.below
  obtain ⟨rfl, hb⟩ := h3
  clear h2
  go_wp2
  go_ret
  refine ⟨rfl, Below.trans ?_ (hb.mono ?_)⟩
  · rw [HQ.out]; exact drewN_ (((Below.refl _ _).alloc (Nat.le_refl _) _).alloc (by simp) _) q
  · rw [HQ.out]; simp; omega
end Go.Proofs.Ytebfmacbdjnhbaa
