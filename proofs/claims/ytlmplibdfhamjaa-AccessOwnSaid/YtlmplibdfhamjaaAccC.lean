/- What a user may do with a bucket: the code's and the document's. -/
import Derived.Test.YtlmplibdfhamjaaAccB
namespace Go.Proofs.Ytlmplibdfhamjaa
open Go.RowKit Go.Mem
set_option linter.unusedVariables false

def allS : ByteArray := ⟨#[97, 108, 108]⟩
def ofA (l : List Ent) (t b u : ByteArray) : Int := bits .or .i64 (rtsI (getR l (keyA t b u)).value) (rtsI (getR l (keyA t b ⟨#[97, 108, 108]⟩)).value)
theorem or_zero {a : Int} (h : 0 ≤ a ∧ a ≤ 7) : bits .or .i64 0 a = a := by
  rcases eight a (by omega) with rfl | rfl | rfl | rfl | rfl | rfl | rfl | rfl <;> decide
theorem or_range {a b : Int} (h : 0 ≤ a ∧ a ≤ 7) (k : 0 ≤ b ∧ b ≤ 7) : 0 ≤ bits .or .i64 a b ∧ bits .or .i64 a b ≤ 7 := by
  rcases eight a (by omega) with rfl | rfl | rfl | rfl | rfl | rfl | rfl | rfl <;> rcases eight b (by omega) with rfl | rfl | rfl | rfl | rfl | rfl | rfl | rfl <;> decide
theorem ofA_range (l : List Ent) (t b u : ByteArray) : 0 ≤ ofA l t b u ∧ ofA l t b u ≤ 7 := or_range (rtsI_range _) (rtsI_range _)
theorem rg_val (n : Int) (b v : ByteArray) (w : World) : (Instr.field 45 (.agg #[.int .i64 n, .string b, .string v]) 2).run Try.prog w = .ok (.string v) w := by kernel_rfl
theorem who_at (u : ByteArray) (w : World) : (Instr.index 112 (.agg #[.string u, .string ⟨#[97, 108, 108]⟩]) (.int .i64 0)).run Try.prog w = .ok (.string u) w ∧ (Instr.index 112 (.agg #[.string u, .string ⟨#[97, 108, 108]⟩]) (.int .i64 1)).run Try.prog w = .ok (.string ⟨#[97, 108, 108]⟩) w := ⟨by kernel_rfl, by kernel_rfl⟩

set_option maxRecDepth 100000 in
set_option maxHeartbeats 2000000 in
theorem of_any (A : Option Addr) (n c : Nat) (l : List Ent) (t b u : ByteArray) (w : World) (hr : Rd w A (l.flatMap fun m => m.arr.toList)) (hn : l.length = n) (hm : n ≤ maxLen) (ht : t.size ≤ 1000) (hb : b.size ≤ 1000) (hu : u.size ≤ 1000) :
    Calls Try.prog 22 #[.slice A n c, .string t, .string b, .string u] w fun e w' => e = .returned (.int .i64 (ofA l t b u)) ∧ Below w.heap.size w w' := by
  have HN := Lib.hid hn; have HR := Lib.hid hr; clear hn hr
  obtain ⟨⟨n1, b1, v1⟩, h1⟩ : ∃ r, getR l (keyA t b u) = r := ⟨_, rfl⟩
  obtain ⟨⟨n2, b2, v2⟩, h2⟩ : ∃ r, getR l (keyA t b ⟨#[97, 108, 108]⟩) = r := ⟨_, rfl⟩
  have HOF := Lib.hid (show ofA l t b u = bits .or .i64 (rtsI v1) (rtsI v2) by unfold ofA; rw [h1, h2])
  have H1 := Lib.hid h1; have H2 := Lib.hid h2; clear h1 h2
  have hf1 := rg_val n1 b1 v1; have hf2 := rg_val n2 b2 v2
  have i0 := fun W => (who_at u W).1; have i1 := fun W => (who_at u W).2
  go_enter Try.func22, Try.ntmps22
  go_wp2
  refine wp_loop_rounds 3 ?_
  rw [rounds_succ]
  go_wp2_with fail
  refine (key_any t b u _ ht hb hu).mono ?_
  rintro e w1 ⟨rfl, hb1⟩
  go_wp2_with fail
  refine (get_any A n c l (keyA t b u) _ (HR.out.below hb1) HN.out hm).mono ?_
  rintro e w2 ⟨rfl, hb2⟩
  have hbel2 := then_ hb1 hb2
  rw [H1.out]
  simp only [Rg.arr]
  go_wp2_with fail
  refine (rights_any v1 _).mono ?_
  rintro e w3 ⟨rfl, hb3⟩
  have hbel3 := then_ hbel2 hb3
  clear hb1 hb2 hb3 hbel2
  have hr1 := rtsI_range v1
  generalize rtsI v1 = a1 at HOF hr1 ⊢
  generalize rtsB v1 = a2
  have ho := or_zero hr1
  go_wp2_with fail
  rw [rounds_succ]
  go_wp2_with fail
  refine (key_any t b ⟨#[97, 108, 108]⟩ _ ht hb (by decide)).mono ?_
  rintro e w4 ⟨rfl, hb4⟩
  have hbel4 := then_ hbel3 hb4
  go_wp2_with fail
  refine (get_any A n c l (keyA t b ⟨#[97, 108, 108]⟩) _ (HR.out.below hbel4) HN.out hm).mono ?_
  rintro e w5 ⟨rfl, hb5⟩
  have hbel5 := then_ hbel4 hb5
  rw [H2.out]
  simp only [Rg.arr]
  go_wp2_with fail
  refine (rights_any v2 _).mono ?_
  rintro e w6 ⟨rfl, hb6⟩
  have hbel6 := then_ hbel5 hb6
  clear hb4 hb5 hb6 hbel4 hbel5 hbel3
  generalize rtsI v2 = a3 at HOF ⊢
  generalize rtsB v2 = a4
  go_wp2_with fail
  rw [rounds_succ]
  go_wp2
  go_ret
  exact ⟨by rw [HOF.out]; rfl, hbel6⟩
set_option maxRecDepth 100000 in
set_option maxHeartbeats 2000000 in
theorem rof_any (A : Option Addr) (n c : Nat) (l : List Ent) (t b u : ByteArray) (w : World) (hr : Rd w A (l.flatMap fun m => m.arr.toList)) (hn : l.length = n) (hm : n ≤ maxLen) (ht : t.size ≤ 1000) (hb : b.size ≤ 1000) (hu : u.size ≤ 1000) :
    Calls Try.prog 23 #[.slice A n c, .string t, .string b, .string u] w fun e w' => e = .returned (.int .i64 (ofA l t b u)) ∧ Below w.heap.size w w' := by
  have HN := Lib.hid hn; have HR := Lib.hid hr; clear hn hr
  obtain ⟨⟨n1, b1, v1⟩, h1⟩ : ∃ r, getR l (keyA t b u) = r := ⟨_, rfl⟩
  obtain ⟨⟨n2, b2, v2⟩, h2⟩ : ∃ r, getR l (keyA t b ⟨#[97, 108, 108]⟩) = r := ⟨_, rfl⟩
  have HOF := Lib.hid (show ofA l t b u = bits .or .i64 (rtsI v1) (rtsI v2) by unfold ofA; rw [h1, h2])
  have H1 := Lib.hid h1; have H2 := Lib.hid h2; clear h1 h2
  have hf1 := rg_val n1 b1 v1; have hf2 := rg_val n2 b2 v2
  go_enter Try.func23, Try.ntmps23
  go_wp2_with fail
  refine (rkey_any t b u _ ht hb hu).mono ?_
  rintro e w1 ⟨rfl, rfl⟩
  go_wp2_with fail
  refine (rget_any A n c l (keyA t b u) _ HR.out HN.out hm).mono ?_
  rintro e w2 ⟨rfl, hb2⟩
  rw [H1.out]
  simp only [Rg.arr]
  go_wp2_with fail
  refine (rrights_any v1 _).mono ?_
  rintro e w3 ⟨rfl, hb3⟩
  have hbel3 := then_ hb2 hb3
  clear hb2 hb3
  have hr1 := rtsI_range v1
  generalize rtsI v1 = a1 at HOF hr1 ⊢
  generalize rtsB v1 = a2
  go_wp2_with fail
  refine (rkey_any t b ⟨#[97, 108, 108]⟩ _ ht hb (by decide)).mono ?_
  rintro e w4 ⟨rfl, rfl⟩
  go_wp2_with fail
  refine (rget_any A n c l (keyA t b ⟨#[97, 108, 108]⟩) _ (HR.out.below hbel3) HN.out hm).mono ?_
  rintro e w5 ⟨rfl, hb5⟩
  have hbel5 := then_ hbel3 hb5
  rw [H2.out]
  simp only [Rg.arr]
  go_wp2_with fail
  refine (rrights_any v2 _).mono ?_
  rintro e w6 ⟨rfl, hb6⟩
  have hbel6 := then_ hbel5 hb6
  clear hb5 hb6 hbel5 hbel3
  generalize rtsI v2 = a3 at HOF ⊢
  generalize rtsB v2 = a4
  go_wp2
  go_ret
  exact ⟨by rw [HOF.out]; rfl, hbel6⟩
end Go.Proofs.Ytlmplibdfhamjaa
