/- So many parts read, one behind the other, until there is a fault: plain. -/
import Derived.Test.YtlmplibdfhamjaaOctP
import Derived.Test.YtlmplibdfhamjaaOctS
namespace Go.Proofs.Ytlmplibdfhamjaa
open Go.Num
set_option linter.unusedVariables false
variable {α : Type}
def sevG (rd : St → α × St) : Nat → St → List α × St
  | 0, st => ([], st)
  | n + 1, st => if st.2 then ((rd st).1 :: (sevG rd n (rd st).2).1, (sevG rd n (rd st).2).2) else ([], st)
theorem sevG_step (rd : St → α × St) (n : Nat) (st : St) (h : st.2 = true) : sevG rd (n + 1) st = ((rd st).1 :: (sevG rd n (rd st).2).1, (sevG rd n (rd st).2).2) := by simp [sevG, h]
theorem sevG_bad (rd : St → α × St) (n : Nat) (st : St) (h : st.2 = false) : sevG rd n st = ([], st) := by cases n <;> simp [sevG, h]
theorem sevG_len {rd : St → α × St} (hr : ∀ st, (rd st).2.1.length ≤ st.1.length) : ∀ (n : Nat) (st : St), (sevG rd n st).2.1.length ≤ st.1.length
  | 0, st => Nat.le_refl _
  | n + 1, st => by
    unfold sevG
    split
    · exact Nat.le_trans (sevG_len hr n _) (hr st)
    · exact Nat.le_refl _
theorem sevG_count (rd : St → α × St) : ∀ (n : Nat) (st : St), (sevG rd n st).1.length ≤ n
  | 0, st => Nat.le_refl _
  | n + 1, st => by
    unfold sevG
    split
    · have := sevG_count rd n (rd st).2; simp only [List.length_cons]; omega
    · exact Nat.zero_le _
/-- the count, and so many parts -/
def rdAll (rd : St → α × St) (most : Int) (st : St) : List α × St := (outT (sevG rd (rdCount most st).1.toNat (rdCount most st).2), (sevG rd (rdCount most st).1.toNat (rdCount most st).2).2)
theorem rdAll_len {rd : St → α × St} (hr : ∀ st, (rd st).2.1.length ≤ st.1.length) (most : Int) (st : St) : (rdAll rd most st).2.1.length ≤ st.1.length :=
  Nat.le_trans (sevG_len hr _ _) (rdCount_len most st)
theorem rdAll_count (rd : St → α × St) (most : Int) (st : St) (h0 : 0 ≤ most) : ((rdAll rd most st).1.length : Int) ≤ most := by
  have h := rdCount_range most st
  have := sevG_count rd (rdCount most st).1.toNat (rdCount most st).2
  have h3 := h.2.2 h0
  unfold rdAll outT
  simp only
  split
  · omega
  · simpa using h0
/-- what is written is read: so many parts, one behind the other -/
theorem sevG_app {rd : St → α × St} {wr : α → List UInt8} (l : List α) (hr : ∀ x ∈ l, ∀ r, rd (wr x ++ r, true) = (x, (r, true))) (r : List UInt8) : sevG rd l.length (l.flatMap wr ++ r, true) = (l, (r, true)) := by
  induction l with
  | nil => rfl
  | cons x l ih =>
    rw [List.length_cons, sevG_step _ _ _ rfl, List.flatMap_cons, List.append_assoc, hr x (by simp), ih (fun y hy => hr y (by simp [hy]))]
theorem rdAll_app {rd : St → α × St} {wr : α → List UInt8} (l : List α) (most : Int) (hm : (l.length : Int) ≤ most) (h4 : l.length < 4294967296) (hr : ∀ x ∈ l, ∀ r, rd (wr x ++ r, true) = (x, (r, true))) (r : List UInt8) :
    rdAll rd most (be 4 l.length ++ l.flatMap wr ++ r, true) = (l, (r, true)) := by
  unfold rdAll
  rw [List.append_assoc, rdCount_app l.length most _ hm h4]
  simp only [Int.toNat_natCast]
  rw [sevG_app l hr]
  rfl
theorem sevG_stays {rd : St → α × St} (n : Nat) : Stays (sevG rd n) := fun st h => by rw [sevG_bad _ _ _ h]; exact h
theorem sevG_mono {rd : St → α × St} (hm : Mono rd) : ∀ n, Mono (sevG rd n)
  | 0, p, d, h => rfl
  | n + 1, p, d, h => by
    rw [sevG_step _ _ _ rfl] at h
    have h2 : (rd (p, true)).2.2 = true := by
      rw [← Bool.not_eq_false]
      intro hf
      have := sevG_stays (rd := rd) n (rd (p, true)).2 hf
      simp only at h
      rw [h] at this; cases this
    have h3 := hm p d h2
    rw [sevG_step _ _ _ rfl, sevG_step _ _ _ rfl, h3]
    have e : (rd (p, true)).2 = ((rd (p, true)).2.1, true) := Prod.ext rfl h2
    have h4 := sevG_mono hm n (rd (p, true)).2.1 d (by rw [← e]; exact h)
    rw [← e] at h4
    simp only at h4 ⊢
    rw [h4]
theorem rdAll_stays {rd : St → α × St} (most : Int) : Stays (rdAll rd most) := fun st h => by
  unfold rdAll
  exact sevG_stays _ _ (rdCount_stays most st h)
theorem rdAll_mono {rd : St → α × St} (hm : Mono rd) (most : Int) : Mono (rdAll rd most) := by
  intro p d h
  have h1 := mono_then (f := rdCount most) (g := fun a => sevG rd a.toNat) (rdCount_mono most) (fun a => sevG_stays _) (fun a => sevG_mono hm _) p d h
  unfold rdAll at *
  simp only at h h1 ⊢
  rw [h1]
  simp only [outT]
  simp [h]
end Go.Proofs.Ytlmplibdfhamjaa
