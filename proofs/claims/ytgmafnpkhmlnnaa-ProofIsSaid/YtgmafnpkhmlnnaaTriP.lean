/- Hash trees: where they are unlike, and ways up. Plain: no program in sight. -/
import Derived.Below
namespace Go.Tri
set_option linter.unusedVariables false
section
variable (T : List ByteArray → ByteArray) (H : ByteArray → ByteArray)
/-- the text that is summed at a height, at an index -/
def sumd (sh : Nat → List ByteArray) : Nat → Nat → ByteArray
  | 0, i => T (sh i)
  | h + 1, i => T [H (sumd sh h (2 * i)), H (sumd sh h (2 * i + 1))]
def node (sh : Nat → List ByteArray) (h i : Nat) : ByteArray := H (sumd T H sh h i)
end
/-- the buckets under an index in which hashes are unlike, and how many pairs are held against each other -/
def unH (x y : Nat → Nat → ByteArray) : Nat → Nat → List Int × Nat
  | 0, i => if x 0 i = y 0 i then ([], 1) else ([(i : Int)], 1)
  | h + 1, i => if x (h + 1) i = y (h + 1) i then ([], 1) else ((unH x y h (2 * i)).1 ++ (unH x y h (2 * i + 1)).1, (unH x y h (2 * i)).2 + (unH x y h (2 * i + 1)).2 + 1)
theorem unH_pos (x y : Nat → Nat → ByteArray) (h i : Nat) : 1 ≤ (unH x y h i).2 := by
  cases h <;> unfold unH <;> split <;> simp
theorem unH_big (x y : Nat → Nat → ByteArray) : ∀ (h i : Nat), (unH x y h i).2 + 1 ≤ 2 ^ (h + 1) ∧ (unH x y h i).1.length ≤ 2 ^ h := by
  intro h
  induction h with
  | zero => intro i; unfold unH; split <;> simp
  | succ h ih =>
    intro i
    have h1 := ih (2 * i); have h2 := ih (2 * i + 1)
    have hp : 1 ≤ 2 ^ h := Nat.one_le_two_pow
    unfold unH
    rw [Nat.pow_succ, Nat.pow_succ] at *
    split
    · simp; omega
    · simp; omega
section
variable {T : List ByteArray → ByteArray} {H : ByteArray → ByteArray} {a b : Nat → List ByteArray}
theorem node_succ (sh : Nat → List ByteArray) (h i : Nat) : node T H sh (h + 1) i = H (T [node T H sh h (2 * i), node T H sh h (2 * i + 1)]) := rfl
theorem unH_some : ∀ (h i : Nat), ¬ node T H a h i = node T H b h i → 1 ≤ (unH (node T H a) (node T H b) h i).1.length := by
  intro h
  induction h with
  | zero => intro i hne; unfold unH; rw [if_neg hne]; simp
  | succ h ih =>
    intro i hne
    unfold unH
    rw [if_neg hne]
    simp only [List.length_append]
    by_cases h1 : node T H a h (2 * i) = node T H b h (2 * i)
    · by_cases h2 : node T H a h (2 * i + 1) = node T H b h (2 * i + 1)
      · exact absurd (by rw [node_succ, node_succ, h1, h2]) hne
      · have := ih _ h2; omega
    · have := ih _ h1; omega
theorem unH_few : ∀ (h i : Nat), (unH (node T H a) (node T H b) h i).2 ≤ 1 + 2 * h * (unH (node T H a) (node T H b) h i).1.length := by
  intro h
  induction h with
  | zero => intro i; unfold unH; split <;> simp
  | succ h ih =>
    intro i
    by_cases he : node T H a (h + 1) i = node T H b (h + 1) i
    · unfold unH; rw [if_pos he]; simp
    · have hs := unH_some (h + 1) i he
      unfold unH at hs ⊢
      rw [if_neg he] at hs ⊢
      simp only [List.length_append] at hs ⊢
      have h1 := ih (2 * i); have h2 := ih (2 * i + 1)
      generalize (unH (node T H a) (node T H b) h (2 * i)).1.length = p at *
      generalize (unH (node T H a) (node T H b) h (2 * i + 1)).1.length = q at *
      have e1 : 2 * (h + 1) * (p + q) = 2 * h * p + 2 * h * q + 2 * (p + q) := by rw [Nat.mul_add, Nat.mul_add, Nat.add_mul]; simp only [Nat.mul_add, Nat.add_mul]; omega
      omega
/-- no two texts that are not the same, of those that are summed below, have one sum -/
def Apart (T : List ByteArray → ByteArray) (H : ByteArray → ByteArray) (a b : Nat → List ByteArray) : Prop :=
  ∀ h i, h ≤ 6 → i < 2 ^ (6 - h) → node T H a h i = node T H b h i → sumd T H a h i = sumd T H b h i
theorem half {h i : Nat} (hh : h + 1 ≤ 6) (hi : i < 2 ^ (6 - (h + 1))) : 2 * i < 2 ^ (6 - h) ∧ 2 * i + 1 < 2 ^ (6 - h) := by
  have : 6 - h = 6 - (h + 1) + 1 := by omega
  rw [this, Nat.pow_succ]; omega
/-- the places under an index -/
def under (h i : Nat) : List Nat := List.range' (i * 2 ^ h) (2 ^ h)
theorem under_succ (h i : Nat) : under (h + 1) i = under h (2 * i) ++ under h (2 * i + 1) := by
  unfold under
  rw [show 2 ^ (h + 1) = 2 ^ h + 2 ^ h by rw [Nat.pow_succ]; omega, show i * (2 ^ h + 2 ^ h) = 2 * i * 2 ^ h by rw [Nat.mul_add, Nat.mul_comm 2 i, Nat.mul_assoc, Nat.two_mul, Nat.mul_add],
    show (2 * i + 1) * 2 ^ h = 2 * i * 2 ^ h + 2 ^ h by rw [Nat.add_mul, Nat.one_mul]]
  exact (List.range'_append_1 ..).symm
theorem under_all : under 6 0 = List.range 64 := by unfold under; rw [List.range_eq_range']
/-- the buckets of which the shares are not the same -/
def wantL (a b : Nat → List ByteArray) (l : List Nat) : List Int := (l.filter fun i => !decide (a i = b i)).map fun (i : Nat) => (i : Int)
theorem wantL_app (l m : List Nat) : wantL a b (l ++ m) = wantL a b l ++ wantL a b m := by unfold wantL; rw [List.filter_append, List.map_append]
theorem unH_want (hs : ∀ i, i < 64 → T (a i) = T (b i) → a i = b i) (hp : ∀ h i, h < 6 → ∀ j, T [node T H a h i, node T H a h j] = T [node T H b h i, node T H b h j] → node T H a h i = node T H b h i ∧ node T H a h j = node T H b h j)
    (hA : Apart T H a b) : ∀ (h i : Nat), h ≤ 6 → i < 2 ^ (6 - h) → (unH (node T H a) (node T H b) h i).1 = wantL a b (under h i) ∧ (node T H a h i = node T H b h i → wantL a b (under h i) = []) := by
  intro h
  induction h with
  | zero =>
    intro i _ hi
    have hi64 : i < 64 := hi
    have e1 : under 0 i = [i] := by unfold under; simp
    rw [e1]
    by_cases he : node T H a 0 i = node T H b 0 i
    · have h1 : a i = b i := hs i hi64 (hA 0 i (by omega) hi he)
      unfold unH wantL
      rw [if_pos he]
      simp [h1]
    · have h1 : ¬ a i = b i := fun e => he (by unfold node sumd; rw [e])
      unfold unH wantL
      rw [if_neg he]
      simp [h1, he]
  | succ h ih =>
    intro i hh hi
    obtain ⟨hl, hr⟩ := half hh hi
    have h1 := ih (2 * i) (by omega) hl
    have h2 := ih (2 * i + 1) (by omega) hr
    rw [under_succ, wantL_app]
    by_cases he : node T H a (h + 1) i = node T H b (h + 1) i
    · have hk := hp h (2 * i) (by omega) (2 * i + 1) (hA (h + 1) i hh hi he)
      have e1 := h1.2 hk.1; have e2 := h2.2 hk.2
      unfold unH
      rw [if_pos he, e1, e2]
      simp
    · unfold unH
      rw [if_neg he]
      exact ⟨by rw [h1.1, h2.1], fun e => absurd e he⟩
/-- one step up a way -/
def upS (p s o : ByteArray) : List ByteArray := [s, o]
/-- the hash of what is beside, from height h on, 'n' of them -/
def wayL (x : Nat → Nat → ByteArray) : Nat → Nat → Nat → List ByteArray
  | 0, _, _ => []
  | n + 1, h, k => x h (if k % 2 = 0 then k + 1 else k - 1) :: wayL x n (h + 1) (k / 2)
def pairOf (k : Nat) (s o : ByteArray) : List ByteArray := if k % 2 = 0 then [s, o] else [o, s]
/-- what is come to, with what is beside -/
def climb (hT : List ByteArray → ByteArray) : Nat → ByteArray → List ByteArray → ByteArray
  | _, s, [] => s
  | k, s, o :: r => climb hT (k / 2) (hT (pairOf k s o)) r
/-- the texts that are summed on a way -/
def climbT (T : List ByteArray → ByteArray) (H : ByteArray → ByteArray) : Nat → ByteArray → List ByteArray → List ByteArray
  | _, _, [] => []
  | k, s, o :: r => T (pairOf k s o) :: climbT T H (k / 2) (H (T (pairOf k s o))) r
theorem pair_way (sh : Nat → List ByteArray) (h k : Nat) : pairOf k (node T H sh h k) (node T H sh h (if k % 2 = 0 then k + 1 else k - 1)) = [node T H sh h (2 * (k / 2)), node T H sh h (2 * (k / 2) + 1)] := by
  unfold pairOf
  by_cases hk : k % 2 = 0
  · rw [if_pos hk, if_pos hk, show 2 * (k / 2) = k by omega]
  · rw [if_neg hk, if_neg hk, show 2 * (k / 2) = k - 1 by omega, show k - 1 + 1 = k by omega]
theorem climb_way (sh : Nat → List ByteArray) : ∀ (n h k : Nat), climb (fun l => H (T l)) k (node T H sh h k) (wayL (node T H sh) n h k) = node T H sh (h + n) (k / 2 ^ n) := by
  intro n
  induction n with
  | zero => intro h k; unfold wayL climb; simp
  | succ n ih =>
    intro h k
    unfold wayL climb
    simp only [pair_way]
    refine Eq.trans (show _ = climb (fun l => H (T l)) (k / 2) (node T H sh (h + 1) (k / 2)) (wayL (node T H sh) n (h + 1) (k / 2)) from rfl) ?_
    rw [ih (h + 1) (k / 2), Nat.div_div_eq_div_mul, Nat.pow_succ, Nat.mul_comm 2, show h + 1 + n = h + (n + 1) by omega]
/-- another one that comes to the same: two texts that are not the same, of those summed, have one sum, or it is the same -/
theorem climb_only {sh : Nat → List ByteArray} (hp : ∀ h k s, h < 6 → s.size = 32 → T (pairOf k s (node T H sh h (if k % 2 = 0 then k + 1 else k - 1))) = T (pairOf k (node T H sh h k) (node T H sh h (if k % 2 = 0 then k + 1 else k - 1))) → s = node T H sh h k)
    (h32 : ∀ t, (H t).size = 32) : ∀ (n h k : Nat) (s : ByteArray), h + n = 6 → k < 2 ^ n → s.size = 32 →
    climb (fun l => H (T l)) k s (wayL (node T H sh) n h k) = node T H sh (h + n) (k / 2 ^ n) →
    (∀ h' i u, h' ≤ 6 → i < 2 ^ (6 - h') → u ∈ climbT T H k s (wayL (node T H sh) n h k) → H (sumd T H sh h' i) = H u → sumd T H sh h' i = u) → s = node T H sh h k := by
  intro n
  induction n with
  | zero => intro h k s hn hk _ hc _; unfold wayL climb at hc; simpa using hc
  | succ n ih =>
    intro h k s hn hk hs hc hA
    unfold wayL climb at hc
    unfold wayL climbT at hA
    have hk2 : k / 2 < 2 ^ n := by rw [Nat.pow_succ] at hk; omega
    have hrec := ih (h + 1) (k / 2) _ (by omega) hk2 (h32 _) (by
      rw [hc, Nat.div_div_eq_div_mul, Nat.pow_succ, Nat.mul_comm 2, show h + 1 + n = h + (n + 1) by omega]) (fun h' i u hh hi hu => hA h' i u hh hi (List.mem_cons_of_mem _ hu))
    have hlt : k / 2 < 2 ^ (6 - (h + 1)) := by rw [show 6 - (h + 1) = n by omega]; exact hk2
    have he := hA (h + 1) (k / 2) _ (by omega) hlt (List.mem_cons_self ..) (show node T H sh (h + 1) (k / 2) = _ from hrec.symm)
    have hq : sumd T H sh (h + 1) (k / 2) = T [node T H sh h (2 * (k / 2)), node T H sh h (2 * (k / 2) + 1)] := rfl
    rw [hq, ← pair_way] at he
    exact hp h k s (by omega) hs he.symm
end
end Go.Tri
