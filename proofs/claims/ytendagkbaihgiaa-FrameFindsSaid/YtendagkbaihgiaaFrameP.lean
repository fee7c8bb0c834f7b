/- Frames of records, as plain functions on bytes. No program in sight. -/
import Derived.Test.YtendagkbaihgiaaOctP
import Derived.Test.YtendagkbaihgiaaCrcPlain
namespace Go.Frame
open Go.Num Go.Proofs.Ytendagkbaihgiaa
set_option linter.unusedVariables false
def crcOf (b : List UInt8) : Nat := Crc.sum 0 (be 4 b.length ++ b)
def put (b : List UInt8) : List UInt8 := be 4 b.length ++ (be 4 (crcOf b) ++ b)
def all (l : List (List UInt8)) : List UInt8 := l.flatMap put
/-- how many bytes, which sum, whether both could be read -/
def head (s : List UInt8) : Int × Int × Bool := ((rdCount 1048576 (s, true)).1, (rdCount 4294967295 (rdCount 1048576 (s, true)).2).1, (rdCount 4294967295 (rdCount 1048576 (s, true)).2).2.2)
def first (s : List UInt8) : Option (List UInt8) :=
  if (head s).2.2 = true ∧ (head s).1 ≤ (s.length : Int) - 8 ∧ (crcOf ((s.drop 8).take (head s).1.toNat) : Int) = (head s).2.1 then some ((s.drop 8).take (head s).1.toNat) else none
def scanN : Nat → List UInt8 → List (List UInt8)
  | 0, _ => []
  | n + 1, s => match first s with
    | none => []
    | some b => b :: scanN n (s.drop (8 + b.length))
def scan (s : List UInt8) : List (List UInt8) := scanN s.length s
theorem put_length (b : List UInt8) : (put b).length = 8 + b.length := by
  unfold put
  rw [List.length_append, List.length_append, be_length, be_length]
  omega
theorem all_cons (b : List UInt8) (l : List (List UInt8)) : all (b :: l) = put b ++ all l := rfl
theorem all_append (l m : List (List UInt8)) : all (l ++ m) = all l ++ all m := List.flatMap_append
theorem crcOf_lt (b : List UInt8) : crcOf b < 4294967296 := Crc.sum_lt _ _
theorem head_app (n c : Nat) (r : List UInt8) (hn : n ≤ 1048576) (hc : c < 4294967296) : head (be 4 n ++ (be 4 c ++ r)) = ((n : Int), (c : Int), true) := by
  unfold head
  rw [rdCount_app n 1048576 _ (by omega) (by omega), rdCount_app c 4294967295 r (by omega) hc]
theorem first_app (n c : Nat) (r : List UInt8) (hn : n ≤ 1048576) (hc : c < 4294967296) : first (be 4 n ++ (be 4 c ++ r)) = if n ≤ r.length ∧ crcOf (r.take n) = c then some (r.take n) else none := by
  have h1 : (be 4 n ++ (be 4 c ++ r)).length = 8 + r.length := by rw [List.length_append, List.length_append, be_length, be_length]; omega
  have h2 : (be 4 n ++ (be 4 c ++ r)).drop 8 = r := by
    rw [← List.append_assoc, List.drop_left' (by rw [List.length_append, be_length, be_length])]
  unfold first
  rw [head_app n c r hn hc, h1, h2]
  simp only [Int.toNat_natCast]
  by_cases h : n ≤ r.length ∧ crcOf (r.take n) = c
  · rw [if_pos h, if_pos ⟨trivial, by omega, by omega⟩]
  · rw [if_neg h, if_neg]
    rintro ⟨_, h3, h4⟩
    exact h ⟨by omega, by omega⟩
theorem first_put (b r : List UInt8) (h : b.length ≤ 1048576) : first (put b ++ r) = some b := by
  unfold put
  rw [List.append_assoc, List.append_assoc, first_app _ _ _ h (crcOf_lt b), if_pos ⟨by rw [List.length_append]; omega, by rw [List.take_left' rfl]⟩, List.take_left' rfl]
theorem head_range (s : List UInt8) : 0 ≤ (head s).1 ∧ (head s).1 ≤ 1048576 ∧ 0 ≤ (head s).2.1 := by
  have h1 := rdCount_range 1048576 (s, true)
  have h2 := rdCount_range 4294967295 (rdCount 1048576 (s, true)).2
  exact ⟨h1.1, h1.2.2 (by omega), h2.1⟩
theorem first_len {s b : List UInt8} (h : first s = some b) : 8 + b.length ≤ s.length := by
  have hr := head_range s
  unfold first at h
  split at h
  · rename_i hc
    injection h with h
    rw [← h, List.length_take, List.length_drop]
    omega
  · cases h
theorem scanN_none {n : Nat} {s : List UInt8} (h : first s = none) : scanN n s = [] := by
  cases n with
  | zero => rfl
  | succ n => rw [scanN, h]
theorem first_nil : first [] = none := by
  cases h : first [] with
  | none => rfl
  | some b => have := first_len h; simp at this
theorem scanN_eq : ∀ (n m : Nat) (s : List UInt8), s.length ≤ n → s.length ≤ m → scanN n s = scanN m s
  | 0, m, s, hn, _ => by
    have : s = [] := List.eq_nil_of_length_eq_zero (by omega)
    subst this
    rw [scanN_none first_nil, scanN_none first_nil]
  | n + 1, 0, s, _, hm => by
    have : s = [] := List.eq_nil_of_length_eq_zero (by omega)
    subst this
    rw [scanN_none first_nil, scanN_none first_nil]
  | n + 1, m + 1, s, hn, hm => by
    cases h : first s with
    | none => rw [scanN_none h, scanN_none h]
    | some b =>
      have hl := first_len h
      rw [scanN, scanN, h]
      simp only
      rw [scanN_eq n m _ (by rw [List.length_drop]; omega) (by rw [List.length_drop]; omega)]
theorem scan_none {s : List UInt8} (h : first s = none) : scan s = [] := scanN_none h
theorem scan_some {s b : List UInt8} (h : first s = some b) : scan s = b :: scan (s.drop (8 + b.length)) := by
  have hl := first_len h
  unfold scan
  obtain ⟨n, hn⟩ : ∃ n, s.length = n + 1 := ⟨s.length - 1, by omega⟩
  rw [hn, scanN, h]
  simp only
  rw [scanN_eq n _ _ (by rw [List.length_drop]; omega) (Nat.le_refl _)]
theorem scan_put (b r : List UInt8) (h : b.length ≤ 1048576) : scan (put b ++ r) = b :: scan r := by
  rw [scan_some (first_put b r h), List.drop_left' (by rw [put_length])]
theorem scan_all (l : List (List UInt8)) (r : List UInt8) (h : ∀ b ∈ l, b.length ≤ 1048576) : scan (all l ++ r) = l ++ scan r := by
  induction l with
  | nil => rfl
  | cons b l ih =>
    rw [all_cons, List.append_assoc, scan_put b _ (h b (by simp)), ih (fun x hx => h x (by simp [hx]))]
    rfl
theorem scan_all' (l : List (List UInt8)) (h : ∀ b ∈ l, b.length ≤ 1048576) : scan (all l) = l := by
  have := scan_all l [] h
  rwa [List.append_nil, scan_none first_nil, List.append_nil] at this
/-- a frame that is cut is none -/
theorem first_cut (b r : List UInt8) (h : b.length ≤ 1048576) (k : Nat) (hk : k < 8 + b.length) : first ((put b ++ r).take k) = none := by
  by_cases h8 : k < 8
  · cases hf : first ((put b ++ r).take k) with
    | none => rfl
    | some c =>
      have := first_len hf
      rw [List.length_take] at this
      omega
  · have e : (put b ++ r).take k = be 4 b.length ++ (be 4 (crcOf b) ++ (b ++ r).take (k - 8)) := by
      unfold put
      rw [List.append_assoc, List.append_assoc, ← List.append_assoc (be 4 b.length), ← List.append_assoc (be 4 b.length), List.take_append, List.take_of_length_le (by rw [List.length_append, be_length, be_length]; omega), List.length_append, be_length, be_length]
    rw [e, first_app _ _ _ h (crcOf_lt b), if_neg]
    rintro ⟨h1, _⟩
    rw [List.length_take, List.length_append] at h1
    omega
/-- how many of the records are wholly there in so many bytes -/
def fits : List (List UInt8) → Nat → Nat
  | [], _ => 0
  | b :: l, k => if 8 + b.length ≤ k then fits l (k - (8 + b.length)) + 1 else 0
theorem scan_cut (l : List (List UInt8)) (h : ∀ b ∈ l, b.length ≤ 1048576) (k : Nat) : scan ((all l).take k) = l.take (fits l k) := by
  induction l generalizing k with
  | nil => simp [all, scan_none first_nil]
  | cons b l ih =>
    rw [all_cons]
    unfold fits
    split
    · rename_i hk
      rw [List.take_append, List.take_of_length_le (by rw [put_length]; exact hk), put_length, scan_put b _ (h b (by simp)), ih (fun x hx => h x (by simp [hx])), List.take_succ_cons]
    · rename_i hk
      rw [scan_none (first_cut b _ (h b (by simp)) k (by omega))]
      rfl
theorem fits_le (l : List (List UInt8)) (k : Nat) : fits l k ≤ l.length := by
  induction l generalizing k with
  | nil => exact Nat.le_refl _
  | cons b l ih =>
    unfold fits
    split
    · have := ih (k - (8 + b.length)); rw [List.length_cons]; omega
    · omega
theorem fits_used (l : List (List UInt8)) (k : Nat) : (all (l.take (fits l k))).length ≤ k := by
  induction l generalizing k with
  | nil => simp [all]
  | cons b l ih =>
    unfold fits
    split
    · have := ih (k - (8 + b.length)); rw [List.take_succ_cons, all_cons, List.length_append, put_length]; omega
    · simp [all]
theorem fits_next (l : List (List UInt8)) (k : Nat) (h : fits l k < l.length) : k < (all (l.take (fits l k + 1))).length := by
  induction l generalizing k with
  | nil => simp at h
  | cons b l ih =>
    unfold fits at h ⊢
    split at h
    · rename_i hk
      rw [if_pos hk]
      rw [List.length_cons] at h
      have := ih (k - (8 + b.length)) (by omega)
      rw [List.take_succ_cons, all_cons, List.length_append, put_length]
      omega
    · rename_i hk
      rw [if_neg hk, List.take_succ_cons, all_cons, List.length_append, put_length]
      omega
end Go.Frame
