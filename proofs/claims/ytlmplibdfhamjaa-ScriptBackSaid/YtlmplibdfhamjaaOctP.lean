/- What is written is read as it was, and what is cut is bad: plain laws on bytes. -/
import Derived.Test.YtlmplibdfhamjaaOctR
namespace Go.Num
set_option linter.unusedVariables false
/-- the number of bytes, without a bound -/
def val (l : List UInt8) : Int := l.foldl (fun n c => n * 256 + c.toNat) 0
theorem wrap_step (v : Int) (c : Nat) (hc : c < 256) : IntKind.i64.wrap (IntKind.i64.wrap v * 256) + c = IntKind.i64.wrap (v * 256 + c) := by
  rw [IntKind.wrap_i64, IntKind.wrap_i64, IntKind.wrap_i64]
  omega
theorem num_val (l : List UInt8) : num l = IntKind.i64.wrap (val l) := by
  have key : ∀ (l : List UInt8) (v : Int), l.foldl (fun n c => IntKind.i64.wrap (n * 256) + c.toNat) (IntKind.i64.wrap v) = IntKind.i64.wrap (l.foldl (fun n c => n * 256 + c.toNat) v) := by
    intro l
    induction l with
    | nil => intro v; rfl
    | cons c l ih =>
      intro v
      simp only [List.foldl_cons]
      rw [wrap_step v c.toNat (UInt8.toNat_lt c), ih]
  have := key l 0
  rwa [show IntKind.i64.wrap 0 = 0 from rfl] at this
theorem val_be4 (n : Int) : val (be 4 n) = n % 4294967296 := by
  simp only [be, val, List.foldl_cons, List.foldl_nil, lowB_int]
  simp
  omega
theorem val_be8 (n : Int) : val (be 8 n) = n % 18446744073709551616 := by
  simp only [be, val, List.foldl_cons, List.foldl_nil, lowB_int]
  simp
  omega
theorem num_be4 (n : Int) (h0 : 0 ≤ n) (h1 : n < 4294967296) : num (be 4 n) = n := by
  rw [num_val, val_be4, IntKind.wrap_i64]
  omega
theorem num_be8 (n : Int) (h0 : -9223372036854775808 ≤ n) (h1 : n ≤ 9223372036854775807) : num (be 8 n) = n := by
  rw [num_val, val_be8, IntKind.wrap_i64]
  omega
theorem num_be1 (n : Int) : num (be 1 n) = n % 256 := by
  rw [num_val]
  simp only [be, val, List.foldl_cons, List.foldl_nil, lowB_int]
  rw [IntKind.wrap_i64]
  simp
  omega

theorem tk_app (a r : List UInt8) (n : Nat) (h : a.length = n) : tk n (a ++ r, true) = (a, (r, true)) := by
  unfold tk
  rw [if_pos ⟨rfl, by rw [List.length_append]; omega⟩]
  subst h
  simp
theorem rdNum8_app (n : Int) (r : List UInt8) (h0 : -9223372036854775808 ≤ n) (h1 : n ≤ 9223372036854775807) : rdNum 8 (be 8 n ++ r, true) = (n, (r, true)) := by
  unfold rdNum
  rw [tk_app _ _ _ (be_length 8 n)]
  simp only [num_be8 n h0 h1]
theorem rdNum1_app (n : Int) (r : List UInt8) : rdNum 1 (be 1 n ++ r, true) = (n % 256, (r, true)) := by
  unfold rdNum
  rw [tk_app _ _ _ (be_length 1 n)]
  simp only [num_be1 n]
theorem rdCount_app (n : Nat) (most : Int) (r : List UInt8) (h : (n : Int) ≤ most) (h1 : n < 4294967296) : rdCount most (be 4 n ++ r, true) = ((n : Int), (r, true)) := by
  have e : rdNum 4 (be 4 n ++ r, true) = ((n : Int), (r, true)) := by
    unfold rdNum
    rw [tk_app _ _ _ (be_length 4 n)]
    simp only [num_be4 n (by omega) (by omega)]
  unfold rdCount
  rw [e]
  simp only
  rw [if_neg (by omega)]
theorem rdText_app (s r : List UInt8) (h : s.length ≤ 1048576) : rdText (be 4 s.length ++ s ++ r, true) = (s, (r, true)) := by
  unfold rdText
  rw [List.append_assoc, rdCount_app s.length 1048576 (s ++ r) (by omega) (by omega)]
  simp only [Int.toNat_natCast]
  exact tk_app s r s.length rfl
/-- the bytes of texts (as lists of bytes) -/
def tx (s : List UInt8) : List UInt8 := be 4 s.length ++ s
theorem sev_app (ts : List (List UInt8)) (r : List UInt8) (h : ∀ t ∈ ts, t.length ≤ 1048576) : sev ts.length (ts.flatMap tx ++ r, true) = (ts, (r, true)) := by
  induction ts with
  | nil => rfl
  | cons t ts ih =>
    have e := rdText_app t (ts.flatMap tx ++ r) (h t (by simp))
    have e2 := ih (fun x hx => h x (by simp [hx]))
    simp only [List.length_cons, List.flatMap_cons]
    rw [List.append_assoc]
    unfold sev
    simp only [if_true]
    rw [show tx t = be 4 t.length ++ t from rfl, e]
    simp only [e2]
theorem rdTexts_app (ts : List (List UInt8)) (r : List UInt8) (h : ∀ t ∈ ts, t.length ≤ 1048576) (hl : ts.length ≤ 65536) : rdTexts (be 4 ts.length ++ ts.flatMap tx ++ r, true) = (ts, (r, true)) := by
  unfold rdTexts
  rw [List.append_assoc, rdCount_app ts.length 65536 _ (by omega) (by omega)]
  simp only [Int.toNat_natCast]
  rw [sev_app ts r h]
  rfl

/-- what is read of the beginning is read of the whole -/
def Mono {α : Type} (f : St → α × St) : Prop := ∀ p d, (f (p, true)).2.2 = true → f (p ++ d, true) = ((f (p, true)).1, ((f (p, true)).2.1 ++ d, true))
/-- what is bad stays bad -/
def Stays {α : Type} (f : St → α × St) : Prop := ∀ st, st.2 = false → (f st).2.2 = false
theorem tk_mono (n : Nat) : Mono (tk n) := by
  intro p d h
  unfold tk at *
  by_cases hn : n ≤ p.length
  · have hn2 : n ≤ (p ++ d).length := by rw [List.length_append]; omega
    simp only [hn, hn2, and_self, if_true]
    rw [List.take_append_of_le_length hn, List.drop_append_of_le_length hn]
  · rw [if_neg (fun h => hn h.2)] at h
    simp at h
theorem tk_stays (n : Nat) : Stays (tk n) := by
  intro st h
  unfold tk
  rw [if_neg (by rw [h]; simp)]
theorem rdNum_mono (k : Nat) : Mono (rdNum k) := by
  intro p d h
  have := tk_mono k p d h
  unfold rdNum
  rw [this]
theorem rdNum_stays (k : Nat) : Stays (rdNum k) := fun st h => tk_stays k st h
theorem rdCount_mono (m : Int) : Mono (rdCount m) := by
  intro p d h
  unfold rdCount at *
  by_cases hm : m < (rdNum 4 (p, true)).1
  · rw [if_pos hm] at h
    simp at h
  · rw [if_neg hm] at h
    have e := rdNum_mono 4 p d h
    rw [e]
    simp only [if_neg hm]
theorem rdCount_stays (m : Int) : Stays (rdCount m) := by
  intro st h
  unfold rdCount
  split
  · rfl
  · exact rdNum_stays 4 st h
/-- one behind the other -/
theorem mono_then {α β : Type} {f : St → α × St} {g : α → St → β × St} (hf : Mono f) (hs : ∀ a, Stays (g a)) (hg : ∀ a, Mono (g a)) : Mono (fun st => g (f st).1 (f st).2) := by
  intro p d h
  simp only at h ⊢
  have hgood : (f (p, true)).2.2 = true := by
    cases hh : (f (p, true)).2.2 with
    | true => rfl
    | false => rw [hs _ _ hh] at h; cases h
  have e := hf p d hgood
  generalize f (p, true) = x at *
  obtain ⟨a, p1, g1⟩ := x
  simp only at *
  subst hgood
  rw [e]
  exact hg a p1 d h
theorem stays_then {α β : Type} {f : St → α × St} {g : α → St → β × St} (hf : Stays f) (hs : ∀ a, Stays (g a)) : Stays (fun st => g (f st).1 (f st).2) := fun st h => hs _ _ (hf st h)
theorem rdText_mono : Mono rdText := mono_then (f := rdCount 1048576) (g := fun a => tk a.toNat) (rdCount_mono _) (fun a => tk_stays _) (fun a => tk_mono _)
theorem rdText_stays : Stays rdText := stays_then (f := rdCount 1048576) (g := fun a => tk a.toNat) (rdCount_stays _) (fun a => tk_stays _)
theorem sev_stays (n : Nat) : Stays (sev n) := by
  intro st h
  cases n with
  | zero => exact h
  | succ n => unfold sev; rw [if_neg (by rw [h]; simp)]; exact h
theorem sev_mono (n : Nat) : Mono (sev n) := by
  induction n with
  | zero => intro p d h; rfl
  | succ n ih =>
    intro p d h
    unfold sev at *
    simp only [if_true] at *
    have hgood : (rdText (p, true)).2.2 = true := by
      cases hh : (rdText (p, true)).2.2 with
      | true => rfl
      | false => rw [sev_stays n _ hh] at h; cases h
    have e := rdText_mono p d hgood
    generalize rdText (p, true) = x at *
    obtain ⟨a, p1, g1⟩ := x
    simp only at *
    subst hgood
    rw [e]
    simp only
    rw [ih p1 d h]
theorem rdTexts_stays : Stays rdTexts := by
  intro st h
  unfold rdTexts
  exact sev_stays _ _ (rdCount_stays _ _ h)
theorem rdTexts_mono : Mono rdTexts := by
  have hk : Mono (fun st => sev ((rdCount 65536 st).1.toNat) (rdCount 65536 st).2) := mono_then (f := rdCount 65536) (g := fun a => sev a.toNat) (rdCount_mono _) (fun a => sev_stays _) (fun a => sev_mono _)
  intro p d h
  have e := hk p d h
  simp only at e
  unfold rdTexts at *
  rw [e]
  simp only at h ⊢
  unfold outT
  rw [h]
/-- what is read of a whole without a rest is bad, cut anywhere -/
theorem cut_bad {α : Type} {f : St → α × St} (hm : Mono f) (L : List UInt8) (a : α) (h : f (L, true) = (a, ([], true))) (k : Nat) (hk : k < L.length) : (f (L.take k, true)).2.2 = false := by
  cases hh : (f (L.take k, true)).2.2 with
  | false => rfl
  | true =>
    exfalso
    have e := hm (L.take k) (L.drop k) hh
    rw [List.take_append_drop, h] at e
    have := congrArg (fun x => x.2.1.length) e
    simp only [List.length_nil, List.length_append, List.length_drop] at this
    omega
end Go.Num
