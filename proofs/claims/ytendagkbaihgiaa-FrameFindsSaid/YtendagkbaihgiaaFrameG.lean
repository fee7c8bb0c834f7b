/- frame: the plain law of FrameFinds: with up to 32 bits changed in a record, or in its sum, those ahead alone are scanned. -/
import Derived.Test.YtendagkbaihgiaaFrameF
import Derived.Test.YtendagkbaihgiaaCrcLaws
namespace Go.Frame
open Go.Num Go.Proofs.Ytendagkbaihgiaa
set_option linter.unusedVariables false
theorem flip_right (a b : List UInt8) (k bts i : Nat) : flip (a.length + k) bts (a ++ b) i = a ++ flip k bts b i := by
  unfold Go.Proofs.Ytendagkbaihgiaa.flip
  have e : a.length + k + i - a.length = k + i := by omega
  rw [List.set_append_right _ _ (by omega), e]
  congr 3
  simp only [List.getD]
  rw [List.getElem?_append_right (by omega), e]
theorem flips_right (a b : List UInt8) (k bts j : Nat) : flips (a ++ b) (a.length + k) bts j = a ++ flips b k bts j := by
  induction j with
  | zero => rfl
  | succ j ih => rw [flips, ih, flip_right, flips]
theorem flip_left (a b : List UInt8) (k bts i : Nat) (h : k + i < a.length) : flip k bts (a ++ b) i = flip k bts a i ++ b := by
  unfold Go.Proofs.Ytendagkbaihgiaa.flip
  rw [List.set_append_left _ _ h]
  congr 3
  simp only [List.getD]
  rw [List.getElem?_append_left h]
theorem flips_left (a b : List UInt8) (k bts j : Nat) (h : k + j ≤ a.length) : flips (a ++ b) k bts j = flips a k bts j ++ b := by
  induction j with
  | zero => rfl
  | succ j ih => rw [flips, ih (by omega), flip_left _ _ _ _ _ (by rw [flips_length]; omega), flips]
theorem flips_ne (l : List UInt8) (k bts : Nat) (hk : k + 4 ≤ l.length) (hb : bts < 4294967296) (h0 : bts ≠ 0) : flips l k bts 4 ≠ l := fun h => flips_sum l k bts hk hb h0 (by rw [h])
theorem four_be (l : List UInt8) (h : l.length = 4) : ∃ c : Nat, c < 4294967296 ∧ l = be 4 (c : Int) := by
  match l, h with
  | [a, b, c, d], _ =>
    refine ⟨a.toNat * 16777216 + b.toNat * 65536 + c.toNat * 256 + d.toNat, ?_, ?_⟩
    · have := a.toNat_lt; have := b.toNat_lt; have := c.toNat_lt; have := d.toNat_lt; omega
    · have ha := a.toNat_lt; have hb := b.toNat_lt; have hc := c.toNat_lt; have hd := d.toNat_lt
      have e : ∀ (x : UInt8) (z : Int), z % 256 = (x.toNat : Int) → x = lowB z := fun x z h => by
        apply UInt8.toNat_inj.1
        rw [lowB_toNat, h, Int.toNat_natCast]
      simp only [be]
      rw [← e a _ (by omega), ← e b _ (by omega), ← e c _ (by omega), ← e d _ (by omega)]
/-- a frame in which up to 32 bits that follow one another are changed is none -/
theorem first_flip (b r : List UInt8) (hb : b.length ≤ 1048576) (j bts : Nat) (hj : j = 0 ∨ (4 ≤ j ∧ j ≤ b.length)) (h1 : bts < 4294967296) (h0 : bts ≠ 0) : first (flips (put b ++ r) (4 + j) bts 4) = none := by
  have e4 : ∀ n : Int, (be 4 n).length = 4 := be_length 4
  have e : flips (put b ++ r) (4 + j) bts 4 = be 4 b.length ++ flips (be 4 (crcOf b) ++ (b ++ r)) j bts 4 := by
    unfold put
    rw [List.append_assoc, List.append_assoc]
    conv => lhs; rw [show 4 + j = (be 4 (b.length : Int)).length + j by rw [e4]]
    exact flips_right _ _ _ _ _
  rw [e]
  rcases hj with rfl | ⟨h4, hjb⟩
  · rw [flips_left _ _ _ _ _ (by rw [e4]; omega)]
    have hne := flips_ne (be 4 (crcOf b)) 0 bts (by rw [e4]; omega) h1 h0
    obtain ⟨c, hc, hx⟩ := four_be (flips (be 4 (crcOf b)) 0 bts 4) (by rw [flips_length, e4])
    rw [hx] at hne ⊢
    rw [first_app _ _ _ hb hc, if_neg]
    rintro ⟨_, h⟩
    rw [List.take_left' rfl] at h
    exact hne (by rw [h])
  · obtain ⟨i, rfl⟩ : ∃ i, j = 4 + i := ⟨j - 4, by omega⟩
    have e2 : flips (be 4 (crcOf b) ++ (b ++ r)) (4 + i) bts 4 = be 4 (crcOf b) ++ (flips b i bts 4 ++ r) := by
      conv => lhs; rw [show 4 + i = (be 4 (crcOf b : Int)).length + i by rw [e4]]
      rw [flips_right, flips_left _ _ _ _ _ (by omega)]
    rw [e2, first_app _ _ _ hb (crcOf_lt b), if_neg]
    rintro ⟨_, h⟩
    have hl := flips_length b i bts 4
    rw [← hl, List.take_left' rfl] at h
    unfold crcOf at h
    rw [hl] at h
    have hs := flips_sum (be 4 b.length ++ b) (4 + i) bts (by rw [List.length_append, e4]; omega) h1 h0
    apply hs
    have e3 : flips (be 4 b.length ++ b) (4 + i) bts 4 = be 4 b.length ++ flips b i bts 4 := by
      conv => lhs; rw [show 4 + i = (be 4 (b.length : Int)).length + i by rw [e4]]
      exact flips_right _ _ _ _ _
    rw [e3, h]
theorem all_at (l : List (List UInt8)) (k : Nat) (hk : k < l.length) : all l = all (l.take k) ++ (put l[k] ++ all (l.drop (k + 1))) := by
  conv => lhs; rw [← List.take_append_drop k l]
  rw [all_append, List.drop_eq_getElem_cons hk, all_cons]
theorem scan_flip (l : List (List UInt8)) (k : Nat) (hk : k < l.length) (h : ∀ b ∈ l, b.length ≤ 1048576) (j bts : Nat) (hj : j = 0 ∨ (4 ≤ j ∧ j ≤ l[k].length)) (h1 : bts < 4294967296) (h0 : bts ≠ 0) :
    scan (flips (all l) ((all (l.take k)).length + (4 + j)) bts 4) = l.take k := by
  rw [all_at l k hk, flips_right, scan_all _ _ (fun b hb => h b (List.mem_of_mem_take hb)), scan_none, List.append_nil]
  exact first_flip _ _ (h _ (List.getElem_mem hk)) _ _ hj h1 h0
end Go.Frame
