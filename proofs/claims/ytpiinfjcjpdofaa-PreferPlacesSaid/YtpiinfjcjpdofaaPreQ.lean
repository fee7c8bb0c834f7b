/- Texts that rise, each once: one more put into them: plain. -/
import Derived.Test.YtpiinfjcjpdofaaPreP
import Derived.Test.YtpiinfjcjpdofaaMem
namespace Go.Pref
open Go.Mem
set_option linter.unusedVariables false
set_option linter.unusedSimpArgs false

theorem bl_irrefl : ∀ a : List UInt8, Op.bytesLess a a = false
  | [] => rfl
  | x :: a => by
    have := bl_irrefl a
    simp [Op.bytesLess, this]
theorem bl_trans : ∀ a b c : List UInt8, Op.bytesLess a b = true → Op.bytesLess b c = true → Op.bytesLess a c = true
  | a, [], c, h, k => by cases a <;> simp [Op.bytesLess] at h
  | a, y :: b, [], h, k => by simp [Op.bytesLess] at k
  | [], y :: b, z :: c, h, k => by simp [Op.bytesLess]
  | x :: a, y :: b, z :: c, h, k => by
    simp [Op.bytesLess] at h k ⊢
    rcases h with h | ⟨h1, h2⟩
    · rcases k with k | ⟨k1, k2⟩
      · exact .inl (UInt8.lt_trans h k)
      · subst k1; exact .inl h
    · subst h1
      rcases k with k | ⟨k1, k2⟩
      · exact .inl k
      · exact .inr ⟨k1, bl_trans a b c h2 k2⟩
theorem bl_tri : ∀ a b : List UInt8, Op.bytesLess a b = true ∨ a = b ∨ Op.bytesLess b a = true
  | [], [] => .inr (.inl rfl)
  | [], y :: b => .inl (by simp [Op.bytesLess])
  | x :: a, [] => .inr (.inr (by simp [Op.bytesLess]))
  | x :: a, y :: b => by
    simp only [Op.bytesLess]
    rcases UInt8.lt_or_lt_of_ne (a := x) (b := y) |> fun h => Classical.em (x = y) |>.imp id (fun e => h e) with e | h | h
    · subst e
      rcases bl_tri a b with h | h | h
      · left; simp [h]
      · right; left; rw [h]
      · right; right; simp [h]
    · left; simp [h]
    · right; right; simp [h]
/-- less, as texts -/
def lt (s t : ByteArray) : Bool := Op.bytesLess s.toList t.toList
theorem lt_irrefl (s : ByteArray) : lt s s = false := bl_irrefl _
theorem lt_trans {s t u : ByteArray} (h : lt s t = true) (k : lt t u = true) : lt s u = true := bl_trans _ _ _ h k
theorem lt_tri (s t : ByteArray) : lt s t = true ∨ s = t ∨ lt t s = true := by
  rcases bl_tri s.toList t.toList with h | h | h
  · exact .inl h
  · right; left; exact str_eq (by simp [h])
  · exact .inr (.inr h)
def Rises (l : List ByteArray) : Prop := l.Pairwise fun s t => lt s t = true
theorem rises_nodup {l : List ByteArray} (h : Rises l) : l.Nodup := h.imp fun {a b} hab e => by subst e; rw [lt_irrefl] at hab; cases hab
/-- what 'put' comes to -/
structure PutR (l : List ByteArray) (s : ByteArray) (r : List ByteArray) : Prop where
  rises : Rises r
  mem : ∀ z, z ∈ r ↔ z ∈ l ∨ z = s
  len : r.length ≤ l.length + 1
theorem put_in {l : List ByteArray} {s : ByteArray} (h : Rises l) (hs : s ∈ l) : PutR l s l := ⟨h, fun z => ⟨.inl, fun e => e.elim id fun e => e ▸ hs⟩, by omega⟩
theorem put_new {l : List ByteArray} {s : ByteArray} (h : Rises l) {k : Nat} (hk : k ≤ l.length) (h1 : ∀ x ∈ l.take k, lt x s = true) (h2 : ∀ x, l[k]? = some x → lt x s = false ∧ x ≠ s) : PutR l s (l.take k ++ s :: l.drop k) := by
  have hd : ∀ x ∈ l.drop k, lt s x = true := by
    rcases Nat.lt_or_ge k l.length with hlt | hge
    · have hx := h2 l[k] (List.getElem?_eq_getElem hlt)
      have hkx : lt s l[k] = true := by
        rcases lt_tri l[k] s with e | e | e
        · rw [hx.1] at e; cases e
        · exact absurd e hx.2
        · exact e
      intro x hxm
      rw [List.drop_eq_getElem_cons hlt] at hxm
      rcases List.mem_cons.1 hxm with rfl | hxm
      · exact hkx
      · have hp : Rises (l.drop k) := List.Pairwise.sublist (List.drop_sublist _ _) h
        rw [List.drop_eq_getElem_cons hlt] at hp
        exact lt_trans hkx ((List.pairwise_cons.1 hp).1 x hxm)
    · rw [List.drop_eq_nil_of_le hge]; simp
  refine ⟨?_, fun z => ?_, by simp; omega⟩
  · unfold Rises
    rw [List.pairwise_append]
    refine ⟨List.Pairwise.sublist (List.take_sublist _ _) h, List.pairwise_cons.2 ⟨hd, List.Pairwise.sublist (List.drop_sublist _ _) h⟩, fun x hx y hy => ?_⟩
    rcases List.mem_cons.1 hy with rfl | hy
    · exact h1 x hx
    · exact lt_trans (h1 x hx) (hd y hy)
  · have hl : z ∈ l ↔ z ∈ l.take k ∨ z ∈ l.drop k := by rw [← List.mem_append, List.take_append_drop]
    rw [List.mem_append, List.mem_cons, hl]
    constructor
    · rintro (a | a | a)
      · exact .inl (.inl a)
      · exact .inr a
      · exact .inl (.inr a)
    · rintro ((a | a) | a)
      · exact .inl a
      · exact .inr (.inr a)
      · exact .inr (.inl a)
end Go.Pref
