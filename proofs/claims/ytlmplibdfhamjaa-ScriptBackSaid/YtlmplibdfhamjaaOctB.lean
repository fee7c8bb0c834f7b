/- octet.Writer: what each method writes, and what Bytes tells. -/
import Derived.Test.YtlmplibdfhamjaaOct
import Derived.Deep.RegionHeld3
import Derived.Deep.QuietTactic
import Derived.BigQuiet
namespace Go.Proofs.Ytlmplibdfhamjaa
open Go.RowKit Go.Mem
set_option linter.unusedVariables false

/-- what a writer holds that is only read from now on -/
def Holds (B b : Nat) (l : List UInt8) (w : World) : Prop :=
  B ≤ b ∧ ∃ p v, w.heap[b]? = some (.cells #[p, v] 65 (0, 0)) ∧ ((v = .slice none 0 0 ∧ l = []) ∨
    ∃ g cap cur fr, v = .slice (some ⟨g, 0, none⟩) l.length cap ∧ B ≤ g ∧ g ≠ b ∧ w.heap[g]? = some (.cells cur 5 fr) ∧ l.length ≤ cap ∧ cap ≤ maxLen ∧ cur.size = cap ∧ cur.toList.take l.length = Lib.byteCells l)
theorem Wr.holds {B b : Nat} {l : List UInt8} {w : World} (h : Wr B b l w) : Holds B b l w := by
  obtain ⟨p, hB, v, hbk, hown, hne⟩ : ∃ p, BuilderAt B b p l w := by
    rcases h with h | h
    · exact ⟨_, h⟩
    · exact ⟨_, h⟩
  rw [Lib.byteCells_length] at hown
  refine ⟨hB, p, v, hbk, ?_⟩
  rcases hown.2 with ⟨hv, hz⟩ | ⟨g, cap, cur, hv, hbg, hg, hnc, hcm, hcs, htake⟩
  · exact .inl ⟨hv, List.eq_nil_of_length_eq_zero hz⟩
  · refine .inr ⟨g, cap, cur, (0, 0), hv, hbg, ?_, hg, hnc, hcm, by simpa using hcs, by simpa using htake⟩
    rintro rfl
    exact hne (by rw [hv]; rfl)
theorem Holds.lt {B b : Nat} {l : List UInt8} {w : World} (h : Holds B b l w) : b < w.heap.size := by
  obtain ⟨_, p, v, hb, _⟩ := h
  exact (Array.getElem?_eq_some_iff.1 hb).1
theorem Holds.below {B b : Nat} {l : List UInt8} {w w' : World} (h : Holds B b l w) (hb : Below w.heap.size w w') : Holds B b l w' := by
  have hlt := h.lt
  obtain ⟨hB, p, v, hbk, hc⟩ := h
  refine ⟨hB, p, v, (hb.block b hlt).trans hbk, ?_⟩
  rcases hc with hc | ⟨g, cap, cur, fr, hv, hbg, hne, hg, r⟩
  · exact .inl hc
  · exact .inr ⟨g, cap, cur, fr, hv, hbg, hne, (hb.block g (Array.getElem?_eq_some_iff.1 hg).1).trans hg, r⟩
theorem holds_freeze {B b g n : Nat} {l : List UInt8} {w : World} (h : Holds B b l w) (hg : g ≠ b) (hsp : ∃ cur fr, w.heap[g]? = some (.cells cur 5 fr)) : Holds B b l (w.freeze ⟨g, 0, none⟩ n) := by
  obtain ⟨cur0, fr0, hg0⟩ := hsp
  obtain ⟨hB, p, v, hbk, hc⟩ := h
  have key : ∀ k o, w.heap[k]? = some o → (w.freeze ⟨g, 0, none⟩ n).heap[k]? = some o ∨ (k = g ∧ ∃ fr', (w.freeze ⟨g, 0, none⟩ n).heap[k]? = some (.cells cur0 5 fr')) := by
    intro k o hk
    unfold World.freeze
    split
    · exact .inl hk
    · by_cases hkg : k = g
      · subst hkg
        right
        refine ⟨rfl, ?_⟩
        simp only [Array.getElem?_modify, if_true]
        rw [hg0]
        exact ⟨_, rfl⟩
      · left
        simp only [Array.getElem?_modify]
        rw [if_neg (fun h => hkg h.symm)]
        exact hk
  refine ⟨hB, p, v, ?_, ?_⟩
  · rcases key b _ hbk with h | ⟨h, _⟩
    · exact h
    · exact absurd h.symm hg
  · rcases hc with hc | ⟨g', cap, cur, fr, hv, hbg, hne, hgk, h1, h2, h3, h4⟩
    · exact .inl hc
    · right
      rcases key g' _ hgk with h | ⟨rfl, fr', h⟩
      · exact ⟨g', cap, cur, fr, hv, hbg, hne, h, h1, h2, h3, h4⟩
      · rw [hg0] at hgk
        injection hgk with hgk
        injection hgk with hcur
        subst hcur
        exact ⟨g', cap, cur0, fr', hv, hbg, hne, h, h1, h2, h3, h4⟩

/-- no block of another type than bytes has turned -/
def Others (w w' : World) : Prop := ∀ (k : Nat) (cs : Array Value) (T : TypeId) (fr : Nat × Nat), T ≠ 5 → w.heap[k]? = some (.cells cs T fr) → w'.heap[k]? = some (.cells cs T fr)
theorem Others.rfl_ {w : World} : Others w w := fun _ _ _ _ _ h => h
theorem others_alloc {w : World} (o : Obj) : Others w (w.alloc o) := fun k cs T fr _ h => (Below.heap_alloc w o k (Array.getElem?_eq_some_iff.1 h).1).trans h
theorem others_freeze {w : World} {g n : Nat} (hsp : ∃ cur fr, w.heap[g]? = some (.cells cur 5 fr)) : Others w (w.freeze ⟨g, 0, none⟩ n) := by
  obtain ⟨cur0, fr0, hg0⟩ := hsp
  intro k cs T fr hT h
  unfold World.freeze
  split
  · exact h
  · have hkg : g ≠ k := by
      rintro rfl
      rw [hg0] at h
      injection h with h
      injection h with _ h
      exact hT h.symm
    simp only [Array.getElem?_modify]
    rw [if_neg hkg]
    exact h
set_option maxHeartbeats 2000000 in
set_option maxRecDepth 100000 in
theorem bstring_any (B b : Nat) (l : List UInt8) (w : World) (h : Holds B b l w) (hBw : B ≤ w.heap.size) :
    Calls Try.prog 84 #[.pointer (some ⟨b, 0, none⟩)] w fun e w' => e = .returned (.string ⟨l.toArray⟩) ∧ Below B w w' ∧ Holds B b l w' ∧ Others w w' := by
  have hh := h
  have hlt := h.lt
  obtain ⟨hB, p, v, hbk, hc⟩ := h
  have HH := Lib.hid hh; clear hh
  rcases hc with ⟨rfl, rfl⟩ | ⟨g, cap, cur, fr, rfl, hbg, hne, hg, hnc, hcm, hcs, htake⟩
  · have hUS := fun (W : World) (q : Option Addr) => Lib.run_unsafeString_none (P := Try.prog) W 158 3 9 q
    have c1 : w.drew.cell? ⟨b, 1, none⟩ = some (.slice none 0 0) := by
      have : w.drew.heap[b]? = some (.cells #[p, .slice none 0 0] 65 (0, 0)) := hbk
      rw [Lib.cell_of_heap this]; rfl
    have hSD : (Builtin.unsafeSliceData_ #[61] 158 #[.slice none 0 0]).run Try.prog w.drew = .ok (.pointer none) w.drew := rfl
    clear hbk
    go_enter Try.func84, Try.ntmps84
    go_wp2
    go_region
    all_goals (go_wp2; go_ret; exact ⟨rfl, Below.drew (Below.refl B w), HH.out, Others.rfl_⟩)
  · cases l with
    | nil =>
      have hUS := fun (W : World) (q : Option Addr) => Lib.run_unsafeString_none (P := Try.prog) W 158 3 9 q
      have c1 : w.drew.cell? ⟨b, 1, none⟩ = some (.slice (some ⟨g, 0, none⟩) 0 cap) := by
        have : w.drew.heap[b]? = some (.cells #[p, .slice (some ⟨g, 0, none⟩) 0 cap] 65 (0, 0)) := hbk
        rw [Lib.cell_of_heap this]; rfl
      by_cases hc0 : cap = 0
      · subst hc0
        have hSD : (Builtin.unsafeSliceData_ #[61] 158 #[.slice (some ⟨g, 0, none⟩) 0 0]).run Try.prog w.drew = .ok (.pointer (some ⟨w.drew.heap.size, 0, none⟩)) (w.drew.alloc (.view ⟨g, 0, none⟩ 5)) :=
          Lib.run_unsafeSliceData_zero w.drew _ _ 5 Try.underlying158 ⟨g, 0, none⟩ 0 (5, cur.size) (by have hg' : w.drew.heap[g]? = some (.cells cur 5 fr) := hg; simp [World.shape?, hg'])
        have c2 : (w.drew.alloc (.view ⟨g, 0, none⟩ 5)).cell? ⟨b, 1, none⟩ = some (.slice (some ⟨g, 0, none⟩) 0 0) := by
          have : (w.drew.alloc (.view ⟨g, 0, none⟩ 5)).heap[b]? = _ := (Lib.alloc_old w.drew _ b hlt).trans hbk
          rw [Lib.cell_of_heap this]; rfl
        have c3 : (w.alloc (.view ⟨g, 0, none⟩ 5)).drew.cell? ⟨b, 1, none⟩ = some (.slice (some ⟨g, 0, none⟩) 0 0) := c2
        have c0 : w.cell? ⟨b, 1, none⟩ = some (.slice (some ⟨g, 0, none⟩) 0 0) := c1
        clear hbk hg htake hcs
        go_enter Try.func84, Try.ntmps84
        go_wp2
        go_region
        all_goals (go_wp2; go_ret; exact ⟨rfl, (Below.drew (Below.refl B w)).alloc hBw _, HH.out.below ((Below.drew (Below.refl _ w)).alloc (Nat.le_refl _) _), others_alloc _⟩)
      · have hSD : (Builtin.unsafeSliceData_ #[61] 158 #[.slice (some ⟨g, 0, none⟩) 0 cap]).run Try.prog w.drew = .ok (.pointer (some ⟨g, 0, none⟩)) w.drew :=
          Lib.run_unsafeSliceData_row _ _ _ _ _ _ hc0
        clear hc0 hbk hg htake hcs
        go_enter Try.func84, Try.ntmps84
        go_wp2
        go_region
        all_goals (go_wp2; go_ret; exact ⟨rfl, Below.drew (Below.refl B w), HH.out, Others.rfl_⟩)
    | cons x r =>
      generalize hl : x :: r = l at *
      have h0 : l ≠ [] := by rw [← hl]; simp
      have hl0 : l.length ≠ 0 := by simpa using h0
      clear hl
      have c1 : w.drew.cell? ⟨b, 1, none⟩ = some (.slice (some ⟨g, 0, none⟩) l.length cap) := by
        have : w.drew.heap[b]? = some (.cells #[p, .slice (some ⟨g, 0, none⟩) l.length cap] 65 (0, 0)) := hbk
        rw [Lib.cell_of_heap this]; rfl
      have hSD : (Builtin.unsafeSliceData_ #[61] 158 #[.slice (some ⟨g, 0, none⟩) l.length cap]).run Try.prog w.drew = .ok (.pointer (some ⟨g, 0, none⟩)) w.drew :=
        Lib.run_unsafeSliceData_row _ _ _ _ _ _ (by omega)
      have hUS : (Builtin.unsafeString_ #[158, 3] 9 #[.pointer (some ⟨g, 0, none⟩), .int .i64 l.length]).run Try.prog w.drew = .ok (.string ⟨l.toArray⟩) (w.drew.freeze ⟨g, 0, none⟩ l.length) := by
        refine Lib.run_unsafeString_row w.drew 158 3 9 5 Try.underlying158 cellsByte g cur.size (by have hg' : w.drew.heap[g]? = some (.cells cur 5 fr) := hg; simp [World.shape?, hg']) l h0 (by omega) (by unfold maxLen at hcm; omega) ?_
        intro j x hx
        have hg' : w.drew.heap[g]? = some (.cells cur 5 fr) := hg
        rw [add_none, Nat.zero_add, Lib.cell_of_heap hg']
        have h1 : (Lib.byteCells l)[j]? = some (.int .u8 x.toNat) := by simp [Lib.byteCells, hx]
        rw [← htake, List.getElem?_take] at h1
        split at h1
        · simpa using h1
        · cases h1
      have hd : Holds B b l w.drew := HH.out
      have HF := Lib.hid (holds_freeze (n := l.length) hd hne ⟨_, _, hg⟩)
      have hgd : ∃ cur fr, w.drew.heap[g]? = some (.cells cur 5 fr) := ⟨_, _, hg⟩
      have HO := Lib.hid (others_freeze (n := l.length) hgd)
      clear hd hgd
      clear hbk hg htake hcs h0
      go_enter Try.func84, Try.ntmps84
      go_wp2
      go_region
      all_goals (go_wp2; go_ret; exact ⟨rfl, Lib.below_freeze (Below.drew (Below.refl B w)) (p := ⟨g, 0, none⟩) hbg _, HF.out, HO.out⟩)
end Go.Proofs.Ytlmplibdfhamjaa
