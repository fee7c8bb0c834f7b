/- walk: the program's order of members: the closure that tells a place, and the walk of Order. -/
import Derived.Test.YtpiinfjcjpdofaaWalkB
namespace Go.Proofs.Ytpiinfjcjpdofaa
open Go.RowKit Go.Mem
set_option linter.unusedVariables false
/-- what the closure 'tell' works on: which places were told, and in which order; M is another block, which it lets alone -/
def TellSt (w : World) (base Ba Bb M : Nat) (told : List Bool) (out : List Nat) : Prop :=
  ∃ (T cT : Nat) (v : Value), w.heap[Ba]? = some (.cells #[.slice (some ⟨T, 0, none⟩) told.length cT] 67 (0, 0)) ∧ w.ownsRow base 4 1 (.slice (some ⟨T, 0, none⟩) told.length cT) told.length (told.map Value.bool) ∧
    w.heap[Bb]? = some (.cells #[v] 28 (0, 0)) ∧ w.ownsRow base 3 1 v out.length (nats out) ∧ (Ba ≠ Bb ∧ T ≠ Ba ∧ T ≠ Bb ∧ v.ownBlock ≠ some Ba ∧ v.ownBlock ≠ some Bb ∧ v.ownBlock ≠ some T) ∧ (M ≠ Ba ∧ M ≠ Bb ∧ M ≠ T ∧ v.ownBlock ≠ some M) ∧ base ≤ Ba ∧ base ≤ Bb ∧ M < w.heap.size
theorem rd_new_ {g : Nat} (w : World) (arr : Array Value) (e : TypeId) (cs : List Value) (hg : g = w.heap.size) (h : arr.toList = cs) : Rd (w.alloc (.cells arr e)) (some ⟨g, 0, none⟩) cs := by
  subst hg h; exact Rd.new w arr e
theorem heap_alloc_old (w : World) (o : Obj) {i : Nat} (h : i < w.heap.size) : (w.alloc o).heap[i]? = w.heap[i]? := ((Below.refl w.heap.size w).alloc (Nat.le_refl _) o).block i h
theorem own_block {w w' : World} {base n : Nat} {e : TypeId} {sz : Nat} {v : Value} {cs : List Value} (h : w.ownsRow base e sz v n cs) (hb : ∀ k, v.ownBlock = some k → w'.heap[k]? = w.heap[k]?) : w'.ownsRow base e sz v n cs := by
  obtain ⟨h1, h2⟩ := h
  refine ⟨h1, ?_⟩
  rcases h2 with h2 | ⟨g, cap, cur, hv, hg, hh, r⟩
  · exact .inl h2
  · subst hv; exact .inr ⟨g, cap, cur, rfl, hg, (hb g rfl).trans hh, r⟩
/-- what the closure leaves -/
def TellRes (w : World) (base Ba Bb M : Nat) (told : List Bool) (out : List Nat) (k : Nat) (e : Ending) (w' : World) : Prop := e = .returned (.tuple #[]) ∧ TellSt w' base Ba Bb M (told.set k true) (out ++ [k]) ∧ Below base w w' ∧ w'.heap[M]? = w.heap[M]?
set_option maxRecDepth 100000 in
set_option maxHeartbeats 1000000 in
theorem tell_any (w : World) (base Ba Bb M : Nat) (told : List Bool) (out : List Nat) (k : Nat) (h : TellSt w base Ba Bb M told out) (hk : k < told.length) (hk' : k ≤ 100000) (ho : out.length ≤ 100000) (hbase : base ≤ w.heap.size) :
    Calls Try.prog 47 #[.int .i64 (k : Int), .pointer (some ⟨Ba, 0, none⟩), .pointer (some ⟨Bb, 0, none⟩)] w (TellRes w base Ba Bb M told out k) := by
  obtain ⟨T, cT, v, ha, hoT, hb, hov, ⟨d1, d2, d3, d4, d5, d6⟩, ⟨m1, m2, m3, m4⟩, b1, b2, hM⟩ := h
  obtain ⟨vA, vc, rfl⟩ := own_form hov
  have c1 := cell_of_one ha
  have c2 := cell_of_one hb
  obtain ⟨⟨u, hu1, hu2⟩, hu3⟩ := own_cells hoT k (by omega)
  have hTb : base ≤ T := by obtain ⟨g, e1, e2, _⟩ := own_pos hoT (by omega); injection e1 with e1; injection e1 with e1; omega
  have hTl : T < w.heap.size := by obtain ⟨g, e1, e2, e3, _⟩ := own_pos hoT (by omega); injection e1 with e1; injection e1 with e1; omega
  have c2' : (w.setCell ⟨T, k, none⟩ (.bool true)).cell? ⟨Bb, 0, none⟩ = some (.slice vA out.length vc) := by rw [World.cell?_setCell_other _ _ _ _ (fun e => by injection e with e1; exact d3 e1)]; exact c2
  have ho1 : (w.setCell ⟨T, k, none⟩ (.bool true)).ownsRow base 3 1 (.slice vA out.length vc) out.length (nats out) := ownsRow_setCell_other hov d6 _
  have hoT1 : (w.setCell ⟨T, k, none⟩ (.bool true)).ownsRow base 4 1 (.slice (some ⟨T, 0, none⟩) told.length cT) told.length ((told.map Value.bool).set k (.bool true)) := own_set hoT k (by omega) _
  have hb1 : (w.setCell ⟨T, k, none⟩ (.bool true)).heap[Bb]? = some (.cells #[.slice vA out.length vc] 28 (0, 0)) := by rw [Below.heap_setCell _ _ _ _ (fun e => d3 e.symm)]; exact hb
  have ha1 : (w.setCell ⟨T, k, none⟩ (.bool true)).heap[Ba]? = some (.cells #[.slice (some ⟨T, 0, none⟩) told.length cT] 67 (0, 0)) := by rw [Below.heap_setCell _ _ _ _ (fun e => d2 e.symm)]; exact ha
  have hM1 : (w.setCell ⟨T, k, none⟩ (.bool true)).heap[M]? = w.heap[M]? := by rw [Below.heap_setCell _ _ _ _ (fun e => m3 e)]
  have hB1 : Below base w (w.setCell ⟨T, k, none⟩ (.bool true)) := (Below.refl _ _).setCell hTb _
  have hs1 : (w.setCell ⟨T, k, none⟩ (.bool true)).heap.size = w.heap.size := by simp
  have hlb : Bb < w.heap.size := lt_of_block hb
  have hla : Ba < w.heap.size := lt_of_block ha
  have HO1 := Lib.hid ho1; have HOT1 := Lib.hid hoT1; have HB1 := Lib.hid hb1; have HA1 := Lib.hid ha1; have HM1 := Lib.hid hM1; have HBB := Lib.hid hB1; have HS1 := Lib.hid hs1
  clear ho1 hoT1 hb1 ha1 hM1 hB1 hs1 ha hoT hb hov hu1
  have i0 : (0 : Int) ≤ (k : Int) := by omega
  have i1 : (k : Int) < (told.length : Int) := by omega
  go_enter Try.func47, Try.ntmps47
  have HD := Lib.hid (And.intro d4 (And.intro d5 (And.intro d6 m4)))
  clear d4 d5 d6 m4
  go_wp2_with (at_builtin; refine wpList_app el_intW rfl (.tmp 7) (.tmp 9) rfl base _ _ _ rfl (HO1.out.alloc _) (some ⟨w.heap.size, 0, none⟩) 1 1 [.int .i64 (k : Int)] rfl rfl (rd_new_ _ #[.int .i64 (k : Int)] _ _ (by simp) rfl) (by intro u hu; simp at hu; subst hu; rfl) (by unfold maxLen; omega) (by omega) (by simp; omega) ?_; intro v1 w1 hown1 hbel1 hgr1 hat1; obtain ⟨vA1, vc1, rfl⟩ := own_form hown1; have hbb := (hgr1.block Bb (by simp; omega) (fun e => HD.out.2.1 e.symm)).trans ((heap_alloc_old _ _ (by simp; omega)).trans HB1.out); have k1 := cell_of_one hbb; have k2 := free_of_one hbb)
  go_end0
  have hfar : ∀ i, i < w.heap.size → i ≠ Bb → some i ≠ (Value.slice vA out.length vc).ownBlock → (w1.setCell ⟨Bb, 0, none⟩ (.slice vA1 (out.length + 1) vc1)).heap[i]? = (w.setCell ⟨T, k, none⟩ (.bool true)).heap[i]? := fun i hi h1 h2 => by
    rw [Below.heap_setCell _ _ _ _ h1]
    exact (hgr1.block i (by simp; omega) h2).trans (heap_alloc_old _ _ (by simp; omega))
  have hv1 : ∀ i, i < w.heap.size → (Value.slice vA out.length vc).ownBlock ≠ some i → (Value.slice vA1 (out.length + 1) vc1).ownBlock ≠ some i := fun i hi h1 h2 => by
    rcases hat1 with h | h
    · exact h1 (h ▸ h2)
    · rw [h] at h2; injection h2 with h2; simp at h2; omega
  refine ⟨rfl, ⟨T, cT, _, ?_, ?_, ?_, ?_, ⟨d1, d2, d3, hv1 _ hla HD.out.1, hv1 _ hlb HD.out.2.1, hv1 _ hTl HD.out.2.2.1⟩, ⟨m1, m2, m3, hv1 _ hM HD.out.2.2.2⟩, b1, b2, ?_⟩, ?_, ?_⟩
  · rw [hfar Ba hla d1 (fun e => HD.out.1 e.symm), List.length_set]; exact HA1.out
  · rw [List.length_set, List.map_set]
    exact own_block HOT1.out (fun i hi => by
      injection hi with hi; subst hi
      exact hfar T hTl d3 (fun e => HD.out.2.2.1 e.symm))
  · exact one_setCell hbb
  · rw [List.length_append, nats_snoc]
    exact ownsRow_setCell_other hown1 (hv1 _ hlb HD.out.2.1) _
  · have := hbel1.size; have := hgr1.size; simp at this ⊢; omega
  · exact (((HBB.out.alloc (by simp; omega) _).trans hbel1).setCell b2 _)
  · rw [hfar M hM m2 (fun e => HD.out.2.2.2 e.symm)]; exact HM1.out
end Go.Proofs.Ytpiinfjcjpdofaa
