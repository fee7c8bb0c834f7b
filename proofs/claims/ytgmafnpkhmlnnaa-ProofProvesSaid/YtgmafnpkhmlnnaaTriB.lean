/- The hash of leaves, of two hashes; whether leaves are those of a bucket: the code's and the document's. -/
import Derived.Test.YtgmafnpkhmlnnaaTriA
import Derived.Test.YtgmafnpkhmlnnaaTreeF
import Derived.Test.YtgmafnpkhmlnnaaTriP
attribute [local go_sem ↓] Go.wp_at_zero Go.wp_at_succ
namespace Go.Proofs.Ytgmafnpkhmlnnaa
open Go.RowKit Go.Mem Go.Num Go.Tri
set_option linter.unusedVariables false
set_option linter.unusedSimpArgs false

/-- the texts of leaves -/
def leavesT (l : List Leaf) : List ByteArray := l.flatMap leafT
theorem leavesT_succ {l : List Leaf} {k : Nat} (h : k < l.length) : leavesT (l.take (k + 1)) = leavesT (l.take k) ++ [l[k].place, l[k].digest] := by
  unfold leavesT; rw [List.take_succ_eq_append_getElem h, List.flatMap_append]; simp [leafT]
theorem leavesT_len (l : List Leaf) : (leavesT l).length = 2 * l.length := by
  unfold leavesT
  induction l with
  | nil => rfl
  | cons m t ih => rw [List.flatMap_cons, List.length_append, ih]; simp [leafT]; omega
theorem leavesT_size : ∀ (l : List Leaf), (∀ m ∈ l, smallL m) → sumSize (leavesT l) ≤ 200 * l.length := by
  have h := texP_size (fun _ => true)
  intro l hl
  have h1 := h l hl
  have h2 : texP (fun _ => true) l = leavesT l := by unfold texP leavesT; simp
  rw [← h2]; exact h1
set_option maxRecDepth 100000 in
set_option maxHeartbeats 4000000 in
theorem leaf_any (A : Option Addr) (n c : Nat) (l : List Leaf) (w : World) (hr : Rd w A (leafc l)) (hn : l.length = n) (hm : n ≤ 1000) (hok : ∀ m ∈ l, smallL m) :
    Calls Try.prog 56 #[.slice A n c] w fun e w' => e = .returned (.string (hashT (leavesT l))) ∧ Below w.heap.size w w' := by
  have HR := Lib.hid hr; have HN := Lib.hid hn
  have HSZ := Lib.hid (show 4 * (leavesT l).length + sumSize (leavesT l) + 16 ≤ 1099511627776 by have := leavesT_size l hok; rw [leavesT_len]; omega)
  clear hr hn hok
  go_enter Try.func56, Try.ntmps56
  go_wp2
  go_loopw [3, 8] (fun v i wr => ∃ k : Nat, k ≤ n ∧ i = .int .i64 k ∧ Hid (wr.ownsRow w.heap.size 9 1 v (leavesT (l.take k)).length ((leavesT (l.take k)).map Value.string)) ∧ Below w.heap.size w wr) (fun _ i _ => n - (intOf i).toNat)
  case atStart => exact ⟨0, Nat.zero_le _, rfl, Lib.hid (World.ownsRow_nil _ _ _ _), Below.refl _ _⟩
  case round =>
    obtain ⟨k, hk, rfl, HO, hbel⟩ := hrel
    by_cases hlt : k < n
    · have hx : k < l.length := by have := HN.out; omega
      obtain ⟨b, off, rfl, hrg⟩ := row_leaf.at_ (HR.out.below hbel) k hx
      have hll : (leavesT (l.take k)).length ≤ 2000 := by rw [leavesT_len, List.length_take]; omega
      have HS := Lib.hid (leavesT_succ hx)
      generalize leavesT (l.take k) = u at HO hll HS
      generalize l[k] = s at hrg HS
      obtain ⟨sp, sd⟩ := s
      have c0 : wr.cell? ⟨b, off + k * 2, none⟩ = some (.string sp) := rangeAt_cell hrg 0 rfl
      have c1 : wr.cell? ⟨b, off + k * 2 + 1, none⟩ = some (.string sd) := rangeAt_cell hrg 1 rfl
      have HZ := Lib.hid hbel.size; have HB := Lib.hid hbel
      clear hrg hbel
      go_wp2_with (at_builtin; refine wpList_app elStr (by rfl) (.tmp 12) (.tmp 17) (by rfl) w.heap.size _ u.length _ (by rfl) ((HO.out.alloc _).alloc _) (some ⟨wr.heap.size + 1, 0, none⟩) 2 2 [.string sp, .string sd] rfl rfl (by have := Rd.new (wr.alloc (.cells #[.string sp, .string sd] 48)) #[.string sp, .string sd] 9; simpa using this) (by intro u hu; simp at hu; rcases hu with rfl | rfl <;> rfl) (by unfold maxLen; omega) (by omega) (by have := HZ.out; simp; omega) ?_; intro v1 w3 hown1 hbel1 _ _)
      go_roundw
      case rel => exact ⟨k + 1, by omega, by go_num, Lib.hid (by rw [HS.out, List.map_append, List.length_append]; exact hown1), ((HB.out.alloc HZ.out _).alloc (by have := HZ.out; simp; omega) _).trans hbel1⟩
      case measure => simp [intOf]; omega
    · obtain rfl : k = n := by omega
      have hfull : l.take k = l := List.take_of_length_le (by rw [HN.out]; omega)
      rw [hfull] at HO
      obtain ⟨A1, c1, rfl⟩ := own_form HO.out
      have HX := Lib.hid (Rd.of_own HO.out)
      have HB := Lib.hid hbel
      generalize hul : leavesT l = u at HX HSZ ⊢
      have HUL := Lib.hid hul
      clear hul
      clear HO hbel hfull
      go_wp2_with fail
      refine (shaCode A1 u.length c1 u wr HX.out rfl HSZ.out).mono ?_
      rintro e w2 ⟨rfl, hb2⟩
      go_wp2
      go_ret
      exact ⟨by rw [HUL.out]; rfl, then_ HB.out hb2⟩
set_option maxRecDepth 100000 in
theorem both_any (s t : ByteArray) (w : World) (h : s.size + t.size ≤ 1000000) :
    Calls Try.prog 57 #[.string s, .string t] w fun e w' => e = .returned (.string (hashT [s, t])) ∧ Below w.heap.size w w' := by
  go_enter Try.func57, Try.ntmps57
  go_wp2_with fail
  have hal := (Below.refl w.heap.size w).alloc (Nat.le_refl _) (.cells #[.string s, .string t] 9)
  refine (shaCode (some ⟨w.heap.size, 0, none⟩) 2 2 [s, t] _ (by exact Rd.new w #[.string s, .string t] _) rfl (by simp [sumSize]; omega)).mono ?_
  rintro e w2 ⟨rfl, hb2⟩
  go_wp2
  go_ret
  exact ⟨rfl, then_ hal hb2⟩
end Go.Proofs.Ytgmafnpkhmlnnaa
