/- Few leaves; what is summed of a segment, by the document. -/
import Derived.Test.YtgmafnpkhmlnnaaTreeA
import Derived.Test.YtgmafnpkhmlnnaaOctT
attribute [local go_sem ↓] Go.wp_at_zero Go.wp_at_succ
namespace Go.Proofs.Ytgmafnpkhmlnnaa
open Go.RowKit Go.Mem Go.Num
set_option linter.unusedVariables false
set_option linter.unusedSimpArgs false

def leafc (l : List Leaf) : List Value := l.flatMap fun m => m.arr.toList
def smallL (m : Leaf) : Prop := m.place.size ≤ 100 ∧ m.digest.size ≤ 100
def FewL (l : List Leaf) (q : Nat) (w : World) (e : Ending) (w' : World) : Prop := ∃ b : Bool, (b = true → l.length ≤ q ∧ ∀ m ∈ l, smallL m) ∧ e = .returned (.bool b) ∧ Below w.heap.size w w'
set_option maxRecDepth 100000 in
set_option maxHeartbeats 2000000 in
theorem few28_any (A : Option Addr) (n c : Nat) (l : List Leaf) (w : World) (hr : Rd w A (leafc l)) (hn : l.length = n) (hm : n ≤ maxLen) (hok : ∀ m ∈ l, m.ok w) :
    Calls Try.prog 10 #[.slice A n c] w (FewL l 20 w) := by
  have HN := Lib.hid hn; have HR := Lib.hid hr; have HOK := Lib.hid hok; clear hn hr hok
  unfold maxLen at hm
  go_enter Try.func10, Try.ntmps10
  go_wp2
  go_loopw [3] (fun i wr => ∃ k : Nat, k ≤ n ∧ i = .int .i64 k ∧ Below w.heap.size w wr ∧ Hid (∀ s ∈ l.take k, smallL s)) (fun i _ => n - (intOf i).toNat)
  case atStart => exact ⟨0, Nat.zero_le _, rfl, Below.refl _ _, Lib.hid (by simp)⟩
  case round =>
    obtain ⟨k, hk, rfl, hbel, HA⟩ := hrel
    by_cases hend : k < n ∧ k < 20
    · obtain ⟨hlt, hlq⟩ := hend
      have hx : k < l.length := by have := HN.out; omega
      obtain ⟨b, off, rfl, hrg⟩ := row_leaf.at_ (HR.out.below hbel) k hx
      have hs := HOK.out l[k] (List.getElem_mem hx)
      have HT := Lib.hid (fun s => mem_take_succ l k hx s)
      generalize l[k] = s at hrg hs HT
      obtain ⟨sp, sd⟩ := s
      have c0 : wr.cell? ⟨b, off + k * 2, none⟩ = some (.string sp) := rangeAt_cell hrg 0 rfl
      have c1 : wr.cell? ⟨b, off + k * 2 + 1, none⟩ = some (.string sd) := rangeAt_cell hrg 1 rfl
      clear hrg
      obtain ⟨hk1, hk2⟩ := hs
      simp only at hk1 hk2
      unfold maxLen at hk1 hk2
      by_cases g1 : 100 < sp.size
      · go_wp2
        go_ret
        exact ⟨false, by simp, rfl, hbel⟩
      by_cases g2 : 100 < sd.size
      · go_wp2
        go_ret
        exact ⟨false, by simp, rfl, hbel⟩
      go_wp2
      go_roundw
      case rel => exact ⟨k + 1, by omega, by go_num, hbel, Lib.hid fun s hs => by
        rcases (HT.out s).1 hs with h | rfl
        · exact HA.out s h
        · exact ⟨by simp only; omega, by simp only; omega⟩⟩
      case measure => simp [intOf]; omega
    · have HE : Hid (k = n ∨ 20 ≤ k) := Lib.hid (by omega)
      have HL : Hid ((n : Int) ≤ 20 → l.length ≤ 20 ∧ ∀ m ∈ l, smallL m) := Lib.hid fun h => ⟨by rw [HN.out]; omega, by
        have hkn : k = n := by rcases HE.out with h1 | h1 <;> omega
        have := HA.out
        rwa [List.take_of_length_le (by rw [HN.out]; omega)] at this⟩
      by_cases hlt : k < n
      · have hq : ¬ k < 20 := fun h => hend ⟨hlt, h⟩
        clear hend
        go_wp2
        all_goals (go_ret; exact ⟨_, fun h => HL.out (by simpa using h), rfl, hbel⟩)
      · obtain rfl : k = n := by omega
        clear hend
        go_wp2
        all_goals (go_ret; exact ⟨_, fun h => HL.out (by simpa using h), rfl, hbel⟩)
/-- a slice that a call made: it owns its cells, and what was there is as it was -/
def MakesS (ss : List ByteArray) (w : World) (r : Ending) (w' : World) : Prop := ∃ v, r = .returned v ∧ w'.ownsRow w.heap.size 9 1 v ss.length (ss.map Value.string) ∧ Below w.heap.size w w'
/-- the texts of a leaf, of leaves of which something is so -/
def leafT (m : Leaf) : List ByteArray := [m.place, m.digest]
def texP (p : ByteArray → Bool) (l : List Leaf) : List ByteArray := l.flatMap fun m => if p m.place then leafT m else []
theorem texP_succ (p : ByteArray → Bool) {l : List Leaf} {k : Nat} (h : k < l.length) : texP p (l.take (k + 1)) = texP p (l.take k) ++ (if p l[k].place then leafT l[k] else []) := by
  unfold texP
  rw [List.take_succ_eq_append_getElem h, List.flatMap_append, List.flatMap_cons, List.flatMap_nil, List.append_nil]
theorem texP_len (p : ByteArray → Bool) : ∀ (l : List Leaf), (texP p l).length ≤ 2 * l.length
  | [] => Nat.le_refl _
  | m :: l => by
    have := texP_len p l
    unfold texP at *
    rw [List.flatMap_cons, List.length_append, List.length_cons]
    have h2 : (if p m.place = true then leafT m else []).length ≤ 2 := by split <;> simp [leafT]
    omega
theorem texP_size (p : ByteArray → Bool) : ∀ (l : List Leaf), (∀ m ∈ l, smallL m) → sumSize (texP p l) ≤ 200 * l.length
  | [], _ => Nat.zero_le _
  | m :: l, h => by
    have h1 := texP_size p l (fun x hx => h x (by simp [hx]))
    have h2 := h m (by simp)
    unfold texP sumSize at *
    rw [List.flatMap_cons, List.map_append, List.sum_append, List.length_cons]
    have h3 : ((if p m.place = true then leafT m else []).map ByteArray.size).sum ≤ 200 := by
      have := h2.1; have := h2.2
      split
      · simp [leafT]; omega
      · simp
    omega
def segB (k : Int) (s : ByteArray) : Bool := ((segOf s : Nat) : Int) == k
set_option maxRecDepth 100000 in
set_option maxHeartbeats 4000000 in
theorem texts28_any (A : Option Addr) (n c : Nat) (l : List Leaf) (q : Int) (w : World) (hr : Rd w A (leafc l)) (hn : l.length = n) (hm : n ≤ 1000) (hok : ∀ m ∈ l, smallL m) :
    Calls Try.prog 24 #[.slice A n c, .int .i64 q] w (MakesS (texP (segB q) l) w) := by
  have HN := Lib.hid hn; have HR := Lib.hid hr; have HOK := Lib.hid hok; clear hn hr hok
  go_enter Try.func24, Try.ntmps24
  go_wp2
  go_loopw [5, 6] (fun v i wr => ∃ k : Nat, k ≤ n ∧ i = .int .i64 k ∧ Hid (wr.ownsRow w.heap.size 9 1 v (texP (segB q) (l.take k)).length ((texP (segB q) (l.take k)).map Value.string)) ∧ Below w.heap.size w wr) (fun _ i _ => n - (intOf i).toNat)
  case atStart => exact ⟨0, Nat.zero_le _, rfl, Lib.hid (World.ownsRow_nil _ _ _ _), Below.refl _ _⟩
  case round =>
    obtain ⟨k, hk, rfl, HO, hbel⟩ := hrel
    by_cases hlt : k < n
    · have hx : k < l.length := by have := HN.out; omega
      obtain ⟨b, off, rfl, hrg⟩ := row_leaf.at_ HR.out k hx
      have hs := HOK.out l[k] (List.getElem_mem hx)
      have HT := Lib.hid (texP_succ (segB q) hx)
      have hlen := texP_len (segB q) (l.take k)
      have hlen2 : (l.take k).length ≤ 1000 := by rw [List.length_take]; omega
      generalize l[k] = s at hrg hs HT
      generalize texP (segB q) (l.take k) = out at HO HT hlen
      obtain ⟨sp, sd⟩ := s
      have W0 := Lib.hid (show w.cell? ⟨b, off + k * 2, none⟩ = some (.string sp) from rangeAt_cell hrg 0 rfl)
      have W1 := Lib.hid (show w.cell? ⟨b, off + k * 2 + 1, none⟩ = some (.string sd) from rangeAt_cell hrg 1 rfl)
      clear hrg
      have c0 := cell_below hbel W0.out
      obtain ⟨hk1, hk2⟩ := hs
      simp only at hk1 hk2
      have hlo : out.length ≤ 2000 := by omega
      clear hlen hlen2
      have HX := Lib.hid (rsegment_any sp wr (by omega))
      go_wp2_with fail
      refine HX.out.mono ?_
      rintro e w1 ⟨rfl, hb1⟩
      have HO1 := Lib.hid (own_below HO.out hb1); have hb2 := then_ hbel hb1
      have c0 := cell_below hb2 W0.out
      have hb1s := hb2.size
      clear HO hb1 HX
      by_cases hq : ((segOf sp : Nat) : Int) = q
      · have hqq : (((segOf sp : Nat) : Int) == q) = true := by simp [hq]
        have HS := Lib.hid (show texP (segB q) (l.take (k + 1)) = out ++ [sp, sd] by rw [HT.out]; rw [if_pos (show segB q sp = true from hqq)]; rfl)
        clear HT
        clear hq
        have HZ1 := Lib.hid hb1s; clear hb1s
        go_wp2_with (first
          | (at_builtin; refine wpList_app elStr (by rfl) (.tmp 21) (.tmp 27) (by rfl) w.heap.size _ _ _ (by rfl) (HO1.out.alloc _) (some ⟨w1.heap.size, 0, none⟩) 1 1 [.string sp] rfl rfl (Rd.new w1 #[.string sp] _) (by intro u hu; simp at hu; subst hu; rfl) (by unfold maxLen; omega) (by omega) (by have := HZ1.out; simp; omega) ?_; intro v1 w2 hown1 hbel1 _ _; have hb3 := (hb2.alloc HZ1.out _).trans hbel1; have c1 := cell_below hb3 W1.out; have HZ2 := Lib.hid hb3.size)
          | (at_builtin; refine wpList_app elStr (by rfl) (.tmp 29) (.tmp 35) (by rfl) w.heap.size v1 (out.length + 1) _ (by rfl) (hown1.alloc _) (some ⟨w2.heap.size, 0, none⟩) 1 1 [.string sd] rfl rfl (Rd.new w2 #[.string sd] _) (by intro u hu; simp at hu; subst hu; rfl) (by unfold maxLen; omega) (by omega) (by have := HZ2.out; simp; omega) ?_; intro v2 w3 hown2 hbel2 _ _))
        go_roundw
        case rel => exact ⟨k + 1, by omega, by go_num, Lib.hid (by rw [HS.out, List.length_append, List.map_append]; simpa using hown2), (hb3.alloc HZ2.out _).trans hbel2⟩
        case measure => simp [intOf]; omega
      · have hqq : (((segOf sp : Nat) : Int) == q) = false := by simp [hq]
        have HS := Lib.hid (show texP (segB q) (l.take (k + 1)) = out by rw [HT.out]; rw [if_neg (show ¬ segB q sp = true by unfold segB; rw [hqq]; decide), List.append_nil])
        clear HT hq
        go_wp2
        go_roundw
        case rel => exact ⟨k + 1, by omega, by go_num, Lib.hid (by rw [HS.out]; exact HO1.out), hb2⟩
        case measure => simp [intOf]; omega
    · obtain rfl : k = n := by omega
      have HF := HO.out
      rw [List.take_of_length_le (by rw [HN.out]; omega)] at HF
      go_wp2
      go_ret
      exact ⟨_, rfl, HF, hbel⟩
end Go.Proofs.Ytgmafnpkhmlnnaa
