/- Whether a number is in a list; the leaves of some segments, by the code. -/
import Derived.Test.YtgmafnpkhmlnnaaTreeD
import Derived.Test.YtgmafnpkhmlnnaaInts
attribute [local go_sem ↓] Go.wp_at_zero Go.wp_at_succ
namespace Go.Proofs.Ytgmafnpkhmlnnaa
open Go.RowKit Go.Mem Go.Num
set_option linter.unusedVariables false
set_option linter.unusedSimpArgs false

/-- an index that tells whether something is there -/
def TellsI (yes : Prop) (w : World) (e : Ending) (w' : World) : Prop := ∃ k : Int, (0 ≤ k ↔ yes) ∧ e = .returned (.int .i64 k) ∧ w = w'
set_option maxHeartbeats 400000 in
theorem indexI_any (A : Option Addr) (n c : Nat) (ss : List Int) (s : Int) (w : World) (hr : Rd w A (ints ss)) (hn : ss.length = n) (hm : n ≤ maxLen) :
    Calls Try.prog 75 #[.slice A n c, .int .i64 s] w (TellsI (s ∈ ss) w) := by
  unfold maxLen at hm
  go_enter Try.func75, Try.ntmps75
  go_wp2
  go_loop [8] (fun i => ∃ k : Nat, k ≤ n ∧ i = .int .i64 k ∧ s ∉ ss.take k) (fun i => n - (intOf i).toNat)
  case atStart => exact ⟨0, Nat.zero_le _, rfl, by simp⟩
  case round =>
    obtain ⟨k, hk, rfl, hnot⟩ := hrel
    have HN := Lib.hid hnot; clear hnot
    by_cases hlt : k < n
    · obtain ⟨b, off, rfl, hcell⟩ := hr.at_ k (by unfold ints; simp; omega)
      have hx : k < ss.length := by omega
      simp only [ints, List.getElem_map] at hcell
      have HT := Lib.hid (mem_take_succ ss k hx s)
      have HM := Lib.hid (List.getElem_mem hx)
      generalize ss[k] = t at hcell HT HM
      by_cases hst : s = t
      · subst hst
        go_wp2
        go_ret
        exact ⟨k, ⟨fun _ => HM.out, fun _ => by omega⟩, rfl, rfl⟩
      · have hb : (s == t) = false := by simp [hst]
        go_wp2
        go_round
        case rel => exact ⟨k + 1, by omega, by go_num, by rw [HT.out]; simp [HN.out, hst]⟩
        case measure => simp [intOf]; omega
    · obtain rfl : k = n := by omega
      go_wp2
      go_ret
      exact ⟨-1, ⟨fun h => absurd h (by omega), fun h => absurd h (by have := HN.out; rwa [← hn, List.take_length] at this)⟩, rfl, rfl⟩

set_option maxHeartbeats 400000 in
theorem containsI_any (A : Option Addr) (n c : Nat) (ss : List Int) (s : Int) (w : World) (hr : Rd w A (ints ss)) (hn : ss.length = n) (hm : n ≤ maxLen) :
    Calls Try.prog 64 #[.slice A n c, .int .i64 s] w fun e w' => e = .returned (.bool (decide (s ∈ ss))) ∧ w = w' := by
  go_enter Try.func64, Try.ntmps64
  go_wp2_with fail
  refine (indexI_any A n c ss s _ hr hn hm).mono ?_
  rintro e w' ⟨k, hk, rfl, rfl⟩
  have hd : decide (0 ≤ k) = decide (s ∈ ss) := by rw [Bool.eq_iff_iff, decide_eq_true_eq, decide_eq_true_eq]; exact hk
  have HD := Lib.hid hd; clear hd hk
  go_wp2
  go_ret
  exact ⟨congrArg (fun x => Ending.returned (.bool x)) HD.out, rfl⟩

theorem el_leaf : Elem Try.prog 22 48 2 32 := Elem.of (z := .agg #[.string ByteArray.empty, .string ByteArray.empty]) Try.underlying22 (by kernel_rfl) rfl (by decide)
/-- the leaves of which something is so -/
def inL (p : ByteArray → Bool) (l : List Leaf) : List Leaf := l.filter fun m => p m.place
theorem inL_succ (p : ByteArray → Bool) {l : List Leaf} {k : Nat} (h : k < l.length) : inL p (l.take (k + 1)) = inL p (l.take k) ++ (if p l[k].place then [l[k]] else []) := by
  unfold inL; rw [List.take_succ_eq_append_getElem h, List.filter_append]; cases hp : p l[k].place <;> simp [hp]
theorem inL_len (p : ByteArray → Bool) (l : List Leaf) : (inL p l).length ≤ l.length := List.length_filter_le _ _
theorem leafc_app (l m : List Leaf) : leafc (l ++ m) = leafc l ++ leafc m := by unfold leafc; rw [List.flatMap_append]
def MakesL (l : List Leaf) (w : World) (r : Ending) (w' : World) : Prop := ∃ v, r = .returned v ∧ w'.ownsRow w.heap.size 48 2 v l.length (leafc l) ∧ Below w.heap.size w w'
def segIn (xs : List Int) (s : ByteArray) : Bool := decide (((segOf s : Nat) : Int) ∈ xs)
set_option maxRecDepth 100000 in
set_option maxHeartbeats 4000000 in
theorem in_any (A : Option Addr) (n c : Nat) (l : List Leaf) (B : Option Addr) (m d : Nat) (xs : List Int) (w : World) (hr : Rd w A (leafc l)) (hn : l.length = n) (hm : n ≤ 1000) (hok : ∀ m ∈ l, smallL m)
    (hr2 : Rd w B (ints xs)) (hn2 : xs.length = m) (hm2 : m ≤ 1000) :
    Calls Try.prog 50 #[.slice A n c, .slice B m d] w (MakesL (inL (segIn xs) l) w) := by
  have HR := Lib.hid hr; have HN := Lib.hid hn; have HOK := Lib.hid hok
  have HCT := Lib.hid (fun (g : Int) (W : World) (h : Below w.heap.size w W) => containsI_any B m d xs g W (hr2.below h) hn2 (by unfold maxLen; omega))
  clear hr hn hok hr2 hn2
  go_enter Try.func50, Try.ntmps50
  go_wp2
  go_loopw [5, 10] (fun v i wr => ∃ k : Nat, k ≤ n ∧ i = .int .i64 k ∧ Hid (wr.ownsRow w.heap.size 48 2 v (inL (segIn xs) (l.take k)).length (leafc (inL (segIn xs) (l.take k)))) ∧ Below w.heap.size w wr) (fun _ i _ => n - (intOf i).toNat)
  case atStart => exact ⟨0, Nat.zero_le _, rfl, Lib.hid (World.ownsRow_nil _ _ _ _), Below.refl _ _⟩
  case round =>
    obtain ⟨k, hk, rfl, HO, hbel⟩ := hrel
    by_cases hlt : k < n
    · have hx : k < l.length := by have := HN.out; omega
      obtain ⟨b, off, rfl, hrg⟩ := row_leaf.at_ (HR.out.below hbel) k hx
      have hs := HOK.out l[k] (List.getElem_mem hx)
      have hll : (inL (segIn xs) (l.take k)).length ≤ 1000 := Nat.le_trans (inL_len _ _) (by rw [List.length_take]; omega)
      have HS := Lib.hid (inL_succ (segIn xs) hx)
      generalize inL (segIn xs) (l.take k) = u at HO hll HS
      generalize l[k] = s at hrg hs HS
      obtain ⟨sp, sd⟩ := s
      have c0 : wr.cell? ⟨b, off + k * 2, none⟩ = some (.string sp) := rangeAt_cell hrg 0 rfl
      have c1 : wr.cell? ⟨b, off + k * 2 + 1, none⟩ = some (.string sd) := rangeAt_cell hrg 1 rfl
      have HX := Lib.hid (fun W => segment_any sp W (by have := hs.1; simp only at this; omega))
      have HQ := Lib.hid (show segIn xs sp = decide (((segOf sp : Nat) : Int) ∈ xs) from rfl)
      generalize segOf sp = g at HX HQ
      clear hs hrg
      go_wp2_with fail
      have hb1 := (Below.refl wr.heap.size wr).alloc (Nat.le_refl _) (.cells #[.string sp, .string sd] 48)
      have hx0 : (wr.alloc (.cells #[.string sp, .string sd] 48)).cell? ⟨wr.heap.size, 0, none⟩ = some (.string sp) := by rw [World.cell?_alloc_at _ _ _ _ rfl]; rfl
      have hx1 : (wr.alloc (.cells #[.string sp, .string sd] 48)).cell? ⟨wr.heap.size, 1, none⟩ = some (.string sd) := by rw [World.cell?_alloc_at _ _ _ _ rfl]; rfl
      refine (HX.out _).mono ?_
      rintro e w1 ⟨rfl, hb2⟩
      have hy0 := cell_below hb2 hx0; have hy1 := cell_below hb2 hx1
      have HO1 := Lib.hid (own_below HO.out (then_ hb1 hb2)); have HB1 := Lib.hid (then_ hbel (then_ hb1 hb2))
      have HZ := Lib.hid HB1.out.size
      clear hb1 hb2 hx0 hx1 c0 c1 HO hbel HX
      generalize wr.heap.size = z at hy0 hy1
      go_wp2_with fail
      refine (HCT.out (g : Int) w1 HB1.out).mono ?_
      rintro e w' ⟨rfl, rfl⟩
      rw [← HQ.out]
      generalize hq : segIn xs sp = q at HS
      have HQ2 := Lib.hid hq
      clear hq
      cases q
      · go_wp2
        go_roundw
        case rel => exact ⟨k + 1, by omega, by go_num, Lib.hid (by rw [HS.out]; simpa using HO1.out), HB1.out⟩
        case measure => simp [intOf]; omega
      · go_wp2_with (at_builtin; refine wpList_app el_leaf (by rfl) (.tmp 19) (.tmp 21) (by rfl) w.heap.size _ u.length _ (by rfl) (HO1.out.alloc _) (some ⟨w1.heap.size, 0, none⟩) 1 1 [.string sp, .string sd] rfl rfl (Rd.new w1 #[.string sp, .string sd] _) (by intro u hu; simp at hu; rcases hu with rfl | rfl <;> rfl) (by unfold maxLen; omega) (by omega) (by have := HZ.out; simp; omega) ?_; intro v1 w3 hown1 hbel1 _ _)
        go_roundw
        case rel => exact ⟨k + 1, by omega, by go_num, Lib.hid (by rw [HS.out]; simp only [if_true]; rw [List.length_append, leafc_app]; exact hown1), (HB1.out.alloc HZ.out _).trans hbel1⟩
        case measure => simp [intOf]; omega
    · obtain rfl : k = n := by omega
      have hfull : l.take k = l := List.take_of_length_le (by rw [HN.out]; omega)
      rw [hfull] at HO
      go_wp2
      go_ret
      exact ⟨_, rfl, HO.out, hbel⟩
end Go.Proofs.Ytgmafnpkhmlnnaa
