/- The buckets in which two tries are unlike; the hashes beside a way: the code's. -/
import Derived.Test.YtgmafnpkhmlnnaaTriF
import Derived.Laws.EntriesVeiled
attribute [local go_sem ↓] Go.wp_at_zero Go.wp_at_succ
namespace Go.Proofs.Ytgmafnpkhmlnnaa
open Go.RowKit Go.Mem Go.Num Go.Tri
set_option linter.unusedVariables false
set_option linter.unusedSimpArgs false

theorem rootT_size (l : List Leaf) : (rootT l).size = 32 := nodeL_size _ _ _
theorem no_text (x : ByteArray) (h : x.size = 32) : (x.toList == []) = false := by
  have hl : x.toList.length = 32 := by rw [ByteArray.toList_eq]; exact h
  cases hx : x.toList with
  | nil => rw [hx] at hl; cases hl
  | cons a l => rfl
theorem three (W : World) (a b c : Value) (t1 t2 t3 : TypeId) :
    (((W.alloc (.cells #[a] t1)).alloc (.cells #[b] t2)).alloc (.cells #[c] t3)).heap[W.heap.size]? = some (.cells #[a] t1 (0, 0)) ∧
    (((W.alloc (.cells #[a] t1)).alloc (.cells #[b] t2)).alloc (.cells #[c] t3)).heap[W.heap.size + 1]? = some (.cells #[b] t2 (0, 0)) ∧
    (((W.alloc (.cells #[a] t1)).alloc (.cells #[b] t2)).alloc (.cells #[c] t3)).heap[W.heap.size + 1 + 1]? = some (.cells #[c] t3 (0, 0)) ∧
    Below W.heap.size W (((W.alloc (.cells #[a] t1)).alloc (.cells #[b] t2)).alloc (.cells #[c] t3)) ∧
    (((W.alloc (.cells #[a] t1)).alloc (.cells #[b] t2)).alloc (.cells #[c] t3)).heap.size = W.heap.size + 1 + 1 + 1 := by
  have e0 : (((W.alloc (.cells #[a] t1)).alloc (.cells #[b] t2)).alloc (.cells #[c] t3)).heap[W.heap.size + 1 + 1]? = some (.cells #[c] t3 (0, 0)) := by
    have := heap_alloc_new ((W.alloc (.cells #[a] t1)).alloc (.cells #[b] t2)) (.cells #[c] t3); simpa using this
  have b3 := (((Below.refl W.heap.size W).alloc (Nat.le_refl _) (.cells #[a] t1)).alloc (by simp) (.cells #[b] t2)).alloc (by simp; omega) (.cells #[c] t3)
  refine ⟨?_, ?_, e0, b3, by simp⟩
  · have h1 := heap_alloc_new W (.cells #[a] t1)
    have h2 := ((Below.refl (W.heap.size + 1) (W.alloc (.cells #[a] t1))).alloc (by simp) (.cells #[b] t2)).alloc (by simp) (.cells #[c] t3)
    exact (h2.block W.heap.size (by omega)).trans h1
  · have h1 : ((W.alloc (.cells #[a] t1)).alloc (.cells #[b] t2)).heap[W.heap.size + 1]? = some (.cells #[b] t2 (0, 0)) := by have := heap_alloc_new (W.alloc (.cells #[a] t1)) (.cells #[b] t2); simpa using this
    have h2 := (Below.refl (W.heap.size + 1 + 1) ((W.alloc (.cells #[a] t1)).alloc (.cells #[b] t2))).alloc (by simp) (.cells #[c] t3)
    exact (h2.block (W.heap.size + 1) (by omega)).trans h1
def UnT (la lb : List Leaf) (w : World) (e : Ending) (w' : World) : Prop := ∃ v, e = .returned (.tuple #[v, .int .i64 ((unH (nodeL la) (nodeL lb) 6 0).2 : Nat)]) ∧ w'.ownsRow w.heap.size 3 1 v (unH (nodeL la) (nodeL lb) 6 0).1.length (ints (unH (nodeL la) (nodeL lb) 6 0).1) ∧ Below w.heap.size w w'
set_option maxRecDepth 100000 in
set_option maxHeartbeats 8000000 in
theorem trieUnlike_any (ta tb : Nat) (la lb : List Leaf) (w : World) (hA : TrieAt w ta la) (hB : TrieAt w tb lb) :
    Calls Try.prog 27 #[.pointer (some ⟨ta, 0, none⟩), .pointer (some ⟨tb, 0, none⟩)] w (UnT la lb w) := by
  have HX := Lib.hid (fun W (h : Below w.heap.size w W) => trieRoot_any ta la W (hA.below h))
  have HY := Lib.hid (fun W (h : Below w.heap.size w W) => trieRoot_any tb lb W (hB.below h))
  have hxs := rootT_size la; have hys := rootT_size lb
  generalize rootT la = x at HX hxs
  generalize rootT lb = y at HY hys
  have hb1 := (Below.refl w.heap.size w).alloc (Nat.le_refl _) (.cells #[.pointer (some ⟨ta, 0, none⟩)] 39)
  have hb2 := hb1.alloc (by simp) (.cells #[.pointer (some ⟨tb, 0, none⟩)] 39)
  have HB2 := Lib.hid hb2
  have hx0 := no_text x hxs
  have hy0 := no_text y hys
  have HA := Lib.hid hA; have HB := Lib.hid hB
  clear hA hB hb1 hb2
  go_enter Try.func27, Try.ntmps27
  go_wp2_with fail
  refine (HX.out _ HB2.out).mono ?_
  rintro e w' ⟨rfl, rfl⟩
  go_wp2_with fail
  refine (HY.out _ HB2.out).mono ?_
  rintro e w' ⟨rfl, rfl⟩
  have hcf := enter_down
  have HC : Hid (((w.alloc (.cells #[.pointer (some ⟨ta, 0, none⟩)] 39)).alloc (.cells #[.pointer (some ⟨tb, 0, none⟩)] 39)).cell? ⟨w.heap.size, 0, none⟩ = some (.pointer (some ⟨ta, 0, none⟩)) ∧ ((w.alloc (.cells #[.pointer (some ⟨ta, 0, none⟩)] 39)).alloc (.cells #[.pointer (some ⟨tb, 0, none⟩)] 39)).cell? ⟨w.heap.size + 1, 0, none⟩ = some (.pointer (some ⟨tb, 0, none⟩)) ∧ ((w.alloc (.cells #[.pointer (some ⟨ta, 0, none⟩)] 39)).alloc (.cells #[.pointer (some ⟨tb, 0, none⟩)] 39)).heap.size = w.heap.size + 1 + 1) := Lib.hid (by
    refine ⟨?_, ?_, by simp⟩
    · have h1 : (w.alloc (.cells #[.pointer (some ⟨ta, 0, none⟩)] 39)).cell? ⟨w.heap.size, 0, none⟩ = some (.pointer (some ⟨ta, 0, none⟩)) := cell_at (heap_alloc_new w _)
      exact cell_below ((Below.refl _ _).alloc (Nat.le_refl _) _) h1
    · have h1 := heap_alloc_new (w.alloc (.cells #[.pointer (some ⟨ta, 0, none⟩)] 39)) (.cells #[.pointer (some ⟨tb, 0, none⟩)] 39)
      exact cell_at (by simpa using h1))
  generalize (w.alloc (.cells #[.pointer (some ⟨ta, 0, none⟩)] 39)).alloc (.cells #[.pointer (some ⟨tb, 0, none⟩)] 39) = W2 at HB2 HC ⊢
  have HT := Lib.hid (three W2 (.slice none 0 0) (.int .i64 0) (.func (.func 55) #[] #[.pointer (some ⟨W2.heap.size + 1, 0, none⟩), .pointer (some ⟨w.heap.size, 0, none⟩), .pointer (some ⟨w.heap.size + 1, 0, none⟩), .pointer (some ⟨W2.heap.size, 0, none⟩), .pointer (some ⟨W2.heap.size + 1 + 1, 0, none⟩)]) 32 3 73)
  have HT0 := Lib.hid (three W2 (.slice none 0 0) (.int .i64 0) .nilFunc 32 3 73)
  have hd0 := cell_at HT0.out.2.2.1; have hf0 := froz_at HT0.out.2.2.1
  have hd1 := cell_at HT.out.2.2.1
  go_wp2_with fail
  clear hd0 hf0 hd1 HT0
  generalize ((W2.alloc (.cells #[.slice none 0 0] 32)).alloc (.cells #[.int .i64 0] 3)).alloc (.cells #[.func (.func 55) #[] #[.pointer (some ⟨W2.heap.size + 1, 0, none⟩), .pointer (some ⟨w.heap.size, 0, none⟩), .pointer (some ⟨w.heap.size + 1, 0, none⟩), .pointer (some ⟨W2.heap.size, 0, none⟩), .pointer (some ⟨W2.heap.size + 1 + 1, 0, none⟩)]] 73) = W6 at HT ⊢
  have HD : Hid (DnAt w ta tb w.heap.size (w.heap.size + 1) W2.heap.size (W2.heap.size + 1) (W2.heap.size + 1 + 1) (W2.heap.size + 1 + 1 + 1) W6 0 []) := Lib.hid (by
    obtain ⟨h1, h2, h3, h4, h5⟩ := HT.out
    exact ⟨then_ HB2.out h4, by omega, cell_below h4 HC.out.1, cell_below h4 HC.out.2.1, cell_at h3, h2, ⟨_, h1, World.ownsRow_nil _ _ _ _⟩⟩)
  have HDN := down_any w ta tb w.heap.size (w.heap.size + 1) W2.heap.size (W2.heap.size + 1) (W2.heap.size + 1 + 1) (W2.heap.size + 1 + 1 + 1) la lb HA.out HB.out
    ⟨Nat.le_refl _, by omega, by have := HC.out.2.2; omega, by omega, by omega, by omega⟩ 6 0 0 W6 0 [] rfl (by decide) (by decide) (by decide) HD.out
  rw [show ((0 : Nat) : Int) = 0 from rfl] at HDN
  rw [Nat.zero_add, List.nil_append] at HDN
  have HZ := Lib.hid (show w.heap.size ≤ W2.heap.size + 1 + 1 + 1 by have := HC.out.2.2; omega)
  refine HDN.mono ?_
  rintro e W7 ⟨rfl, hD7⟩
  have hcn := cell_at hD7.bn
  obtain ⟨v, ho, hown⟩ := hD7.bo
  have hco := cell_at ho
  have HRES : Hid (UnT la lb w (.returned (.tuple #[v, .int .i64 ((unH (nodeL la) (nodeL lb) 6 0).2 : Nat)])) W7) := Lib.hid ⟨v, rfl, own_mono hown HZ.out, hD7.bel⟩
  clear ho hown HDN HD HT HC HB2 hcf hx0 hy0
  generalize (unH (nodeL la) (nodeL lb) 6 0).2 = cnt at hcn HRES
  go_wp2
  go_quiet (fail)
  go_wp2
  go_ret2
  obtain ⟨v', h1, h2, h3⟩ := HRES.out
  exact ⟨v', h1, own_below h2 (below_drewN _ _), drewN_ h3 _⟩
/-- the place beside -/
def kx (k : Nat) : Nat := if k % 2 = 0 then k + 1 else k - 1
theorem kx_lt {k m : Nat} (h : k < 2 ^ (m + 1)) : kx k < 2 ^ (m + 1) := by unfold kx; rw [Nat.pow_succ] at *; split <;> omega
theorem xor_one (k : Nat) (h : k < 64) : bits .xor .i64 (k : Int) 1 = ((kx k : Nat) : Int) := by
  have key : ∀ k : Fin 64, bits .xor .i64 ((k.val : Nat) : Int) 1 = ((kx k.val : Nat) : Int) := by decide +kernel
  exact key ⟨k, h⟩
/-- the hashes beside the way of a bucket -/
def proveL (l : List Leaf) (b : Int) : List ByteArray := if 0 ≤ b ∧ b < 64 then wayL (nodeL l) 6 0 b.toNat else []
theorem wayL_succ (x : Nat → Nat → ByteArray) (n h k : Nat) : wayL x (n + 1) h k = x h (kx k) :: wayL x n (h + 1) (k / 2) := rfl
theorem wayL_len (x : Nat → Nat → ByteArray) : ∀ (n h k : Nat), (wayL x n h k).length = n := by
  intro n; induction n with
  | zero => intros; rfl
  | succ n ih => intro h k; rw [wayL_succ, List.length_cons, ih]
set_option maxRecDepth 100000 in
set_option maxHeartbeats 8000000 in
theorem prove_any (tb : Nat) (l : List Leaf) (b : Int) (w : World) (hA : TrieAt w tb l) :
    Calls Try.prog 38 #[.pointer (some ⟨tb, 0, none⟩), .int .i64 b] w (MakesS (proveL l b) w) := by
  have HX := Lib.hid (fun W (h : Below w.heap.size w W) (lv ix : Int) => at_any tb l lv ix W (hA.below h))
  clear hA
  by_cases hb : 0 ≤ b ∧ b < 64
  rotate_left
  · have HE := Lib.hid (show atL l 6 b = ⟨#[]⟩ from atL_out l (fun h => hb ⟨h.2.2.1, by have := h.2.2.2; simpa using this⟩))
    have HP := Lib.hid (show proveL l b = [] from if_neg hb)
    have HX6 := Lib.hid (HX.out w (Below.refl _ _) 6 b)
    rw [HE.out] at HX6
    rw [HP.out]
    go_enter Try.func38, Try.ntmps38
    go_wp2_with fail
    refine HX6.out.mono ?_
    rintro e w1 ⟨rfl, rfl⟩
    go_wp2
    go_ret
    exact ⟨_, rfl, World.ownsRow_nil _ _ _ _, Below.refl _ _⟩
  obtain ⟨k0, rfl⟩ : ∃ k0 : Nat, b = k0 := ⟨b.toNat, by omega⟩
  have hk0 : k0 < 64 := by omega
  have HP := Lib.hid (show proveL l k0 = wayL (nodeL l) 6 0 k0 by unfold proveL; rw [if_pos hb]; simp)
  rw [HP.out]
  have HX6 := Lib.hid (HX.out w (Below.refl _ _) 6 k0)
  rw [show atL l 6 k0 = nodeL l (6 - 6) k0 from atL_in l (lv := 6) (ix := k0) (by omega) hk0] at HX6
  have hz := no_text _ (nodeL_size l (6 - 6) k0)
  generalize nodeL l (6 - 6) k0 = x0 at HX6 hz
  have HLE := Lib.hid (wayL_len (nodeL l) 6 0 k0)
  generalize hww : wayL (nodeL l) 6 0 k0 = ww at HLE
  have HWW := Lib.hid hww
  clear hb hww HP
  go_enter Try.func38, Try.ntmps38
  go_wp2_with fail
  refine HX6.out.mono ?_
  rintro e w1 ⟨rfl, rfl⟩
  go_wp2
  go_loopw [1, 5, 6] (fun kb v i wr => ∃ (m k : Nat) (acc : List ByteArray), m ≤ 6 ∧ i = .int .i64 m ∧ kb = .int .i64 k ∧ Hid (k < 2 ^ m) ∧ acc.length + m = 6 ∧ Hid (wr.ownsRow w.heap.size 9 1 v acc.length (acc.map Value.string)) ∧ Hid (acc ++ wayL (nodeL l) m (6 - m) k = ww) ∧ Below w.heap.size w wr) (fun _ _ i _ => (intOf i).toNat)
  case atStart => exact ⟨6, k0, [], Nat.le_refl _, rfl, rfl, Lib.hid hk0, rfl, Lib.hid (World.ownsRow_nil _ _ _ _), Lib.hid HWW.out, Below.refl _ _⟩
  case round =>
    obtain ⟨m, k, acc, hm, rfl, rfl, HK, hlen, HO, HE, hbel⟩ := hrel
    rcases Nat.eq_zero_or_pos m with hm0 | hmp
    · have HF : Hid (MakesS ww w (.returned _) wr) := Lib.hid ⟨_, rfl, by
        have h1 := HE.out
        have h2 : wayL (nodeL l) m (6 - m) k = [] := by rw [hm0]; rfl
        rw [h2, List.append_nil] at h1
        rw [← h1]; exact HO.out, hbel⟩
      have hmz : (m : Int) ≤ 0 := by omega
      clear HE HO hbel
      go_wp2
      go_ret
      exact HF.out
    · obtain ⟨p, rfl⟩ : ∃ p, m = p + 1 := ⟨m - 1, by omega⟩
      have hk64 : k < 64 := Nat.lt_of_lt_of_le HK.out (show 2 ^ (p + 1) ≤ 2 ^ 6 from Nat.pow_le_pow_right (by decide) (by omega))
      have hxr := xor_one k hk64
      have HXA := Lib.hid (HX.out wr hbel ((p + 1 : Nat) : Int) ((kx k : Nat) : Int))
      rw [atL_in l (lv := p + 1) (ix := kx k) (by omega) (kx_lt HK.out)] at HXA
      have HE2 := Lib.hid HE.out
      rw [wayL_succ, show 6 - (p + 1) + 1 = 6 - p by omega] at HE2
      generalize nodeL l (6 - (p + 1)) (kx k) = s at HXA HE2
      generalize kx k = kk at hxr HXA
      have HZ := Lib.hid hbel.size; have HB := Lib.hid hbel
      have HQ2 := Lib.hid (quo_two k); have hq2 := quo_two k
      have hpm : (0 : Int) < ((p + 1 : Nat) : Int) := by omega
      have hal : acc.length ≤ 6 := by omega
      have HLN := Lib.hid hlen
      clear HE hbel hlen
      go_wp2_with fail
      refine HXA.out.mono ?_
      rintro e w1 ⟨rfl, rfl⟩
      go_wp2_with (at_builtin; refine wpList_app elStr (by rfl) (.tmp 15) (.tmp 21) (by rfl) w.heap.size _ acc.length _ (by rfl) (HO.out.alloc _) (some ⟨wr.heap.size, 0, none⟩) 1 1 [.string s] rfl rfl (Rd.new wr #[.string s] _) (by intro u hu; simp at hu; subst hu; rfl) (by unfold maxLen; omega) (by omega) (by have := HZ.out; simp; omega) ?_; intro v1 w3 hown1 hbel1 _ _)
      go_roundw
      case rel => exact ⟨p, k / 2, acc ++ [s], by omega, by go_num, by first | rfl | (rw [HQ2.out]), Lib.hid (by have := HK.out; rw [Nat.pow_succ] at this; omega), by have := HLN.out; rw [List.length_append]; simp; omega, Lib.hid (by rw [List.length_append, List.map_append]; exact hown1), Lib.hid (by rw [List.append_assoc]; exact HE2.out), (HB.out.alloc HZ.out _).trans hbel1⟩
      case measure => simp [intOf]
end Go.Proofs.Ytgmafnpkhmlnnaa
