/- A trie of hashes: what it holds, how it lies in memory; a hash of a level. -/
import Derived.Test.YtgmafnpkhmlnnaaTriC
attribute [local go_sem ↓] Go.wp_at_zero Go.wp_at_succ
namespace Go.Proofs.Ytgmafnpkhmlnnaa
open Go.RowKit Go.Mem Go.Num Go.Tri
set_option linter.unusedVariables false
set_option linter.unusedSimpArgs false

def tT (ss : List ByteArray) : ByteArray := bs (textsB ss)
def hH (t : ByteArray) : ByteArray := bs (Sha.sum t.data.toList)
theorem hash_of (ss : List ByteArray) : hH (tT ss) = hashT ss := by
  unfold hH tT hashT; rw [bs_toList]
def bktB (k : Int) (s : ByteArray) : Bool := ((bktOf s : Nat) : Int) == k
def shareL (l : List Leaf) (k : Nat) : List ByteArray := texP (bktB k) l
/-- the hash at a height, at an index -/
def nodeL (l : List Leaf) (h i : Nat) : ByteArray := node tT hH (shareL l) h i
theorem nodeL_zero (l : List Leaf) (i : Nat) : nodeL l 0 i = hashT (shareL l i) := by unfold nodeL node sumd; exact hash_of _
theorem nodeL_succ (l : List Leaf) (h i : Nat) : nodeL l (h + 1) i = hashT [nodeL l h (2 * i), nodeL l h (2 * i + 1)] := by
  unfold nodeL; rw [node_succ]; exact hash_of _
theorem nodeL_size (l : List Leaf) (h i : Nat) : (nodeL l h i).size = 32 := by
  cases h with
  | zero => rw [nodeL_zero]; exact hashT_size _
  | succ h => rw [nodeL_succ]; exact hashT_size _
/-- the first hashes of a level -/
def levK (l : List Leaf) (j i : Nat) : List ByteArray := (List.range i).map (nodeL l (6 - j))
def levL (l : List Leaf) (j : Nat) : List ByteArray := levK l j (2 ^ j)
theorem levK_len (l : List Leaf) (j i : Nat) : (levK l j i).length = i := by unfold levK; simp
theorem levK_succ (l : List Leaf) (j i : Nat) : levK l j (i + 1) = levK l j i ++ [nodeL l (6 - j) i] := by unfold levK; rw [List.range_succ, List.map_append]; rfl
theorem levK_at (l : List Leaf) (j : Nat) {i k : Nat} (h : k < i) : (levK l j i)[k]? = some (nodeL l (6 - j) k) := by unfold levK; simp [h]
/-- the levels while they are made: those above 'lv' are whole, of 'lv' there are 'i' -/
def gS (l : List Leaf) (lv i : Nat) : Nat → List ByteArray := fun j => if lv < j ∧ j < 7 then levL l j else if j = lv then levK l lv i else []
theorem gS_none (l : List Leaf) : gS l 6 0 = fun _ => [] := by
  funext j; unfold gS; rw [if_neg (by omega)]; split
  · unfold levK; rfl
  · rfl
theorem gS_at (l : List Leaf) (lv i : Nat) : gS l lv i lv = levK l lv i := by unfold gS; rw [if_neg (by omega), if_pos rfl]
theorem gS_above (l : List Leaf) {lv j : Nat} (i : Nat) (h : lv < j) (h7 : j < 7) : gS l lv i j = levL l j := by unfold gS; rw [if_pos ⟨h, h7⟩]
theorem gS_succ (l : List Leaf) (lv i : Nat) : upd (gS l lv i) lv (gS l lv i lv ++ [nodeL l (6 - lv) i]) = gS l lv (i + 1) := by
  funext j
  by_cases e : j = lv
  · subst e; rw [upd_at, gS_at, gS_at, levK_succ]
  · rw [upd_ne _ _ e]; unfold gS; rw [if_neg e, if_neg e]
theorem gS_next (l : List Leaf) (lv : Nat) (h : lv < 6) : gS l (lv + 1) (2 ^ (lv + 1)) = gS l lv 0 := by
  funext j; unfold gS
  by_cases e : j = lv + 1
  · subst e; rw [if_neg (by omega), if_pos rfl, if_pos ⟨by omega, by omega⟩]; rfl
  · by_cases e2 : lv + 1 < j ∧ j < 7
    · rw [if_pos e2, if_pos ⟨by omega, e2.2⟩]
    · rw [if_neg e2, if_neg e, if_neg (by omega)]
      split
      · unfold levK; rfl
      · rfl
theorem gS_full (l : List Leaf) {j : Nat} (h : j < 7) : gS l 0 1 j = levL l j := by
  by_cases e : j = 0
  · subst e; rw [gS_at]; rfl
  · exact gS_above l 1 (by omega) h
/-- the levels in memory -/
def ArrT (W : World) (tb : Nat) (vs : Nat → Value) (g : Nat → List ByteArray) : Prop :=
  ArrS W tb (tb + 1) 76 9 1 7 vs (fun j => (g j).length) (fun j => (g j).map Value.string)
theorem ArrT.below {W W' : World} {tb : Nat} {vs : Nat → Value} {g : Nat → List ByteArray} (h : ArrT W tb vs g) (hb : Below W.heap.size W W') : ArrT W' tb vs g := ArrS.below h hb
theorem ArrT.grow {W W' : World} {tb : Nat} {vs : Nat → Value} {g : Nat → List ByteArray} (h : ArrT W tb vs g) {k : Nat} (hk : k < 7) {v' : Value} {s : ByteArray} (hown : W'.ownsRow (tb + 1) 9 1 v' ((g k).length + 1) ((g k).map Value.string ++ [.string s])) (hg : W.grownBy W' (vs k).ownBlock) (hat : v'.ownBlock = (vs k).ownBlock ∨ v'.ownBlock = some W.heap.size) :
    ArrT (W'.setCell ⟨tb, k, none⟩ v') tb (upd vs k v') (upd g k (g k ++ [s])) := by
  have := ArrS.grow h hk hown hg hat
  have e1 : upd (fun j => (g j).length) k ((g k).length + 1) = fun j => (upd g k (g k ++ [s]) j).length := by
    funext j; by_cases e : j = k
    · subst e; rw [upd_at, upd_at, List.length_append]; rfl
    · rw [upd_ne _ _ e, upd_ne _ _ e]
  have e2 : upd (fun j => (g j).map Value.string) k ((g k).map Value.string ++ [.string s]) = fun j => (upd g k (g k ++ [s]) j).map Value.string := by
    funext j; by_cases e : j = k
    · subst e; rw [upd_at, upd_at, List.map_append]; rfl
    · rw [upd_ne _ _ e, upd_ne _ _ e]
  rw [e1, e2] at this
  exact this
/-- a trie of leaves -/
def TrieAt (W : World) (tb : Nat) (l : List Leaf) : Prop := ∃ vs, ArrT W tb vs (gS l 0 1)
theorem TrieAt.below {W W' : World} {tb : Nat} {l : List Leaf} (h : TrieAt W tb l) (hb : Below W.heap.size W W') : TrieAt W' tb l := by
  obtain ⟨vs, h⟩ := h; exact ⟨vs, h.below hb⟩
theorem TrieAt.row {W : World} {tb : Nat} {l : List Leaf} (h : TrieAt W tb l) {j : Nat} (hj : j < 7) : ∃ A c, W.cell? ⟨tb, j, none⟩ = some (.slice A (2 ^ j) c) ∧ Rd W A ((levL l j).map Value.string) := by
  obtain ⟨vs, h⟩ := h
  have hown := ArrS.own h j hj
  have hc := ArrS.cell h hj
  rw [gS_full l hj, show (levL l j).length = 2 ^ j from levK_len _ _ _] at hown
  obtain ⟨A, c, hv⟩ := own_form hown
  rw [hv] at hown hc
  exact ⟨A, c, hc, Rd.of_own hown⟩
/-- a hash of a level; none: nothing -/
def atL (l : List Leaf) (lv ix : Int) : ByteArray := if 0 ≤ lv ∧ lv ≤ 6 ∧ 0 ≤ ix ∧ ix < ((2 ^ lv.toNat : Nat) : Int) then nodeL l (6 - lv.toNat) ix.toNat else ⟨#[]⟩
theorem atL_out (l : List Leaf) {lv ix : Int} (h : ¬ (0 ≤ lv ∧ lv ≤ 6 ∧ 0 ≤ ix ∧ ix < ((2 ^ lv.toNat : Nat) : Int))) : atL l lv ix = ⟨#[]⟩ := if_neg h
theorem atL_in (l : List Leaf) {lv ix : Nat} (h : lv ≤ 6) (hi : ix < 2 ^ lv) : atL l lv ix = nodeL l (6 - lv) ix := by
  unfold atL; rw [if_pos ⟨by omega, by omega, by omega, by rw [Int.toNat_natCast]; exact Int.ofNat_lt.2 hi⟩]; simp
set_option maxRecDepth 100000 in
set_option maxHeartbeats 4000000 in
theorem at_any (tb : Nat) (l : List Leaf) (lv ix : Int) (w : World) (h : TrieAt w tb l) :
    Calls Try.prog 36 #[.pointer (some ⟨tb, 0, none⟩), .int .i64 lv, .int .i64 ix] w fun e w' => e = .returned (.string (atL l lv ix)) ∧ w = w' := by
  by_cases h0 : lv < 0
  · have HE := Lib.hid (atL_out l (lv := lv) (ix := ix) (by omega))
    rw [HE.out]
    clear h HE
    go_enter Try.func36, Try.ntmps36
    go_wp2
    go_ret
    exact ⟨rfl, rfl⟩
  by_cases h6 : 6 < lv
  · have HE := Lib.hid (atL_out l (lv := lv) (ix := ix) (by omega))
    rw [HE.out]
    clear h HE
    go_enter Try.func36, Try.ntmps36
    go_wp2
    go_ret
    exact ⟨rfl, rfl⟩
  by_cases hi : ix < 0
  · have HE := Lib.hid (atL_out l (lv := lv) (ix := ix) (by omega))
    rw [HE.out]
    clear h HE
    go_enter Try.func36, Try.ntmps36
    go_wp2
    go_ret
    exact ⟨rfl, rfl⟩
  obtain ⟨j, rfl⟩ : ∃ j : Nat, lv = j := ⟨lv.toNat, by omega⟩
  obtain ⟨i, rfl⟩ : ∃ i : Nat, ix = i := ⟨ix.toNat, by omega⟩
  have hj : j < 7 := by omega
  have hj7 : (j : Int) < 7 := by omega
  obtain ⟨A, c, hc, hrd⟩ := h.row hj
  by_cases hb : i < 2 ^ j
  · have HE := Lib.hid (atL_in l (lv := j) (ix := i) (by omega) hb)
    rw [HE.out]
    obtain ⟨b, off, rfl, hcell⟩ := hrd.at_ i (by rw [List.length_map]; unfold levL; rw [levK_len]; exact hb)
    have hv : (List.map Value.string (levL l j))[i]? = some (.string (nodeL l (6 - j) i)) := by rw [List.getElem?_map]; unfold levL; rw [levK_at l j hb]; rfl
    rw [List.getElem?_eq_getElem (by rw [List.length_map]; unfold levL; rw [levK_len]; exact hb)] at hv
    injection hv with hv
    rw [hv] at hcell
    clear hrd h HE hv
    generalize nodeL l (6 - j) i = s at hcell ⊢
    generalize 2 ^ j = q at hb hc
    go_enter Try.func36, Try.ntmps36
    go_wp2
    go_ret
    exact ⟨rfl, rfl⟩
  · have HE := Lib.hid (atL_out l (lv := j) (ix := i) (fun e => hb (by have := e.2.2.2; rw [Int.toNat_natCast] at this; exact Int.ofNat_lt.1 this)))
    rw [HE.out]
    generalize 2 ^ j = q at hb hc
    clear hrd h HE
    go_enter Try.func36, Try.ntmps36
    go_wp2
    go_ret
    exact ⟨rfl, rfl⟩
def rootT (l : List Leaf) : ByteArray := nodeL l 6 0
set_option maxRecDepth 100000 in
theorem trieRoot_any (tb : Nat) (l : List Leaf) (w : World) (h : TrieAt w tb l) :
    Calls Try.prog 37 #[.pointer (some ⟨tb, 0, none⟩)] w fun e w' => e = .returned (.string (rootT l)) ∧ w = w' := by
  have HE := Lib.hid (show atL l 0 0 = rootT l from atL_in l (lv := 0) (ix := 0) (by omega) (by decide))
  have HX := Lib.hid (at_any tb l 0 0 w h)
  rw [HE.out] at HX
  generalize rootT l = s at HX ⊢
  clear h HE
  go_enter Try.func37, Try.ntmps37
  go_wp2_with fail
  refine HX.out.mono ?_
  rintro e w2 ⟨rfl, rfl⟩
  go_wp2
  go_ret
  exact ⟨rfl, rfl⟩
end Go.Proofs.Ytgmafnpkhmlnnaa
