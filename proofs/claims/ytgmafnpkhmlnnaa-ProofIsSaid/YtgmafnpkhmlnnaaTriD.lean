/- A leaf, both, Check of the code, a trie in memory, its At and Root. -/
import Derived.Test.YtgmafnpkhmlnnaaTriA
import Derived.Test.YtgmafnpkhmlnnaaTreeF
import Derived.Test.YtgmafnpkhmlnnaaTriP
attribute [local go_sem ↓] Go.wp_at_zero Go.wp_at_succ
namespace Go.Proofs.Ytgmafnpkhmlnnaa
open Go.RowKit Go.Mem Go.Num Go.Tri
set_option linter.unusedVariables false
set_option linter.unusedSimpArgs false

/-- the texts of leaves -/
def leavesT (l : List Leaf) : List ByteArray := l.flatMap leafT
theorem leavesT_succ {l : List Leaf} {k : Nat} (h : k < l.length) : leavesT (l.take (k + 1)) = leavesT (l.take k) ++ [l[k].place, l[k].digest] := by
  unfold leavesT; rw [List.take_succ_eq_append_getElem h, List.flatMap_append]; simp [leafT]
theorem leavesT_len (l : List Leaf) : (leavesT l).length = 2 * l.length := by
  unfold leavesT
  induction l with
  | nil => rfl
  | cons m t ih => rw [List.flatMap_cons, List.length_append, ih]; simp [leafT]; omega
theorem leavesT_size : ∀ (l : List Leaf), (∀ m ∈ l, smallL m) → sumSize (leavesT l) ≤ 200 * l.length := by
  have h := texP_size (fun _ => true)
  intro l hl
  have h1 := h l hl
  have h2 : texP (fun _ => true) l = leavesT l := by unfold texP leavesT; simp
  rw [← h2]; exact h1
set_option maxRecDepth 100000 in
set_option maxHeartbeats 4000000 in
theorem leaf_any (A : Option Addr) (n c : Nat) (l : List Leaf) (w : World) (hr : Rd w A (leafc l)) (hn : l.length = n) (hm : n ≤ 1000) (hok : ∀ m ∈ l, smallL m) :
    Calls Try.prog 56 #[.slice A n c] w fun e w' => e = .returned (.string (hashT (leavesT l))) ∧ Below w.heap.size w w' := by
  have HR := Lib.hid hr; have HN := Lib.hid hn
  have HSZ := Lib.hid (show 4 * (leavesT l).length + sumSize (leavesT l) + 16 ≤ 1099511627776 by have := leavesT_size l hok; rw [leavesT_len]; omega)
  clear hr hn hok
  go_enter Try.func56, Try.ntmps56
  go_wp2
  go_loopw [3, 8] (fun v i wr => ∃ k : Nat, k ≤ n ∧ i = .int .i64 k ∧ Hid (wr.ownsRow w.heap.size 9 1 v (leavesT (l.take k)).length ((leavesT (l.take k)).map Value.string)) ∧ Below w.heap.size w wr) (fun _ i _ => n - (intOf i).toNat)
  case atStart => exact ⟨0, Nat.zero_le _, rfl, Lib.hid (World.ownsRow_nil _ _ _ _), Below.refl _ _⟩
  case round =>
    obtain ⟨k, hk, rfl, HO, hbel⟩ := hrel
    by_cases hlt : k < n
    · have hx : k < l.length := by have := HN.out; omega
      obtain ⟨b, off, rfl, hrg⟩ := row_leaf.at_ (HR.out.below hbel) k hx
      have hll : (leavesT (l.take k)).length ≤ 2000 := by rw [leavesT_len, List.length_take]; omega
      have HS := Lib.hid (leavesT_succ hx)
      generalize leavesT (l.take k) = u at HO hll HS
      generalize l[k] = s at hrg HS
      obtain ⟨sp, sd⟩ := s
      have c0 : wr.cell? ⟨b, off + k * 2, none⟩ = some (.string sp) := rangeAt_cell hrg 0 rfl
      have c1 : wr.cell? ⟨b, off + k * 2 + 1, none⟩ = some (.string sd) := rangeAt_cell hrg 1 rfl
      have HZ := Lib.hid hbel.size; have HB := Lib.hid hbel
      clear hrg hbel
      go_wp2_with (at_builtin; refine wpList_app elStr (by rfl) (.tmp 12) (.tmp 17) (by rfl) w.heap.size _ u.length _ (by rfl) ((HO.out.alloc _).alloc _) (some ⟨wr.heap.size + 1, 0, none⟩) 2 2 [.string sp, .string sd] rfl rfl (by have := Rd.new (wr.alloc (.cells #[.string sp, .string sd] 48)) #[.string sp, .string sd] 9; simpa using this) (by intro u hu; simp at hu; rcases hu with rfl | rfl <;> rfl) (by unfold maxLen; omega) (by omega) (by have := HZ.out; simp; omega) ?_; intro v1 w3 hown1 hbel1 _ _)
      go_roundw
      case rel => exact ⟨k + 1, by omega, by go_num, Lib.hid (by rw [HS.out, List.map_append, List.length_append]; exact hown1), ((HB.out.alloc HZ.out _).alloc (by have := HZ.out; simp; omega) _).trans hbel1⟩
      case measure => simp [intOf]; omega
    · obtain rfl : k = n := by omega
      have hfull : l.take k = l := List.take_of_length_le (by rw [HN.out]; omega)
      rw [hfull] at HO
      obtain ⟨A1, c1, rfl⟩ := own_form HO.out
      have HX := Lib.hid (Rd.of_own HO.out)
      have HB := Lib.hid hbel
      generalize hul : leavesT l = u at HX HSZ ⊢
      have HUL := Lib.hid hul
      clear hul
      clear HO hbel hfull
      go_wp2_with fail
      refine (shaCode A1 u.length c1 u wr HX.out rfl HSZ.out).mono ?_
      rintro e w2 ⟨rfl, hb2⟩
      go_wp2
      go_ret
      exact ⟨by rw [HUL.out]; rfl, then_ HB.out hb2⟩
set_option maxRecDepth 100000 in
theorem both_any (s t : ByteArray) (w : World) (h : s.size + t.size ≤ 1000000) :
    Calls Try.prog 57 #[.string s, .string t] w fun e w' => e = .returned (.string (hashT [s, t])) ∧ Below w.heap.size w w' := by
  go_enter Try.func57, Try.ntmps57
  go_wp2_with fail
  have hal := (Below.refl w.heap.size w).alloc (Nat.le_refl _) (.cells #[.string s, .string t] 9)
  refine (shaCode (some ⟨w.heap.size, 0, none⟩) 2 2 [s, t] _ (by exact Rd.new w #[.string s, .string t] _) rfl (by simp [sumSize]; omega)).mono ?_
  rintro e w2 ⟨rfl, hb2⟩
  go_wp2
  go_ret
  exact ⟨rfl, then_ hal hb2⟩

/-- whether leaves are those of a bucket, by such hashes, under a root -/
def chkB (root : ByteArray) (k : Int) (l : List Leaf) (ss : List ByteArray) : Bool :=
  decide (0 ≤ k ∧ k < 64 ∧ ss.length = 6 ∧ climb hashT k.toNat (hashT (leavesT l)) ss = root)
theorem climb_cons (hT : List ByteArray → ByteArray) (k : Nat) (s o : ByteArray) (r : List ByteArray) : climb hT k s (o :: r) = climb hT (k / 2) (hT (pairOf k s o)) r := rfl
theorem quo_two (k : Nat) : ((k : Int)).tdiv 2 = ((k / 2 : Nat) : Int) := by rw [Int.tdiv_eq_ediv_of_nonneg (by omega)]; omega
theorem rem_two (k : Nat) : ((k : Int)).tmod 2 = ((k % 2 : Nat) : Int) := by rw [Int.tmod_eq_emod_of_nonneg (by omega)]; omega
theorem quo_two' (k : Nat) : ((k : Int)) / 2 = ((k / 2 : Nat) : Int) := by omega
theorem rem_two' (k : Nat) : ((k : Int)) % 2 = ((k % 2 : Nat) : Int) := by omega
set_option maxRecDepth 100000 in
set_option maxHeartbeats 4000000 in
theorem check_any (root : ByteArray) (k : Int) (A : Option Addr) (n c : Nat) (l : List Leaf) (B : Option Addr) (m d : Nat) (ss : List ByteArray) (w : World) (hr : Rd w A (leafc l)) (hn : l.length = n) (hm : n ≤ 1000) (hok : ∀ m ∈ l, smallL m)
    (hr2 : Rd w B (ss.map Value.string)) (hn2 : ss.length = m) (hm2 : m ≤ maxLen) (hok2 : ∀ s ∈ ss, s.size ≤ 100000) :
    Calls Try.prog 43 #[.string root, .int .i64 k, .slice A n c, .slice B m d] w fun e w' => e = .returned (.bool (chkB root k l ss)) ∧ Below w.heap.size w w' := by
  have HR := Lib.hid hr; have HN := Lib.hid hn; have HR2 := Lib.hid hr2; have HN2 := Lib.hid hn2; have HOK := Lib.hid hok; have HOK2 := Lib.hid hok2
  clear hr hn hok hr2 hn2 hok2
  unfold maxLen at hm2
  by_cases h0 : k < 0
  · have hF : chkB root k l ss = false := by unfold chkB; rw [decide_eq_false]; intro h; omega
    rw [hF]
    have HF := Lib.hid hF; clear hF
    go_enter Try.func43, Try.ntmps43
    go_wp2
    go_ret
    exact ⟨rfl, Below.refl _ _⟩
  by_cases h1 : 64 ≤ k
  · have hF : chkB root k l ss = false := by unfold chkB; rw [decide_eq_false]; intro h; omega
    rw [hF]
    have HF := Lib.hid hF; clear hF
    go_enter Try.func43, Try.ntmps43
    go_wp2
    go_ret
    exact ⟨rfl, Below.refl _ _⟩
  obtain ⟨kn, rfl⟩ : ∃ kn : Nat, k = kn := ⟨k.toNat, by omega⟩
  by_cases h6 : m = 6
  rotate_left
  · have hF : chkB root kn l ss = false := by unfold chkB; rw [decide_eq_false]; intro h; exact h6 (by rw [← HN2.out]; exact h.2.2.1)
    rw [hF]
    have HF := Lib.hid hF; clear hF
    have hne : ((m : Int) != 6) = true := by simp; omega
    go_enter Try.func43, Try.ntmps43
    go_wp2
    go_ret
    exact ⟨rfl, Below.refl _ _⟩
  subst h6
  have HC : Hid (chkB root kn l ss = decide (climb hashT kn (hashT (leavesT l)) ss = root)) := Lib.hid (by
    unfold chkB; rw [decide_eq_decide]; constructor
    · intro h; simpa using h.2.2.2
    · intro h; exact ⟨by omega, by omega, HN2.out, by simpa using h⟩)
  rw [HC.out]
  clear HC
  go_enter Try.func43, Try.ntmps43
  go_wp2_with fail
  refine (leaf_any A n c l w HR.out HN.out hm HOK.out).mono ?_
  rintro e w1 ⟨rfl, hb1⟩
  have HR2 := Lib.hid (HR2.out.below hb1); have HB := Lib.hid hb1
  have hz0 := hashT_size (leavesT l)
  generalize hs0 : hashT (leavesT l) = s0 at hz0 ⊢
  have HS0 := Lib.hid hs0
  clear hs0
  clear hb1 HR
  go_wp2
  have HZ0 := Lib.hid hz0
  clear hz0
  go_loopw [1, 9, 27] (fun kb sv i wr => ∃ (j q : Nat) (s : ByteArray), j ≤ 6 ∧ i = .int .i64 j ∧ kb = .int .i64 q ∧ q < 64 ∧ sv = .string s ∧ s.size = 32 ∧ Hid (climb hashT q s (ss.drop j) = climb hashT kn s0 ss) ∧ Below w1.heap.size w1 wr) (fun _ _ i _ => 6 - (intOf i).toNat)
  case atStart => exact ⟨0, kn, s0, Nat.zero_le _, rfl, rfl, by omega, rfl, HZ0.out, Lib.hid rfl, Below.refl _ _⟩
  case round =>
    obtain ⟨j, q, s, hj, rfl, rfl, hq, rfl, hsz, HC, hbel⟩ := hrel
    by_cases hlt : j < 6
    · have hx : j < ss.length := by have := HN2.out; omega
      obtain ⟨b, off, rfl, hcell⟩ := (HR2.out.below hbel).at_ j (by simpa using hx)
      simp only [List.getElem_map] at hcell
      have hoz := HOK2.out ss[j] (List.getElem_mem hx)
      have HD := Lib.hid (show ss.drop j = ss[j] :: ss.drop (j + 1) from List.drop_eq_getElem_cons hx)
      generalize ss[j] = o at hcell hoz HD
      rw [HD.out, climb_cons] at HC
      have HBL := Lib.hid hbel
      have HQ2 := Lib.hid (quo_two q); have HRM := Lib.hid (rem_two q)
      have hq2 := quo_two q; have hrm := rem_two q
      have hj6 : ((j : Int) < 6) := by omega
      clear hbel HD
      by_cases hev : q % 2 = 0
      · have hP : pairOf q s o = [s, o] := by unfold pairOf; rw [if_pos hev]
        rw [hP] at HC
        have hdd : ((q : Int).tmod 2 == 0) = true := by rw [rem_two, hev]; rfl
        have HDD := Lib.hid hdd
        clear hP
        go_wp2_with fail
        refine (both_any s o wr (by omega)).mono ?_
        rintro e w2 ⟨rfl, hb2⟩
        have hz2 := hashT_size [s, o]
        generalize hashT [s, o] = s2 at hz2 HC ⊢
        have HZ2 := Lib.hid hz2; have HB2 := Lib.hid (then_ HBL.out hb2)
        clear hz2 hb2
        go_wp2
        go_roundw
        case rel => exact ⟨j + 1, q / 2, s2, by omega, by go_num, by first | rfl | (rw [HQ2.out]), by omega, rfl, HZ2.out, HC, HB2.out⟩
        case measure => simp [intOf]; omega
      · have hP : pairOf q s o = [o, s] := by unfold pairOf; rw [if_neg hev]
        rw [hP] at HC
        have hdd : ((q : Int).tmod 2 == 0) = false := by rw [rem_two]; simp; omega
        have HDD := Lib.hid hdd
        clear hP
        go_wp2_with fail
        refine (both_any o s wr (by omega)).mono ?_
        rintro e w2 ⟨rfl, hb2⟩
        have hz2 := hashT_size [o, s]
        generalize hashT [o, s] = s2 at hz2 HC ⊢
        have HZ2 := Lib.hid hz2; have HB2 := Lib.hid (then_ HBL.out hb2)
        clear hz2 hb2
        go_wp2
        go_roundw
        case rel => exact ⟨j + 1, q / 2, s2, by omega, by go_num, by first | rfl | (rw [HQ2.out]), by omega, rfl, HZ2.out, HC, HB2.out⟩
        case measure => simp [intOf]; omega
    · obtain rfl : j = 6 := by omega
      have HCC : Hid (s = climb hashT kn s0 ss) := Lib.hid (by
        have := HC.out
        rw [List.drop_of_length_le (by rw [HN2.out]; exact Nat.le_refl _)] at this
        exact this)
      have HB2 := Lib.hid (then_ HB.out hbel)
      have HSB := Lib.hid (str_beq s root)
      have HCC2 := HCC
      clear hbel HC HCC
      go_wp2
      go_ret
      exact ⟨by rw [HS0.out, ← HCC2.out, ← HSB.out]; rfl, HB2.out⟩

def tT (ss : List ByteArray) : ByteArray := bs (textsB ss)
def hH (t : ByteArray) : ByteArray := bs (Sha.sum t.data.toList)
theorem hash_of (ss : List ByteArray) : hH (tT ss) = hashT ss := by
  unfold hH tT hashT; rw [bs_toList]
def bktB (k : Int) (s : ByteArray) : Bool := ((bktOf s : Nat) : Int) == k
def shareL (l : List Leaf) (k : Nat) : List ByteArray := texP (bktB k) l
/-- the hash at a height, at an index -/
def nodeL (l : List Leaf) (h i : Nat) : ByteArray := node tT hH (shareL l) h i
theorem nodeL_zero (l : List Leaf) (i : Nat) : nodeL l 0 i = hashT (shareL l i) := by unfold nodeL node sumd; exact hash_of _
theorem nodeL_succ (l : List Leaf) (h i : Nat) : nodeL l (h + 1) i = hashT [nodeL l h (2 * i), nodeL l h (2 * i + 1)] := by
  unfold nodeL; rw [node_succ]; exact hash_of _
theorem nodeL_size (l : List Leaf) (h i : Nat) : (nodeL l h i).size = 32 := by
  cases h with
  | zero => rw [nodeL_zero]; exact hashT_size _
  | succ h => rw [nodeL_succ]; exact hashT_size _
/-- the first hashes of a level -/
def levK (l : List Leaf) (j i : Nat) : List ByteArray := (List.range i).map (nodeL l (6 - j))
def levL (l : List Leaf) (j : Nat) : List ByteArray := levK l j (2 ^ j)
theorem levK_len (l : List Leaf) (j i : Nat) : (levK l j i).length = i := by unfold levK; simp
theorem levK_succ (l : List Leaf) (j i : Nat) : levK l j (i + 1) = levK l j i ++ [nodeL l (6 - j) i] := by unfold levK; rw [List.range_succ, List.map_append]; rfl
theorem levK_at (l : List Leaf) (j : Nat) {i k : Nat} (h : k < i) : (levK l j i)[k]? = some (nodeL l (6 - j) k) := by unfold levK; simp [h]
/-- the levels while they are made: those above 'lv' are whole, of 'lv' there are 'i' -/
def gS (l : List Leaf) (lv i : Nat) : Nat → List ByteArray := fun j => if lv < j ∧ j < 7 then levL l j else if j = lv then levK l lv i else []
theorem gS_none (l : List Leaf) : gS l 6 0 = fun _ => [] := by
  funext j; unfold gS; rw [if_neg (by omega)]; split
  · unfold levK; rfl
  · rfl
theorem gS_at (l : List Leaf) (lv i : Nat) : gS l lv i lv = levK l lv i := by unfold gS; rw [if_neg (by omega), if_pos rfl]
theorem gS_above (l : List Leaf) {lv j : Nat} (i : Nat) (h : lv < j) (h7 : j < 7) : gS l lv i j = levL l j := by unfold gS; rw [if_pos ⟨h, h7⟩]
theorem gS_succ (l : List Leaf) (lv i : Nat) : upd (gS l lv i) lv (gS l lv i lv ++ [nodeL l (6 - lv) i]) = gS l lv (i + 1) := by
  funext j
  by_cases e : j = lv
  · subst e; rw [upd_at, gS_at, gS_at, levK_succ]
  · rw [upd_ne _ _ e]; unfold gS; rw [if_neg e, if_neg e]
theorem gS_next (l : List Leaf) (lv : Nat) (h : lv < 6) : gS l (lv + 1) (2 ^ (lv + 1)) = gS l lv 0 := by
  funext j; unfold gS
  by_cases e : j = lv + 1
  · subst e; rw [if_neg (by omega), if_pos rfl, if_pos ⟨by omega, by omega⟩]; rfl
  · by_cases e2 : lv + 1 < j ∧ j < 7
    · rw [if_pos e2, if_pos ⟨by omega, e2.2⟩]
    · rw [if_neg e2, if_neg e, if_neg (by omega)]
      split
      · unfold levK; rfl
      · rfl
theorem gS_full (l : List Leaf) {j : Nat} (h : j < 7) : gS l 0 1 j = levL l j := by
  by_cases e : j = 0
  · subst e; rw [gS_at]; rfl
  · exact gS_above l 1 (by omega) h
/-- the levels in memory -/
def ArrT (W : World) (tb : Nat) (vs : Nat → Value) (g : Nat → List ByteArray) : Prop :=
  ArrS W tb (tb + 1) 76 9 1 7 vs (fun j => (g j).length) (fun j => (g j).map Value.string)
theorem ArrT.below {W W' : World} {tb : Nat} {vs : Nat → Value} {g : Nat → List ByteArray} (h : ArrT W tb vs g) (hb : Below W.heap.size W W') : ArrT W' tb vs g := ArrS.below h hb
theorem ArrT.grow {W W' : World} {tb : Nat} {vs : Nat → Value} {g : Nat → List ByteArray} (h : ArrT W tb vs g) {k : Nat} (hk : k < 7) {v' : Value} {s : ByteArray} (hown : W'.ownsRow (tb + 1) 9 1 v' ((g k).length + 1) ((g k).map Value.string ++ [.string s])) (hg : W.grownBy W' (vs k).ownBlock) (hat : v'.ownBlock = (vs k).ownBlock ∨ v'.ownBlock = some W.heap.size) :
    ArrT (W'.setCell ⟨tb, k, none⟩ v') tb (upd vs k v') (upd g k (g k ++ [s])) := by
  have := ArrS.grow h hk hown hg hat
  have e1 : upd (fun j => (g j).length) k ((g k).length + 1) = fun j => (upd g k (g k ++ [s]) j).length := by
    funext j; by_cases e : j = k
    · subst e; rw [upd_at, upd_at, List.length_append]; rfl
    · rw [upd_ne _ _ e, upd_ne _ _ e]
  have e2 : upd (fun j => (g j).map Value.string) k ((g k).map Value.string ++ [.string s]) = fun j => (upd g k (g k ++ [s]) j).map Value.string := by
    funext j; by_cases e : j = k
    · subst e; rw [upd_at, upd_at, List.map_append]; rfl
    · rw [upd_ne _ _ e, upd_ne _ _ e]
  rw [e1, e2] at this
  exact this
/-- a trie of leaves -/
def TrieAt (W : World) (tb : Nat) (l : List Leaf) : Prop := ∃ vs, ArrT W tb vs (gS l 0 1)
theorem TrieAt.below {W W' : World} {tb : Nat} {l : List Leaf} (h : TrieAt W tb l) (hb : Below W.heap.size W W') : TrieAt W' tb l := by
  obtain ⟨vs, h⟩ := h; exact ⟨vs, h.below hb⟩
theorem TrieAt.row {W : World} {tb : Nat} {l : List Leaf} (h : TrieAt W tb l) {j : Nat} (hj : j < 7) : ∃ A c, W.cell? ⟨tb, j, none⟩ = some (.slice A (2 ^ j) c) ∧ Rd W A ((levL l j).map Value.string) := by
  obtain ⟨vs, h⟩ := h
  have hown := ArrS.own h j hj
  have hc := ArrS.cell h hj
  rw [gS_full l hj, show (levL l j).length = 2 ^ j from levK_len _ _ _] at hown
  obtain ⟨A, c, hv⟩ := own_form hown
  rw [hv] at hown hc
  exact ⟨A, c, hc, Rd.of_own hown⟩
/-- a hash of a level; none: nothing -/
def atL (l : List Leaf) (lv ix : Int) : ByteArray := if 0 ≤ lv ∧ lv ≤ 6 ∧ 0 ≤ ix ∧ ix < ((2 ^ lv.toNat : Nat) : Int) then nodeL l (6 - lv.toNat) ix.toNat else ⟨#[]⟩
theorem atL_out (l : List Leaf) {lv ix : Int} (h : ¬ (0 ≤ lv ∧ lv ≤ 6 ∧ 0 ≤ ix ∧ ix < ((2 ^ lv.toNat : Nat) : Int))) : atL l lv ix = ⟨#[]⟩ := if_neg h
theorem atL_in (l : List Leaf) {lv ix : Nat} (h : lv ≤ 6) (hi : ix < 2 ^ lv) : atL l lv ix = nodeL l (6 - lv) ix := by
  unfold atL; rw [if_pos ⟨by omega, by omega, by omega, by rw [Int.toNat_natCast]; exact Int.ofNat_lt.2 hi⟩]; simp
set_option maxRecDepth 100000 in
set_option maxHeartbeats 4000000 in
theorem at_any (tb : Nat) (l : List Leaf) (lv ix : Int) (w : World) (h : TrieAt w tb l) :
    Calls Try.prog 36 #[.pointer (some ⟨tb, 0, none⟩), .int .i64 lv, .int .i64 ix] w fun e w' => e = .returned (.string (atL l lv ix)) ∧ w = w' := by
  by_cases h0 : lv < 0
  · have HE := Lib.hid (atL_out l (lv := lv) (ix := ix) (by omega))
    rw [HE.out]
    clear h HE
    go_enter Try.func36, Try.ntmps36
    go_wp2
    go_ret
    exact ⟨rfl, rfl⟩
  by_cases h6 : 6 < lv
  · have HE := Lib.hid (atL_out l (lv := lv) (ix := ix) (by omega))
    rw [HE.out]
    clear h HE
    go_enter Try.func36, Try.ntmps36
    go_wp2
    go_ret
    exact ⟨rfl, rfl⟩
  by_cases hi : ix < 0
  · have HE := Lib.hid (atL_out l (lv := lv) (ix := ix) (by omega))
    rw [HE.out]
    clear h HE
    go_enter Try.func36, Try.ntmps36
    go_wp2
    go_ret
    exact ⟨rfl, rfl⟩
  obtain ⟨j, rfl⟩ : ∃ j : Nat, lv = j := ⟨lv.toNat, by omega⟩
  obtain ⟨i, rfl⟩ : ∃ i : Nat, ix = i := ⟨ix.toNat, by omega⟩
  have hj : j < 7 := by omega
  have hj7 : (j : Int) < 7 := by omega
  obtain ⟨A, c, hc, hrd⟩ := h.row hj
  by_cases hb : i < 2 ^ j
  · have HE := Lib.hid (atL_in l (lv := j) (ix := i) (by omega) hb)
    rw [HE.out]
    obtain ⟨b, off, rfl, hcell⟩ := hrd.at_ i (by rw [List.length_map]; unfold levL; rw [levK_len]; exact hb)
    have hv : (List.map Value.string (levL l j))[i]? = some (.string (nodeL l (6 - j) i)) := by rw [List.getElem?_map]; unfold levL; rw [levK_at l j hb]; rfl
    rw [List.getElem?_eq_getElem (by rw [List.length_map]; unfold levL; rw [levK_len]; exact hb)] at hv
    injection hv with hv
    rw [hv] at hcell
    clear hrd h HE hv
    generalize nodeL l (6 - j) i = s at hcell ⊢
    generalize 2 ^ j = q at hb hc
    go_enter Try.func36, Try.ntmps36
    go_wp2
    go_ret
    exact ⟨rfl, rfl⟩
  · have HE := Lib.hid (atL_out l (lv := j) (ix := i) (fun e => hb (by have := e.2.2.2; rw [Int.toNat_natCast] at this; exact Int.ofNat_lt.1 this)))
    rw [HE.out]
    generalize 2 ^ j = q at hb hc
    clear hrd h HE
    go_enter Try.func36, Try.ntmps36
    go_wp2
    go_ret
    exact ⟨rfl, rfl⟩
def rootT (l : List Leaf) : ByteArray := nodeL l 6 0
set_option maxRecDepth 100000 in
theorem trieRoot_any (tb : Nat) (l : List Leaf) (w : World) (h : TrieAt w tb l) :
    Calls Try.prog 37 #[.pointer (some ⟨tb, 0, none⟩)] w fun e w' => e = .returned (.string (rootT l)) ∧ w = w' := by
  have HE := Lib.hid (show atL l 0 0 = rootT l from atL_in l (lv := 0) (ix := 0) (by omega) (by decide))
  have HX := Lib.hid (at_any tb l 0 0 w h)
  rw [HE.out] at HX
  generalize rootT l = s at HX ⊢
  clear h HE
  go_enter Try.func37, Try.ntmps37
  go_wp2_with fail
  refine HX.out.mono ?_
  rintro e w2 ⟨rfl, rfl⟩
  go_wp2
  go_ret
  exact ⟨rfl, rfl⟩
end Go.Proofs.Ytgmafnpkhmlnnaa
