/- The leaves of a bucket, sameness of leaves, by the document; what is proved is checked. -/
import Derived.Test.YtgmafnpkhmlnnaaTriL
import Derived.BigQuiet
import Derived.Deep.QuietTactic
attribute [local go_sem ↓] Go.wp_at_zero Go.wp_at_succ
namespace Go.Proofs.Ytgmafnpkhmlnnaa
open Go.RowKit Go.Mem Go.Num Go.Tri
set_option linter.unusedVariables false
set_option linter.unusedSimpArgs false

theorem be4_inj {n m : Nat} (hn : n < 4294967296) (hm : m < 4294967296) (h : be 4 (n : Int) = be 4 (m : Int)) : n = m := by
  have := congrArg num h
  rw [num_be4 _ (by omega) (by omega), num_be4 _ (by omega) (by omega)] at this
  omega
theorem flat_inj : ∀ (ss ts : List ByteArray), (∀ s ∈ ss, s.size < 4294967296) → (∀ s ∈ ts, s.size < 4294967296) → ss.length = ts.length → ss.flatMap textB = ts.flatMap textB → ss = ts := by
  intro ss
  induction ss with
  | nil => intro ts _ _ hl _; cases ts with
    | nil => rfl
    | cons t r => cases hl
  | cons s r ih =>
    intro ts h1 h2 hl h
    cases ts with
    | nil => cases hl
    | cons t r2 =>
      rw [List.flatMap_cons, List.flatMap_cons] at h
      unfold textB at h
      rw [List.append_assoc, List.append_assoc] at h
      obtain ⟨e1, e2⟩ := List.append_inj h (by rw [be_length, be_length])
      have es := be4_inj (h1 s List.mem_cons_self) (h2 t List.mem_cons_self) e1
      obtain ⟨e3, e4⟩ := List.append_inj e2 (by simpa using es)
      have e5 : s = t := by rw [← bs_of s, ← bs_of t, e3]
      rw [e5, ih r2 (fun x hx => h1 x (List.mem_cons_of_mem _ hx)) (fun x hx => h2 x (List.mem_cons_of_mem _ hx)) (by simpa using hl) e4]
theorem tT_inj {ss ts : List ByteArray} (l1 : ss.length < 4294967296) (l2 : ts.length < 4294967296) (h1 : ∀ s ∈ ss, s.size < 4294967296) (h2 : ∀ s ∈ ts, s.size < 4294967296) (h : tT ss = tT ts) : ss = ts := by
  have h3 := bs_inj h
  unfold textsB at h3
  obtain ⟨e1, e2⟩ := List.append_inj h3 (by rw [be_length, be_length])
  exact flat_inj ss ts h1 h2 (be4_inj l1 l2 e1) e2
theorem share_small {l : List Leaf} (hok : ∀ m ∈ l, smallL m) (k : Nat) : ∀ s ∈ shareL l k, s.size < 4294967296 := fun s hs => by
  unfold shareL texP at hs
  obtain ⟨m, hm, hs⟩ := List.mem_flatMap.1 hs
  have h1 := hok m hm
  split at hs
  · simp only [leafT, List.mem_cons, List.not_mem_nil, or_false] at hs
    rcases hs with rfl | rfl
    · have := h1.1; omega
    · have := h1.2; omega
  · exact absurd hs List.not_mem_nil
theorem share_few {l : List Leaf} (hl : l.length ≤ 1000) (k : Nat) : (shareL l k).length < 4294967296 := by have := texP_len (bktB k) l; unfold shareL; omega
set_option maxRecDepth 100000 in
set_option maxHeartbeats 4000000 in
theorem rin_any (A : Option Addr) (n c : Nat) (l : List Leaf) (q : Int) (w : World) (hr : Rd w A (leafc l)) (hn : l.length = n) (hm : n ≤ 1000) (hok : ∀ m ∈ l, smallL m) :
    Calls Try.prog 42 #[.slice A n c, .int .i64 q] w (MakesL (inL (bktB q) l) w) := by
  have HR := Lib.hid hr; have HN := Lib.hid hn; have HOK := Lib.hid hok
  clear hr hn hok
  go_enter Try.func42, Try.ntmps42
  go_wp2
  go_loopw [5, 6] (fun v i wr => ∃ k : Nat, k ≤ n ∧ i = .int .i64 k ∧ Hid (wr.ownsRow w.heap.size 48 2 v (inL (bktB q) (l.take k)).length (leafc (inL (bktB q) (l.take k)))) ∧ Below w.heap.size w wr) (fun _ i _ => n - (intOf i).toNat)
  case atStart => exact ⟨0, Nat.zero_le _, rfl, Lib.hid (World.ownsRow_nil _ _ _ _), Below.refl _ _⟩
  case round =>
    obtain ⟨k, hk, rfl, HO, hbel⟩ := hrel
    by_cases hlt : k < n
    · have hx : k < l.length := by have := HN.out; omega
      obtain ⟨b, off, rfl, hrg⟩ := row_leaf.at_ HR.out k hx
      have hs := HOK.out l[k] (List.getElem_mem hx)
      have hll : (inL (bktB q) (l.take k)).length ≤ 1000 := Nat.le_trans (inL_len _ _) (by rw [List.length_take]; omega)
      have HS := Lib.hid (inL_succ (bktB q) hx)
      generalize inL (bktB q) (l.take k) = u at HO hll HS
      generalize l[k] = s at hrg hs HS
      obtain ⟨sp, sd⟩ := s
      have W0 := Lib.hid (show w.cell? ⟨b, off + k * 2, none⟩ = some (.string sp) from rangeAt_cell hrg 0 rfl)
      have W1 := Lib.hid (show w.cell? ⟨b, off + k * 2 + 1, none⟩ = some (.string sd) from rangeAt_cell hrg 1 rfl)
      have c0 := cell_below hbel W0.out; have c1 := cell_below hbel W1.out
      have HX := Lib.hid (fun W => rbucket_any sp W (by have := hs.1; simp only at this; omega))
      have HQ := Lib.hid (show bktB q sp = (((bktOf sp : Nat) : Int) == q) from rfl)
      generalize bktOf sp = g at HX HQ
      clear hs hrg
      go_wp2_with fail
      refine (HX.out _).mono ?_
      rintro e w1 ⟨rfl, hb2⟩
      have c0 := cell_below hb2 c0; have c1 := cell_below hb2 c1
      have HO1 := Lib.hid (own_below HO.out hb2); have HB1 := Lib.hid (then_ hbel hb2)
      have HZ := Lib.hid HB1.out.size
      clear hb2 HO hbel HX
      by_cases hgq : ((g : Int) == q) = true
      · have HQ2 := Lib.hid (HQ.out.trans hgq)
        go_wp2_with (at_builtin; refine wpList_app el_leaf (by rfl) (.tmp 21) (.tmp 26) (by rfl) w.heap.size _ u.length _ (by rfl) (HO1.out.alloc _) (some ⟨w1.heap.size, 0, none⟩) 1 1 [.string sp, .string sd] rfl rfl (Rd.new w1 #[.string sp, .string sd] _) (by intro u hu; simp at hu; rcases hu with rfl | rfl <;> rfl) (by unfold maxLen; omega) (by omega) (by have := HZ.out; simp; omega) ?_; intro v1 w3 hown1 hbel1 _ _)
        go_roundw
        case rel => exact ⟨k + 1, by omega, by go_num, Lib.hid (by rw [HS.out]; rw [if_pos HQ2.out, List.length_append, leafc_app]; exact hown1), (HB1.out.alloc HZ.out _).trans hbel1⟩
        case measure => simp [intOf]; omega
      · have hgf : ((g : Int) == q) = false := Bool.eq_false_iff.2 hgq
        have HQ2 := Lib.hid (HQ.out.trans hgf)
        clear hgq
        go_wp2
        go_roundw
        case rel => exact ⟨k + 1, by omega, by go_num, Lib.hid (by rw [HS.out]; rw [if_neg (by rw [HQ2.out]; decide), List.append_nil]; exact HO1.out), HB1.out⟩
        case measure => simp [intOf]; omega
    · obtain rfl : k = n := by omega
      have hfull : l.take k = l := List.take_of_length_le (by rw [HN.out]; omega)
      rw [hfull] at HO
      go_wp2
      go_ret
      exact ⟨_, rfl, HO.out, hbel⟩
/-- a bool that tells whether something is so -/
def SaysB (P : Prop) (w : World) (e : Ending) (w' : World) : Prop := ∃ q : Bool, (q = true ↔ P) ∧ e = .returned (.bool q) ∧ Below w.heap.size w w'
theorem toList_inj {a b : ByteArray} (h : a.toList = b.toList) : a = b := WideShapes.bytes_inj (by rwa [ByteArray.toList_eq, ByteArray.toList_eq] at h)
theorem take_eq_of {T : Type} {a b : List T} {k : Nat} (h1 : k < a.length) (h2 : k < b.length) (h : a.take k = b.take k) (he : a[k] = b[k]) : a.take (k + 1) = b.take (k + 1) := by
  rw [List.take_succ_eq_append_getElem h1, List.take_succ_eq_append_getElem h2, h, he]
theorem leaf_parts (s t : Leaf) : s = t ∨ (¬ s.place.toList = t.place.toList) ∨ (s.place = t.place ∧ ¬ s.digest.toList = t.digest.toList) := by
  by_cases h1 : s.place.toList = t.place.toList
  · by_cases h2 : s.digest.toList = t.digest.toList
    · left
      obtain ⟨sp, sd⟩ := s; obtain ⟨tp, td⟩ := t
      simp only at h1 h2
      rw [toList_inj h1, toList_inj h2]
    · exact .inr (.inr ⟨toList_inj h1, h2⟩)
  · exact .inr (.inl h1)
set_option maxRecDepth 100000 in
set_option maxHeartbeats 4000000 in
theorem sameL_any (A : Option Addr) (n c : Nat) (xs : List Leaf) (B : Option Addr) (m d : Nat) (ys : List Leaf) (w : World) (hr : Rd w A (leafc xs)) (hn : xs.length = n) (hm : n ≤ maxLen)
    (hr' : Rd w B (leafc ys)) (hn' : ys.length = m) (hm' : m ≤ maxLen) :
    Calls Try.prog 40 #[.slice A n c, .slice B m d] w (SaysB (xs = ys) w) := by
  have HN := Lib.hid hn; have HN2 := Lib.hid hn'; clear hn hn'
  unfold maxLen at hm hm'
  by_cases hnm : n = m
  · subst hnm
    go_enter Try.func40, Try.ntmps40
    go_wp2
    go_loopw [5] (fun i wr => ∃ k : Nat, k ≤ n ∧ i = .int .i64 k ∧ Hid (xs.take k = ys.take k) ∧ Below w.heap.size w wr) (fun i _ => n - (intOf i).toNat)
    case atStart => exact ⟨0, Nat.zero_le _, rfl, Lib.hid rfl, Below.refl _ _⟩
    case round =>
      obtain ⟨k, hk, rfl, HT, hbel⟩ := hrel
      by_cases hlt : k < n
      · have hx : k < xs.length := by have := HN.out; omega
        have hx' : k < ys.length := by have := HN2.out; omega
        obtain ⟨b, off, rfl, hrg⟩ := row_leaf.at_ (hr.below hbel) k hx
        obtain ⟨b', off', rfl, hrg'⟩ := row_leaf.at_ (hr'.below hbel) k hx'
        have HNX := Lib.hid (fun h => take_eq_of hx hx' HT.out h)
        have HNE : Hid (xs[k] ≠ ys[k] → ¬ xs = ys) := Lib.hid (fun h e => h (by subst e; rfl))
        generalize xs[k] = s at hrg HNX HNE
        generalize ys[k] = t at hrg' HNX HNE
        have hp := leaf_parts s t
        obtain ⟨sk, sv⟩ := s; obtain ⟨tk, tv⟩ := t
        have hd : decide ((k : Int) < (n : Int)) = true := by simp; omega
        have hi0 : (0 : Int) ≤ (k : Int) := by omega
        have hin : (k : Int) < (n : Int) := by omega
        simp only at hp
        have c0 : wr.cell? ⟨b, off + k * 2, none⟩ = some (.string sk) := rangeAt_cell hrg 0 rfl
        have c1 : wr.cell? ⟨b, off + k * 2 + 1, none⟩ = some (.string sv) := rangeAt_cell hrg 1 rfl
        have d0 : wr.cell? ⟨b', off' + k * 2, none⟩ = some (.string tk) := rangeAt_cell hrg' 0 rfl
        have d1 : wr.cell? ⟨b', off' + k * 2 + 1, none⟩ = some (.string tv) := rangeAt_cell hrg' 1 rfl
        clear hrg hrg'
        rcases hp with he | hne
        · injection he with h1 h2; subst h1 h2
          have HN3 := Lib.hid (HNX.out rfl); clear HNX HNE
          go_wp2
          go_quiet (fail)
          go_wp2
          go_roundw
          case rel => exact ⟨k + 1, by omega, by go_num, HN3, drewN_ hbel _⟩
          case measure => simp [intOf]; omega
        · have HF : Hid (¬ xs = ys) := Lib.hid (HNE.out (by
            intro he; injection he with h1 h2; subst h1 h2; simp at hne))
          clear HNX HNE
          rcases hne with h1 | ⟨h1, h2⟩
          · go_wp2
            go_quiet (fail)
            go_wp2
            go_ret
            exact ⟨false, by simp [HF.out], rfl, drewN_ hbel _⟩
          · subst h1
            go_wp2
            go_quiet (fail)
            go_wp2
            go_ret
            exact ⟨false, by simp [HF.out], rfl, drewN_ hbel _⟩
      · obtain rfl : k = n := by omega
        have HF : Hid (xs = ys) := Lib.hid (by have := HT.out; rwa [List.take_of_length_le (by rw [HN.out]; omega), List.take_of_length_le (by rw [HN2.out]; omega)] at this)
        go_wp2
        go_ret
        exact ⟨true, by simp [HF.out], rfl, hbel⟩
  · have hd : ((n : Int) != (m : Int)) = true := by simp; omega
    have hd2 : (n != m) = true := by simp; omega
    have HF : Hid (¬ xs = ys) := Lib.hid (fun e => hnm (by rw [← HN.out, ← HN2.out, e]))
    go_enter Try.func40, Try.ntmps40
    go_wp2
    go_ret
    exact ⟨false, by simp [HF.out], rfl, Below.refl _ _⟩
theorem hH_size (t : ByteArray) : (hH t).size = 32 := by unfold hH; rw [bs_size]; unfold Sha.sum Sha.out; rw [flat4_length]; rfl
theorem hash_fun : hashT = fun ss => hH (tT ss) := by funext ss; exact (hash_of ss).symm
theorem in_share (l : List Leaf) (k : Nat) : leavesT (inL (bktB k) l) = shareL l k := shareT l k
theorem leavesT_inj : ∀ {xs ys : List Leaf}, leavesT xs = leavesT ys → xs = ys := by
  intro xs
  induction xs with
  | nil => intro ys h; cases ys with
    | nil => rfl
    | cons y r => unfold leavesT at h; simp [leafT] at h
  | cons x r ih => intro ys h; cases ys with
    | nil => unfold leavesT at h; simp [leafT] at h
    | cons y r2 =>
      unfold leavesT at h
      simp only [List.flatMap_cons, leafT, List.cons_append, List.nil_append, List.cons.injEq] at h
      obtain ⟨h1, h2, h3⟩ := h
      have := ih (ys := r2) h3
      subst this
      obtain ⟨xp, xd⟩ := x; obtain ⟨yp, yd⟩ := y
      simp only at h1 h2
      rw [h1, h2]
theorem checks_own (l : List Leaf) (k : Nat) (hk : k < 64) : chkB (rootT l) k (inL (bktB k) l) (proveL l k) = true := by
  have hw : proveL l k = wayL (nodeL l) 6 0 k := by unfold proveL; rw [if_pos ⟨by omega, by omega⟩]; simp
  unfold chkB
  rw [decide_eq_true_eq, hw]
  refine ⟨by omega, by omega, wayL_len _ _ _ _, ?_⟩
  rw [in_share, ← nodeL_zero, hash_fun, Int.toNat_natCast]
  have := climb_way (T := tT) (H := hH) (shareL l) 6 0 k
  rw [show k / 2 ^ 6 = 0 by omega] at this
  exact this
theorem proves_plain {l o : List Leaf} {k : Nat} (hk : k < 64) (hl : l.length ≤ 1000) (ho : o.length ≤ 1000) (hol : ∀ m ∈ l, smallL m) (hoo : ∀ m ∈ o, smallL m) (hc : chkB (rootT l) k o (proveL l k) = true)
    (hN : NoColl (textsF l) (tT (leavesT o) :: climbT tT hH k (hashT (leavesT o)) (proveL l k))) : inL (bktB k) l = o := by
  have hw : proveL l k = wayL (nodeL l) 6 0 k := by unfold proveL; rw [if_pos ⟨by omega, by omega⟩]; simp
  rw [hw] at hN hc
  unfold chkB at hc
  rw [decide_eq_true_eq, Int.toNat_natCast] at hc
  have hc := hc.2.2.2
  have h32 : ∀ (h i : Nat), (node tT hH (shareL l) h i).size < 4294967296 := fun h i => by have := nodeL_size l h i; unfold nodeL at this; omega
  have key := climb_only (T := tT) (H := hH) (sh := shareL l) (fun h k s _ hs he => by
      have hsz : s.size < 4294967296 := by omega
      have h1 := h32 h k; have h2 := h32 h (if k % 2 = 0 then k + 1 else k - 1)
      have hh : ∀ x : ByteArray, x.size < 4294967296 → ∀ t ∈ pairOf k x (node tT hH (shareL l) h (if k % 2 = 0 then k + 1 else k - 1)), t.size < 4294967296 := fun x hx t ht => by
        unfold pairOf at ht; split at ht <;> (simp only [List.mem_cons, List.not_mem_nil, or_false] at ht; rcases ht with rfl | rfl <;> assumption)
      have hlen : ∀ x o : ByteArray, (pairOf k x o).length < 4294967296 := fun x o => by unfold pairOf; split <;> simp
      have := tT_inj (hlen _ _) (hlen _ _) (hh s hsz) (hh _ h1) he
      unfold pairOf at this
      split at this
      · injection this
      · injection this with _ e; injection e) hH_size 6 0 k (hashT (leavesT o)) rfl hk (hashT_size _) (by
      rw [show k / 2 ^ 6 = 0 by omega]
      rw [hash_fun] at hc ⊢
      exact hc)
    (fun h i u hh hi hu he => hN _ (text_in l hh hi) _ (List.mem_cons_of_mem _ hu) he)
  have he : hH (sumL l 0 k) = hH (tT (leavesT o)) := by
    rw [hash_of]; exact key.symm
  have h2 := hN _ (text_in l (h := 0) (i := k) (by omega) hk) _ List.mem_cons_self he
  rw [sumL_zero] at h2
  have hos : ∀ s ∈ leavesT o, s.size < 4294967296 := fun s hs => by
    unfold leavesT at hs
    obtain ⟨m, hm, hs⟩ := List.mem_flatMap.1 hs
    have h1 := hoo m hm
    simp only [leafT, List.mem_cons, List.not_mem_nil, or_false] at hs
    rcases hs with rfl | rfl
    · have := h1.1; omega
    · have := h1.2; omega
  have h3 := tT_inj (share_few hl k) (by rw [leavesT_len]; omega) (share_small hol k) hos h2
  rw [← in_share] at h3
  exact leavesT_inj h3
theorem climbT_cons (T : List ByteArray → ByteArray) (H : ByteArray → ByteArray) (k : Nat) (s o : ByteArray) (r : List ByteArray) : climbT T H k s (o :: r) = T (pairOf k s o) :: climbT T H (k / 2) (H (T (pairOf k s o))) r := rfl
theorem rd_block {W W' : World} {g : Nat} {cs : List Value} (h : Rd W (some ⟨g, 0, none⟩) cs) (hb : W'.heap[g]? = W.heap[g]?) : Rd W' (some ⟨g, 0, none⟩) cs := fun j u hj =>
  ⟨g, 0, rfl, (World.cell?_of_block (a := ⟨g, 0 + j, none⟩) hb).trans (rd_cell h hj)⟩
theorem climb_sizes : ∀ (way : List ByteArray) (k : Nat) (s : ByteArray), s.size = 32 → (∀ t ∈ way, t.size = 32) → ∀ t ∈ climbT tT hH k s way, t.size ≤ 1000000 := by
  intro way
  induction way with
  | nil => intro k s _ _ t ht; cases ht
  | cons o r ih =>
    intro k s hs hw t ht
    rw [climbT_cons] at ht
    rcases List.mem_cons.1 ht with rfl | ht
    · have ho := hw o List.mem_cons_self
      rw [tT_size]; unfold pairOf; split <;> (simp [sumSize]; omega)
    · exact ih _ _ (hH_size _) (fun x hx => hw x (List.mem_cons_of_mem _ hx)) t ht
theorem y_sizes {o : List Leaf} {k : Nat} {way : List ByteArray} (h : (tT (leavesT o)).size ≤ 1000000) (hw : ∀ t ∈ way, t.size = 32) : ∀ s ∈ tT (leavesT o) :: climbT tT hH k (hashT (leavesT o)) way, s.size ≤ 1000000 := fun s hs => by
  rcases List.mem_cons.1 hs with rfl | hs
  · exact h
  · exact climb_sizes way k _ (hashT_size _) hw s hs
theorem way_size (l : List Leaf) : ∀ (n h k : Nat), ∀ s ∈ wayL (nodeL l) n h k, s.size = 32 := by
  intro n
  induction n with
  | zero => intro h k s hs; cases hs
  | succ n ih =>
    intro h k s hs
    rw [wayL_succ] at hs
    rcases List.mem_cons.1 hs with rfl | hs
    · exact nodeL_size _ _ _
    · exact ih _ _ s hs
theorem wf8b {m : Int} (h : (Lit.int .u8 m).wf = true) : 0 ≤ m ∧ m < 256 := by
  simp [Lit.wf, IntKind.min, IntKind.max, IntKind.signed, IntKind.bits] at h
  omega
theorem and63 (k : Nat) (h : k < 256) : bits .and .u8 (k : Int) 63 = ((k % 64 : Nat) : Int) := by
  have key : ∀ k : Fin 256, bits .and .u8 ((k.val : Nat) : Int) 63 = ((k.val % 64 : Nat) : Int) := by decide +kernel
  exact key ⟨k, h⟩
set_option maxRecDepth 100000 in
set_option maxHeartbeats 8000000 in
theorem proofProves_walk (A : Option Addr) (n c : Nat) (l : List Leaf) (B : Option Addr) (m d : Nat) (o : List Leaf) (z : Int) (w : World)
    (hr : Rd w A (leafc l)) (hn : l.length = n) (hm : n ≤ maxLen) (hok : ∀ m ∈ l, m.ok w) (hr2 : Rd w B (leafc o)) (hn2 : o.length = m) (hm2 : m ≤ maxLen) (hok2 : ∀ m ∈ o, m.ok w) (hz : (Lit.int .u8 z).wf = true) :
    Calls Try.prog 8 #[.slice A n c, .slice B m d, .int .u8 z] w fun e w' => e = .returned (.bool true) ∧ Below w.heap.size w w' := by
  have HR := Lib.hid hr; have HN := Lib.hid hn; have HR2 := Lib.hid hr2; have HN2 := Lib.hid hn2
  have HF1 := Lib.hid (few49_any A n c l w hr hn hm hok)
  have HF2 := Lib.hid (fun W (h : Below w.heap.size w W) => few49_any B m d o W (hr2.below h) hn2 hm2 (fun x hx => Leaf.ok.below (hok2 x hx) h))
  obtain ⟨hz0, hz1⟩ := wf8b hz
  obtain ⟨zn, rfl⟩ : ∃ zn : Nat, z = zn := ⟨z.toNat, by omega⟩
  have hzn : zn < 256 := by omega
  have h63 := and63 zn hzn
  obtain ⟨k, hk⟩ : ∃ k, k = zn % 64 := ⟨_, rfl⟩
  rw [← hk] at h63
  have hk64 : k < 64 := by omega
  clear hr hn hok hr2 hn2 hok2 hm hm2 hk hz hz0 hz1
  go_enter Try.func8, Try.ntmps8
  go_wp2_with fail
  refine HF1.out.mono ?_
  rintro e w1 ⟨few, hfew, rfl, hb1⟩
  cases few
  · clear hfew
    go_wp2_with fail
    refine (fin49 w w1 hb1).mono ?_
    rintro e w2 ⟨rfl, hb2⟩
    go_wp2
    go_ret
    exact ⟨rfl, hb2⟩
  have HL := Lib.hid (hfew rfl); clear hfew
  go_wp2_with fail
  refine (HF2.out _ hb1).mono ?_
  rintro e w2 ⟨few, hfew, rfl, hb2⟩
  have hb2 := then_ hb1 hb2
  cases few
  · clear hfew
    go_wp2_with fail
    refine (fin49 w w2 hb2).mono ?_
    rintro e w3 ⟨rfl, hb3⟩
    go_wp2
    go_ret
    exact ⟨rfl, hb3⟩
  have HL2 := Lib.hid (hfew rfl); clear hfew HF1 HF2
  have hn : n ≤ 1000 := by have := HL.out.1; rw [HN.out] at this; omega
  have hm : m ≤ 1000 := by have := HL2.out.1; rw [HN2.out] at this; omega
  have HR := Lib.hid (HR.out.below hb2); have HR2 := Lib.hid (HR2.out.below hb2); have HB := Lib.hid hb2
  clear hb1 hb2
  go_wp2_with fail
  refine (build_any A n c l w2 HR.out HN.out hn HL.out.2).mono ?_
  rintro e w3 ⟨tb, rfl, hT, hb1⟩
  have HT := Lib.hid hT
  have HR := Lib.hid (HR.out.below hb1); have HR2 := Lib.hid (HR2.out.below hb1); have HB := Lib.hid (then_ HB.out hb1)
  clear hb1 hT h63
  go_wp2_with fail
  refine (rin_any A n c l (k : Int) w3 HR.out HN.out hn HL.out.2).mono ?_
  rintro e w4 ⟨v4, rfl, hown, hb1⟩
  have HPP := Lib.hid (fun h1 h2 => proves_plain (l := l) (o := o) hk64 (by have := HN.out; omega) (by have := HN2.out; omega) HL.out.2 HL2.out.2 h1 h2)
  have HOWN := Lib.hid (checks_own l k hk64)
  have HOS := Lib.hid (show ∀ m ∈ inL (bktB (k : Int)) l, smallL m from fun m hm => HL.out.2 m (List.mem_filter.1 hm).1)
  have HOL := Lib.hid (show (inL (bktB (k : Int)) l).length ≤ 1000 from Nat.le_trans (inL_len _ _) (by have := HN.out; omega))
  generalize inL (bktB (k : Int)) l = own at hown HPP HOWN HOS HOL
  obtain ⟨A4, c4, rfl⟩ := own_form hown
  have HO := Lib.hid (Rd.of_own hown)
  have HT := Lib.hid (HT.out.below hb1); have HR := Lib.hid (HR.out.below hb1); have HR2 := Lib.hid (HR2.out.below hb1); have HB := Lib.hid (then_ HB.out hb1)
  clear hb1 hown
  generalize hol : own.length = ol at HOL ⊢
  have HOE := Lib.hid hol
  clear hol
  go_wp2_with fail
  refine (prove_any tb l (k : Int) w4 HT.out).mono ?_
  rintro e w5 ⟨v5, rfl, hown, hb1⟩
  have HWS := Lib.hid (show ∀ s ∈ proveL l (k : Int), s.size = 32 from fun s hs => by
    have hw : proveL l k = wayL (nodeL l) 6 0 k := by unfold proveL; rw [if_pos ⟨by omega, by omega⟩]; simp
    rw [hw] at hs
    exact way_size l 6 0 k s hs)
  have HW6 := Lib.hid (show (proveL l (k : Int)).length = 6 by unfold proveL; rw [if_pos ⟨by omega, by omega⟩]; exact wayL_len _ _ _ _)
  generalize proveL l (k : Int) = way at hown HPP HOWN HWS HW6
  rw [HW6.out] at hown
  obtain ⟨A5, c5, rfl⟩ := own_form hown
  have HWY := Lib.hid (Rd.of_own hown)
  have HT := Lib.hid (HT.out.below hb1); have HR := Lib.hid (HR.out.below hb1); have HR2 := Lib.hid (HR2.out.below hb1); have HB := Lib.hid (then_ HB.out hb1); have HO := Lib.hid (HO.out.below hb1)
  clear hb1 hown
  go_wp2_with fail
  refine (trieRoot_any tb l w5 HT.out).mono ?_
  rintro e w' ⟨rfl, rfl⟩
  have HRT := Lib.hid (fun W (h : Below w5.heap.size w5 W) => trieRoot_any tb l W (HT.out.below h))
  generalize rootT l = root at HRT HPP HOWN ⊢
  have HCK := Lib.hid (check_any root (k : Int) A4 ol c4 own A5 6 c5 way w5 HO.out HOE.out HOL.out HOS.out HWY.out HW6.out (by decide) (fun s hs => by have := HWS.out s hs; omega))
  rw [HOWN.out] at HCK
  go_wp2_with fail
  refine HCK.out.mono ?_
  rintro e w6 ⟨rfl, hb1⟩
  have HR := Lib.hid (HR.out.below hb1); have HR2 := Lib.hid (HR2.out.below hb1); have HB := Lib.hid (then_ HB.out hb1); have HO := Lib.hid (HO.out.below hb1); have HWY := Lib.hid (HWY.out.below hb1)
  have HB5 := Lib.hid hb1
  clear hb1 HCK HOWN HT
  go_wp2_with fail
  refine (sameL_any A4 ol c4 own B m d o w6 HO.out HOE.out (by unfold maxLen; have := HOL.out; omega) HR2.out HN2.out (by unfold maxLen; omega)).mono ?_
  rintro e w7 ⟨q, hq, rfl, hb1⟩
  have HR := Lib.hid (HR.out.below hb1); have HR2 := Lib.hid (HR2.out.below hb1); have HB := Lib.hid (then_ HB.out hb1); have HWY := Lib.hid (HWY.out.below hb1)
  have HB5 := Lib.hid (then_ HB5.out hb1)
  clear hb1
  cases q
  rotate_left
  · clear hq
    go_wp2_with fail
    refine (fin49 w w7 HB.out).mono ?_
    rintro e w8 ⟨rfl, hb3⟩
    go_wp2
    go_ret
    exact ⟨rfl, hb3⟩
  have HNE : Hid (¬ own = o) := Lib.hid (fun h => absurd (hq.2 h) (by simp))
  clear hq HO HOE HOL HOS
  go_wp2_with fail
  refine (HRT.out w7 HB5.out).mono ?_
  rintro e w' ⟨rfl, rfl⟩
  have HCK := Lib.hid (check_any root (k : Int) B m d o A5 6 c5 way w7 HR2.out HN2.out hm HL2.out.2 HWY.out HW6.out (by decide) (fun s hs => by have := HWS.out s hs; omega))
  generalize hcq : chkB root (k : Int) o way = cq at HCK
  have HCQ := Lib.hid hcq
  clear hcq HRT HB5
  go_wp2_with fail
  refine HCK.out.mono ?_
  rintro e w8 ⟨rfl, hb1⟩
  have HR := Lib.hid (HR.out.below hb1); have HR2 := Lib.hid (HR2.out.below hb1); have HB := Lib.hid (then_ HB.out hb1); have HWY := Lib.hid (HWY.out.below hb1)
  clear hb1 HCK
  cases cq
  · go_wp2_with fail
    refine (fin49 w w8 HB.out).mono ?_
    rintro e w9 ⟨rfl, hb3⟩
    go_wp2
    go_ret
    exact ⟨rfl, hb3⟩
  have HNC : Hid (¬ NoColl (textsF l) (tT (leavesT o) :: climbT tT hH k (hashT (leavesT o)) way)) := Lib.hid (fun h => HNE.out (HPP.out HCQ.out h))
  clear HPP HNE HCQ
  go_wp2
  go_loopw [11, 13] (fun v i wr => ∃ j : Nat, j ≤ m ∧ i = .int .i64 j ∧ Hid (wr.ownsRow w8.heap.size 9 1 v (leavesT (o.take j)).length ((leavesT (o.take j)).map Value.string)) ∧ Below w8.heap.size w8 wr) (fun _ i _ => m - (intOf i).toNat)
  case atStart => exact ⟨0, Nat.zero_le _, rfl, Lib.hid (World.ownsRow_nil _ _ _ _), Below.refl _ _⟩
  case round =>
    obtain ⟨j, hj, rfl, HO, hbel⟩ := hrel
    by_cases hlt : j < m
    · have hx : j < o.length := by have := HN2.out; omega
      obtain ⟨b, off, rfl, hrg⟩ := row_leaf.at_ HR2.out j hx
      have hll : (leavesT (o.take j)).length ≤ 2000 := by rw [leavesT_len, List.length_take]; omega
      have HS := Lib.hid (leavesT_succ hx)
      generalize leavesT (o.take j) = u at HO hll HS
      generalize o[j] = s at hrg HS
      obtain ⟨sp, sd⟩ := s
      have HG0 := Lib.hid (show w8.cell? ⟨b, off + j * 2, none⟩ = some (.string sp) from rangeAt_cell hrg 0 rfl)
      have HC0 := Lib.hid (cell_below hbel HG0.out)
      have HG1 := Lib.hid (show w8.cell? ⟨b, off + j * 2 + 1, none⟩ = some (.string sd) from rangeAt_cell hrg 1 rfl)
      have HC1 := Lib.hid (cell_below hbel HG1.out)
      have hc0 : wr.drew.cell? ⟨b, off + j * 2, none⟩ = some (.string sp) := HC0.out
      have hc1 : wr.drew.cell? ⟨b, off + j * 2 + 1, none⟩ = some (.string sd) := HC1.out
      have hb : Below wr.heap.size wr wr.drew := (Below.refl _ _).drew
      have HBL := Lib.hid hbel
      clear hrg hbel
      go_wp2_with fail
      refine wp_region_held_drew (S := (fun W => W.cell? ⟨b, off + j * 2, none⟩ = some (.string sp) ∧ W.cell? ⟨b, off + j * 2 + 1, none⟩ = some (.string sd))) (by kernel_rfl) ⟨hc0, hc1⟩ (fun hHeld => ?_)
      refine wpAnyH_take (i := 0) (oi := _) (v := ?vq1) rfl (by kernel_rfl) (by kernel_rfl) (by kernel_rfl) (fun _ _ _ h => h) (Or.inl ⟨by rfl, ?hq1⟩) (by assumption) ?rq1
      case hq1 => (intro w hSw; go_simp; try with_reducible rfl)
      try dsimp only [Act.put, List.getElem_toArray, List.getElem_cons_zero, List.getElem_cons_succ]; try simp only [List.setIfInBounds_toArray, List.set_cons_zero, List.set_cons_succ]
      refine wpAnyH_take (i := 1) (oi := _) (v := ?vq2) rfl (by kernel_rfl) (by kernel_rfl) (by kernel_rfl) (fun _ _ _ h => h) (Or.inl ⟨by rfl, ?hq2⟩) (by assumption) ?rq2
      case hq2 => (intro w hSw; go_simp; try with_reducible rfl)
      try dsimp only [Act.put, List.getElem_toArray, List.getElem_cons_zero, List.getElem_cons_succ]; try simp only [List.setIfInBounds_toArray, List.set_cons_zero, List.set_cons_succ]
      refine wpAnyH_take (i := 2) (oi := _) (v := ?vq3) rfl (by kernel_rfl) (by kernel_rfl) (by kernel_rfl) (fun _ _ _ h => h) (Or.inl ⟨by rfl, ?hq3⟩) (by assumption) ?rq3
      case hq3 => (intro w hSw; go_simp; try with_reducible rfl)
      try dsimp only [Act.put, List.getElem_toArray, List.getElem_cons_zero, List.getElem_cons_succ]; try simp only [List.setIfInBounds_toArray, List.set_cons_zero, List.set_cons_succ]
      refine wpAnyH_take (i := 3) (oi := _) (v := ?vq4) rfl (by kernel_rfl) (by kernel_rfl) (by kernel_rfl) (fun _ _ _ h => h) (Or.inl ⟨by rfl, ?hq4⟩) (by assumption) ?rq4
      case hq4 => (intro w hSw; go_simp; try with_reducible rfl)
      try dsimp only [Act.put, List.getElem_toArray, List.getElem_cons_zero, List.getElem_cons_succ]; try simp only [List.setIfInBounds_toArray, List.set_cons_zero, List.set_cons_succ]
      refine wpAnyH_take (i := 4) (oi := _) (v := ?vq5) rfl (by kernel_rfl) (by kernel_rfl) (by kernel_rfl) (fun _ _ _ h => h) (Or.inl ⟨by rfl, ?hq5⟩) (by assumption) ?rq5
      case hq5 => (intro w hSw; go_simp; try with_reducible rfl)
      try dsimp only [Act.put, List.getElem_toArray, List.getElem_cons_zero, List.getElem_cons_succ]; try simp only [List.setIfInBounds_toArray, List.set_cons_zero, List.set_cons_succ]
      refine wpAnyH_take (i := 5) (oi := _) (v := ?vq6) rfl (by kernel_rfl) (by kernel_rfl) (by kernel_rfl) (fun _ _ _ h => h) (Or.inl ⟨by rfl, ?hq6⟩) (by assumption) ?rq6
      case hq6 => (intro w hSw; go_simp; try with_reducible rfl)
      try dsimp only [Act.put, List.getElem_toArray, List.getElem_cons_zero, List.getElem_cons_succ]; try simp only [List.setIfInBounds_toArray, List.set_cons_zero, List.set_cons_succ]
      refine wpAnyH_take (i := 6) (oi := _) (v := ?vq7) rfl (by kernel_rfl) (by kernel_rfl) (by kernel_rfl) (fun _ _ _ h => h) (Or.inl ⟨by rfl, ?hq7⟩) (by assumption) ?rq7
      case hq7 => (intro w hSw; go_simp; try with_reducible rfl)
      try dsimp only [Act.put, List.getElem_toArray, List.getElem_cons_zero, List.getElem_cons_succ]; try simp only [List.setIfInBounds_toArray, List.set_cons_zero, List.set_cons_succ]
      refine wpAnyH_take (i := 7) (oi := _) (v := ?vq8) rfl (by kernel_rfl) (by kernel_rfl) (by kernel_rfl) (fun _ _ _ h => h) (Or.inl ⟨by rfl, ?hq8⟩) (by assumption) ?rq8
      case hq8 => (intro w hSw; go_simp; try with_reducible rfl)
      try dsimp only [Act.put, List.getElem_toArray, List.getElem_cons_zero, List.getElem_cons_succ]; try simp only [List.setIfInBounds_toArray, List.set_cons_zero, List.set_cons_succ]
      refine wpAnyH_take (i := 8) (oi := _) (v := ?vq9) rfl (by kernel_rfl) (by kernel_rfl) (by kernel_rfl) (fun _ _ _ h => h) (Or.inl ⟨by rfl, ?hq9⟩) (by assumption) ?rq9
      case hq9 => (intro w hSw; go_simp; try with_reducible rfl)
      try dsimp only [Act.put, List.getElem_toArray, List.getElem_cons_zero, List.getElem_cons_succ]; try simp only [List.setIfInBounds_toArray, List.set_cons_zero, List.set_cons_succ]
      refine wpAnyH_take (i := 9) (oi := _) (v := ?vq10) rfl (by kernel_rfl) (by kernel_rfl) (by kernel_rfl) (fun _ _ _ h => h) (Or.inl ⟨by rfl, ?hq10⟩) (by assumption) ?rq10
      case hq10 => (intro w hSw; go_simp; try with_reducible rfl)
      try dsimp only [Act.put, List.getElem_toArray, List.getElem_cons_zero, List.getElem_cons_succ]; try simp only [List.setIfInBounds_toArray, List.set_cons_zero, List.set_cons_succ]
      refine wpAnyH_take (i := 10) (oi := _) (v := ?vq11) rfl (by kernel_rfl) (by kernel_rfl) (by kernel_rfl) (fun _ _ _ h => h) (Or.inl ⟨by rfl, ?hq11⟩) (by assumption) ?rq11
      case hq11 => (intro w hSw; go_simp; try with_reducible rfl)
      try dsimp only [Act.put, List.getElem_toArray, List.getElem_cons_zero, List.getElem_cons_succ]; try simp only [List.setIfInBounds_toArray, List.set_cons_zero, List.set_cons_succ]
      refine wpAnyH_ready (rs := [11]) (by kernel_rfl) (by simp) ?_
      refine AllReadyH.cons (o := _) rfl (fun K hK => ?_) ?_
      · rw [if_pos (by rfl)]
        go_simp
        have hA := (Below.refl wr.drew.heap.size wr.drew).alloc (Nat.le_refl _) (.cells #[.string sp, .string sd] 9)
        have HRD := Lib.hid (Rd.new wr.drew #[.string sp, .string sd] 9)
        have hb : Below wr.heap.size wr ((wr.alloc (.cells #[.string sp, .string sd] 9)).drew) := then_ hb hA
        clear hA
        refine hK.out _ _ ⟨cell_below hb HC0.out, cell_below hb HC1.out⟩ (fun hHeld => ?_)
        clear hK K
        try dsimp only [Act.put, List.getElem_toArray, List.getElem_cons_zero, List.getElem_cons_succ]; try simp only [List.setIfInBounds_toArray, List.set_cons_zero, List.set_cons_succ]
        refine wpAnyH_ready (rs := [12]) (by kernel_rfl) (by simp) ?_
        refine AllReadyH.cons (o := _) rfl (fun K hK => ?_) ?_
        · refine step_app elStr (by rfl) (.tmp 64) (.tmp 75) (by rfl) w8.heap.size u11 u.length (u.map Value.string) (by rfl) (own_below HO.out hb) (some ⟨wr.drew.heap.size, 0, none⟩) 2 2 [.string sp, .string sd] (by rfl) rfl (by exact HRD.out) (by intro u hu; simp at hu; rcases hu with rfl | rfl <;> rfl) (by unfold maxLen; omega) (by omega) (by have h8 := HBL.out.size; have h9 := hb.size; simp at h9 ⊢; omega) ?_
          intro v2 w9 hown2 hbel2 hgrow2 hat2
          have HWF := Lib.hid hown2
          have HBF := Lib.hid ((then_ HBL.out hb).trans hbel2)
          clear hown2 hbel2 hgrow2 hat2
          refine hK.out _ _ ⟨cell_below HBF.out HG0.out, cell_below HBF.out HG1.out⟩ (fun hHeld => ?_)
          clear hK K
          try dsimp only [Act.put, List.getElem_toArray, List.getElem_cons_zero, List.getElem_cons_succ]; try simp only [List.setIfInBounds_toArray, List.set_cons_zero, List.set_cons_succ]
          refine wpAnyH_take (i := 13) (oi := _) (v := ?vq12) rfl (by kernel_rfl) (by kernel_rfl) (by kernel_rfl) (fun _ _ _ h => h) (Or.inl ⟨by rfl, ?hq12⟩) (by assumption) ?rq12
          case hq12 => (intro w hSw; go_simp; try with_reducible rfl)
          try dsimp only [Act.put, List.getElem_toArray, List.getElem_cons_zero, List.getElem_cons_succ]; try simp only [List.setIfInBounds_toArray, List.set_cons_zero, List.set_cons_succ]
          refine wpAnyH_done (by kernel_rfl) ?_ _
          go_wp2
          go_roundw
          case rel => exact ⟨j + 1, by omega, by go_num, Lib.hid (by rw [HS.out, List.length_append, List.map_append]; exact HWF.out), HBF.out⟩
          case measure => simp [intOf]; omega
        exact AllReadyH.nil
      exact AllReadyH.nil
    · have hfull : o.take j = o := List.take_of_length_le (by rw [HN2.out]; omega)
      have hjm : (m : Int) ≤ (j : Int) := by omega
      rw [hfull] at HO
      obtain ⟨A1, c1, hv1⟩ := own_form HO.out
      subst hv1
      have HX := Lib.hid (Rd.of_own HO.out)
      have HSZ := Lib.hid (show 4 * (leavesT o).length + sumSize (leavesT o) + 16 ≤ 1099511627776 by have := leavesT_size o HL2.out.2; have := HN2.out; rw [leavesT_len]; omega)
      have HYZ := Lib.hid (show ∀ s ∈ tT (leavesT o) :: climbT tT hH k (hashT (leavesT o)) way, s.size ≤ 1000000 from y_sizes (by have := leavesT_size o HL2.out.2; have := HN2.out; rw [tT_size, leavesT_len]; omega) HWS.out)
      generalize leavesT o = u at HX HSZ HNC HYZ ⊢
      generalize hul : u.length = ul at HX ⊢
      have HUL := Lib.hid hul
      have HR := Lib.hid (HR.out.below hbel); have HB := Lib.hid (then_ HB.out hbel); have HWY := Lib.hid (HWY.out.below hbel)
      clear HO hbel hfull hlt hul HR2
      rename World => wq
      go_wp2_with fail
      refine (refTexts_any A1 ul c1 u wq HX.out HUL.out (Nat.le_trans HSZ.out (by decide))).mono ?_
      rw [show bs (textsB u) = tT u from rfl]
      rintro e9 y1 ⟨rfl, hb1⟩
      have HSR := Lib.hid (fun W (h : Below wq.heap.size wq W) => shaRef A1 ul c1 u W (HX.out.below h) HUL.out HSZ.out)
      have hz0 := hashT_size u
      generalize hashT u = s0 at HNC HSR hz0 HYZ
      generalize tT u = t0 at HNC HYZ ⊢
      have HZ0 := Lib.hid hz0; have HB1 := Lib.hid hb1; have HZ1 := Lib.hid hb1.size
      clear hb1 hz0
      go_wp2_with (at_builtin; refine wpList_app elStr (by rfl) (.tmp 77) (.tmp 80) (by rfl) wq.heap.size (.slice none 0 0) 0 [] (by rfl) (World.ownsRow_nil _ _ _ _) (some ⟨y1.heap.size, 0, none⟩) 1 1 [.string t0] rfl rfl (Rd.new y1 #[.string t0] _) (by intro u hu; simp at hu; subst hu; rfl) (by unfold maxLen; omega) (by omega) (by have := HZ1.out; simp; omega) ?_; intro v1 y2 hown1 hbel1 _ _; have HO2 := Lib.hid hown1; have HB2 := Lib.hid ((HB1.out.alloc HZ1.out _).trans hbel1); clear hown1 hbel1)
      refine (HSR.out y2 HB2.out).mono ?_
      rintro e9 y3 ⟨rfl, hb3⟩
      have HO3 := Lib.hid (own_below HO2.out hb3); have HB3 := Lib.hid (then_ HB2.out hb3)
      obtain ⟨Y, hY⟩ : ∃ Y, Y = t0 :: climbT tT hH k s0 way := ⟨_, rfl⟩
      rw [← hY] at HNC
      have HY := Lib.hid hY
      clear hb3 hY HSR HX HO2 HB2
      go_wp2
      go_loopw [12, 14, 15, 16] (fun v sv av i wr => ∃ (j q : Nat) (s : ByteArray) (yl : List ByteArray), j ≤ 6 ∧ i = .int .i64 j ∧ av = .int .i64 q ∧ q < 64 ∧ sv = .string s ∧ s.size = 32 ∧ yl.length = j + 1 ∧ Hid (wr.ownsRow wq.heap.size 9 1 v yl.length (yl.map Value.string)) ∧ Hid (yl ++ climbT tT hH q s (way.drop j) = Y) ∧ Below wq.heap.size wq wr) (fun _ _ _ i _ => 6 - (intOf i).toNat)
      case atStart => exact ⟨0, k, s0, [t0], Nat.zero_le _, rfl, rfl, hk64, rfl, HZ0.out, rfl, Lib.hid (by simpa using HO3.out), Lib.hid HY.out.symm, HB3.out⟩
      case round =>
        obtain ⟨j, q, s, yl, hj, rfl, rfl, hq, rfl, hsz, hyl, HO, HC, hbel⟩ := hrel
        by_cases hlt : j < 6
        · have hx : j < way.length := by have := HW6.out; omega
          obtain ⟨b, off, rfl, hcell⟩ := (HWY.out.below hbel).at_ j (by simpa using hx)
          simp only [List.getElem_map] at hcell
          have hoz := HWS.out way[j] (List.getElem_mem hx)
          have HD := Lib.hid (show way.drop j = way[j] :: way.drop (j + 1) from List.drop_eq_getElem_cons hx)
          generalize way[j] = ow at hcell hoz HD
          rw [HD.out, climbT_cons] at HC
          have HBL := Lib.hid hbel
          have HQ2 := Lib.hid (quo_two q); have hq2 := quo_two q
          have hj6 : ((j : Int) < 6) := by omega
          clear hbel HD
          by_cases hev : q % 2 = 0
          · have hP : pairOf q s ow = [s, ow] := by unfold pairOf; rw [if_pos hev]
            rw [hP, hash_of] at HC
            have hdd : ((q : Int).tmod 2 == 1) = false := by rw [rem_two]; simp; omega
            clear hP
            have HRD := Lib.hid (show Rd (wr.alloc (.cells #[.string s, .string ow] 9)) (some ⟨wr.heap.size, 0, none⟩) [.string s, .string ow] from Rd.new wr #[.string s, .string ow] _)
            have HAL := Lib.hid (show Below wr.heap.size wr (wr.alloc (.cells #[.string s, .string ow] 9)) from (Below.refl _ _).alloc (Nat.le_refl _) _)
            have HGZ := Lib.hid (show wr.heap.size < (wr.alloc (.cells #[.string s, .string ow] 9)).heap.size by simp)
            go_wp2_with fail
            refine (refTexts_any (some ⟨wr.heap.size, 0, none⟩) 2 2 [s, ow] _ HRD.out rfl (by simp [sumSize]; omega)).mono ?_
            rw [show bs (textsB [s, ow]) = tT [s, ow] from rfl]
            rintro e9 y4 ⟨rfl, hb4⟩
            have HRD := Lib.hid (HRD.out.below hb4)
            have HO4 := Lib.hid (own_below HO.out (then_ HAL.out hb4)); have HB4 := Lib.hid (then_ HBL.out (then_ HAL.out hb4))
            have HGZ := Lib.hid (Nat.lt_of_lt_of_le HGZ.out hb4.size)
            have HZ4 := Lib.hid HB4.out.size
            have HS2 := Lib.hid (hashT_size [s, ow])
            generalize tT [s, ow] = tp at HC ⊢
            have HSR := Lib.hid (fun W (hrd : Rd W (some ⟨wr.heap.size, 0, none⟩) [.string s, .string ow]) => shaRef (some ⟨wr.heap.size, 0, none⟩) 2 2 [s, ow] W hrd rfl (by simp [sumSize]; omega))
            generalize hashT [s, ow] = sp at HC HS2 HSR
            clear hb4 HAL
            go_wp2_with (at_builtin; refine wpList_app elStr (by rfl) (.tmp 106) (.tmp 109) (by rfl) wq.heap.size _ yl.length _ (by rfl) (HO4.out.alloc _) (some ⟨y4.heap.size, 0, none⟩) 1 1 [.string tp] rfl rfl (Rd.new y4 #[.string tp] _) (by intro u hu; simp at hu; subst hu; rfl) (by unfold maxLen; omega) (by omega) (by have := HZ4.out; simp; omega) ?_; intro v1 y5 hown1 hbel1 hgrow1 hat1; have HRD5 := Lib.hid (rd_block (HRD.out.alloc (.cells #[.string tp] 9)) (hgrow1.block (wr.heap.size) (by have := HGZ.out; simp; omega) (fun e3 => by have := (HO.out.lt _ e3.symm).2; omega))); have HO5 := Lib.hid hown1; have HB5 := Lib.hid ((HB4.out.alloc HZ4.out _).trans hbel1); clear hown1 hbel1 hgrow1 hat1)
            refine (HSR.out y5 HRD5.out).mono ?_
            rintro e9 y6 ⟨rfl, hb6⟩
            have HO6 := Lib.hid (own_below HO5.out hb6); have HB6 := Lib.hid (then_ HB5.out hb6)
            clear hb6 HRD5 HSR
            go_wp2
            go_roundw
            case rel => exact ⟨j + 1, q / 2, sp, yl ++ [tp], by omega, by go_num, by first | rfl | (rw [HQ2.out]), by omega, rfl, HS2.out, by rw [List.length_append]; simp; omega, Lib.hid (by rw [List.length_append, List.map_append]; exact HO6.out), Lib.hid (by rw [List.append_assoc]; exact HC.out), HB6.out⟩
            case measure => simp [intOf]; omega
          · have hP : pairOf q s ow = [ow, s] := by unfold pairOf; rw [if_neg hev]
            rw [hP, hash_of] at HC
            have hdd : ((q : Int).tmod 2 == 1) = true := by rw [rem_two]; simp; omega
            have hcell2 := cell_below ((Below.refl wr.heap.size wr).alloc (Nat.le_refl _) (.cells #[.string s, .string ow] 9)) hcell
            clear hP
            have HRD := Lib.hid (show Rd ((wr.alloc (.cells #[.string s, .string ow] 9)).alloc (.cells #[.string ow, .string s] 9)) (some ⟨wr.heap.size + 1, 0, none⟩) [.string ow, .string s] from (by have := Rd.new (wr.alloc (.cells #[.string s, .string ow] 9)) #[.string ow, .string s] 9; simpa using this))
            have HAL := Lib.hid (show Below wr.heap.size wr ((wr.alloc (.cells #[.string s, .string ow] 9)).alloc (.cells #[.string ow, .string s] 9)) from ((Below.refl _ _).alloc (Nat.le_refl _) _).alloc (by simp) _)
            have HGZ := Lib.hid (show wr.heap.size + 1 < ((wr.alloc (.cells #[.string s, .string ow] 9)).alloc (.cells #[.string ow, .string s] 9)).heap.size by simp)
            go_wp2_with fail
            refine (refTexts_any (some ⟨wr.heap.size + 1, 0, none⟩) 2 2 [ow, s] _ HRD.out rfl (by simp [sumSize]; omega)).mono ?_
            rw [show bs (textsB [ow, s]) = tT [ow, s] from rfl]
            rintro e9 y4 ⟨rfl, hb4⟩
            have HRD := Lib.hid (HRD.out.below hb4)
            have HO4 := Lib.hid (own_below HO.out (then_ HAL.out hb4)); have HB4 := Lib.hid (then_ HBL.out (then_ HAL.out hb4))
            have HGZ := Lib.hid (Nat.lt_of_lt_of_le HGZ.out hb4.size)
            have HZ4 := Lib.hid HB4.out.size
            have HS2 := Lib.hid (hashT_size [ow, s])
            generalize tT [ow, s] = tp at HC ⊢
            have HSR := Lib.hid (fun W (hrd : Rd W (some ⟨wr.heap.size + 1, 0, none⟩) [.string ow, .string s]) => shaRef (some ⟨wr.heap.size + 1, 0, none⟩) 2 2 [ow, s] W hrd rfl (by simp [sumSize]; omega))
            generalize hashT [ow, s] = sp at HC HS2 HSR
            clear hb4 HAL
            go_wp2_with (at_builtin; refine wpList_app elStr (by rfl) (.tmp 106) (.tmp 109) (by rfl) wq.heap.size _ yl.length _ (by rfl) (HO4.out.alloc _) (some ⟨y4.heap.size, 0, none⟩) 1 1 [.string tp] rfl rfl (Rd.new y4 #[.string tp] _) (by intro u hu; simp at hu; subst hu; rfl) (by unfold maxLen; omega) (by omega) (by have := HZ4.out; simp; omega) ?_; intro v1 y5 hown1 hbel1 hgrow1 hat1; have HRD5 := Lib.hid (rd_block (HRD.out.alloc (.cells #[.string tp] 9)) (hgrow1.block (wr.heap.size + 1) (by have := HGZ.out; simp; omega) (fun e3 => by have := (HO.out.lt _ e3.symm).2; omega))); have HO5 := Lib.hid hown1; have HB5 := Lib.hid ((HB4.out.alloc HZ4.out _).trans hbel1); clear hown1 hbel1 hgrow1 hat1)
            refine (HSR.out y5 HRD5.out).mono ?_
            rintro e9 y6 ⟨rfl, hb6⟩
            have HO6 := Lib.hid (own_below HO5.out hb6); have HB6 := Lib.hid (then_ HB5.out hb6)
            clear hb6 HRD5 HSR
            go_wp2
            go_roundw
            case rel => exact ⟨j + 1, q / 2, sp, yl ++ [tp], by omega, by go_num, by first | rfl | (rw [HQ2.out]), by omega, rfl, HS2.out, by rw [List.length_append]; simp; omega, Lib.hid (by rw [List.length_append, List.map_append]; exact HO6.out), Lib.hid (by rw [List.append_assoc]; exact HC.out), HB6.out⟩
            case measure => simp [intOf]; omega
        · have hj6 : (6 : Int) ≤ (j : Int) := by omega
          have HE : Hid (yl = Y) := Lib.hid (by have := HC.out; rw [List.drop_of_length_le (by rw [HW6.out]; omega)] at this; simpa [climbT] using this)
          have hyl2 : yl.length ≤ 7 := by omega
          obtain ⟨A9, c9, hv9⟩ := own_form HO.out
          subst hv9
          have HYR := Lib.hid (Rd.of_own HO.out)
          have HNY : Hid (¬ NoColl (textsF l) yl) := Lib.hid (by rw [HE.out]; exact HNC.out)
          have HYS := Lib.hid (show ∀ s ∈ yl, s.size ≤ 1000000 from by rw [HE.out, HY.out]; exact HYZ.out)
          generalize hyn : yl.length = yn at hyl2 HYR ⊢
          have HYN := Lib.hid hyn
          have HR := Lib.hid (HR.out.below hbel); have HB := Lib.hid (then_ HB.out hbel)
          clear HO HC hbel hyn hlt
          go_wp2_with fail
          refine (texts_any A n c l wr HR.out HN.out hn HL.out.2).mono ?_
          rintro e9 x1 ⟨v1, rfl, hown, hb1⟩
          have HZA := Lib.hid (textsF_size l (by have := HN.out; omega) HL.out.2)
          have HLA := Lib.hid (textsAt_len l (L := 7) (i := 0) (by decide) (by decide))
          rw [show textsAt l 7 0 = textsF l from rfl] at HLA
          generalize textsF l = fa at hown HNY HZA HLA
          obtain ⟨P1, p1, rfl⟩ := own_form hown
          have HXA := Lib.hid (Rd.of_own hown); have HYR := Lib.hid (HYR.out.below hb1)
          have HB := Lib.hid (then_ HB.out hb1)
          clear hb1 hown HR
          go_wp2_with fail
          refine (collide_any P1 fa.length p1 fa A9 yn c9 yl x1 HXA.out rfl (by have := HLA.out; omega) HZA.out HYR.out HYN.out (by omega) HYS.out).mono ?_
          rintro e9 x3 ⟨q, hq, rfl, hb1⟩
          have HB := Lib.hid (then_ HB.out hb1)
          have hqt : q = true := by
            cases q with
            | true => rfl
            | false => exact absurd (hq rfl) HNY.out
          subst hqt
          clear hb1 hq HXA HYR
          go_wp2_with fail
          refine (fin49 w x3 HB.out).mono ?_
          rintro e9 w10 ⟨rfl, hb2⟩
          go_wp2
          go_ret
          exact ⟨rfl, hb2⟩
end Go.Proofs.Ytgmafnpkhmlnnaa
