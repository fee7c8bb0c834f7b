/- The first choice that reaches the best: plain, and what Pick has at hand. -/
import Derived.Test.YtpiinfjcjpdofaaCovE
import Derived.Test.YtpiinfjcjpdofaaInts
import Derived.BigQuiet
namespace Go.Proofs.Ytpiinfjcjpdofaa
open Go.RowKit Go.Mem Go.Cov
set_option linter.unusedVariables false
set_option linter.unusedSimpArgs false

theorem el_int : Elem Try.prog 28 3 1 8 := Elem.of (z := .int .i64 0) Try.underlying28 (by kernel_rfl) rfl (by decide)
def natI (c : List Nat) : List Int := c.map fun (i : Nat) => (i : Int)
theorem natI_len (c : List Nat) : (ints (natI c)).length = c.length := by simp [ints, natI]
theorem natI_snoc (c : List Nat) (k : Nat) : ints (natI (c ++ [k])) = ints (natI c) ++ [.int .i64 (k : Int)] := by simp [ints, natI]
/-- a number more, if it isn't there -/
def ins (p : Int) (L : List Int) : List Int := if p ∈ L then L else p :: L
theorem mem_ins {p z : Int} {L : List Int} : z ∈ ins p L ↔ z ∈ p :: L := by
  unfold ins
  split
  · rename_i h
    rw [List.mem_cons]
    exact ⟨.inr, fun h2 => h2.elim (fun e => e ▸ h) id⟩
  · rfl
theorem ins_nodup {p : Int} {L : List Int} (h : L.Nodup) : (ins p L).Nodup := by
  unfold ins
  split
  · exact h
  · rename_i h2; exact List.nodup_cons.2 ⟨h2, h⟩
theorem ins_len (p : Int) (L : List Int) : ((ins p L).length : Int) = L.length + one L p := by
  unfold ins one
  split <;> simp
theorem ins_len_le (p : Int) (L : List Int) : L.length ≤ (ins p L).length ∧ (ins p L).length ≤ L.length + 1 := by
  unfold ins
  split <;> simp
theorem put_ins (p : Int) (L : List Int) : put (seenF L) p 1 = seenF (ins p L) := by rw [seenF_put]; exact (seenF_congr fun v => mem_ins).symm
theorem del_ins {p : Int} {L : List Int} (h : p ∉ L) : del (seenF (ins p L)) p = seenF L := by
  funext v
  unfold del seenF
  by_cases e : v = p
  · rw [if_pos e, if_neg (e ▸ h)]
  · rw [if_neg e]
    by_cases e2 : v ∈ L
    · rw [if_pos e2, if_pos (mem_ins.2 (List.mem_cons_of_mem _ e2))]
    · rw [if_neg e2, if_neg (fun h2 => e2 ((List.mem_cons.1 (mem_ins.1 h2)).resolve_left e))]
theorem ins_in {p : Int} {L : List Int} (h : p ∈ L) : ins p L = L := if_pos h
theorem firstC_congr {l : List Pair} {m : Nat} {a b : Int} {L R L' R' : List Int} (hL : ∀ z, z ∈ L ↔ z ∈ L') (hR : ∀ z, z ∈ R ↔ z ∈ R') : firstC l m a b L R = firstC l m a b L' R' := by
  unfold firstC
  have : okc l a b L R = okc l a b L' R' := by
    funext c
    unfold okc
    rw [show nl L (sel l c) = nl L' (sel l c) from cn_congr hL fun _ _ => Iff.rfl, show nr R (sel l c) = nr R' (sel l c) from cn_congr hR fun _ _ => Iff.rfl]
  rw [this]
/-- what was picked of the first k, and that the rest can do what is left -/
structure Pi (l : List Pair) (m x y k : Nat) (out : List Nat) (L R : List Int) : Prop where
  hk : k ≤ l.length
  ho : out.length ≤ m
  does : Does (l.drop k) ((m - out.length : Nat) : Int) ((x : Int) - L.length) ((y : Int) - R.length) L R
  first : firstC l m x y [] [] = (firstC (l.drop k) (m - out.length) ((x : Int) - L.length) ((y : Int) - R.length) L R).map fun c => out ++ c.map (· + k)
  ndl : L.Nodup
  ndr : R.Nodup
theorem Pi.start {l : List Pair} {m x y : Nat} (h : Best l m x y) : Pi l m x y 0 [] [] [] :=
  ⟨Nat.zero_le _, Nat.zero_le _, by simpa using best_does h, by
    simp only [List.drop_zero, List.length_nil, Nat.sub_zero, List.nil_append, Nat.add_zero]
    rw [show (fun c : List Nat => List.map (fun x => x) c) = id by funext c; simp]
    simp, List.nodup_nil, List.nodup_nil⟩
theorem Pi.take {l : List Pair} {m x y k : Nat} {out : List Nat} {L R : List Int} (h : Pi l m x y k out L R) (hk : k < l.length) (ho : out.length < m)
    (hd : Does (l.drop (k + 1)) ((m - (out ++ [k]).length : Nat) : Int) ((x : Int) - (ins l[k].1 L).length) ((y : Int) - (ins l[k].2 R).length) (ins l[k].1 L) (ins l[k].2 R)) : Pi l m x y (k + 1) (out ++ [k]) (ins l[k].1 L) (ins l[k].2 R) := by
  have e1 : m - (out ++ [k]).length = m - out.length - 1 := by rw [List.length_append]; simp; omega
  have e2 : m - out.length = (m - out.length - 1) + 1 := by omega
  refine ⟨hk, by rw [List.length_append]; simp; omega, hd, ?_, ins_nodup h.ndl, ins_nodup h.ndr⟩
  have hd2 : Does (l.drop (k + 1)) ((m - out.length - 1 : Nat) : Int) (((x : Int) - L.length) - one L l[k].1) (((y : Int) - R.length) - one R l[k].2) (l[k].1 :: L) (l[k].2 :: R) := by
    rw [e1, ins_len, ins_len] at hd
    rw [Int.sub_sub, Int.sub_sub]
    exact does_congr (fun z => mem_ins) (fun z => mem_ins) hd
  rw [h.first, List.drop_eq_getElem_cons hk, e2, firstC_take hd2, Option.map_map, e1, ins_len, ins_len, ← Int.sub_sub, ← Int.sub_sub, firstC_congr (L := l[k].1 :: L) (R := l[k].2 :: R) (fun z => mem_ins.symm) (fun z => mem_ins.symm)]
  congr 1
  funext c
  simp [Function.comp_def, List.map_map, Nat.add_comm, Nat.add_left_comm]
theorem Pi.skip {l : List Pair} {m x y k : Nat} {out : List Nat} {L R : List Int} (h : Pi l m x y k out L R) (hk : k < l.length) (ho : out.length < m)
    (hd : ¬ Does (l.drop (k + 1)) ((m - (out ++ [k]).length : Nat) : Int) ((x : Int) - (ins l[k].1 L).length) ((y : Int) - (ins l[k].2 R).length) (ins l[k].1 L) (ins l[k].2 R)) : Pi l m x y (k + 1) out L R := by
  have e1 : m - (out ++ [k]).length = m - out.length - 1 := by rw [List.length_append]; simp; omega
  have e2 : m - out.length = (m - out.length - 1) + 1 := by omega
  have hd2 : ¬ Does (l.drop (k + 1)) ((m - out.length - 1 : Nat) : Int) (((x : Int) - L.length) - one L l[k].1) (((y : Int) - R.length) - one R l[k].2) (l[k].1 :: L) (l[k].2 :: R) := fun h2 => hd (by
    rw [e1, ins_len, ins_len]
    rw [Int.sub_sub, Int.sub_sub] at h2
    exact does_congr (fun z => mem_ins.symm) (fun z => mem_ins.symm) h2)
  have hdo := h.does
  rw [List.drop_eq_getElem_cons hk, e2] at hdo
  refine ⟨hk, h.ho, by rw [e2]; exact does_skip hdo hd2, ?_, h.ndl, h.ndr⟩
  rw [h.first, List.drop_eq_getElem_cons hk, e2, firstC_skip hd2, Option.map_map]
  congr 1
  funext c
  simp [Function.comp_def, List.map_map, Nat.add_comm, Nat.add_left_comm]
theorem Pi.done {l : List Pair} {m x y k : Nat} {out : List Nat} {L R : List Int} (h : Pi l m x y k out L R) (ho : out.length = m) : firstC l m x y [] [] = some out := by
  have hd := h.does
  rw [h.first]
  rw [show m - out.length = 0 by omega] at hd ⊢
  rw [firstC_zero hd]; simp
theorem Pi.ends {l : List Pair} {m x y : Nat} {out : List Nat} {L R : List Int} (h : Pi l m x y l.length out L R) : out.length = m := by
  have hd := h.does
  rw [List.drop_length] at hd
  have := does_nil hd
  have := h.ho
  omega
/-- the order of the blocks that Pick makes -/
def Ord (s ql qm qa qb qo lb rb bl br base : Nat) : Prop := s ≤ ql ∧ ql < qm ∧ qm < qa ∧ qa < qb ∧ qb < qo ∧ qo < lb ∧ lb < rb ∧ rb < bl ∧ bl < br ∧ br < base
/-- what Pick has at hand -/
structure Pk (w0 : World) (A : Option Addr) (n c : Nat) (l : List Pair) (m x y ql qm qa qb qo lb rb bl br base : Nat) (out : List Nat) (L R : List Int) (w : World) : Prop where
  bel : Below w0.heap.size w0 w
  sz : base ≤ w.heap.size
  cl : w.cell? ⟨ql, 0, none⟩ = some (.slice A n c)
  cm : w.cell? ⟨qm, 0, none⟩ = some (.int .i64 (m : Int))
  ca : w.cell? ⟨qa, 0, none⟩ = some (.int .i64 (x : Int))
  cb : w.cell? ⟨qb, 0, none⟩ = some (.int .i64 (y : Int))
  cbl : w.cell? ⟨bl, 0, none⟩ = some (.map (some lb))
  cbr : w.cell? ⟨br, 0, none⟩ = some (.map (some rb))
  bo : ∃ v, w.heap[qo]? = some (.cells #[v] 28 (0, 0)) ∧ w.ownsRow base 3 1 v out.length (ints (natI out))
  rd0 : Rd w0 A (prc l)
  ml : MZ w lb (seenF L) (l.map (·.1))
  mr : MZ w rb (seenF R) (l.map (·.2))
section
variable {w0 w w' : World} {A : Option Addr} {n c : Nat} {l : List Pair} {m x y ql qm qa qb qo lb rb bl br base : Nat} {out : List Nat} {L R L' R' : List Int}
theorem pk_cell_at {W : World} {q : Nat} {v : Value} {t : TypeId} (h : W.heap[q]? = some (.cells #[v] t (0, 0))) : W.cell? ⟨q, 0, none⟩ = some v := by simp [World.cell?, h]
theorem pk_froz_at {W : World} {q : Nat} {v : Value} {t : TypeId} (h : W.heap[q]? = some (.cells #[v] t (0, 0))) : W.frozen? ⟨q, 0, none⟩ = false := by simp [World.frozen?, h]
theorem pk_set_at {W : World} {q : Nat} {v : Value} {t : TypeId} (h : W.heap[q]? = some (.cells #[v] t (0, 0))) (u : Value) : (W.setCell ⟨q, 0, none⟩ u).heap[q]? = some (.cells #[u] t (0, 0)) := by
  simp [World.setCell, Array.getElem?_modify, h]
theorem pk_lt {W : World} {q : Nat} {o : Obj} (h : W.heap[q]? = some o) : q < W.heap.size := (Array.getElem?_eq_some_iff.1 h).1
theorem Pk.below (h : Pk w0 A n c l m x y ql qm qa qb qo lb rb bl br base out L R w) (hb : Below w.heap.size w w') : Pk w0 A n c l m x y ql qm qa qb qo lb rb bl br base out L R w' := by
  obtain ⟨v, h1, h2⟩ := h.bo
  exact ⟨then_ h.bel hb, Nat.le_trans h.sz hb.size, cell_below hb h.cl, cell_below hb h.cm, cell_below hb h.ca, cell_below hb h.cb, cell_below hb h.cbl, cell_below hb h.cbr, ⟨v, (hb.block qo (pk_lt h1)).trans h1, own_below h2 hb⟩, h.rd0, h.ml.block (hb.block _ h.ml.lt), h.mr.block (hb.block _ h.mr.lt)⟩
/-- the maps have turned -/
theorem Pk.maps (h : Pk w0 A n c l m x y ql qm qa qb qo lb rb bl br base out L R w) (ho : Ord w0.heap.size ql qm qa qb qo lb rb bl br base) (ht : Turn w.heap.size (fun k => k = lb ∨ k = rb) w w') (hl : MZ w' lb (seenF L') (l.map (·.1))) (hr : MZ w' rb (seenF R') (l.map (·.2))) :
    Pk w0 A n c l m x y ql qm qa qb qo lb rb bl br base out L' R' w' := by
  have key : ∀ p u, w.cell? p = some u → w'.cell? p = some u := fun p u hc => ht.cell (by
    rintro (e | e)
    · exact h.ml.no_cell hc e
    · exact h.mr.no_cell hc e) hc
  unfold Ord at ho
  obtain ⟨v, h1, h2⟩ := h.bo
  have hq : w'.heap[qo]? = w.heap[qo]? := ht.block qo (pk_lt h1) (by rintro (e | e) <;> omega)
  refine ⟨below_of_turn h.bel ht (by omega) (by omega), Nat.le_trans h.sz ht.size, key _ _ h.cl, key _ _ h.cm, key _ _ h.ca, key _ _ h.cb, key _ _ h.cbl, key _ _ h.cbr, ⟨v, hq.trans h1, ?_⟩, h.rd0, hl, hr⟩
  refine ⟨h2.1, ?_⟩
  rcases h2.2 with h3 | ⟨g, cap, cur, e1, e2, e3, e4⟩
  · exact .inl h3
  · exact .inr ⟨g, cap, cur, e1, e2, (ht.block g (pk_lt e3) (by rintro (e | e) <;> omega)).trans e3, e4⟩
/-- the list has turned -/
theorem Pk.set (h : Pk w0 A n c l m x y ql qm qa qb qo lb rb bl br base out L R w) (ho : Ord w0.heap.size ql qm qa qb qo lb rb bl br base) (hb : Below base w w') {out' : List Nat} {v : Value} (hown : w'.ownsRow base 3 1 v out'.length (ints (natI out'))) :
    Pk w0 A n c l m x y ql qm qa qb qo lb rb bl br base out' L R (w'.setCell ⟨qo, 0, none⟩ v) := by
  obtain ⟨v0, h1, h2⟩ := h.bo
  unfold Ord at ho
  have hk : ∀ q, q ≠ qo → q < base → (w'.setCell ⟨qo, 0, none⟩ v).heap[q]? = w.heap[q]? := fun q hne hlt => (Below.heap_setCell w' ⟨qo, 0, none⟩ v q hne).trans (hb.block q hlt)
  have hbw : Below w0.heap.size w0 w' := h.bel.trans (hb.mono (by omega))
  have hc : ∀ q u, q ≠ qo → q < base → w.cell? ⟨q, 0, none⟩ = some u → (w'.setCell ⟨qo, 0, none⟩ v).cell? ⟨q, 0, none⟩ = some u := fun q u h3 h4 h5 => (World.cell?_of_block (a := ⟨q, 0, none⟩) (hk q h3 h4)).trans h5
  have hs := hown.lt
  refine ⟨hbw.setCell (p := ⟨qo, 0, none⟩) (by show w0.heap.size ≤ qo; omega) _, Nat.le_trans h.sz (Nat.le_trans hb.size ((Below.refl qo w').setCell (p := ⟨qo, 0, none⟩) (Nat.le_refl _) v).size), hc _ _ (by omega) (by omega) h.cl, hc _ _ (by omega) (by omega) h.cm, hc _ _ (by omega) (by omega) h.ca, hc _ _ (by omega) (by omega) h.cb, hc _ _ (by omega) (by omega) h.cbl, hc _ _ (by omega) (by omega) h.cbr, ⟨v, pk_set_at ((hb.block qo (by omega)).trans h1) v, ?_⟩, h.rd0, h.ml.block (hk _ (by omega) (by omega)), h.mr.block (hk _ (by omega) (by omega))⟩
  exact ownsRow_setCell_other (a := ⟨qo, 0, none⟩) hown (fun e2 => by have h9 := (hown.lt _ e2).1; change base ≤ qo at h9; omega) v
theorem Pk.rd (h : Pk w0 A n c l m x y ql qm qa qb qo lb rb bl br base out L R w) : Rd w A (prc l) := h.rd0.below h.bel
/-- one less -/
theorem own_pop {W : World} {base : Nat} {e : TypeId} {A : Option Addr} {n c : Nat} {xs : List Value} {u : Value} (h : W.ownsRow base e 1 (.slice A (n + 1) c) (n + 1) (xs ++ [u])) : W.ownsRow base e 1 (.slice A n c) n xs ∧ n + 1 ≤ c := by
  obtain ⟨h1, h2 | ⟨g, cap, cur, e1, e2, e3, e4, e5, e6, e7⟩⟩ := h
  · exact absurd h2.2 (by omega)
  · injection e1 with e1 _ e8
    subst e1 e8
    have hx : xs.length = n := by rw [List.length_append] at h1; simp at h1; omega
    refine ⟨⟨by omega, .inr ⟨g, c, cur, rfl, e2, e3, by omega, e5, e6, ?_⟩⟩, e4⟩
    rw [Nat.mul_one] at e7 ⊢
    have := congrArg (List.take n) e7
    rw [List.take_take, Nat.min_eq_left (Nat.le_succ n), List.take_append_of_le_length (Nat.le_of_eq hx.symm), List.take_of_length_le (Nat.le_of_eq hx)] at this
    exact this
end
theorem prc_drop {w : World} {b off : Nat} {l : List Pair} (h : Rd w (some ⟨b, off, none⟩) (prc l)) (k : Nat) : Rd w (some ⟨b, off + k * 2, none⟩) (prc (l.drop k)) := by
  have hsplit : prc l = prc (l.take k) ++ prc (l.drop k) := by
    unfold prc; rw [← List.flatMap_append, List.take_append_drop]
  by_cases hk : k ≤ l.length
  · have hl : (prc (l.take k)).length = k * 2 := by rw [prc_len, List.length_take, Nat.min_eq_left hk, Nat.mul_comm]
    intro j u hj
    refine ⟨b, off + k * 2, rfl, ?_⟩
    obtain ⟨b1, o1, e1, h2⟩ := h (k * 2 + j) u (by rw [hsplit, List.getElem?_append_right (by omega), hl]; simpa using hj)
    injection e1 with e1; injection e1 with e1 e2; subst e1 e2
    rw [Nat.add_assoc]; exact h2
  · rw [List.drop_eq_nil_of_le (by omega)]
    exact Rd.nil
theorem okP_drop {l : List Pair} (h : okP l) (k : Nat) : okP (l.drop k) := fun p hp => h p (List.mem_of_mem_drop hp)
theorem seen_count {w : World} {b : Nat} {L X : List Int} (h : MZ w b (seenF L) X) (hn : L.Nodup) (ty : TypeId) : (Builtin.len_ #[75] ty #[.map (some b)]).run Try.prog w = .ok (.int .i64 (L.length : Int)) w :=
  h.count hn (fun v => seenF_some) ty
def capsP (ql qm qa qb qo bl br : Nat) : Array Value := #[.pointer (some ⟨ql, 0, none⟩), .pointer (some ⟨qm, 0, none⟩), .pointer (some ⟨qo, 0, none⟩), .pointer (some ⟨qa, 0, none⟩), .pointer (some ⟨bl, 0, none⟩), .pointer (some ⟨qb, 0, none⟩), .pointer (some ⟨br, 0, none⟩)]
set_option maxRecDepth 100000 in
set_option maxHeartbeats 8000000 in
theorem possible_any (w0 : World) (b off n c : Nat) (l : List Pair) (m x y ql qm qa qb qo lb rb bl br base : Nat) (out : List Nat) (L R : List Int) (k : Nat) (hn : l.length = n) (hm : n ≤ 1000) (hc : n ≤ c) (hc2 : c ≤ maxLen) (hok : okP l) (hk : k ≤ n) (hml : m ≤ 1000) (hxl : x ≤ 1000) (hyl : y ≤ 1000) (hol : out.length ≤ 1000)
    (hll : L.length ≤ 1001) (hrl : R.length ≤ 1001) (hnl : L.Nodup) (hnr : R.Nodup) (w : World) (h : Pk w0 (some ⟨b, off, none⟩) n c l m x y ql qm qa qb qo lb rb bl br base out L R w) :
    Calls Try.prog 52 #[.int .i64 (k : Int), .pointer (some ⟨ql, 0, none⟩), .pointer (some ⟨qm, 0, none⟩), .pointer (some ⟨qo, 0, none⟩), .pointer (some ⟨qa, 0, none⟩), .pointer (some ⟨bl, 0, none⟩), .pointer (some ⟨qb, 0, none⟩), .pointer (some ⟨br, 0, none⟩)] w
      fun e w' => e = .returned (.bool (doesB (l.drop k) ((m : Int) - out.length) ((x : Int) - L.length) ((y : Int) - R.length) L R)) ∧ Below w.heap.size w w' := by
  have HC := Lib.hid (fun W (hb : Below w.heap.size w W) => can_any (if c = k then some ⟨b, off, none⟩ else some ⟨b, off + k * 2, none⟩) (n - k) (c - k) (l.drop k) ((m : Int) - out.length) ((x : Int) - L.length) ((y : Int) - R.length) L R (.map (some lb)) (.map (some rb)) (by rw [List.length_drop, hn]) (by omega) (okP_drop hok k)
    W (by
      split
      · rw [List.drop_eq_nil_of_le (by omega)]; exact Rd.nil
      · exact prc_drop (h.below hb).rd k) (.inr ⟨_, _, rfl, (h.below hb).ml⟩) (.inr ⟨_, _, rfl, (h.below hb).mr⟩))
  generalize doesB (l.drop k) ((m : Int) - out.length) ((x : Int) - L.length) ((y : Int) - R.length) L R = q at HC ⊢
  obtain ⟨v, ho1, ho2⟩ := h.bo
  obtain ⟨Ao, co, rfl⟩ := own_form ho2
  have hco := pk_cell_at ho1
  have HS := Lib.hid (fun W (hb : Below w.heap.size w W) => (let H := h.below hb; ⟨H.cl, H.cm, cell_below hb hco, H.ca, H.cbl, H.cb, H.cbr, seen_count H.ml hnl, seen_count H.mr hnr⟩ : W.cell? ⟨ql, 0, none⟩ = some (.slice (some ⟨b, off, none⟩) n c) ∧ W.cell? ⟨qm, 0, none⟩ = some (.int .i64 (m : Int)) ∧ W.cell? ⟨qo, 0, none⟩ = some (.slice Ao out.length co) ∧ W.cell? ⟨qa, 0, none⟩ = some (.int .i64 (x : Int)) ∧ W.cell? ⟨bl, 0, none⟩ = some (.map (some lb)) ∧ W.cell? ⟨qb, 0, none⟩ = some (.int .i64 (y : Int)) ∧ W.cell? ⟨br, 0, none⟩ = some (.map (some rb)) ∧
    (∀ ty, (Builtin.len_ #[75] ty #[.map (some lb)]).run Try.prog W = .ok (.int .i64 (L.length : Int)) W) ∧ (∀ ty, (Builtin.len_ #[75] ty #[.map (some rb)]).run Try.prog W = .ok (.int .i64 (R.length : Int)) W)))
  generalize out.length = ol at HC HS hol
  generalize L.length = ll at HC HS hll
  generalize R.length = rl at HC HS hrl
  clear h hok ho1 ho2 hco hnl hnr hn
  unfold maxLen at hc2
  have hkn : (k : Int) ≤ (n : Int) := by omega
  have hkc : (k : Int) ≤ (c : Int) := by omega
  have hk0 : (0 : Int) ≤ (k : Int) := by omega
  by_cases hck : c = k
  · subst hck
    have HC2 := Lib.hid (fun W hb => by have h9 := HC.out W hb; simp only [Nat.sub_self, Nat.sub_eq_zero_of_le hc, ↓reduceIte] at h9; exact h9)
    clear HC
    go_enter Try.func52, Try.ntmps52
    go_wp2_with fail
    have hb : Below w.heap.size w w.drew := (Below.refl _ _).drew
    refine wp_region_held_drew (S := (fun W => W.cell? ⟨ql, 0, none⟩ = some (.slice (some ⟨b, off, none⟩) n c) ∧ W.cell? ⟨qm, 0, none⟩ = some (.int .i64 (m : Int)) ∧ W.cell? ⟨qo, 0, none⟩ = some (.slice Ao ol co) ∧ W.cell? ⟨qa, 0, none⟩ = some (.int .i64 (x : Int)) ∧ W.cell? ⟨bl, 0, none⟩ = some (.map (some lb)) ∧ W.cell? ⟨qb, 0, none⟩ = some (.int .i64 (y : Int)) ∧ W.cell? ⟨br, 0, none⟩ = some (.map (some rb)) ∧ (∀ ty, (Builtin.len_ #[75] ty #[.map (some lb)]).run Try.prog W = .ok (.int .i64 (ll : Int)) W) ∧ (∀ ty, (Builtin.len_ #[75] ty #[.map (some rb)]).run Try.prog W = .ok (.int .i64 (rl : Int)) W))) (by kernel_rfl) (HS.out _ hb) (fun hHeld => ?_)
    refine wpAnyH_take (i := 0) (oi := _) (v := ?vq1) rfl (by kernel_rfl) (by kernel_rfl) (by kernel_rfl) (fun _ _ _ h => h) (Or.inl ⟨by rfl, ?hq1⟩) (by assumption) ?rq1
    case hq1 => (intro w hSw; go_simp; try with_reducible rfl)
    try dsimp only [Act.put, List.getElem_toArray, List.getElem_cons_zero, List.getElem_cons_succ]; try simp only [List.setIfInBounds_toArray, List.set_cons_zero, List.set_cons_succ]
    refine wpAnyH_take (i := 1) (oi := _) (v := ?vq2) rfl (by kernel_rfl) (by kernel_rfl) (by kernel_rfl) (fun _ _ _ h => h) (Or.inl ⟨by rfl, ?hq2⟩) (by assumption) ?rq2
    case hq2 => (intro w hSw; go_simp; try with_reducible rfl)
    try dsimp only [Act.put, List.getElem_toArray, List.getElem_cons_zero, List.getElem_cons_succ]; try simp only [List.setIfInBounds_toArray, List.set_cons_zero, List.set_cons_succ]
    refine wpAnyH_take (i := 2) (oi := _) (v := ?vq3) rfl (by kernel_rfl) (by kernel_rfl) (by kernel_rfl) (fun _ _ _ h => h) (Or.inl ⟨by rfl, ?hq3⟩) (by assumption) ?rq3
    case hq3 => (intro w hSw; go_simp; try with_reducible rfl)
    try dsimp only [Act.put, List.getElem_toArray, List.getElem_cons_zero, List.getElem_cons_succ]; try simp only [List.setIfInBounds_toArray, List.set_cons_zero, List.set_cons_succ]
    refine wpAnyH_take (i := 3) (oi := _) (v := ?vq4) rfl (by kernel_rfl) (by kernel_rfl) (by kernel_rfl) (fun _ _ _ h => h) (Or.inl ⟨by rfl, ?hq4⟩) (by assumption) ?rq4
    case hq4 => (intro w hSw; go_simp; try with_reducible rfl)
    try dsimp only [Act.put, List.getElem_toArray, List.getElem_cons_zero, List.getElem_cons_succ]; try simp only [List.setIfInBounds_toArray, List.set_cons_zero, List.set_cons_succ]
    refine wpAnyH_take (i := 4) (oi := _) (v := ?vq5) rfl (by kernel_rfl) (by kernel_rfl) (by kernel_rfl) (fun _ _ _ h => h) (Or.inl ⟨by rfl, ?hq5⟩) (by assumption) ?rq5
    case hq5 => (intro w hSw; go_simp; try with_reducible rfl)
    try dsimp only [Act.put, List.getElem_toArray, List.getElem_cons_zero, List.getElem_cons_succ]; try simp only [List.setIfInBounds_toArray, List.set_cons_zero, List.set_cons_succ]
    refine wpAnyH_take (i := 5) (oi := _) (v := ?vq6) rfl (by kernel_rfl) (by kernel_rfl) (by kernel_rfl) (fun _ _ _ h => h) (Or.inl ⟨by rfl, ?hq6⟩) (by assumption) ?rq6
    case hq6 => (intro w hSw; go_simp; try with_reducible rfl)
    try dsimp only [Act.put, List.getElem_toArray, List.getElem_cons_zero, List.getElem_cons_succ]; try simp only [List.setIfInBounds_toArray, List.set_cons_zero, List.set_cons_succ]
    refine wpAnyH_take (i := 6) (oi := _) (v := ?vq7) rfl (by kernel_rfl) (by kernel_rfl) (by kernel_rfl) (fun _ _ _ h => h) (Or.inl ⟨by rfl, ?hq7⟩) (by assumption) ?rq7
    case hq7 => (intro w hSw; go_simp; try with_reducible rfl)
    try dsimp only [Act.put, List.getElem_toArray, List.getElem_cons_zero, List.getElem_cons_succ]; try simp only [List.setIfInBounds_toArray, List.set_cons_zero, List.set_cons_succ]
    refine wpAnyH_take (i := 7) (oi := _) (v := ?vq8) rfl (by kernel_rfl) (by kernel_rfl) (by kernel_rfl) (fun _ _ _ h => h) (Or.inl ⟨by rfl, ?hq8⟩) (by assumption) ?rq8
    case hq8 => (intro w hSw; go_simp; try with_reducible rfl)
    try dsimp only [Act.put, List.getElem_toArray, List.getElem_cons_zero, List.getElem_cons_succ]; try simp only [List.setIfInBounds_toArray, List.set_cons_zero, List.set_cons_succ]
    refine wpAnyH_take (i := 8) (oi := _) (v := ?vq9) rfl (by kernel_rfl) (by kernel_rfl) (by kernel_rfl) (fun _ _ _ h => h) (Or.inl ⟨by rfl, ?hq9⟩) (by assumption) ?rq9
    case hq9 => (intro w hSw; go_simp; try with_reducible rfl)
    try dsimp only [Act.put, List.getElem_toArray, List.getElem_cons_zero, List.getElem_cons_succ]; try simp only [List.setIfInBounds_toArray, List.set_cons_zero, List.set_cons_succ]
    refine wpAnyH_take (i := 9) (oi := _) (v := ?vq10) rfl (by kernel_rfl) (by kernel_rfl) (by kernel_rfl) (fun _ _ _ h => h) (Or.inl ⟨by rfl, ?hq10⟩) (by assumption) ?rq10
    case hq10 => (intro w hSw; go_simp; try with_reducible rfl)
    try dsimp only [Act.put, List.getElem_toArray, List.getElem_cons_zero, List.getElem_cons_succ]; try simp only [List.setIfInBounds_toArray, List.set_cons_zero, List.set_cons_succ]
    refine wpAnyH_take (i := 10) (oi := _) (v := ?vq11) rfl (by kernel_rfl) (by kernel_rfl) (by kernel_rfl) (fun _ _ _ h => h) (Or.inl ⟨by rfl, ?hq11⟩) (by assumption) ?rq11
    case hq11 => (intro w hSw; go_simp; try with_reducible rfl)
    try dsimp only [Act.put, List.getElem_toArray, List.getElem_cons_zero, List.getElem_cons_succ]; try simp only [List.setIfInBounds_toArray, List.set_cons_zero, List.set_cons_succ]
    refine wpAnyH_take (i := 11) (oi := _) (v := ?vq12) rfl (by kernel_rfl) (by kernel_rfl) (by kernel_rfl) (fun _ _ _ h => h) (Or.inl ⟨by rfl, ?hq12⟩) (by assumption) ?rq12
    case hq12 => (intro w hSw; go_simp; try with_reducible rfl)
    try dsimp only [Act.put, List.getElem_toArray, List.getElem_cons_zero, List.getElem_cons_succ]; try simp only [List.setIfInBounds_toArray, List.set_cons_zero, List.set_cons_succ]
    refine wpAnyH_take (i := 12) (oi := _) (v := ?vq13) rfl (by kernel_rfl) (by kernel_rfl) (by kernel_rfl) (fun _ _ _ h => h) (Or.inl ⟨by rfl, ?hq13⟩) (by assumption) ?rq13
    case hq13 => (intro w hSw; go_simp; try with_reducible rfl)
    try dsimp only [Act.put, List.getElem_toArray, List.getElem_cons_zero, List.getElem_cons_succ]; try simp only [List.setIfInBounds_toArray, List.set_cons_zero, List.set_cons_succ]
    refine wpAnyH_take (i := 13) (oi := _) (v := ?vq14) rfl (by kernel_rfl) (by kernel_rfl) (by kernel_rfl) (fun _ _ _ h => h) (Or.inl ⟨by rfl, ?hq14⟩) (by assumption) ?rq14
    case hq14 => (intro w hSw; go_simp; try with_reducible rfl)
    try dsimp only [Act.put, List.getElem_toArray, List.getElem_cons_zero, List.getElem_cons_succ]; try simp only [List.setIfInBounds_toArray, List.set_cons_zero, List.set_cons_succ]
    refine wpAnyH_take (i := 14) (oi := _) (v := ?vq15) rfl (by kernel_rfl) (by kernel_rfl) (by kernel_rfl) (fun _ _ _ h => h) (Or.inl ⟨by rfl, ?hq15⟩) (by assumption) ?rq15
    case hq15 => (intro w hSw; go_simp; try with_reducible rfl)
    try dsimp only [Act.put, List.getElem_toArray, List.getElem_cons_zero, List.getElem_cons_succ]; try simp only [List.setIfInBounds_toArray, List.set_cons_zero, List.set_cons_succ]
    refine wpAnyH_take (i := 15) (oi := _) (v := ?vq16) rfl (by kernel_rfl) (by kernel_rfl) (by kernel_rfl) (fun _ _ _ h => h) (Or.inl ⟨by rfl, ?hq16⟩) (by assumption) ?rq16
    case hq16 => (intro w hSw; go_simp; try with_reducible rfl)
    try dsimp only [Act.put, List.getElem_toArray, List.getElem_cons_zero, List.getElem_cons_succ]; try simp only [List.setIfInBounds_toArray, List.set_cons_zero, List.set_cons_succ]
    refine wpAnyH_take (i := 16) (oi := _) (v := ?vq17) rfl (by kernel_rfl) (by kernel_rfl) (by kernel_rfl) (fun _ _ _ h => h) (Or.inl ⟨by rfl, ?hq17⟩) (by assumption) ?rq17
    case hq17 => (intro w hSw; go_simp; try with_reducible rfl)
    try dsimp only [Act.put, List.getElem_toArray, List.getElem_cons_zero, List.getElem_cons_succ]; try simp only [List.setIfInBounds_toArray, List.set_cons_zero, List.set_cons_succ]
    refine wpAnyH_ready (rs := [17]) (by kernel_rfl) (by simp) ?_
    refine AllReadyH.cons (o := _) rfl (fun K hK => ?_) ?_
    · rw [if_pos (by rfl)]
      go_simp
      rw [show IntKind.i64.wrap ((m : Int) - (ol : Int)) = (m : Int) - (ol : Int) from IntWalk.i64_in _ (by omega), show IntKind.i64.wrap ((x : Int) - (ll : Int)) = (x : Int) - (ll : Int) from IntWalk.i64_in _ (by omega), show IntKind.i64.wrap ((y : Int) - (rl : Int)) = (y : Int) - (rl : Int) from IntWalk.i64_in _ (by omega)]
      refine (HC2.out _ hb).mono ?_
      rintro e wx ⟨rfl, hbx⟩
      have hb := then_ hb hbx
      clear hbx
      go_wp2_with fail
      refine hK.out _ _ (HS.out _ hb) (fun hHeld => ?_)
      clear hK K
      try dsimp only [Act.put, List.getElem_toArray, List.getElem_cons_zero, List.getElem_cons_succ]; try simp only [List.setIfInBounds_toArray, List.set_cons_zero, List.set_cons_succ]
      refine wpAnyH_take (i := 18) (oi := _) (v := ?vq18) rfl (by kernel_rfl) (by kernel_rfl) (by kernel_rfl) (fun _ _ _ h => h) (Or.inl ⟨by rfl, ?hq18⟩) (by assumption) ?rq18
      case hq18 => (intro w hSw; go_simp; try with_reducible rfl)
      try dsimp only [Act.put, List.getElem_toArray, List.getElem_cons_zero, List.getElem_cons_succ]; try simp only [List.setIfInBounds_toArray, List.set_cons_zero, List.set_cons_succ]
      refine wpAnyH_done (by kernel_rfl) ?_ _
      go_wp2
      go_ret
      exact ⟨rfl, hb⟩
    exact AllReadyH.nil
  · have HC2 := Lib.hid (fun W hb => by have h9 := HC.out W hb; rw [if_neg hck] at h9; exact h9)
    clear HC
    go_enter Try.func52, Try.ntmps52
    go_wp2_with fail
    have hb : Below w.heap.size w w.drew := (Below.refl _ _).drew
    refine wp_region_held_drew (S := (fun W => W.cell? ⟨ql, 0, none⟩ = some (.slice (some ⟨b, off, none⟩) n c) ∧ W.cell? ⟨qm, 0, none⟩ = some (.int .i64 (m : Int)) ∧ W.cell? ⟨qo, 0, none⟩ = some (.slice Ao ol co) ∧ W.cell? ⟨qa, 0, none⟩ = some (.int .i64 (x : Int)) ∧ W.cell? ⟨bl, 0, none⟩ = some (.map (some lb)) ∧ W.cell? ⟨qb, 0, none⟩ = some (.int .i64 (y : Int)) ∧ W.cell? ⟨br, 0, none⟩ = some (.map (some rb)) ∧ (∀ ty, (Builtin.len_ #[75] ty #[.map (some lb)]).run Try.prog W = .ok (.int .i64 (ll : Int)) W) ∧ (∀ ty, (Builtin.len_ #[75] ty #[.map (some rb)]).run Try.prog W = .ok (.int .i64 (rl : Int)) W))) (by kernel_rfl) (HS.out _ hb) (fun hHeld => ?_)
    refine wpAnyH_take (i := 0) (oi := _) (v := ?vq19) rfl (by kernel_rfl) (by kernel_rfl) (by kernel_rfl) (fun _ _ _ h => h) (Or.inl ⟨by rfl, ?hq19⟩) (by assumption) ?rq19
    case hq19 => (intro w hSw; go_simp; try with_reducible rfl)
    try dsimp only [Act.put, List.getElem_toArray, List.getElem_cons_zero, List.getElem_cons_succ]; try simp only [List.setIfInBounds_toArray, List.set_cons_zero, List.set_cons_succ]
    refine wpAnyH_take (i := 1) (oi := _) (v := ?vq20) rfl (by kernel_rfl) (by kernel_rfl) (by kernel_rfl) (fun _ _ _ h => h) (Or.inl ⟨by rfl, ?hq20⟩) (by assumption) ?rq20
    case hq20 => (intro w hSw; go_simp; try with_reducible rfl)
    try dsimp only [Act.put, List.getElem_toArray, List.getElem_cons_zero, List.getElem_cons_succ]; try simp only [List.setIfInBounds_toArray, List.set_cons_zero, List.set_cons_succ]
    refine wpAnyH_take (i := 2) (oi := _) (v := ?vq21) rfl (by kernel_rfl) (by kernel_rfl) (by kernel_rfl) (fun _ _ _ h => h) (Or.inl ⟨by rfl, ?hq21⟩) (by assumption) ?rq21
    case hq21 => (intro w hSw; go_simp; try with_reducible rfl)
    try dsimp only [Act.put, List.getElem_toArray, List.getElem_cons_zero, List.getElem_cons_succ]; try simp only [List.setIfInBounds_toArray, List.set_cons_zero, List.set_cons_succ]
    refine wpAnyH_take (i := 3) (oi := _) (v := ?vq22) rfl (by kernel_rfl) (by kernel_rfl) (by kernel_rfl) (fun _ _ _ h => h) (Or.inl ⟨by rfl, ?hq22⟩) (by assumption) ?rq22
    case hq22 => (intro w hSw; go_simp; try with_reducible rfl)
    try dsimp only [Act.put, List.getElem_toArray, List.getElem_cons_zero, List.getElem_cons_succ]; try simp only [List.setIfInBounds_toArray, List.set_cons_zero, List.set_cons_succ]
    refine wpAnyH_take (i := 4) (oi := _) (v := ?vq23) rfl (by kernel_rfl) (by kernel_rfl) (by kernel_rfl) (fun _ _ _ h => h) (Or.inl ⟨by rfl, ?hq23⟩) (by assumption) ?rq23
    case hq23 => (intro w hSw; go_simp; try with_reducible rfl)
    try dsimp only [Act.put, List.getElem_toArray, List.getElem_cons_zero, List.getElem_cons_succ]; try simp only [List.setIfInBounds_toArray, List.set_cons_zero, List.set_cons_succ]
    refine wpAnyH_take (i := 5) (oi := _) (v := ?vq24) rfl (by kernel_rfl) (by kernel_rfl) (by kernel_rfl) (fun _ _ _ h => h) (Or.inl ⟨by rfl, ?hq24⟩) (by assumption) ?rq24
    case hq24 => (intro w hSw; go_simp; try with_reducible rfl)
    try dsimp only [Act.put, List.getElem_toArray, List.getElem_cons_zero, List.getElem_cons_succ]; try simp only [List.setIfInBounds_toArray, List.set_cons_zero, List.set_cons_succ]
    refine wpAnyH_take (i := 6) (oi := _) (v := ?vq25) rfl (by kernel_rfl) (by kernel_rfl) (by kernel_rfl) (fun _ _ _ h => h) (Or.inl ⟨by rfl, ?hq25⟩) (by assumption) ?rq25
    case hq25 => (intro w hSw; go_simp; try with_reducible rfl)
    try dsimp only [Act.put, List.getElem_toArray, List.getElem_cons_zero, List.getElem_cons_succ]; try simp only [List.setIfInBounds_toArray, List.set_cons_zero, List.set_cons_succ]
    refine wpAnyH_take (i := 7) (oi := _) (v := ?vq26) rfl (by kernel_rfl) (by kernel_rfl) (by kernel_rfl) (fun _ _ _ h => h) (Or.inl ⟨by rfl, ?hq26⟩) (by assumption) ?rq26
    case hq26 => (intro w hSw; go_simp; try with_reducible rfl)
    try dsimp only [Act.put, List.getElem_toArray, List.getElem_cons_zero, List.getElem_cons_succ]; try simp only [List.setIfInBounds_toArray, List.set_cons_zero, List.set_cons_succ]
    refine wpAnyH_take (i := 8) (oi := _) (v := ?vq27) rfl (by kernel_rfl) (by kernel_rfl) (by kernel_rfl) (fun _ _ _ h => h) (Or.inl ⟨by rfl, ?hq27⟩) (by assumption) ?rq27
    case hq27 => (intro w hSw; go_simp; try with_reducible rfl)
    try dsimp only [Act.put, List.getElem_toArray, List.getElem_cons_zero, List.getElem_cons_succ]; try simp only [List.setIfInBounds_toArray, List.set_cons_zero, List.set_cons_succ]
    refine wpAnyH_take (i := 9) (oi := _) (v := ?vq28) rfl (by kernel_rfl) (by kernel_rfl) (by kernel_rfl) (fun _ _ _ h => h) (Or.inl ⟨by rfl, ?hq28⟩) (by assumption) ?rq28
    case hq28 => (intro w hSw; go_simp; try with_reducible rfl)
    try dsimp only [Act.put, List.getElem_toArray, List.getElem_cons_zero, List.getElem_cons_succ]; try simp only [List.setIfInBounds_toArray, List.set_cons_zero, List.set_cons_succ]
    refine wpAnyH_take (i := 10) (oi := _) (v := ?vq29) rfl (by kernel_rfl) (by kernel_rfl) (by kernel_rfl) (fun _ _ _ h => h) (Or.inl ⟨by rfl, ?hq29⟩) (by assumption) ?rq29
    case hq29 => (intro w hSw; go_simp; try with_reducible rfl)
    try dsimp only [Act.put, List.getElem_toArray, List.getElem_cons_zero, List.getElem_cons_succ]; try simp only [List.setIfInBounds_toArray, List.set_cons_zero, List.set_cons_succ]
    refine wpAnyH_take (i := 11) (oi := _) (v := ?vq30) rfl (by kernel_rfl) (by kernel_rfl) (by kernel_rfl) (fun _ _ _ h => h) (Or.inl ⟨by rfl, ?hq30⟩) (by assumption) ?rq30
    case hq30 => (intro w hSw; go_simp; try with_reducible rfl)
    try dsimp only [Act.put, List.getElem_toArray, List.getElem_cons_zero, List.getElem_cons_succ]; try simp only [List.setIfInBounds_toArray, List.set_cons_zero, List.set_cons_succ]
    refine wpAnyH_take (i := 12) (oi := _) (v := ?vq31) rfl (by kernel_rfl) (by kernel_rfl) (by kernel_rfl) (fun _ _ _ h => h) (Or.inl ⟨by rfl, ?hq31⟩) (by assumption) ?rq31
    case hq31 => (intro w hSw; go_simp; try with_reducible rfl)
    try dsimp only [Act.put, List.getElem_toArray, List.getElem_cons_zero, List.getElem_cons_succ]; try simp only [List.setIfInBounds_toArray, List.set_cons_zero, List.set_cons_succ]
    refine wpAnyH_take (i := 13) (oi := _) (v := ?vq32) rfl (by kernel_rfl) (by kernel_rfl) (by kernel_rfl) (fun _ _ _ h => h) (Or.inl ⟨by rfl, ?hq32⟩) (by assumption) ?rq32
    case hq32 => (intro w hSw; go_simp; try with_reducible rfl)
    try dsimp only [Act.put, List.getElem_toArray, List.getElem_cons_zero, List.getElem_cons_succ]; try simp only [List.setIfInBounds_toArray, List.set_cons_zero, List.set_cons_succ]
    refine wpAnyH_take (i := 14) (oi := _) (v := ?vq33) rfl (by kernel_rfl) (by kernel_rfl) (by kernel_rfl) (fun _ _ _ h => h) (Or.inl ⟨by rfl, ?hq33⟩) (by assumption) ?rq33
    case hq33 => (intro w hSw; go_simp; try with_reducible rfl)
    try dsimp only [Act.put, List.getElem_toArray, List.getElem_cons_zero, List.getElem_cons_succ]; try simp only [List.setIfInBounds_toArray, List.set_cons_zero, List.set_cons_succ]
    refine wpAnyH_take (i := 15) (oi := _) (v := ?vq34) rfl (by kernel_rfl) (by kernel_rfl) (by kernel_rfl) (fun _ _ _ h => h) (Or.inl ⟨by rfl, ?hq34⟩) (by assumption) ?rq34
    case hq34 => (intro w hSw; go_simp; try with_reducible rfl)
    try dsimp only [Act.put, List.getElem_toArray, List.getElem_cons_zero, List.getElem_cons_succ]; try simp only [List.setIfInBounds_toArray, List.set_cons_zero, List.set_cons_succ]
    refine wpAnyH_take (i := 16) (oi := _) (v := ?vq35) rfl (by kernel_rfl) (by kernel_rfl) (by kernel_rfl) (fun _ _ _ h => h) (Or.inl ⟨by rfl, ?hq35⟩) (by assumption) ?rq35
    case hq35 => (intro w hSw; go_simp; try with_reducible rfl)
    try dsimp only [Act.put, List.getElem_toArray, List.getElem_cons_zero, List.getElem_cons_succ]; try simp only [List.setIfInBounds_toArray, List.set_cons_zero, List.set_cons_succ]
    refine wpAnyH_ready (rs := [17]) (by kernel_rfl) (by simp) ?_
    refine AllReadyH.cons (o := _) rfl (fun K hK => ?_) ?_
    · rw [if_pos (by rfl)]
      go_simp
      rw [show IntKind.i64.wrap ((m : Int) - (ol : Int)) = (m : Int) - (ol : Int) from IntWalk.i64_in _ (by omega), show IntKind.i64.wrap ((x : Int) - (ll : Int)) = (x : Int) - (ll : Int) from IntWalk.i64_in _ (by omega), show IntKind.i64.wrap ((y : Int) - (rl : Int)) = (y : Int) - (rl : Int) from IntWalk.i64_in _ (by omega)]
      refine (HC2.out _ hb).mono ?_
      rintro e wx ⟨rfl, hbx⟩
      have hb := then_ hb hbx
      clear hbx
      go_wp2_with fail
      refine hK.out _ _ (HS.out _ hb) (fun hHeld => ?_)
      clear hK K
      try dsimp only [Act.put, List.getElem_toArray, List.getElem_cons_zero, List.getElem_cons_succ]; try simp only [List.setIfInBounds_toArray, List.set_cons_zero, List.set_cons_succ]
      refine wpAnyH_take (i := 18) (oi := _) (v := ?vq36) rfl (by kernel_rfl) (by kernel_rfl) (by kernel_rfl) (fun _ _ _ h => h) (Or.inl ⟨by rfl, ?hq36⟩) (by assumption) ?rq36
      case hq36 => (intro w hSw; go_simp; try with_reducible rfl)
      try dsimp only [Act.put, List.getElem_toArray, List.getElem_cons_zero, List.getElem_cons_succ]; try simp only [List.setIfInBounds_toArray, List.set_cons_zero, List.set_cons_succ]
      refine wpAnyH_done (by kernel_rfl) ?_ _
      go_wp2
      go_ret
      exact ⟨rfl, hb⟩
    exact AllReadyH.nil
end Go.Proofs.Ytpiinfjcjpdofaa
