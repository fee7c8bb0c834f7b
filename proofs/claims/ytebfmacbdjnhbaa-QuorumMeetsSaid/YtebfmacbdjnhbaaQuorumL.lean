/- quorum: a list shared out by digits. -/
import Derived.Test.YtebfmacbdjnhbaaQuorumK
import Derived.Test.YtebfmacbdjnhbaaBits
import Derived.OneCell
import Derived.Deep.DrawnRows
import Derived.Deep.RegionHeld3
attribute [local go_sem ↓] Go.wp_at_zero Go.wp_at_succ
namespace Go.Proofs.Ytebfmacbdjnhbaa
open Go.RowKit Go.Mem
set_option linter.unusedVariables false
theorem cell_of_blk {w : World} {b : Nat} {cs : Array Value} {t : TypeId} {z : Nat × Nat} (h : w.heap[b]? = some (.cells cs t z)) (i : Nat) : w.cell? ⟨b, i, none⟩ = cs[i]? := by simp [World.cell?, h]
theorem free_of_blk {w : World} {b : Nat} {cs : Array Value} {t : TypeId} (h : w.heap[b]? = some (.cells cs t (0, 0))) (i : Nat) : w.frozen? ⟨b, i, none⟩ = false := by simp [World.frozen?, h]
/-- block o holds four slices, whose rows lie from base on, each its own -/
def Four (w : World) (base o : Nat) (vs : List Value) (Ss : List (List ByteArray)) : Prop :=
  vs.length = 4 ∧ Ss.length = 4 ∧ w.heap[o]? = some (.cells vs.toArray 72 (0, 0)) ∧ (∀ (i : Nat) (v : Value) (S : List ByteArray), vs[i]? = some v → Ss[i]? = some S → w.ownsRow base 9 1 v S.length (S.map Value.string)) ∧
  (∀ (i j : Nat) (v u : Value) (b : Nat), i ≠ j → vs[i]? = some v → vs[j]? = some u → v.ownBlock = some b → u.ownBlock ≠ some b) ∧ o < base
def nils : Array Value := #[.slice none 0 0, .slice none 0 0, .slice none 0 0, .slice none 0 0]
def splits (l : List Ch) (n : Int) : List (List ByteArray) := (List.range 4).map fun (k : Nat) => splitL l n (k : Int)
theorem splits_snoc (l : List Ch) (n : Int) (x : Ch) (kk : Nat) (hk : dg n l.length = (kk : Int)) (hk4 : kk < 4) : splits (l ++ [x]) n = (splits l n).set kk (splitL l n (kk : Int) ++ [x.node]) := by
  unfold splits
  apply List.ext_getElem
  · simp
  · intro i h1 h2
    simp only [List.getElem_map, List.getElem_range, List.getElem_set, splitL_snoc, hk]
    by_cases h : kk = i
    · subst h; simp
    · have : ¬ (kk : Int) = (i : Int) := by omega
      rw [if_neg h, if_neg this, List.append_nil]
theorem four_push {w w4 : World} {base o kk c c' : Nat} {A A' : Option Addr} {vs : List Value} {Ss : List (List ByteArray)} {cur : List ByteArray} {s : ByteArray} (h : Four w base o vs Ss) (hk : kk < 4) (hv : vs[kk]? = some (.slice A cur.length c))
    (hown : w4.ownsRow base 9 1 (.slice A' (cur.length + 1) c') (cur.length + 1) (cur.map Value.string ++ [.string s])) (hb : ∀ i, i < w.heap.size → (Value.slice A cur.length c).ownBlock ≠ some i → w4.heap[i]? = w.heap[i]?)
    (hat : (Value.slice A' (cur.length + 1) c').ownBlock = (Value.slice A cur.length c).ownBlock ∨ ∃ B, (Value.slice A' (cur.length + 1) c').ownBlock = some B ∧ w.heap.size ≤ B) (hsz : w.heap.size ≤ w4.heap.size) :
    Four (w4.setCell ⟨o, kk, none⟩ (.slice A' (cur.length + 1) c')) base o (vs.set kk (.slice A' (cur.length + 1) c')) (Ss.set kk (cur ++ [s])) := by
  obtain ⟨f1, f2, f3, f4, f5, f6⟩ := h
  have hso : ∃ S, Ss[kk]? = some S := ⟨_, List.getElem?_eq_getElem (by omega)⟩
  obtain ⟨S0, hS0⟩ := hso
  have hk0 := f4 kk _ S0 hv hS0
  have hofar : (Value.slice A cur.length c).ownBlock ≠ some o := fun e => by have := (hk0.lt o e).1; omega
  refine ⟨by simpa using f1, by simpa using f2, ?_, ?_, ?_, f6⟩
  · have h1 := (hb o (lt_of_block f3) hofar).trans f3
    have h2 := heap_setCell_same w4 o kk _ _ (.slice A' (cur.length + 1) c') h1
    rw [h2]
    congr 2
    simp
  · intro i v S hi hS
    by_cases e : i = kk
    · subst e
      rw [List.getElem?_set_self (by omega)] at hi hS
      injection hi with hi; injection hS with hS
      subst hi hS
      rw [List.length_append, List.map_append]
      exact ownsRow_setCell_other hown (fun e => by have := (hown.lt o e).1; omega) _
    · rw [List.getElem?_set_ne (fun e' => e e'.symm)] at hi hS
      have h0 := f4 i v S hi hS
      refine ownsRow_setCell_other ?_ (fun e => by have := (h0.lt o e).1; omega) _
      obtain ⟨q1, q2⟩ := h0
      have hlt := f4 i v S hi hS
      refine ⟨q1, ?_⟩
      rcases q2 with q2 | ⟨g, cap, cu, hv', hg, hh, rr⟩
      · exact .inl q2
      · subst hv'
        exact .inr ⟨g, cap, cu, rfl, hg, (hb g (hlt.lt g rfl).2 (f5 i kk _ _ g e hi hv rfl)).trans hh, rr⟩
  · intro i j v u b hij hi hj hvb hub
    by_cases e : i = kk
    · subst e
      rw [List.getElem?_set_self (by omega)] at hi
      rw [List.getElem?_set_ne hij] at hj
      injection hi with hi; subst hi
      rcases hat with h | ⟨B, h, hB⟩
      · exact f5 i j _ u b hij hv hj (h ▸ hvb) hub
      · rw [h] at hvb; injection hvb with hvb; subst hvb
        obtain ⟨S, hS⟩ : ∃ S, Ss[j]? = some S := ⟨_, List.getElem?_eq_getElem (by have := (List.getElem?_eq_some_iff.1 hj).1; omega)⟩
        have := ((f4 j u S hj hS).lt _ hub).2
        omega
    · by_cases e2 : j = kk
      · subst e2
        rw [List.getElem?_set_self (by omega)] at hj
        rw [List.getElem?_set_ne (fun h => hij h.symm)] at hi
        injection hj with hj; subst hj
        rcases hat with h | ⟨B, h, hB⟩
        · exact f5 i j v _ b hij hi hv hvb (h ▸ hub)
        · rw [h] at hub; injection hub with hub; subst hub
          obtain ⟨S, hS⟩ : ∃ S, Ss[i]? = some S := ⟨_, List.getElem?_eq_getElem (by have := (List.getElem?_eq_some_iff.1 hi).1; omega)⟩
          have := ((f4 i v S hi hS).lt _ hvb).2
          omega
      · rw [List.getElem?_set_ne (fun h => e h.symm)] at hi
        rw [List.getElem?_set_ne (fun h => e2 h.symm)] at hj
        exact f5 i j v u b hij hi hj hvb hub
theorem own_block_ {w w' : World} {base n : Nat} {e : TypeId} {sz : Nat} {v : Value} {cs : List Value} (h : w.ownsRow base e sz v n cs) (hb : ∀ k, v.ownBlock = some k → w'.heap[k]? = w.heap[k]?) : w'.ownsRow base e sz v n cs := by
  obtain ⟨h1, h2⟩ := h
  refine ⟨h1, ?_⟩
  rcases h2 with h2 | ⟨g, cap, cur, hv, hg, hh, r⟩
  · exact .inl h2
  · subst hv; exact .inr ⟨g, cap, cur, rfl, hg, (hb g rfl).trans hh, r⟩
/-- a row that holds wherever the blocks of a range hold what they held -/
def Stays (lo : Nat) (w : World) (s : Sl) : Prop := ∀ W : World, (∀ i, lo ≤ i → i < w.heap.size → W.heap[i]? = w.heap[i]?) → s.ok W
/-- what split hands back: four slices of texts -/
def SplitRes (l : List Ch) (n : Int) (w : World) (e : Ending) (w' : World) : Prop := Below w.heap.size w w' ∧ ∃ s0 s1 s2 s3 : Sl, e = .returned (.agg #[s0.v, s1.v, s2.v, s3.v]) ∧ (s0.ss = splitL l n 0 ∧ s1.ss = splitL l n 1 ∧ s2.ss = splitL l n 2 ∧ s3.ss = splitL l n 3) ∧ (Stays w.heap.size w' s0 ∧ Stays w.heap.size w' s1 ∧ Stays w.heap.size w' s2 ∧ Stays w.heap.size w' s3)
set_option maxRecDepth 100000 in
set_option maxHeartbeats 2000000 in
theorem split_any (A : Option Addr) (m c : Nat) (l : List Ch) (n : Int) (w : World) (hr : Rd w A (l.flatMap Ch.cells)) (hn : l.length = m) (hm : m ≤ 12) (hw : (Lit.int .i64 n).wf = true) :
    Calls Try.prog 48 #[.slice A m c, .int .i64 n] w (SplitRes l n w) := by
  have HN := Lib.hid hn; clear hn
  have ha : -9223372036854775808 ≤ n ∧ n ≤ 9223372036854775807 := by simpa [Lit.wf, IntKind.min, IntKind.max, IntKind.signed, IntKind.bits] using hw
  go_enter Try.func48, Try.ntmps48
  go_wp2
  go_outline
  go_loopw [6] (fun i wr => ∃ (j : Nat) (vs : List Value), j ≤ m ∧ i = .int .i64 j ∧ Hid (Four wr (w.heap.size + 2) (w.heap.size + 1) vs (splits (l.take j) n)) ∧ Hid (wr.heap[w.heap.size]? = some (.cells nils 72 (0, 0))) ∧ Below w.heap.size w wr) (fun i _ => m - (intOf i).toNat)
  case atStart =>
    have g1 := heap_alloc_new w (.cells nils 72)
    have g2 := heap_alloc_new (w.alloc (.cells nils 72)) (.cells nils 72)
    have hs1 : (w.alloc (.cells nils 72)).heap.size = w.heap.size + 1 := by simp
    rw [hs1] at g2
    refine ⟨0, [.slice none 0 0, .slice none 0 0, .slice none 0 0, .slice none 0 0], Nat.zero_le _, rfl, Lib.hid ⟨rfl, rfl, g2, ?_, ?_, by omega⟩, Lib.hid ((((Below.refl _ _).alloc (Nat.le_refl _) _).block _ (by simp)).trans g1), ((Below.refl _ _).alloc (Nat.le_refl _) _).alloc (by simp) _⟩
    · intro i v S hi hS
      have hv : v = .slice none 0 0 := by
        have := List.mem_of_getElem? hi
        simp at this; exact this
      have hS' : S = [] := by
        have := List.mem_of_getElem? hS
        simp [splits, splitL, splitFrom] at this; exact this.2
      subst hv hS'
      exact World.ownsRow_nil _ _ _ _
    · intro i j v u b _ hi _ hvb
      have hv : v = .slice none 0 0 := by
        have := List.mem_of_getElem? hi
        simp at this; exact this
      subst hv
      cases hvb
  case round =>
    obtain ⟨j, vs, hj, rfl, HF, HRC, hbel⟩ := hrel
    by_cases hlt : j < m
    · have hx : j < l.length := by have := HN.out; omega
      obtain ⟨b, off, rfl, hc0, _⟩ := ch_row (hr.below hbel) j hx
      have hdr := dg_range n j
      obtain ⟨kk, hkk⟩ : ∃ kk : Nat, dg n j = (kk : Int) := ⟨(dg n j).toNat, by omega⟩
      have hk4 : kk < 4 := by omega
      have hdg : bits .and .i64 (n / 2 ^ (2 * j)) 3 = (kk : Int) := by
        have h := i64_mask 2 (by omega) (n / 2 ^ (2 * j))
        have e : (n / 2 ^ (2 * j) % 2 ^ 2 : Int) = dg n j := by unfold dg; rw [Int.pow_mul]; rfl
        rw [e, hkk] at h
        exact h
      have hlj : (l.take j).length = j := by rw [List.length_take]; omega
      have hsp := splits_snoc (l.take j) n l[j] kk (by rw [hlj]; exact hkk) hk4
      rw [← List.take_succ_eq_append_getElem hx] at hsp
      generalize l[j].node = s at *
      obtain ⟨f1, f2, f3, f4, f5, f6⟩ := HF.out
      obtain ⟨vk, hv⟩ : ∃ v, vs[kk]? = some v := ⟨_, List.getElem?_eq_getElem (by omega)⟩
      have hs0 : (splits (l.take j) n)[kk]? = some (splitL (l.take j) n (kk : Int)) := by unfold splits; rw [List.getElem?_map, List.getElem?_range hk4]; rfl
      have hown := f4 kk vk _ hv hs0
      obtain ⟨vA, vc, rfl⟩ := own_form hown
      have hle : (splitL (l.take j) n (kk : Int)).length ≤ 12 := by have := splitL_le (l.take j) n (kk : Int); rw [hlj] at this; omega
      have ck : wr.cell? ⟨w.heap.size + 1, kk, none⟩ = some (.slice vA (splitL (l.take j) n (kk : Int)).length vc) := (cell_of_blk f3 kk).trans (by simpa using hv)
      have HV := Lib.hid hv; have HSP := Lib.hid hsp; have HO := Lib.hid hown
      have hfar : (Value.slice vA (splitL (l.take j) n (kk : Int)).length vc).ownBlock ≠ some (w.heap.size + 1) := fun e => by have := (hown.lt _ e).1; omega
      have HFAR := Lib.hid hfar
      have hsz := lt_of_block f3
      generalize splitL (l.take j) n (kk : Int) = cur at *
      clear hdr hkk hlj hsp hv hs0 hown f1 f2 f4 f5 f6 hfar
      have HF3 := Lib.hid f3; clear f3
      have hi0 : (0 : Int) ≤ (j : Int) := by omega
      have hi1 : (j : Int) < (m : Int) := by omega
      have hi2 : (j : Int) < 16 := by omega
      have hk0 : (0 : Int) ≤ (kk : Int) := by omega
      have hk1 : (kk : Int) < 4 := by omega
      go_wp2
      go_region_law ((refine step_app el_string rfl (.tmp 26) (.tmp 32) rfl (w.heap.size + 2) _ _ _ (by rfl) (by first | exact HO.out.alloc _ | exact (own_drew HO.out).alloc _) _ 1 1 [.string s] (by rfl) rfl (by first | exact rd_new _ #[.string s] _ _ (by simp) rfl | exact rd_new _ #[.string s] _ _ rfl rfl) (by intro u hu; simp at hu; subst hu; rfl) (by unfold maxLen; omega) (by omega) (by have := hbel.size; simp; omega) ?_; intro v4 w4 hown4 hbel4 hgr4 hat4; obtain ⟨v4A, v4c, rfl⟩ := own_form hown4; have hb9 : w4.heap[w.heap.size + 1]? = some (.cells vs.toArray 72 (0, 0)) := (hgr4.block _ (by simp; omega) (fun e => HFAR.out e.symm)).trans ((((Below.refl _ _).alloc (Nat.le_refl _) _).block _ (by first | omega | (simp; omega))).trans HF3.out); have k9 : w4.cell? ⟨w.heap.size + 1, kk, none⟩ = some (.slice vA cur.length vc) := (cell_of_blk hb9 kk).trans (by simpa using HV.out); have f9 := free_of_blk hb9 kk; have HF4 := Lib.hid (four_push HF.out hk4 HV.out hown4 (fun i hi hne => (hgr4.block i (by simp; omega) (fun e => hne e.symm)).trans (((Below.refl _ _).alloc (Nat.le_refl _) _).block i (by first | omega | (simp; omega)))) (hat4.imp id (fun e => ⟨_, e, by simp⟩)) (by have := hgr4.size; simp at this; omega)); have hrc4 : w4.heap[w.heap.size]? = some (.cells nils 72 (0, 0)) := (hgr4.block _ (by simp; omega) (fun e => by have := (HO.out.lt _ e.symm).1; omega)).trans ((((Below.refl _ _).alloc (Nat.le_refl _) _).block _ (by first | omega | (simp; omega))).trans HRC.out); have hbx : Below w.heap.size w w4 := (by first | exact (hbel.alloc hbel.size _).trans (hbel4.mono (by omega)) | exact (hbel.drew.alloc (by simpa using hbel.size) _).trans (hbel4.mono (by omega)))))
      all_goals
        go_wp2
        go_roundw
        case rel => exact ⟨j + 1, _, by omega, by go_num, Lib.hid (by rw [HSP.out]; exact HF4.out), Lib.hid ((Below.heap_setCell _ _ _ _ (by simp)).trans hrc4), hbx.setCell (by simp) _⟩
        case measure => simp [intOf]; omega
    · have HJ : Hid (l.take j = l) := Lib.hid (List.take_of_length_le (by rw [HN.out]; omega))
      have hge : (m : Int) ≤ (j : Int) := by omega
      have hf := HF.out
      rw [HJ.out] at hf
      obtain ⟨f1, f2, f3, f4, f5, f6⟩ := hf
      obtain ⟨v0, r0, rfl, hl0⟩ := cons_of f1
      obtain ⟨v1, r1, rfl, hl1⟩ := cons_of hl0
      obtain ⟨v2, r2, rfl, hl2⟩ := cons_of hl1
      obtain ⟨v3, r3, rfl, hl3⟩ := cons_of hl2
      obtain rfl := nil_of hl3
      have o0 := f4 0 v0 (splitL l n 0) rfl rfl
      have o1 := f4 1 v1 (splitL l n 1) rfl rfl
      have o2 := f4 2 v2 (splitL l n 2) rfl rfl
      have o3 := f4 3 v3 (splitL l n 3) rfl rfl
      obtain ⟨A0, c0, rfl⟩ := own_form o0
      obtain ⟨A1, c1, rfl⟩ := own_form o1
      obtain ⟨A2, c2, rfl⟩ := own_form o2
      obtain ⟨A3, c3, rfl⟩ := own_form o3
      have e0 := (cell_of_blk f3 0).trans rfl
      have e1 := (cell_of_blk f3 1).trans rfl
      have e2 := (cell_of_blk f3 2).trans rfl
      have e3 := (cell_of_blk f3 3).trans rfl
      have z0 : wr.cell? ⟨w.heap.size, 0, none⟩ = some (.slice none 0 0) := (cell_of_blk HRC.out 0).trans rfl
      have z1 : wr.cell? ⟨w.heap.size, 1, none⟩ = some (.slice none 0 0) := (cell_of_blk HRC.out 1).trans rfl
      have z2 : wr.cell? ⟨w.heap.size, 2, none⟩ = some (.slice none 0 0) := (cell_of_blk HRC.out 2).trans rfl
      have z3 : wr.cell? ⟨w.heap.size, 3, none⟩ = some (.slice none 0 0) := (cell_of_blk HRC.out 3).trans rfl
      have y0 := free_of_blk HRC.out 0; have y1 := free_of_blk HRC.out 1; have y2 := free_of_blk HRC.out 2; have y3 := free_of_blk HRC.out 3
      have hle : ∀ k, (splitL l n k).length ≤ 1000000 := fun k => by have := splitL_le l n k; have := HN.out; omega
      have hfar : ∀ {A : Option Addr} {q c : Nat} {cs : List Value}, wr.ownsRow (w.heap.size + 2) 9 1 (.slice A q c) q cs → (Value.slice A q c).ownBlock ≠ some w.heap.size := fun h e => by have := (h.lt _ e).1; omega
      have kp : ∀ {A : Option Addr} {q c : Nat} {cs : List Value} (u0 u1 u2 u3 : Value), wr.ownsRow (w.heap.size + 2) 9 1 (.slice A q c) q cs → ((((wr.setCell ⟨w.heap.size, 0, none⟩ u0).setCell ⟨w.heap.size, 1, none⟩ u1).setCell ⟨w.heap.size, 2, none⟩ u2).setCell ⟨w.heap.size, 3, none⟩ u3).ownsRow (w.heap.size + 2) 9 1 (.slice A q c) q cs := fun u0 u1 u2 u3 h =>
        ownsRow_setCell_other (ownsRow_setCell_other (ownsRow_setCell_other (ownsRow_setCell_other h (hfar h) _) (hfar h) _) (hfar h) _) (hfar h) _
      have ok4 : ∀ {A : Option Addr} {c : Nat} {k : Int} (u0 u1 u2 u3 : Value), wr.ownsRow (w.heap.size + 2) 9 1 (.slice A (splitL l n k).length c) (splitL l n k).length ((splitL l n k).map Value.string) → Stays w.heap.size ((((wr.setCell ⟨w.heap.size, 0, none⟩ u0).setCell ⟨w.heap.size, 1, none⟩ u1).setCell ⟨w.heap.size, 2, none⟩ u2).setCell ⟨w.heap.size, 3, none⟩ u3) ⟨A, (splitL l n k).length, c, splitL l n k⟩ := fun u0 u1 u2 u3 h W hW => ⟨Rd.of_own (own_block_ (w' := W) (kp u0 u1 u2 u3 h) (fun i hi => by have hl := (kp u0 u1 u2 u3 h).lt i hi; exact hW i (by omega) hl.2)), rfl, hle _⟩
      have OK0 := Lib.hid (ok4 (.slice A0 (splitL l n 0).length c0) (.slice A1 (splitL l n 1).length c1) (.slice A2 (splitL l n 2).length c2) (.slice A3 (splitL l n 3).length c3) o0)
      have OK1 := Lib.hid (ok4 (.slice A0 (splitL l n 0).length c0) (.slice A1 (splitL l n 1).length c1) (.slice A2 (splitL l n 2).length c2) (.slice A3 (splitL l n 3).length c3) o1)
      have OK2 := Lib.hid (ok4 (.slice A0 (splitL l n 0).length c0) (.slice A1 (splitL l n 1).length c1) (.slice A2 (splitL l n 2).length c2) (.slice A3 (splitL l n 3).length c3) o2)
      have OK3 := Lib.hid (ok4 (.slice A0 (splitL l n 0).length c0) (.slice A1 (splitL l n 1).length c1) (.slice A2 (splitL l n 2).length c2) (.slice A3 (splitL l n 3).length c3) o3)
      clear f2 f3 f4 f5 f6 hl0 hl1 hl2 hl3 o0 o1 o2 o3 hle hfar kp ok4 HF HRC
      go_wp2
      have k0 : (wr.setCell ⟨w.heap.size, 0, none⟩ (.slice A0 (splitL l n 0).length c0)).cell? ⟨w.heap.size, 0, none⟩ = some (.slice A0 (splitL l n 0).length c0) := World.cell?_setCell_same _ _ _ (u := .slice none 0 0) (by exact z0)
      have k1 : ((wr.setCell ⟨w.heap.size, 0, none⟩ (.slice A0 (splitL l n 0).length c0)).setCell ⟨w.heap.size, 1, none⟩ (.slice A1 (splitL l n 1).length c1)).cell? ⟨w.heap.size, 1, none⟩ = some (.slice A1 (splitL l n 1).length c1) := World.cell?_setCell_same _ _ _ (u := .slice none 0 0) (by rw [World.cell?_setCell_other _ _ _ _ (by simp)]; exact z1)
      have k2 : (((wr.setCell ⟨w.heap.size, 0, none⟩ (.slice A0 (splitL l n 0).length c0)).setCell ⟨w.heap.size, 1, none⟩ (.slice A1 (splitL l n 1).length c1)).setCell ⟨w.heap.size, 2, none⟩ (.slice A2 (splitL l n 2).length c2)).cell? ⟨w.heap.size, 2, none⟩ = some (.slice A2 (splitL l n 2).length c2) := World.cell?_setCell_same _ _ _ (u := .slice none 0 0) (by rw [World.cell?_setCell_other _ _ _ _ (by simp)]; rw [World.cell?_setCell_other _ _ _ _ (by simp)]; exact z2)
      have k3 : ((((wr.setCell ⟨w.heap.size, 0, none⟩ (.slice A0 (splitL l n 0).length c0)).setCell ⟨w.heap.size, 1, none⟩ (.slice A1 (splitL l n 1).length c1)).setCell ⟨w.heap.size, 2, none⟩ (.slice A2 (splitL l n 2).length c2)).setCell ⟨w.heap.size, 3, none⟩ (.slice A3 (splitL l n 3).length c3)).cell? ⟨w.heap.size, 3, none⟩ = some (.slice A3 (splitL l n 3).length c3) := World.cell?_setCell_same _ _ _ (u := .slice none 0 0) (by rw [World.cell?_setCell_other _ _ _ _ (by simp)]; rw [World.cell?_setCell_other _ _ _ _ (by simp)]; rw [World.cell?_setCell_other _ _ _ _ (by simp)]; exact z3)
      refine bodyPost_ret (v := .agg #[.slice A0 (splitL l n 0).length c0, .slice A1 (splitL l n 1).length c1, .slice A2 (splitL l n 2).length c2, .slice A3 (splitL l n 3).length c3]) (by simp [results, Try.results48, go_sem, k0, k1, k2, k3]) rfl ?_
      exact ⟨(((hbel.setCell (Nat.le_refl _) _).setCell (Nat.le_refl _) _).setCell (Nat.le_refl _) _).setCell (Nat.le_refl _) _, ⟨A0, _, c0, _⟩, ⟨A1, _, c1, _⟩, ⟨A2, _, c2, _⟩, ⟨A3, _, c3, _⟩, rfl, ⟨rfl, rfl, rfl, rfl⟩, OK0.out, OK1.out, OK2.out, OK3.out⟩
end Go.Proofs.Ytebfmacbdjnhbaa
