/- Parts read of bytes, by the code: so many, one behind the other; a context. -/
import Derived.Test.YtlmplibdfhamjaaScrP
import Derived.Test.YtlmplibdfhamjaaWireD
import Derived.DataShut
attribute [local go_sem ↓] Go.wp_at_zero Go.wp_at_succ
namespace Go.Mem
open Go.RowKit
/-- what a world holds from block B on is what another one holds -/
def Agr (B : Nat) (w W : World) : Prop := ∀ k, B ≤ k → k < w.heap.size → W.heap[k]? = w.heap[k]?
/-- .. but for one block -/
def AgrBut (o : Option Nat) (B : Nat) (w W : World) : Prop := ∀ k, B ≤ k → k < w.heap.size → some k ≠ o → W.heap[k]? = w.heap[k]?
theorem Agr.but {B : Nat} {w W : World} (h : Agr B w W) (o : Option Nat) : AgrBut o B w W := fun k h1 h2 _ => h k h1 h2
theorem Agr.mono {B C : Nat} {w W : World} (h : Agr B w W) (hc : B ≤ C) : Agr C w W := fun k h1 h2 => h k (by omega) h2
theorem Agr.below {B : Nat} {w w' : World} (h : Below w.heap.size w w') : Agr B w w' := fun k _ h2 => h.block k h2
theorem Agr.only {b B : Nat} {w w' W : World} (h : Agr B w' W) (ho : w.grownBy w' (some b)) (hb : b < B) : Agr B w W := fun k h1 h2 =>
  (h k h1 (Nat.lt_of_lt_of_le h2 ho.size)).trans (ho.block k h2 (fun e => by injection e with e; omega))
theorem Agr.refl (B : Nat) (w : World) : Agr B w w := fun _ _ _ => rfl
theorem own_agr {B base : Nat} {e : TypeId} {sz n : Nat} {v : Value} {cs : List Value} {w W : World} (h : w.ownsRow base e sz v n cs) (hB : B ≤ base) (ha : Agr B w W) : W.ownsRow base e sz v n cs := by
  obtain ⟨h1, h2⟩ := h
  refine ⟨h1, ?_⟩
  rcases h2 with h2 | ⟨g, cap, cur, hv, hg, hh, r⟩
  · exact .inl h2
  · have hlt : g < w.heap.size := (Array.getElem?_eq_some_iff.1 hh).1
    exact .inr ⟨g, cap, cur, hv, hg, (ha g (by omega) hlt).trans hh, r⟩
theorem own_lt {base : Nat} {e : TypeId} {sz n : Nat} {v : Value} {cs : List Value} {w : World} (h : w.ownsRow base e sz v n cs) : ∀ g, v.ownBlock = some g → g < w.heap.size := fun g hg => (h.lt g hg).2
theorem own_maxS {w : World} {base : Nat} {e : TypeId} {sz n : Nat} {v : Value} {cs : List Value} (h : w.ownsRow base e sz v n cs) : n ≤ maxLen := by
  rcases h.2 with ⟨_, rfl⟩ | ⟨_, cap, _, _, _, _, h1, h2, _⟩
  · exact Nat.zero_le _
  · omega
/-- behind a part that was read and appended: what was said of a world still serves -/
theorem lasts_old {b B : Nat} {wr w3 w4 : World} {ob : Obj} {o v1 : Option Nat} (hO : wr.grownBy w3 (some b)) (hbB : b < B) (hgr : (w3.alloc ob).grownBy w4 o) (hd : v1 = o ∨ v1 = some (w3.alloc ob).heap.size) {W : World} (h : AgrBut v1 B w4 W) : AgrBut o B wr W := fun k h1 h2 h3 => by
  have hs3 := hO.size
  have hs4 := hgr.size
  have hsa : (w3.alloc ob).heap.size = w3.heap.size + 1 := by simp
  have e1 : W.heap[k]? = w4.heap[k]? := h k h1 (by omega) (by rcases hd with rfl | rfl; exact h3; intro e; injection e; omega)
  have e2 : w4.heap[k]? = (w3.alloc ob).heap[k]? := hgr.block k (by omega) h3
  have e3 : (w3.alloc ob).heap[k]? = w3.heap[k]? := Below.heap_alloc w3 ob k (by omega)
  have e4 : w3.heap[k]? = wr.heap[k]? := hO.block k h2 (fun e => by injection e; omega)
  rw [e1, e2, e3, e4]
theorem lasts_new {B : Nat} {wr w3 w4 : World} {ob : Obj} {o v1 : Option Nat} (hB : B ≤ wr.heap.size) (ho : ∀ g, o = some g → g < wr.heap.size) (hgr : (w3.alloc ob).grownBy w4 o) (hd : v1 = o ∨ v1 = some (w3.alloc ob).heap.size) {W : World} (h : AgrBut v1 B w4 W) : Agr wr.heap.size w3 W := fun k h1 h2 => by
  have hs4 := hgr.size
  have hsa : (w3.alloc ob).heap.size = w3.heap.size + 1 := by simp
  have h3 : some k ≠ o := fun e => by have := ho k e.symm; omega
  have e1 : W.heap[k]? = w4.heap[k]? := h k (by omega) (by omega) (by rcases hd with rfl | rfl; exact h3; intro e; injection e; omega)
  have e2 : w4.heap[k]? = (w3.alloc ob).heap[k]? := hgr.block k (by omega) h3
  have e3 : (w3.alloc ob).heap[k]? = w3.heap[k]? := Below.heap_alloc w3 ob k (by omega)
  rw [e1, e2, e3]
end Go.Mem
namespace Go.Proofs.Ytlmplibdfhamjaa
open Go.RowKit Go.Mem Go.Num
set_option linter.unusedVariables false
set_option linter.unusedSimpArgs false

/-- a part that was read: what it says, wherever it lies; it stays so as long as what is new stays; the reader's block alone has turned -/
def RdS {T : Type} (v : T → Value) (bare : T → T) (ok : World → T → Prop) (R : Nat → St → World → Prop) (b : Nat) (r : T × St) (w : World) (e : Ending) (w' : World) : Prop :=
  ∃ x : T, e = .returned (v x) ∧ bare x = r.1 ∧ (∀ W, Agr w.heap.size w' W → ok W x) ∧ R b r.2 w' ∧ Only b w w'
theorem numWf (l : List UInt8) : (Lit.int .i64 (num l)).wf = true := by
  rw [Lit.wf_int_iff, num_val, IntKind.wrap_i64]
  show (-9223372036854775808 : Int) ≤ _ ∧ _ ≤ (9223372036854775807 : Int)
  generalize val l = v
  omega
theorem sevNums_wf : ∀ (n : Nat) (st : St), ∀ z ∈ (sevG (rdNum 8) n st).1, (Lit.int .i64 z).wf = true
  | 0, st, z, h => by simp [sevG] at h
  | n + 1, st, z, h => by
    unfold sevG at h
    split at h
    · simp only [List.mem_cons] at h
      rcases h with rfl | h
      · exact numWf _
      · exact sevNums_wf n _ z h
    · simp at h
theorem rdNums_wf (st : St) : ∀ z ∈ (rdAll (rdNum 8) 65536 st).1, (Lit.int .i64 z).wf = true := fun z h => by
  unfold rdAll outT at h
  simp only at h
  split at h
  · exact sevNums_wf _ _ z h
  · simp at h
theorem el_int8 : Elem Try.prog 171 3 1 8 := Elem.of (z := .int .i64 0) Try.underlying171 (by kernel_rfl) rfl (by decide)
theorem el_seen8 : Elem Try.prog 83 173 3 48 := Elem.of (z := .agg #[.string ByteArray.empty, .int .i64 0, .slice none 0 0]) Try.underlying83 (by kernel_rfl) rfl (by decide)
theorem enter_rInt (args : Array Value) (W : World) : Sem.run Try.prog (callFunc 97 args) W = .ok (.enter 97 args) W := by kernel_rfl
/-- a box that holds a reader's pointer -/
def PBox (b q : Nat) (W : World) : Prop := W.heap[q]? = some (.cells #[.pointer (some ⟨b, 0, none⟩)] 72 (0, 0))
theorem PBox.cell {b q : Nat} {W : World} (h : PBox b q W) : W.cell? ⟨q, 0, none⟩ = some (.pointer (some ⟨b, 0, none⟩)) := cell_of_row _ _ _ _ _ _ h
theorem PBox.lt {b q : Nat} {W : World} (h : PBox b q W) : q < W.heap.size := (Array.getElem?_eq_some_iff.1 h).1
theorem PBox.only {b q : Nat} {W W' : World} (h : PBox b q W) (hq : q ≠ b) (ho : Only b W W') : PBox b q W' := (ho.block q h.lt (fun e => hq (by injection e))).trans h
theorem PBox.under {b q B : Nat} {W W' : World} (h : PBox b q W) (hq : q < B) (ho : Below B W W') : PBox b q W' := (ho.block q hq).trans h
theorem PBox.alloc {b q : Nat} {W : World} (h : PBox b q W) (o : Obj) : PBox b q (W.alloc o) := (Below.heap_alloc W o q h.lt).trans h
set_option maxRecDepth 100000 in
set_option maxHeartbeats 4000000 in
theorem rNums_any (b : Nat) (st : St) (w : World) (h : RdO b st w) (hs : st.1.length ≤ 140737488355328) :
    Calls Try.prog 156 #[.pointer (some ⟨b, 0, none⟩), .func (.func 97) #[.pointer (some ⟨b, 0, none⟩)] #[]] w (RdS Nums.v Nums.bare Nums.ok RdO b (rdNums st) w) := by
  have hbw : b < w.heap.size := h.lt
  have hcf := enter_rInt
  have hta := rCount_any b 65536 st w h hs
  have hlen := rdCount_len 65536 st
  have hra := rdCount_range 65536 st
  unfold rdNums rdAll
  generalize rdCount 65536 st = r at hta hlen hra ⊢
  obtain ⟨n, st'⟩ := r
  simp only at hlen hra hta ⊢
  obtain ⟨n, rfl⟩ := Int.eq_ofNat_of_zero_le hra.1
  rw [Int.toNat_natCast]
  have hn := hra.2.2 (by omega)
  clear hra
  have HTA := Lib.hid hta; clear hta
  have hwf := sevNums_wf n st'
  generalize hS : sevG (rdNum 8) n st' = S at hwf ⊢
  have HS := Lib.hid hS; clear hS
  have HWF := Lib.hid hwf; clear hwf
  go_enter Try.func156, Try.ntmps156
  go_wp2_with fail
  refine HTA.out.mono ?_
  rintro e w1 ⟨rfl, h1, ho1⟩
  go_wp2
  go_loopw [5, 6] (fun o i wr => ∃ (m : Nat) (s : St) (acc : List Int), m ≤ n ∧ i = .int .i64 m ∧ (acc ++ (sevG (rdNum 8) m s).1, (sevG (rdNum 8) m s).2) = S ∧ acc.length + m = n ∧ s.1.length ≤ 140737488355328 ∧ wr.ownsRow w.heap.size 3 1 o acc.length (acc.map (Value.int .i64)) ∧ RdO b s wr ∧ Only b w wr) (fun _ i _ => (intOf i).toNat)
  case atStart => exact ⟨n, st', [], Nat.le_refl _, rfl, by simpa using HS.out, by simp, by omega, World.ownsRow_nil _ _ _ _, h1, ho1⟩
  case round =>
    obtain ⟨m, s, acc, hm, rfl, hacc, hal, hsl, hown, hR, hO⟩ := hrel
    obtain ⟨oA, oc, rfl⟩ := own_form hown
    have HA := Lib.hid hacc; have HAL := Lib.hid hal; have HOW := Lib.hid hown; clear hacc hal hown h HS
    have hbad := Lib.hid (fun W (hW : RdO b s W) => rBad_any b s W hW)
    cases m with
    | succ m =>
      have e1 : ((m + 1 : Nat) : Int) = (m : Int) + 1 := by omega
      rw [e1]
      have hd : decide ((0 : Int) < (m : Int) + 1) = true := decide_eq_true (by omega)
      have hm0 : (0 : Int) < (m : Int) + 1 := by omega
      cases hg : s.2 with
      | true =>
        have hst := sevG_step (rdNum 8) m s hg
        have HST := Lib.hid hst; have HG := Lib.hid hg; clear hst hg
        have hlen2 := rdNum_len 8 s
        have HTE := Lib.hid (fun W (hW : RdO b s W) => rInt_any b s W hW hsl)
        go_wp2_with fail
        refine (hbad.out _ hR).mono ?_
        rintro e w2 ⟨rfl, rfl⟩
        rw [HG.out]
        go_wp2_with fail
        refine (HTE.out _ hR).mono ?_
        rintro e w3 ⟨rfl, h3, ho3⟩
        have hown3 := own_only HOW.out hbw ho3
        generalize (rdNum 8) s = r at hlen2 HST h3
        obtain ⟨z, s'⟩ := r
        simp only at hlen2 h3 HST ⊢
        have HL := HAL.out
        have hsz2 := hO.size
        have hsz3 := ho3.size
        have hal1 : acc.length + 1 ≤ 65536 := by omega
        clear HL
        go_wp2_with (at_builtin; refine wpList_app el_int8 rfl (.tmp 18) (.tmp 21) rfl w.heap.size _ _ _ rfl (hown3.alloc _) (some ⟨w3.heap.size, 0, none⟩) 1 1 [.int .i64 z] rfl rfl (Rd.new w3 #[.int .i64 z] _) (by simp [Value.oneCell']) (by unfold maxLen; omega) (by omega) (by simp; omega) ?_; intro v1 w4 hown4 hbel4 hgr4 hdd4)
        have h4 : RdO b s' w4 := Two.below_at (h3.alloc _) hbel4 hbw
        have hO4 : Only b w w4 := only_below (hO.then_ ho3) hbel4
        go_roundw
        case rel =>
          refine ⟨m, s', acc ++ [z], by omega, by go_num, ?_, by have := HAL.out; rw [List.length_append]; simp; omega, by omega, ?_, h4, hO4⟩
          · rw [← HA.out, HST.out, List.append_assoc]; rfl
          · rw [List.length_append]
            simpa [] using hown4
        case measure => simp [intOf]
      | false =>
        have hb := sevG_bad (rdNum 8) (m + 1) s hg
        have HB := Lib.hid hb; have HG := Lib.hid hg; clear hb hg
        go_wp2_with fail
        refine (hbad.out _ hR).mono ?_
        rintro e w2 ⟨rfl, rfl⟩
        rw [HG.out]
        go_wp2_with fail
        refine (hbad.out _ hR).mono ?_
        rintro e w2 ⟨rfl, rfl⟩
        rw [HG.out]
        go_wp2
        go_ret
        have h5 := HA.out
        rw [HB.out] at h5
        simp only [List.append_nil] at h5
        refine ⟨⟨none, 0, 0, []⟩, rfl, ?_, fun W hW => ⟨fun j u hj => by simp at hj, rfl, Nat.zero_le _, fun m hm => by simp at hm⟩, by rw [← h5]; exact hR, hO⟩
        rw [← h5]
        simp only [outT]
        rw [if_neg (by rw [HG.out]; simp)]
        rfl
    | zero =>
      have h5 := HA.out
      simp only [sevG, List.append_nil] at h5
      have H5 := Lib.hid h5; clear h5
      have hd : decide ((0 : Int) < ((0 : Nat) : Int)) = false := by simp
      have hd2 : decide ((0 : Nat) < 0) = false := by simp
      go_wp2_with fail
      refine (hbad.out _ hR).mono ?_
      rintro e w2 ⟨rfl, rfl⟩
      cases hg : s.2 with
      | true =>
        have HG := Lib.hid hg; clear hg
        go_wp2
        go_ret
        have h5 := H5.out
        have hown := HOW.out
        refine ⟨⟨oA, acc.length, oc, acc⟩, rfl, ?_, fun W hW => ⟨Rd.of_own (own_agr hown (Nat.le_refl _) hW), rfl, own_maxS hown, fun z hz => HWF.out z (by rw [← h5]; exact hz)⟩, by rw [← h5]; exact hR, hO⟩
        rw [← h5]
        simp only [outT]
        rw [if_pos HG.out]
        rfl
      | false =>
        have HG := Lib.hid hg; clear hg
        go_wp2
        go_ret
        have h5 := H5.out
        refine ⟨⟨none, 0, 0, []⟩, rfl, ?_, fun W hW => ⟨fun j u hj => by simp at hj, rfl, Nat.zero_le _, fun m hm => by simp at hm⟩, by rw [← h5]; exact hR, hO⟩
        rw [← h5]
        simp only [outT]
        rw [if_neg (by rw [HG.out]; simp)]
        rfl
end Go.Proofs.Ytlmplibdfhamjaa
namespace Go.Mem
open Go.RowKit
theorem setCells_row (t : TypeId) (g : Nat) : ∀ (vs : List Value) (o : Nat) (w : World) (Z : Array Value), w.heap[g]? = some (.cells Z t (0, 0)) → (w.setCells g o vs).heap[g]? = some (.cells (setL Z.toList o vs).toArray t (0, 0))
  | [], _, _, _, h => by simpa [World.setCells, setL] using h
  | v :: vs, o, w, Z, h => by
    rw [World.setCells, setL, ← Array.toList_setIfInBounds]
    exact setCells_row t g vs (o + 1) _ _ (heap_setCell_same w g o Z t v h)
theorem setCells_other (g k : Nat) (hk : k ≠ g) : ∀ (vs : List Value) (o : Nat) (w : World), (w.setCells g o vs).heap[k]? = w.heap[k]?
  | [], _, _ => rfl
  | v :: vs, o, w => by rw [World.setCells, setCells_other g k hk vs]; exact heap_setCell_other w _ k v hk
theorem there_row {w : World} {g : Nat} {Z : Array Value} {t : TypeId} (hg : w.heap[g]? = some (.cells Z t (0, 0))) (o n : Nat) (h : o + n ≤ Z.size) : w.there g o n := fun j hj => by
  refine ⟨?_, frozen_of_row _ _ _ _ _ hg⟩
  rw [cell_of_row _ _ _ _ _ _ hg]
  simp; omega
theorem onlyB_setCells {b g : Nat} {w w' : World} (h : w.grownBy w' (some b)) (hg : w.heap.size ≤ g) : ∀ (vs : List Value) (o : Nat), w.grownBy (w'.setCells g o vs) (some b)
  | vs, o => by
    have hb := below_setCells (B := w.heap.size) (a := w') hg vs o w' (Below.refl w.heap.size w')
    exact ⟨hb.os.trans h.os, hb.tape.trans h.tape, hb.output.trans h.output, Nat.le_trans h.size hb.size, fun k hk hn => (hb.block k hk).trans (h.block k hk hn)⟩
end Go.Mem
namespace Go.Proofs.Ytlmplibdfhamjaa
open Go.RowKit Go.Mem Go.Num
set_option linter.unusedVariables false
set_option linter.unusedSimpArgs false
/-- behind an opaque store of a struct -/
theorem wpList_store_part {P : Program} {ty : TypeId} {w : World} {ops : Array Oper} {rest : List Oper} {op : Oper} {a : Act} {Q : Exit → Act → World → Prop} (hgd : op.guard = none) (x y : Operand) (ho : op.op = .store ty x y)
    (g o : Nat) (Z c : Array Value) (t : TypeId) (hx : a.eval x = .pointer (some ⟨g, o, none⟩)) (hy : a.eval y = .agg c) (hg : w.heap[g]? = some (.cells Z t (0, 0))) (hZ : o + c.size ≤ Z.size)
    (hi : (P.info? ty).map (·.size) = some c.size) (h1 : ∀ u ∈ c.toList, u.oneCell' = true)
    (h : ∀ w', w' = w.setCells g o c.toList → wpList P ops Q rest (a.put op.dst undef) w') : wpList P ops Q (op :: rest) a w :=
  wpList_store_arr hgd x y ho g o c hx hy (there_row hg o c.size hZ) hi h1 (h _ rfl)
/-- a struct that is read, part by part: a box with the reader's pointer, the result's block, the block of what is read -/
structure RX (Tb : TypeId) (q : Nat) (T : TypeId) (z : Array Value) (b g : Nat) (w W : World) (x : Array Value) : Prop where
  only : Only b w W
  p : W.heap[q]? = some (.cells #[.pointer (some ⟨b, 0, none⟩)] Tb (0, 0))
  r : W.heap[g]? = some (.cells z T (0, 0))
  x : W.heap[g + 1]? = some (.cells x T (0, 0))
section
variable {Tb : TypeId} {q : Nat} {T : TypeId} {z : Array Value} {b g : Nat} {w W W' : World} {x : Array Value}
theorem RX.call (h : RX Tb q T z b g w W x) (hq : q ≠ b) (hg : b < g) (ho : Only b W W') : RX Tb q T z b g w W' x :=
  ⟨h.only.then_ ho, (ho.block _ (Array.getElem?_eq_some_iff.1 h.p).1 (fun e => hq (by injection e))).trans h.p, (ho.block _ (Array.getElem?_eq_some_iff.1 h.r).1 (fun e => by injection e; omega)).trans h.r, (ho.block _ (Array.getElem?_eq_some_iff.1 h.x).1 (fun e => by injection e; omega)).trans h.x⟩
theorem RX.drew (h : RX Tb q T z b g w W x) : RX Tb q T z b g w W.drew x := ⟨h.only.drew, h.p, h.r, h.x⟩
theorem RX.set (h : RX Tb q T z b g w W x) (hq : q ≠ g + 1) (hg : w.heap.size ≤ g) (i : Nat) (u : Value) : RX Tb q T z b g w (W.setCell ⟨g + 1, i, none⟩ u) (x.setIfInBounds i u) :=
  ⟨only_new h.only (by omega) i u, (heap_setCell_other W _ _ u (by simpa using hq)).trans h.p, (heap_setCell_other W _ _ u (by simp)).trans h.r, heap_setCell_same W _ i _ _ u h.x⟩
theorem RX.part (h : RX Tb q T z b g w W x) (hq : q ≠ g + 1) (hg : w.heap.size ≤ g) (o : Nat) (c : List Value) : RX Tb q T z b g w (W.setCells (g + 1) o c) (setL x.toList o c).toArray :=
  ⟨onlyB_setCells h.only (by omega) c o, (setCells_other _ _ hq c o W).trans h.p, (setCells_other _ _ (by omega) c o W).trans h.r, setCells_row _ _ c o W x h.x⟩
theorem RX.box (h : RX Tb q T z b g w W x) : W.cell? ⟨q, 0, none⟩ = some (.pointer (some ⟨b, 0, none⟩)) := cell_of_row _ _ _ _ _ _ h.p
theorem RX.cell (h : RX Tb q T z b g w W x) (i : Nat) {u : Value} (hu : x[i]? = some u) : W.cell? ⟨g + 1, i, none⟩ = some u := by rw [cell_of_row _ _ _ _ _ _ h.x]; exact hu
theorem RX.froz (h : RX Tb q T z b g w W x) (i : Nat) : W.frozen? ⟨g + 1, i, none⟩ = false := frozen_of_row _ _ _ _ _ h.x
theorem RX.range (h : RX Tb q T z b g w W x) : W.rangeAt (g + 1) 0 x.toList := fun j v hv => by rw [Nat.zero_add, cell_of_row _ _ _ _ _ _ h.x]; simpa using hv
theorem RX.res (h : RX Tb q T z b g w W x) (hz : z.size = x.size) : (W.setCells g 0 x.toList).heap[g]? = some (.cells x T (0, 0)) := by
  rw [setCells_row _ _ _ 0 W z h.r, setL_all _ _ (by simpa using hz)]
theorem RX.end_ (h : RX Tb q T z b g w W x) (hg : w.heap.size ≤ g) (c : List Value) : Only b w (W.setCells g 0 c) := onlyB_setCells h.only hg c 0
theorem RX.under (h : RX Tb q T z b g w W x) (hg : w.heap.size ≤ g) : g + 1 < W.heap.size := (Array.getElem?_eq_some_iff.1 h.x).1
end
theorem rdo_setCells {b g : Nat} {st : St} {w : World} (h : RdO b st w) (hg : b ≠ g) (o : Nat) (vs : List Value) : RdO b st (w.setCells g o vs) := (setCells_other g b hg vs o w).trans h
theorem Agr.setCells {B g : Nat} {w W : World} (o : Nat) (vs : List Value) (hg : g < B) (h : Agr B (w.setCells g o vs) W) : Agr B w W := fun k h1 h2 =>
  (h k h1 (by have := (below_setCells (B := 0) (b := g) (a := w) (Nat.zero_le _) vs o w (Below.refl 0 w)).size; omega)).trans (setCells_other g k (by omega) vs o w)
theorem Agr.setCell {B g i : Nat} {u : Value} {w W : World} (hg : g < B) (h : Agr B (w.setCell ⟨g, i, none⟩ u) W) : Agr B w W := fun k h1 h2 =>
  (h k h1 (by simpa [World.setCell] using h2)).trans (heap_setCell_other w _ k u (by simp; omega))
theorem enter_rSeen (args : Array Value) (W : World) : Sem.run Try.prog (callFunc 155 args) W = .ok (.enter 155 args) W := by kernel_rfl
set_option maxRecDepth 100000 in
set_option maxHeartbeats 4000000 in
theorem rSeen_any (b q : Nat) (st : St) (w : World) (h : RdO b st w) (hq : PBox b q w) (hqb : q ≠ b) (hs : st.1.length ≤ 140737488355328) :
    Calls Try.prog 155 #[.pointer (some ⟨q, 0, none⟩)] w (RdS (fun x => .agg x.arr) Seen.bare Seen.ok RdO b (rdSeen st) w) := by
  obtain ⟨v1, s1, e1⟩ : ∃ v s, rdText st = (v, s) := ⟨_, _, rfl⟩
  obtain ⟨v2, s2, e2⟩ : ∃ v s, rdNum 8 s1 = (v, s) := ⟨_, _, rfl⟩
  have hV : rdSeen st = (⟨bs v1, v2, (rdNums s2).1⟩, (rdNums s2).2) := by unfold rdSeen; rw [e1]; simp only [e2]
  have l1 := rdText_len st
  have l2 := rdNum_len 8 s1
  rw [e1] at l1
  rw [e2] at l2
  have t1 := fun W hW => rText_any b st W hW hs
  rw [e1] at t1
  simp only at l1 l2 t1
  have t2 := fun W hW => rInt_any b s1 W hW (by omega)
  have hv2 : (Lit.int .i64 (rdNum 8 s1).1).wf = true := numWf _
  rw [e2] at t2 hv2
  simp only at t2 hv2
  have t3 := fun W hW => rNums_any b s2 W hW (by omega)
  have hvs : (bs v1).size ≤ maxLen := by rw [bs_size]; unfold maxLen; omega
  generalize bs v1 = u1 at t1 hV hvs
  have T1 := Lib.hid t1; have T2 := Lib.hid t2; have T3 := Lib.hid t3; have HV := Lib.hid hV; have HVS := Lib.hid hvs; have HV2 := Lib.hid hv2
  clear t1 t2 t3 hV hvs hv2 e1 e2 l1 l2
  have hwg : w.heap.size ≤ w.heap.size := Nat.le_refl _
  have hbg : b < w.heap.size := h.lt
  have hqg : q ≠ w.heap.size + 1 := by have := hq.lt; omega
  have HR := Lib.hid ((show RdO b st (w.alloc (.cells #[.string ⟨#[]⟩, .int .i64 0, .slice none 0 0] 173)) from Two.alloc h _).alloc (.cells #[.string ⟨#[]⟩, .int .i64 0, .slice none 0 0] 173))
  have HX : Hid (RX 72 q 173 #[.string ⟨#[]⟩, .int .i64 0, .slice none 0 0] b w.heap.size w ((w.alloc (.cells #[.string ⟨#[]⟩, .int .i64 0, .slice none 0 0] 173)).alloc (.cells #[.string ⟨#[]⟩, .int .i64 0, .slice none 0 0] 173)) #[.string ⟨#[]⟩, .int .i64 0, .slice none 0 0]) := Lib.hid
    ⟨(Only.rfl_.alloc _).alloc _, (hq.alloc _).alloc _, heap_alloc2_old w _ _, heap_alloc2_new w _ _⟩
  clear h hs hq
  go_enter Try.func155, Try.ntmps155
  go_wp2
  generalize ((w.alloc (.cells #[.string ⟨#[]⟩, .int .i64 0, .slice none 0 0] 173)).alloc (.cells #[.string ⟨#[]⟩, .int .i64 0, .slice none 0 0] 173)) = W0 at HX HR ⊢
  have HX := Lib.hid HX.out.drew
  have HR := Lib.hid (Two.drew HR.out)
  refine wp_region_held_drew (S := (fun W => W.cell? ⟨q, 0, none⟩ = some (.pointer (some ⟨b, 0, none⟩)))) (by kernel_rfl) HX.out.box (fun hHeld => ?_)
  refine wpAnyH_take (i := 0) (oi := _) (v := ?vq1) rfl (by kernel_rfl) (by kernel_rfl) (by kernel_rfl) (fun _ _ _ h => h) (Or.inl ⟨by rfl, ?hq1⟩) (by assumption) ?rq1
  case hq1 => (intro w hSw; go_simp; try with_reducible rfl)
  try dsimp only [Act.put, List.getElem_toArray, List.getElem_cons_zero, List.getElem_cons_succ]; try simp only [List.setIfInBounds_toArray, List.set_cons_zero, List.set_cons_succ]
  refine wpAnyH_take (i := 2) (oi := _) (v := ?vq2) rfl (by kernel_rfl) (by kernel_rfl) (by kernel_rfl) (fun _ _ _ h => h) (Or.inl ⟨by rfl, ?hq2⟩) (by assumption) ?rq2
  case hq2 => (intro w hSw; go_simp; try with_reducible rfl)
  try dsimp only [Act.put, List.getElem_toArray, List.getElem_cons_zero, List.getElem_cons_succ]; try simp only [List.setIfInBounds_toArray, List.set_cons_zero, List.set_cons_succ]
  refine wpAnyH_ready (rs := [1]) (by kernel_rfl) (by simp) ?_
  refine AllReadyH.cons (o := _) rfl (fun K hK => ?_) ?_
  · rw [if_pos (by rfl)]
    go_simp
    refine (T1.out _ HR.out).mono ?_
    rintro e w1 ⟨rfl, hr1, ho1⟩
    have HX := Lib.hid (HX.out.call hqb hbg ho1)
    have HR := Lib.hid hr1
    clear hr1 ho1
    go_wp2_with fail
    refine hK.out _ _ HX.out.box (fun hHeld => ?_)
    clear hK K
    try dsimp only [Act.put, List.getElem_toArray, List.getElem_cons_zero, List.getElem_cons_succ]; try simp only [List.setIfInBounds_toArray, List.set_cons_zero, List.set_cons_succ]
    refine wpAnyH_take (i := 4) (oi := _) (v := ?vq3) rfl (by kernel_rfl) (by kernel_rfl) (by kernel_rfl) (fun _ _ _ h => h) (Or.inl ⟨by rfl, ?hq3⟩) (by assumption) ?rq3
    case hq3 => (intro w hSw; go_simp; try with_reducible rfl)
    try dsimp only [Act.put, List.getElem_toArray, List.getElem_cons_zero, List.getElem_cons_succ]; try simp only [List.setIfInBounds_toArray, List.set_cons_zero, List.set_cons_succ]
    refine wpAnyH_ready (rs := [3]) (by kernel_rfl) (by simp) ?_
    refine AllReadyH.cons (o := _) rfl (fun K hK => ?_) ?_
    · rw [if_pos (by rfl)]
      go_simp
      refine (T2.out _ HR.out).mono ?_
      rintro e w1 ⟨rfl, hr1, ho1⟩
      have HX := Lib.hid (HX.out.call hqb hbg ho1)
      have HR := Lib.hid hr1
      clear hr1 ho1
      have y0 := HX.out.cell 0 rfl; have f0 := HX.out.froz 0
      have y1 := HX.out.cell 1 rfl; have f1 := HX.out.froz 1
      go_wp2_with fail
      refine hK.out _ _ HX.out.box (fun hHeld => ?_)
      clear hK K
      try dsimp only [Act.put, List.getElem_toArray, List.getElem_cons_zero, List.getElem_cons_succ]; try simp only [List.setIfInBounds_toArray, List.set_cons_zero, List.set_cons_succ]
      refine wpAnyH_ready (rs := [5]) (by kernel_rfl) (by simp) ?_
      refine AllReadyH.cons (o := _) rfl (fun K hK => ?_) ?_
      · rw [if_pos (by rfl)]
        go_simp
        clear y0 f0 y1 f1
        have hx := HX.out.set hqg hwg 0 (.string u1)
        simp only [List.setIfInBounds_toArray, List.set_cons_zero, List.set_cons_succ] at hx
        have HX := Lib.hid hx
        have HR := Lib.hid (rdo_set HR.out (show b ≠ w.heap.size + 1 by omega) 0 (.string u1))
        clear hx
        have y1 := HX.out.cell 1 rfl; have f1 := HX.out.froz 1
        refine hK.out _ _ HX.out.box (fun hHeld => ?_)
        clear hK K
        try dsimp only [Act.put, List.getElem_toArray, List.getElem_cons_zero, List.getElem_cons_succ]; try simp only [List.setIfInBounds_toArray, List.set_cons_zero, List.set_cons_succ]
        refine wpAnyH_take (i := 6) (oi := _) (v := ?vq4) rfl (by kernel_rfl) (by kernel_rfl) (by kernel_rfl) (fun _ _ _ h => h) (Or.inl ⟨by rfl, ?hq4⟩) (by assumption) ?rq4
        case hq4 => (intro w hSw; go_simp; try with_reducible rfl)
        try dsimp only [Act.put, List.getElem_toArray, List.getElem_cons_zero, List.getElem_cons_succ]; try simp only [List.setIfInBounds_toArray, List.set_cons_zero, List.set_cons_succ]
        refine wpAnyH_ready (rs := [7]) (by kernel_rfl) (by simp) ?_
        refine AllReadyH.cons (o := _) rfl (fun K hK => ?_) ?_
        · rw [if_pos (by rfl)]
          go_simp
          clear y1 f1
          have hx := HX.out.set hqg hwg 1 (.int .i64 v2)
          simp only [List.setIfInBounds_toArray, List.set_cons_zero, List.set_cons_succ] at hx
          have HX := Lib.hid hx
          have HR := Lib.hid (rdo_set HR.out (show b ≠ w.heap.size + 1 by omega) 1 (.int .i64 v2))
          clear hx
          refine hK.out _ _ HX.out.box (fun hHeld => ?_)
          clear hK K
          try dsimp only [Act.put, List.getElem_toArray, List.getElem_cons_zero, List.getElem_cons_succ]; try simp only [List.setIfInBounds_toArray, List.set_cons_zero, List.set_cons_succ]
          refine wpAnyH_done (by kernel_rfl) ?_ _
          have b0 := HX.out.box
          go_wp2_with fail
          clear b0
          have hwu := HX.out.under hwg
          refine (T3.out _ HR.out).mono ?_
          rintro e w1 ⟨⟨mA, mn, mc, ms⟩, rfl, hbare, hlast, hr1, ho1⟩
          have HX := Lib.hid (HX.out.call hqb hbg ho1)
          have HR := Lib.hid hr1
          clear hr1 ho1
          have HL1 : Hid (∃ B, w.heap.size + 1 < B ∧ b < B ∧ w.heap.size ≤ B ∧ ∀ W, Agr B w1 W → Nums.ok W ⟨mA, mn, mc, ms⟩) := Lib.hid ⟨_, hwu, by omega, by omega, hlast⟩
          obtain ⟨BHL1, hgHL1, hbHL1, hwHL1, hlast⟩ := HL1.out
          have hrHL1 : w.heap.size < BHL1 := by omega
          have HL1 := Lib.hid hlast; clear hlast hwu
          simp only [Nums.v]
          have y2 := HX.out.cell 2 rfl; have f2 := HX.out.froz 2
          have hx := HX.out.set hqg hwg 2 (.slice mA mn mc)
          simp only [List.setIfInBounds_toArray, List.set_cons_zero, List.set_cons_succ] at hx
          have HX := Lib.hid hx
          have HR := Lib.hid (rdo_set HR.out (show b ≠ w.heap.size + 1 by omega) 2 (.slice mA mn mc))
          have HL1 := Lib.hid (fun (W : World) hW => HL1.out W (Agr.setCell (i := 2) (u := .slice mA mn mc) hgHL1 hW))
          clear hx
          have HB := Lib.hid hbare; clear hbare
          go_upto_region 4 with fail
          clear y2 f2
          generalize (w1.setCell ⟨w.heap.size + 1, 2, none⟩ (.slice mA mn mc)) = wy at HX HR HL1 ⊢
          have HI : Hid ((Try.prog.info? 173).map (·.size) = some (#[.string u1, .int .i64 v2, .slice mA mn mc] : Array Value).size) := Lib.hid row_seen.hi
          have H1 : Hid (∀ u ∈ (#[.string u1, .int .i64 v2, .slice mA mn mc] : Array Value).toList, u.oneCell' = true) := Lib.hid (by intro u hu; simp only [List.mem_cons, List.not_mem_nil, or_false] at hu; rcases hu with rfl | rfl | rfl <;> rfl)
          refine wp_region_lit ?_
          refine wpList_load_arr (by rfl) _ (by rfl) (w.heap.size + 1) 0 (by rfl) #[.string u1, .int .i64 v2, .slice mA mn mc] HX.out.range row_seen.d HI.out ?_
          try dsimp only [Act.put, List.getElem_toArray, List.getElem_cons_zero, List.getElem_cons_succ]; try simp only [List.setIfInBounds_toArray, List.set_cons_zero, List.set_cons_succ]
          refine wpList_store_part (by rfl) _ _ (by rfl) (w.heap.size) 0 #[.string ⟨#[]⟩, .int .i64 0, .slice none 0 0] #[.string u1, .int .i64 v2, .slice mA mn mc] 173 (by rfl) (by rfl) HX.out.r (by simp) HI.out H1.out (fun wz hwz => ?_)
          try dsimp only [Act.put, List.getElem_toArray, List.getElem_cons_zero, List.getElem_cons_succ]; try simp only [List.setIfInBounds_toArray, List.set_cons_zero, List.set_cons_succ]
          have hres := HX.out.res (by rfl)
          have hend := HX.out.end_ hwg (#[.string u1, .int .i64 v2, .slice mA mn mc] : Array Value).toList
          have hrd := rdo_setCells HR.out (show b ≠ w.heap.size by omega) 0 (#[.string u1, .int .i64 v2, .slice mA mn mc] : Array Value).toList
          have HL1 := Lib.hid (fun (W : World) hW => HL1.out W (Agr.setCells (g := w.heap.size) 0 (#[.string u1, .int .i64 v2, .slice mA mn mc] : Array Value).toList hrHL1 hW))
          rw [← hwz] at hres hend hrd
          have HL1 := Lib.hid (fun (W : World) (hW : Agr BHL1 wz W) => HL1.out W (by rw [← hwz]; exact hW))
          have hsz := hend.size
          have HRES := Lib.hid hres; have HEND := Lib.hid hend; have HRD := Lib.hid hrd
          clear hres hend hrd hwz HX HR
          refine wpList_nil ?_
          go_wp2_with fail
          have hrd := HRD.out; have hend := HEND.out
          refine bodyPost_ret (results_cell_row rfl _ _ (w.heap.size) _ #[.string u1, .int .i64 v2, .slice mA mn mc] (0, 0) _ rfl HRES.out Try.underlying173 rfl HI.out) rfl ?_
          refine ⟨⟨u1, v2, ⟨mA, mn, mc, ms⟩⟩, rfl, ?_, fun W hW => ⟨HVS.out, HV2.out, HL1.out W (hW.mono hwHL1)⟩, ?_, hend⟩
          · rw [HV.out]; exact congrArg (Seen.mk u1 v2) HB.out
          · rw [HV.out]; exact hrd
        exact AllReadyH.nil
      exact AllReadyH.nil
    exact AllReadyH.nil
  exact AllReadyH.nil
set_option maxRecDepth 100000 in
set_option maxHeartbeats 4000000 in
theorem rSeens_any (b q : Nat) (st : St) (w : World) (h : RdO b st w) (hq : PBox b q w) (hqb : q ≠ b) (hs : st.1.length ≤ 140737488355328) :
    Calls Try.prog 154 #[.pointer (some ⟨b, 0, none⟩), .func (.func 155) #[] #[.pointer (some ⟨q, 0, none⟩)]] w (RdS Ctx.v Ctx.bare Ctx.ok RdO b (rdCtx st) w) := by
  have hbw : b < w.heap.size := h.lt
  have hcf := enter_rSeen
  have hta := rCount_any b 65536 st w h hs
  have hlen := rdCount_len 65536 st
  have hra := rdCount_range 65536 st
  unfold rdCtx rdAll
  generalize rdCount 65536 st = r at hta hlen hra ⊢
  obtain ⟨n, st'⟩ := r
  simp only at hlen hra hta ⊢
  obtain ⟨n, rfl⟩ := Int.eq_ofNat_of_zero_le hra.1
  rw [Int.toNat_natCast]
  have hn := hra.2.2 (by omega)
  clear hra
  have HTA := Lib.hid hta; clear hta
  generalize hS : sevG rdSeen n st' = S
  have HS := Lib.hid hS; clear hS
  have hq1 := hq.lt
  have HQB := Lib.hid hqb; clear hqb
  go_enter Try.func154, Try.ntmps154
  go_wp2_with fail
  refine HTA.out.mono ?_
  rintro e w1 ⟨rfl, h1, ho1⟩
  have hq2 := hq.only HQB.out ho1
  clear hq
  go_wp2
  go_loopw [5, 6] (fun o i wr => ∃ (m : Nat) (s : St) (acc : List Seen), m ≤ n ∧ i = .int .i64 m ∧ (acc.map Seen.bare ++ (sevG rdSeen m s).1, (sevG rdSeen m s).2) = S ∧ acc.length + m = n ∧ s.1.length ≤ 140737488355328 ∧ wr.ownsRow w.heap.size 173 3 o acc.length (acc.flatMap fun m : Seen => m.arr.toList) ∧ (∀ x ∈ acc, ∀ W, AgrBut o.ownBlock w.heap.size wr W → x.ok W) ∧ RdO b s wr ∧ Only b w wr ∧ PBox b q wr) (fun _ i _ => (intOf i).toNat)
  case atStart => exact ⟨n, st', [], Nat.le_refl _, rfl, by simpa using HS.out, by simp, by omega, World.ownsRow_nil _ _ _ _, fun x hx => by simp at hx, h1, ho1, hq2⟩
  case round =>
    obtain ⟨m, s, acc, hm, rfl, hacc, hal, hsl, hown, hok, hR, hO, hQ⟩ := hrel
    obtain ⟨oA, oc, rfl⟩ := own_form hown
    have HA := Lib.hid hacc; have HAL := Lib.hid hal; have HOW := Lib.hid hown; clear hacc hal hown h HS
    have HOK := Lib.hid hok; clear hok
    clear hq2
    have hbad := Lib.hid (fun W (hW : RdO b s W) => rBad_any b s W hW)
    cases m with
    | succ m =>
      have e1 : ((m + 1 : Nat) : Int) = (m : Int) + 1 := by omega
      rw [e1]
      have hd : decide ((0 : Int) < (m : Int) + 1) = true := decide_eq_true (by omega)
      have hm0 : (0 : Int) < (m : Int) + 1 := by omega
      cases hg : s.2 with
      | true =>
        have hst := sevG_step rdSeen m s hg
        have HST := Lib.hid hst; have HG := Lib.hid hg; clear hst hg
        have hlen2 := rdSeen_len s
        have HTE := Lib.hid (fun W (hW : RdO b s W) (hQ : PBox b q W) => rSeen_any b q s W hW hQ HQB.out hsl)
        go_wp2_with fail
        refine (hbad.out _ hR).mono ?_
        rintro e w2 ⟨rfl, rfl⟩
        rw [HG.out]
        go_wp2_with fail
        refine (HTE.out _ hR hQ).mono ?_
        rintro e w3 ⟨x, rfl, hbare, hlast, h3, ho3⟩
        have hown3 := own_only HOW.out hbw ho3
        have hlt := own_lt HOW.out
        have HLAST := Lib.hid hlast; clear hlast
        generalize rdSeen s = r at hlen2 HST h3 hbare
        obtain ⟨x', s'⟩ := r
        simp only at hbare hlen2 h3 HST
        have HBX := Lib.hid hbare; clear hbare
        obtain ⟨nd, ba, ⟨mA, mn, mc, ml⟩⟩ := x
        simp only [Seen.arr, Ctx.v, Nums.v]
        have HL := HAL.out
        have hsz2 := hO.size
        have hsz3 := ho3.size
        have hal1 : acc.length + 1 ≤ 65536 := by omega
        clear HL
        have hQ3 := hQ.only HQB.out ho3
        clear hQ
        go_wp2_with (at_builtin; refine wpList_app el_seen8 rfl (.tmp 18) (.tmp 21) rfl w.heap.size _ _ _ rfl (hown3.alloc _) (some ⟨w3.heap.size, 0, none⟩) 1 1 [.string nd, .int .i64 ba, .slice mA mn mc] rfl rfl (Rd.new w3 #[.string nd, .int .i64 ba, .slice mA mn mc] _) (by simp [Value.oneCell']) (by unfold maxLen; omega) (by omega) (by simp; omega) ?_; intro v1 w4 hown4 hbel4 hgr4 hdd4)
        have h4 : RdO b s' w4 := Two.below_at (h3.alloc _) hbel4 hbw
        have hO4 : Only b w w4 := only_below (hO.then_ ho3) hbel4
        have hQ4 : PBox b q w4 := (hQ3.alloc _).under hq1 hbel4
        have hnew : ∀ y ∈ acc ++ [(⟨nd, ba, ⟨mA, mn, mc, ml⟩⟩ : Seen)], ∀ W, AgrBut v1.ownBlock w.heap.size w4 W → y.ok W := fun y hy W hW => by
          rw [List.mem_append, List.mem_singleton] at hy
          rcases hy with hy | rfl
          · exact HOK.out y hy W (lasts_old ho3 hbw hgr4 hdd4 hW)
          · exact HLAST.out W (lasts_new hsz2 hlt hgr4 hdd4 hW)
        go_roundw
        case rel =>
          refine ⟨m, s', acc ++ [⟨nd, ba, ⟨mA, mn, mc, ml⟩⟩], by omega, by go_num, ?_, by have := HAL.out; rw [List.length_append]; simp; omega, by omega, ?_, hnew, h4, hO4, hQ4⟩
          · rw [← HA.out, HST.out, List.map_append, List.append_assoc, ← HBX.out]; rfl
          · rw [List.length_append]
            simpa [Seen.arr, Ctx.v, Nums.v] using hown4
        case measure => simp [intOf]
      | false =>
        have hb := sevG_bad rdSeen (m + 1) s hg
        have HB := Lib.hid hb; have HG := Lib.hid hg; clear hb hg
        go_wp2_with fail
        refine (hbad.out _ hR).mono ?_
        rintro e w2 ⟨rfl, rfl⟩
        rw [HG.out]
        go_wp2_with fail
        refine (hbad.out _ hR).mono ?_
        rintro e w2 ⟨rfl, rfl⟩
        rw [HG.out]
        go_wp2
        go_ret
        have h5 := HA.out
        rw [HB.out] at h5
        simp only [List.append_nil] at h5
        refine ⟨⟨none, 0, 0, []⟩, rfl, ?_, fun W hW => ⟨fun j u hj => by simp at hj, rfl, Nat.zero_le _, fun m hm => by simp at hm⟩, by rw [← h5]; exact hR, hO⟩
        rw [← h5]
        simp only [outT]
        rw [if_neg (by rw [HG.out]; simp)]
        rfl
    | zero =>
      have h5 := HA.out
      simp only [sevG, List.append_nil] at h5
      have H5 := Lib.hid h5; clear h5
      have hd : decide ((0 : Int) < ((0 : Nat) : Int)) = false := by simp
      have hd2 : decide ((0 : Nat) < 0) = false := by simp
      go_wp2_with fail
      refine (hbad.out _ hR).mono ?_
      rintro e w2 ⟨rfl, rfl⟩
      cases hg : s.2 with
      | true =>
        have HG := Lib.hid hg; clear hg
        go_wp2
        go_ret
        have h5 := H5.out
        have hown := HOW.out
        refine ⟨⟨oA, acc.length, oc, acc⟩, rfl, ?_, fun W hW => ⟨Rd.of_own (own_agr hown (Nat.le_refl _) hW), rfl, own_maxS hown, fun m hm => HOK.out m hm W (hW.but _)⟩, by rw [← h5]; exact hR, hO⟩
        rw [← h5]
        simp only [outT]
        rw [if_pos HG.out]
        rfl
      | false =>
        have HG := Lib.hid hg; clear hg
        go_wp2
        go_ret
        have h5 := H5.out
        refine ⟨⟨none, 0, 0, []⟩, rfl, ?_, fun W hW => ⟨fun j u hj => by simp at hj, rfl, Nat.zero_le _, fun m hm => by simp at hm⟩, by rw [← h5]; exact hR, hO⟩
        rw [← h5]
        simp only [outT]
        rw [if_neg (by rw [HG.out]; simp)]
        rfl
set_option maxRecDepth 100000 in
set_option maxHeartbeats 2000000 in
theorem rCtxO_any (b : Nat) (st : St) (w : World) (h : RdO b st w) (hs : st.1.length ≤ 140737488355328) :
    Calls Try.prog 133 #[.pointer (some ⟨b, 0, none⟩)] w (RdS Ctx.v Ctx.bare Ctx.ok RdO b (rdCtx st) w) := by
  have hlt := h.lt
  have hq : PBox b w.heap.size (w.alloc (.cells #[.pointer (some ⟨b, 0, none⟩)] 72)) := heap_alloc_new w _
  have HC := Lib.hid (rSeens_any b w.heap.size st _ (Two.alloc h _) hq (by omega) hs)
  have q0 := hq.cell
  clear h hs hq
  go_enter Try.func133, Try.ntmps133
  go_wp2_with fail
  refine HC.out.mono ?_
  rintro e w1 ⟨⟨A, n, c, xs⟩, rfl, hb, hl, hr, ho⟩
  simp only [Ctx.v]
  have hs1 := ho.size
  go_wp2
  go_ret
  exact ⟨⟨A, n, c, xs⟩, rfl, hb, fun W hW => hl W (hW.mono (by simp)), hr, (Only.rfl_.alloc _).then_ ho⟩
end Go.Proofs.Ytlmplibdfhamjaa
