/- The data of registers and entries: their cells, and what an argument's reading tells of them; slices.IndexFunc at entries. -/
import Derived.Test.YtlmplibdfhamjaaChecked
import Derived.Test.YtlmplibdfhamjaaOpen
import Derived.Test.YtlmplibdfhamjaaRowK
import Derived.WalkLawsBesides
import Derived.WalkSpells
namespace Go.Proofs.Ytlmplibdfhamjaa
open Go.RowKit Go.Mem
set_option linter.unusedVariables false
set_option maxRecDepth 100000
set_option linter.unusedSimpArgs false
/-- a register -/
@[ext] structure Rg where
  n : Int
  by_ : ByteArray
  value : ByteArray
def Rg.arr (x : Rg) : Array Value := #[.int .i64 x.n, .string x.by_, .string x.value]
def Rg.ok (w : World) (x : Rg) : Prop := (Lit.int .i64 x.n).wf = true ∧ x.by_.size ≤ maxLen ∧ x.value.size ≤ maxLen
theorem cells_rg : Try.prog.cellsOf 45 = 3 := by kernel_rfl
theorem is_rg {H : Type} {enc : TypeId × Value → H} {w : World} {cs : List Value} (h : Is enc Try.prog w 45 cs) : ∃ m : Rg, cs = m.arr.toList ∧ m.ok w := by
  obtain ⟨hl, hf⟩ := is_struct Try.underlying45 h
  rw [cells_rg] at hl
  obtain ⟨c0, r0, rfl, hl0⟩ := cons_of hl
  obtain ⟨c1, r1, rfl, hl1⟩ := cons_of hl0
  obtain ⟨c2, r2, rfl, hl2⟩ := cons_of hl1
  obtain rfl := nil_of hl2
  have f0 : Is enc Try.prog w 3 (List.take (Try.prog.cellsOf 3) (List.drop 0 _)) := hf 0 _ rfl
  rw [(show Try.prog.cellsOf 3 = 1 by kernel_rfl)] at f0
  simp only [List.drop_succ_cons, List.drop_zero, List.take_succ_cons, List.take_zero, List.take_nil] at f0
  obtain ⟨a0, h0, w0⟩ := is_int Try.underlying3 f0
  simp only [List.cons.injEq, and_true] at h0
  subst h0
  have f1 : Is enc Try.prog w 9 (List.take (Try.prog.cellsOf 9) (List.drop 1 _)) := hf 1 _ rfl
  rw [(show Try.prog.cellsOf 9 = 1 by kernel_rfl)] at f1
  simp only [List.drop_succ_cons, List.drop_zero, List.take_succ_cons, List.take_zero, List.take_nil] at f1
  obtain ⟨a1, h1, w1⟩ := is_string Try.underlying9 f1
  simp only [List.cons.injEq, and_true] at h1
  subst h1
  have f2 : Is enc Try.prog w 9 (List.take (Try.prog.cellsOf 9) (List.drop 2 _)) := hf 2 _ rfl
  rw [(show Try.prog.cellsOf 9 = 1 by kernel_rfl)] at f2
  simp only [List.drop_succ_cons, List.drop_zero, List.take_succ_cons, List.take_zero, List.take_nil] at f2
  obtain ⟨a2, h2, w2⟩ := is_string Try.underlying9 f2
  simp only [List.cons.injEq, and_true] at h2
  subst h2
  exact ⟨⟨a0, a1, a2⟩, rfl, w0, w1, w2⟩
theorem Rg.ok.below {w w' : World} {x : Rg} (h : x.ok w) (hb : Below w.heap.size w w') : x.ok w' := by
  obtain ⟨h0, h1, h2⟩ := h; exact ⟨h0, h1, h2⟩
theorem row_rg : RowK Try.prog 45 Rg.arr 3 where
  d := ⟨_, Try.underlying45, rfl⟩
  hi := by kernel_rfl
  size m := rfl
  one m u hu := by simp only [Rg.arr, List.mem_cons, List.not_mem_nil, or_false] at hu; rcases hu with rfl | rfl | rfl <;> rfl
  pos := by decide
/-- an entry -/
@[ext] structure Ent where
  key : ByteArray
  reg : Rg
def Ent.arr (x : Ent) : Array Value := #[.string x.key, .int .i64 x.reg.n, .string x.reg.by_, .string x.reg.value]
def Ent.ok (w : World) (x : Ent) : Prop := x.key.size ≤ maxLen ∧ x.reg.ok w
theorem cells_ent : Try.prog.cellsOf 47 = 4 := by kernel_rfl
theorem is_ent {H : Type} {enc : TypeId × Value → H} {w : World} {cs : List Value} (h : Is enc Try.prog w 47 cs) : ∃ m : Ent, cs = m.arr.toList ∧ m.ok w := by
  obtain ⟨hl, hf⟩ := is_struct Try.underlying47 h
  rw [cells_ent] at hl
  obtain ⟨c0, r0, rfl, hl0⟩ := cons_of hl
  obtain ⟨c1, r1, rfl, hl1⟩ := cons_of hl0
  obtain ⟨c2, r2, rfl, hl2⟩ := cons_of hl1
  obtain ⟨c3, r3, rfl, hl3⟩ := cons_of hl2
  obtain rfl := nil_of hl3
  have f0 : Is enc Try.prog w 9 (List.take (Try.prog.cellsOf 9) (List.drop 0 _)) := hf 0 _ rfl
  rw [(show Try.prog.cellsOf 9 = 1 by kernel_rfl)] at f0
  simp only [List.drop_succ_cons, List.drop_zero, List.take_succ_cons, List.take_zero, List.take_nil] at f0
  obtain ⟨a0, h0, w0⟩ := is_string Try.underlying9 f0
  simp only [List.cons.injEq, and_true] at h0
  subst h0
  have f1 : Is enc Try.prog w 45 (List.take (Try.prog.cellsOf 45) (List.drop 1 _)) := hf 1 _ rfl
  rw [(show Try.prog.cellsOf 45 = 3 by kernel_rfl)] at f1
  simp only [List.drop_succ_cons, List.drop_zero, List.take_succ_cons, List.take_zero, List.take_nil] at f1
  obtain ⟨a1, h1, w1⟩ := is_rg f1
  simp only [Rg.arr, List.cons.injEq, and_true] at h1
  obtain ⟨rfl, rfl, rfl⟩ := h1
  exact ⟨⟨a0, a1⟩, rfl, w0, w1⟩
theorem Ent.ok.below {w w' : World} {x : Ent} (h : x.ok w) (hb : Below w.heap.size w w') : x.ok w' := by
  obtain ⟨h0, h1⟩ := h; exact ⟨h0, h1.below hb⟩
theorem row_ent : RowK Try.prog 47 Ent.arr 4 where
  d := ⟨_, Try.underlying47, rfl⟩
  hi := by kernel_rfl
  size m := rfl
  one m u hu := by simp only [Ent.arr, List.mem_cons, List.not_mem_nil, or_false] at hu; rcases hu with rfl | rfl | rfl | rfl <;> rfl
  pos := by decide
/-- a slice of entries -/
structure Ents where
  A : Option Addr
  n : Nat
  c : Nat
  l : List Ent
def Ents.v (x : Ents) : Value := .slice x.A x.n x.c
structure Ents.ok (w : World) (x : Ents) : Prop where
  rd : Rd w x.A (x.l.flatMap (fun m : Ent => m.arr.toList))
  len : x.l.length = x.n
  le : x.n ≤ maxLen
  all : ∀ m ∈ x.l, m.ok w
theorem Ents.ok.below {w w' : World} {x : Ents} (h : x.ok w) (hb : Below w.heap.size w w') : x.ok w' := ⟨h.rd.below hb, h.len, h.le, fun m hm => (h.all m hm).below hb⟩
theorem is_ents {H : Type} {enc : TypeId × Value → H} {w : World} {cs : List Value} (h : Is enc Try.prog w 24 cs) : ∃ m : Ents, cs = [m.v] ∧ m.ok w := by
  obtain ⟨A, n, c, rows, h1, h2, h3, h4, h5, h6⟩ := is_slice Try.underlying24 h
  obtain ⟨ms, rfl, hms⟩ := rows_typed (f := (fun m : Ent => m.arr.toList)) (ok := fun m : Ent => m.ok w) rows (fun r hr => is_ent (h4 r hr).2)
  refine ⟨⟨A, n, c, ms⟩, h1, by rw [List.flatMap_def]; exact h3, by simpa using h2, Nat.le_trans h5 h6, hms⟩
/-- a function value that answers a bool to an element, in every world that is as 'w' was but for one block -/
structure AsksREnt (P : Program) (row : Option Nat) (w : World) (f : FuncId) (caps : Array Value) (p : Ent → Bool) (ms : List Ent) : Prop where
  enter : ∀ (args : Array Value) (W : World), Sem.run P (callFunc f args) W = .ok (.enter f args) W
  ask : ∀ W m, w.grownBy W row → m ∈ ms → Calls P f (#[.agg m.arr] ++ caps) W fun e W' => e = .returned (.bool (p m)) ∧ Below W.heap.size W W'
def FoundREnt (p : Ent → Bool) (ms : List Ent) (w : World) (e : Ending) (w' : World) : Prop :=
  Below w.heap.size w w' ∧ ((∃ k : Nat, ∃ h : k < ms.length, p ms[k] = true ∧ (∀ s ∈ ms.take k, p s = false) ∧ e = .returned (.int .i64 k)) ∨ ((∀ s ∈ ms, p s = false) ∧ e = .returned (.int .i64 (-1))))
theorem el_ent : Elem Try.prog 24 47 4 56 := Elem.of (z := .agg #[.string ByteArray.empty, .int .i64 0, .string ByteArray.empty, .string ByteArray.empty]) Try.underlying24 (by kernel_rfl) rfl (by decide)
theorem zero_ent (W : World) : (zeroValue 47).run Try.prog W = .ok (.agg #[.string ByteArray.empty, .int .i64 0, .string ByteArray.empty, .string ByteArray.empty]) W := by kernel_rfl

set_option maxRecDepth 100000 in
set_option maxHeartbeats 1000000 in
theorem indexFuncEnt_any (A : Option Addr) (n c : Nat) (ms : List Ent) (f : FuncId) (caps : Array Value) (p : Ent → Bool) (w : World) (hr : Rd w A (ms.flatMap (fun m : Ent => m.arr.toList))) (hn : ms.length = n) (hm : n ≤ maxLen)
    (hf : AsksREnt Try.prog none w f caps p ms) :
    Calls Try.prog 112 #[.slice A n c, .func (.func f) #[] caps] w (FoundREnt p ms w) := by
  unfold maxLen at hm
  go_enter Try.func112, Try.ntmps112
  go_wp2
  go_loopw [8] (fun i wr => ∃ k : Nat, k ≤ n ∧ i = .int .i64 k ∧ (∀ s ∈ ms.take k, p s = false) ∧ Below w.heap.size w wr) (fun i _ => n - (intOf i).toNat)
  case atStart => exact ⟨0, Nat.zero_le _, rfl, by simp, Below.refl _ _⟩
  case round =>
    obtain ⟨k, hk, rfl, hnot, hbel⟩ := hrel
    have HN := Lib.hid hnot; clear hnot
    by_cases hlt : k < n
    · have hx : k < ms.length := by omega
      obtain ⟨b, off, rfl, hrg⟩ := row_ent.at_ (hr.below hbel) k hx
      have hcall := Lib.hid (hf.ask wr ms[k] (only_of hbel _) (List.getElem_mem hx))
      have hcf := hf.enter
      generalize hs : ms[k] = s at hrg hcall
      have HS := Lib.hid hs; clear hs
      have hsz := Lib.hid (row_ent.size s)
      generalize hq : s.arr = q at hrg hcall hsz
      clear hq
      have HR := Lib.hid hrg; clear hrg
      go_wp2_with (refine wpList_load_arr (by rfl) _ (by rfl) b (off + k * 4) (by rfl) q HR.out row_ent.d (by rw [hsz.out]; exact row_ent.hi) ?_)
      refine hcall.out.mono ?_
      rintro e w1 ⟨rfl, hb1⟩
      clear hcf hcall HR
      generalize hp : p s = ps
      have HP := Lib.hid hp; clear hp
      cases ps
      · go_wp2
        go_roundw
        case rel => exact ⟨k + 1, by omega, by go_num, fun t ht => by
          rw [mem_take_succ _ _ hx] at ht
          rcases ht with ht | ht
          · exact HN.out t ht
          · rw [ht, HS.out]; exact HP.out, then_ hbel hb1⟩
        case measure => simp [intOf]; omega
      · go_wp2
        go_ret
        exact ⟨then_ hbel hb1, .inl ⟨k, hx, by rw [HS.out]; exact HP.out, HN.out, rfl⟩⟩
    · obtain rfl : k = n := by omega
      go_wp2
      go_ret
      exact ⟨hbel, .inr ⟨fun s hs => HN.out s (by rw [← hn, List.take_length]; exact hs), rfl⟩⟩

end Go.Proofs.Ytlmplibdfhamjaa
