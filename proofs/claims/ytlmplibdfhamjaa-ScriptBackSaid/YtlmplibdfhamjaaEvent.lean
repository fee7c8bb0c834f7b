/- The data of events: api.Call, Member, Admin, Event, and slices of them: their cells, and what an argument's reading tells of them. -/
import Derived.Test.YtlmplibdfhamjaaSeen
namespace Go.Proofs.Ytlmplibdfhamjaa
open Go.RowKit Go.Mem
set_option linter.unusedVariables false
set_option maxRecDepth 100000
set_option linter.unusedSimpArgs false
/-- a call -/
structure Cal where
  kind : Int
  token : ByteArray
  bucket : ByteArray
  key : ByteArray
  value : ByteArray
  ctx : Ctx
  time : Int
def Cal.arr (x : Cal) : Array Value := #[.int .i64 x.kind, .string x.token, .string x.bucket, .string x.key, .string x.value, x.ctx.v, .int .i64 x.time]
def Cal.ok (w : World) (x : Cal) : Prop := (Lit.int .i64 x.kind).wf = true ∧ x.token.size ≤ maxLen ∧ x.bucket.size ≤ maxLen ∧ x.key.size ≤ maxLen ∧ x.value.size ≤ maxLen ∧ x.ctx.ok w ∧ (Lit.int .i64 x.time).wf = true
theorem cells_cal : Try.prog.cellsOf 85 = 7 := by kernel_rfl
theorem is_cal {H : Type} {enc : TypeId × Value → H} {w : World} {cs : List Value} (h : Is enc Try.prog w 85 cs) : ∃ m : Cal, cs = m.arr.toList ∧ m.ok w := by
  obtain ⟨hl, hf⟩ := is_struct Try.underlying85 h
  rw [cells_cal] at hl
  obtain ⟨c0, r0, rfl, hl0⟩ := cons_of hl
  obtain ⟨c1, r1, rfl, hl1⟩ := cons_of hl0
  obtain ⟨c2, r2, rfl, hl2⟩ := cons_of hl1
  obtain ⟨c3, r3, rfl, hl3⟩ := cons_of hl2
  obtain ⟨c4, r4, rfl, hl4⟩ := cons_of hl3
  obtain ⟨c5, r5, rfl, hl5⟩ := cons_of hl4
  obtain ⟨c6, r6, rfl, hl6⟩ := cons_of hl5
  obtain rfl := nil_of hl6
  have f0 : Is enc Try.prog w 3 (List.take (Try.prog.cellsOf 3) (List.drop 0 _)) := hf 0 _ rfl
  rw [(show Try.prog.cellsOf 3 = 1 by kernel_rfl)] at f0
  simp only [List.drop_succ_cons, List.drop_zero, List.take_succ_cons, List.take_zero, List.take_nil] at f0
  obtain ⟨a0, h0, w0⟩ := is_int Try.underlying3 f0
  simp only [List.cons.injEq, and_true] at h0
  subst h0
  have f1 : Is enc Try.prog w 9 (List.take (Try.prog.cellsOf 9) (List.drop 1 _)) := hf 1 _ rfl
  rw [(show Try.prog.cellsOf 9 = 1 by kernel_rfl)] at f1
  simp only [List.drop_succ_cons, List.drop_zero, List.take_succ_cons, List.take_zero, List.take_nil] at f1
  obtain ⟨a1, h1, w1⟩ := is_string Try.underlying9 f1
  simp only [List.cons.injEq, and_true] at h1
  subst h1
  have f2 : Is enc Try.prog w 9 (List.take (Try.prog.cellsOf 9) (List.drop 2 _)) := hf 2 _ rfl
  rw [(show Try.prog.cellsOf 9 = 1 by kernel_rfl)] at f2
  simp only [List.drop_succ_cons, List.drop_zero, List.take_succ_cons, List.take_zero, List.take_nil] at f2
  obtain ⟨a2, h2, w2⟩ := is_string Try.underlying9 f2
  simp only [List.cons.injEq, and_true] at h2
  subst h2
  have f3 : Is enc Try.prog w 9 (List.take (Try.prog.cellsOf 9) (List.drop 3 _)) := hf 3 _ rfl
  rw [(show Try.prog.cellsOf 9 = 1 by kernel_rfl)] at f3
  simp only [List.drop_succ_cons, List.drop_zero, List.take_succ_cons, List.take_zero, List.take_nil] at f3
  obtain ⟨a3, h3, w3⟩ := is_string Try.underlying9 f3
  simp only [List.cons.injEq, and_true] at h3
  subst h3
  have f4 : Is enc Try.prog w 9 (List.take (Try.prog.cellsOf 9) (List.drop 4 _)) := hf 4 _ rfl
  rw [(show Try.prog.cellsOf 9 = 1 by kernel_rfl)] at f4
  simp only [List.drop_succ_cons, List.drop_zero, List.take_succ_cons, List.take_zero, List.take_nil] at f4
  obtain ⟨a4, h4, w4⟩ := is_string Try.underlying9 f4
  simp only [List.cons.injEq, and_true] at h4
  subst h4
  have f5 : Is enc Try.prog w 83 (List.take (Try.prog.cellsOf 83) (List.drop 5 _)) := hf 5 _ rfl
  rw [(show Try.prog.cellsOf 83 = 1 by kernel_rfl)] at f5
  simp only [List.drop_succ_cons, List.drop_zero, List.take_succ_cons, List.take_zero, List.take_nil] at f5
  obtain ⟨a5, h5, w5⟩ := is_ctx f5
  simp only [List.cons.injEq, and_true] at h5
  subst h5
  have f6 : Is enc Try.prog w 3 (List.take (Try.prog.cellsOf 3) (List.drop 6 _)) := hf 6 _ rfl
  rw [(show Try.prog.cellsOf 3 = 1 by kernel_rfl)] at f6
  simp only [List.drop_succ_cons, List.drop_zero, List.take_succ_cons, List.take_zero, List.take_nil] at f6
  obtain ⟨a6, h6, w6⟩ := is_int Try.underlying3 f6
  simp only [List.cons.injEq, and_true] at h6
  subst h6
  exact ⟨⟨a0, a1, a2, a3, a4, a5, a6⟩, rfl, w0, w1, w2, w3, w4, w5, w6⟩
theorem Cal.ok.below {w w' : World} {x : Cal} (h : x.ok w) (hb : Below w.heap.size w w') : x.ok w' := by
  obtain ⟨h0, h1, h2, h3, h4, h5, h6⟩ := h; exact ⟨h0, h1, h2, h3, h4, h5.below hb, h6⟩
theorem row_cal : RowK Try.prog 85 Cal.arr 7 where
  d := ⟨_, Try.underlying85, rfl⟩
  hi := by kernel_rfl
  size m := rfl
  one m u hu := by simp only [Cal.arr, List.mem_cons, List.not_mem_nil, or_false] at hu; rcases hu with rfl | rfl | rfl | rfl | rfl | rfl | rfl <;> rfl
  pos := by decide
/-- a member -/
structure Memb where
  name : ByteArray
  rack : ByteArray
  zone : ByteArray
  up : Bool
def Memb.arr (x : Memb) : Array Value := #[.string x.name, .string x.rack, .string x.zone, .bool x.up]
def Memb.ok (w : World) (x : Memb) : Prop := x.name.size ≤ maxLen ∧ x.rack.size ≤ maxLen ∧ x.zone.size ≤ maxLen
theorem cells_memb : Try.prog.cellsOf 82 = 4 := by kernel_rfl
theorem is_memb {H : Type} {enc : TypeId × Value → H} {w : World} {cs : List Value} (h : Is enc Try.prog w 82 cs) : ∃ m : Memb, cs = m.arr.toList ∧ m.ok w := by
  obtain ⟨hl, hf⟩ := is_struct Try.underlying82 h
  rw [cells_memb] at hl
  obtain ⟨c0, r0, rfl, hl0⟩ := cons_of hl
  obtain ⟨c1, r1, rfl, hl1⟩ := cons_of hl0
  obtain ⟨c2, r2, rfl, hl2⟩ := cons_of hl1
  obtain ⟨c3, r3, rfl, hl3⟩ := cons_of hl2
  obtain rfl := nil_of hl3
  have f0 : Is enc Try.prog w 9 (List.take (Try.prog.cellsOf 9) (List.drop 0 _)) := hf 0 _ rfl
  rw [(show Try.prog.cellsOf 9 = 1 by kernel_rfl)] at f0
  simp only [List.drop_succ_cons, List.drop_zero, List.take_succ_cons, List.take_zero, List.take_nil] at f0
  obtain ⟨a0, h0, w0⟩ := is_string Try.underlying9 f0
  simp only [List.cons.injEq, and_true] at h0
  subst h0
  have f1 : Is enc Try.prog w 9 (List.take (Try.prog.cellsOf 9) (List.drop 1 _)) := hf 1 _ rfl
  rw [(show Try.prog.cellsOf 9 = 1 by kernel_rfl)] at f1
  simp only [List.drop_succ_cons, List.drop_zero, List.take_succ_cons, List.take_zero, List.take_nil] at f1
  obtain ⟨a1, h1, w1⟩ := is_string Try.underlying9 f1
  simp only [List.cons.injEq, and_true] at h1
  subst h1
  have f2 : Is enc Try.prog w 9 (List.take (Try.prog.cellsOf 9) (List.drop 2 _)) := hf 2 _ rfl
  rw [(show Try.prog.cellsOf 9 = 1 by kernel_rfl)] at f2
  simp only [List.drop_succ_cons, List.drop_zero, List.take_succ_cons, List.take_zero, List.take_nil] at f2
  obtain ⟨a2, h2, w2⟩ := is_string Try.underlying9 f2
  simp only [List.cons.injEq, and_true] at h2
  subst h2
  have f3 : Is enc Try.prog w 4 (List.take (Try.prog.cellsOf 4) (List.drop 3 _)) := hf 3 _ rfl
  rw [(show Try.prog.cellsOf 4 = 1 by kernel_rfl)] at f3
  simp only [List.drop_succ_cons, List.drop_zero, List.take_succ_cons, List.take_zero, List.take_nil] at f3
  obtain ⟨a3, h3⟩ := is_bool Try.underlying4 f3
  simp only [List.cons.injEq, and_true] at h3
  subst h3
  exact ⟨⟨a0, a1, a2, a3⟩, rfl, w0, w1, w2⟩
theorem Memb.ok.below {w w' : World} {x : Memb} (h : x.ok w) (hb : Below w.heap.size w w') : x.ok w' := by
  obtain ⟨h0, h1, h2⟩ := h; exact ⟨h0, h1, h2⟩
theorem row_memb : RowK Try.prog 82 Memb.arr 4 where
  d := ⟨_, Try.underlying82, rfl⟩
  hi := by kernel_rfl
  size m := rfl
  one m u hu := by simp only [Memb.arr, List.mem_cons, List.not_mem_nil, or_false] at hu; rcases hu with rfl | rfl | rfl | rfl <;> rfl
  pos := by decide
/-- what an administrator does -/
structure Adm where
  kind : Int
  tenant : ByteArray
  bucket : ByteArray
  field : ByteArray
  text : ByteArray
  n : Int
  member : Memb
def Adm.arr (x : Adm) : Array Value := #[.int .i64 x.kind, .string x.tenant, .string x.bucket, .string x.field, .string x.text, .int .i64 x.n, .string x.member.name, .string x.member.rack, .string x.member.zone, .bool x.member.up]
def Adm.ok (w : World) (x : Adm) : Prop := (Lit.int .i64 x.kind).wf = true ∧ x.tenant.size ≤ maxLen ∧ x.bucket.size ≤ maxLen ∧ x.field.size ≤ maxLen ∧ x.text.size ≤ maxLen ∧ (Lit.int .i64 x.n).wf = true ∧ x.member.ok w
theorem cells_adm : Try.prog.cellsOf 87 = 10 := by kernel_rfl
theorem is_adm {H : Type} {enc : TypeId × Value → H} {w : World} {cs : List Value} (h : Is enc Try.prog w 87 cs) : ∃ m : Adm, cs = m.arr.toList ∧ m.ok w := by
  obtain ⟨hl, hf⟩ := is_struct Try.underlying87 h
  rw [cells_adm] at hl
  obtain ⟨c0, r0, rfl, hl0⟩ := cons_of hl
  obtain ⟨c1, r1, rfl, hl1⟩ := cons_of hl0
  obtain ⟨c2, r2, rfl, hl2⟩ := cons_of hl1
  obtain ⟨c3, r3, rfl, hl3⟩ := cons_of hl2
  obtain ⟨c4, r4, rfl, hl4⟩ := cons_of hl3
  obtain ⟨c5, r5, rfl, hl5⟩ := cons_of hl4
  obtain ⟨c6, r6, rfl, hl6⟩ := cons_of hl5
  obtain ⟨c7, r7, rfl, hl7⟩ := cons_of hl6
  obtain ⟨c8, r8, rfl, hl8⟩ := cons_of hl7
  obtain ⟨c9, r9, rfl, hl9⟩ := cons_of hl8
  obtain rfl := nil_of hl9
  have f0 : Is enc Try.prog w 3 (List.take (Try.prog.cellsOf 3) (List.drop 0 _)) := hf 0 _ rfl
  rw [(show Try.prog.cellsOf 3 = 1 by kernel_rfl)] at f0
  simp only [List.drop_succ_cons, List.drop_zero, List.take_succ_cons, List.take_zero, List.take_nil] at f0
  obtain ⟨a0, h0, w0⟩ := is_int Try.underlying3 f0
  simp only [List.cons.injEq, and_true] at h0
  subst h0
  have f1 : Is enc Try.prog w 9 (List.take (Try.prog.cellsOf 9) (List.drop 1 _)) := hf 1 _ rfl
  rw [(show Try.prog.cellsOf 9 = 1 by kernel_rfl)] at f1
  simp only [List.drop_succ_cons, List.drop_zero, List.take_succ_cons, List.take_zero, List.take_nil] at f1
  obtain ⟨a1, h1, w1⟩ := is_string Try.underlying9 f1
  simp only [List.cons.injEq, and_true] at h1
  subst h1
  have f2 : Is enc Try.prog w 9 (List.take (Try.prog.cellsOf 9) (List.drop 2 _)) := hf 2 _ rfl
  rw [(show Try.prog.cellsOf 9 = 1 by kernel_rfl)] at f2
  simp only [List.drop_succ_cons, List.drop_zero, List.take_succ_cons, List.take_zero, List.take_nil] at f2
  obtain ⟨a2, h2, w2⟩ := is_string Try.underlying9 f2
  simp only [List.cons.injEq, and_true] at h2
  subst h2
  have f3 : Is enc Try.prog w 9 (List.take (Try.prog.cellsOf 9) (List.drop 3 _)) := hf 3 _ rfl
  rw [(show Try.prog.cellsOf 9 = 1 by kernel_rfl)] at f3
  simp only [List.drop_succ_cons, List.drop_zero, List.take_succ_cons, List.take_zero, List.take_nil] at f3
  obtain ⟨a3, h3, w3⟩ := is_string Try.underlying9 f3
  simp only [List.cons.injEq, and_true] at h3
  subst h3
  have f4 : Is enc Try.prog w 9 (List.take (Try.prog.cellsOf 9) (List.drop 4 _)) := hf 4 _ rfl
  rw [(show Try.prog.cellsOf 9 = 1 by kernel_rfl)] at f4
  simp only [List.drop_succ_cons, List.drop_zero, List.take_succ_cons, List.take_zero, List.take_nil] at f4
  obtain ⟨a4, h4, w4⟩ := is_string Try.underlying9 f4
  simp only [List.cons.injEq, and_true] at h4
  subst h4
  have f5 : Is enc Try.prog w 3 (List.take (Try.prog.cellsOf 3) (List.drop 5 _)) := hf 5 _ rfl
  rw [(show Try.prog.cellsOf 3 = 1 by kernel_rfl)] at f5
  simp only [List.drop_succ_cons, List.drop_zero, List.take_succ_cons, List.take_zero, List.take_nil] at f5
  obtain ⟨a5, h5, w5⟩ := is_int Try.underlying3 f5
  simp only [List.cons.injEq, and_true] at h5
  subst h5
  have f6 : Is enc Try.prog w 82 (List.take (Try.prog.cellsOf 82) (List.drop 6 _)) := hf 6 _ rfl
  rw [(show Try.prog.cellsOf 82 = 4 by kernel_rfl)] at f6
  simp only [List.drop_succ_cons, List.drop_zero, List.take_succ_cons, List.take_zero, List.take_nil] at f6
  obtain ⟨a6, h6, w6⟩ := is_memb f6
  simp only [Memb.arr, List.cons.injEq, and_true] at h6
  obtain ⟨rfl, rfl, rfl, rfl⟩ := h6
  exact ⟨⟨a0, a1, a2, a3, a4, a5, a6⟩, rfl, w0, w1, w2, w3, w4, w5, w6⟩
theorem Adm.ok.below {w w' : World} {x : Adm} (h : x.ok w) (hb : Below w.heap.size w w') : x.ok w' := by
  obtain ⟨h0, h1, h2, h3, h4, h5, h6⟩ := h; exact ⟨h0, h1, h2, h3, h4, h5, h6.below hb⟩
theorem row_adm : RowK Try.prog 87 Adm.arr 10 where
  d := ⟨_, Try.underlying87, rfl⟩
  hi := by kernel_rfl
  size m := rfl
  one m u hu := by simp only [Adm.arr, List.mem_cons, List.not_mem_nil, or_false] at hu; rcases hu with rfl | rfl | rfl | rfl | rfl | rfl | rfl | rfl | rfl | rfl <;> rfl
  pos := by decide
/-- an event -/
structure Ev where
  kind : Int
  node : ByteArray
  to : ByteArray
  lane : ByteArray
  n : Int
  call : Cal
  adm : Adm
def Ev.arr (x : Ev) : Array Value := #[.int .i64 x.kind, .string x.node, .string x.to, .string x.lane, .int .i64 x.n, .int .i64 x.call.kind, .string x.call.token, .string x.call.bucket, .string x.call.key, .string x.call.value, x.call.ctx.v, .int .i64 x.call.time, .int .i64 x.adm.kind, .string x.adm.tenant, .string x.adm.bucket, .string x.adm.field, .string x.adm.text, .int .i64 x.adm.n, .string x.adm.member.name, .string x.adm.member.rack, .string x.adm.member.zone, .bool x.adm.member.up]
def Ev.ok (w : World) (x : Ev) : Prop := (Lit.int .i64 x.kind).wf = true ∧ x.node.size ≤ maxLen ∧ x.to.size ≤ maxLen ∧ x.lane.size ≤ maxLen ∧ (Lit.int .i64 x.n).wf = true ∧ x.call.ok w ∧ x.adm.ok w
theorem cells_ev : Try.prog.cellsOf 89 = 22 := by kernel_rfl
theorem is_ev {H : Type} {enc : TypeId × Value → H} {w : World} {cs : List Value} (h : Is enc Try.prog w 89 cs) : ∃ m : Ev, cs = m.arr.toList ∧ m.ok w := by
  obtain ⟨hl, hf⟩ := is_struct Try.underlying89 h
  rw [cells_ev] at hl
  obtain ⟨c0, r0, rfl, hl0⟩ := cons_of hl
  obtain ⟨c1, r1, rfl, hl1⟩ := cons_of hl0
  obtain ⟨c2, r2, rfl, hl2⟩ := cons_of hl1
  obtain ⟨c3, r3, rfl, hl3⟩ := cons_of hl2
  obtain ⟨c4, r4, rfl, hl4⟩ := cons_of hl3
  obtain ⟨c5, r5, rfl, hl5⟩ := cons_of hl4
  obtain ⟨c6, r6, rfl, hl6⟩ := cons_of hl5
  obtain ⟨c7, r7, rfl, hl7⟩ := cons_of hl6
  obtain ⟨c8, r8, rfl, hl8⟩ := cons_of hl7
  obtain ⟨c9, r9, rfl, hl9⟩ := cons_of hl8
  obtain ⟨c10, r10, rfl, hl10⟩ := cons_of hl9
  obtain ⟨c11, r11, rfl, hl11⟩ := cons_of hl10
  obtain ⟨c12, r12, rfl, hl12⟩ := cons_of hl11
  obtain ⟨c13, r13, rfl, hl13⟩ := cons_of hl12
  obtain ⟨c14, r14, rfl, hl14⟩ := cons_of hl13
  obtain ⟨c15, r15, rfl, hl15⟩ := cons_of hl14
  obtain ⟨c16, r16, rfl, hl16⟩ := cons_of hl15
  obtain ⟨c17, r17, rfl, hl17⟩ := cons_of hl16
  obtain ⟨c18, r18, rfl, hl18⟩ := cons_of hl17
  obtain ⟨c19, r19, rfl, hl19⟩ := cons_of hl18
  obtain ⟨c20, r20, rfl, hl20⟩ := cons_of hl19
  obtain ⟨c21, r21, rfl, hl21⟩ := cons_of hl20
  obtain rfl := nil_of hl21
  have f0 : Is enc Try.prog w 3 (List.take (Try.prog.cellsOf 3) (List.drop 0 _)) := hf 0 _ rfl
  rw [(show Try.prog.cellsOf 3 = 1 by kernel_rfl)] at f0
  simp only [List.drop_succ_cons, List.drop_zero, List.take_succ_cons, List.take_zero, List.take_nil] at f0
  obtain ⟨a0, h0, w0⟩ := is_int Try.underlying3 f0
  simp only [List.cons.injEq, and_true] at h0
  subst h0
  have f1 : Is enc Try.prog w 9 (List.take (Try.prog.cellsOf 9) (List.drop 1 _)) := hf 1 _ rfl
  rw [(show Try.prog.cellsOf 9 = 1 by kernel_rfl)] at f1
  simp only [List.drop_succ_cons, List.drop_zero, List.take_succ_cons, List.take_zero, List.take_nil] at f1
  obtain ⟨a1, h1, w1⟩ := is_string Try.underlying9 f1
  simp only [List.cons.injEq, and_true] at h1
  subst h1
  have f2 : Is enc Try.prog w 9 (List.take (Try.prog.cellsOf 9) (List.drop 2 _)) := hf 2 _ rfl
  rw [(show Try.prog.cellsOf 9 = 1 by kernel_rfl)] at f2
  simp only [List.drop_succ_cons, List.drop_zero, List.take_succ_cons, List.take_zero, List.take_nil] at f2
  obtain ⟨a2, h2, w2⟩ := is_string Try.underlying9 f2
  simp only [List.cons.injEq, and_true] at h2
  subst h2
  have f3 : Is enc Try.prog w 9 (List.take (Try.prog.cellsOf 9) (List.drop 3 _)) := hf 3 _ rfl
  rw [(show Try.prog.cellsOf 9 = 1 by kernel_rfl)] at f3
  simp only [List.drop_succ_cons, List.drop_zero, List.take_succ_cons, List.take_zero, List.take_nil] at f3
  obtain ⟨a3, h3, w3⟩ := is_string Try.underlying9 f3
  simp only [List.cons.injEq, and_true] at h3
  subst h3
  have f4 : Is enc Try.prog w 3 (List.take (Try.prog.cellsOf 3) (List.drop 4 _)) := hf 4 _ rfl
  rw [(show Try.prog.cellsOf 3 = 1 by kernel_rfl)] at f4
  simp only [List.drop_succ_cons, List.drop_zero, List.take_succ_cons, List.take_zero, List.take_nil] at f4
  obtain ⟨a4, h4, w4⟩ := is_int Try.underlying3 f4
  simp only [List.cons.injEq, and_true] at h4
  subst h4
  have f5 : Is enc Try.prog w 85 (List.take (Try.prog.cellsOf 85) (List.drop 5 _)) := hf 5 _ rfl
  rw [(show Try.prog.cellsOf 85 = 7 by kernel_rfl)] at f5
  simp only [List.drop_succ_cons, List.drop_zero, List.take_succ_cons, List.take_zero, List.take_nil] at f5
  obtain ⟨a5, h5, w5⟩ := is_cal f5
  simp only [Cal.arr, List.cons.injEq, and_true] at h5
  obtain ⟨rfl, rfl, rfl, rfl, rfl, rfl, rfl⟩ := h5
  have f6 : Is enc Try.prog w 87 (List.take (Try.prog.cellsOf 87) (List.drop 12 _)) := hf 6 _ rfl
  rw [(show Try.prog.cellsOf 87 = 10 by kernel_rfl)] at f6
  simp only [List.drop_succ_cons, List.drop_zero, List.take_succ_cons, List.take_zero, List.take_nil] at f6
  obtain ⟨a6, h6, w6⟩ := is_adm f6
  simp only [Adm.arr, List.cons.injEq, and_true] at h6
  obtain ⟨rfl, rfl, rfl, rfl, rfl, rfl, rfl, rfl, rfl, rfl⟩ := h6
  exact ⟨⟨a0, a1, a2, a3, a4, a5, a6⟩, rfl, w0, w1, w2, w3, w4, w5, w6⟩
theorem Ev.ok.below {w w' : World} {x : Ev} (h : x.ok w) (hb : Below w.heap.size w w') : x.ok w' := by
  obtain ⟨h0, h1, h2, h3, h4, h5, h6⟩ := h; exact ⟨h0, h1, h2, h3, h4, h5.below hb, h6.below hb⟩
theorem row_ev : RowK Try.prog 89 Ev.arr 22 where
  d := ⟨_, Try.underlying89, rfl⟩
  hi := by kernel_rfl
  size m := rfl
  one m u hu := by simp only [Ev.arr, List.mem_cons, List.not_mem_nil, or_false] at hu; rcases hu with rfl | rfl | rfl | rfl | rfl | rfl | rfl | rfl | rfl | rfl | rfl | rfl | rfl | rfl | rfl | rfl | rfl | rfl | rfl | rfl | rfl | rfl <;> rfl
  pos := by decide
/-- a slice of events -/
structure Evs where
  A : Option Addr
  n : Nat
  c : Nat
  l : List Ev
def Evs.v (x : Evs) : Value := .slice x.A x.n x.c
structure Evs.ok (w : World) (x : Evs) : Prop where
  rd : Rd w x.A (x.l.flatMap (fun m : Ev => m.arr.toList))
  len : x.l.length = x.n
  le : x.n ≤ maxLen
  all : ∀ m ∈ x.l, m.ok w
theorem Evs.ok.below {w w' : World} {x : Evs} (h : x.ok w) (hb : Below w.heap.size w w') : x.ok w' := ⟨h.rd.below hb, h.len, h.le, fun m hm => (h.all m hm).below hb⟩
theorem is_evs {H : Type} {enc : TypeId × Value → H} {w : World} {cs : List Value} (h : Is enc Try.prog w 27 cs) : ∃ m : Evs, cs = [m.v] ∧ m.ok w := by
  obtain ⟨A, n, c, rows, h1, h2, h3, h4, h5, h6⟩ := is_slice Try.underlying27 h
  obtain ⟨ms, rfl, hms⟩ := rows_typed (f := (fun m : Ev => m.arr.toList)) (ok := fun m : Ev => m.ok w) rows (fun r hr => is_ev (h4 r hr).2)
  refine ⟨⟨A, n, c, ms⟩, h1, by rw [List.flatMap_def]; exact h3, by simpa using h2, Nat.le_trans h5 h6, hms⟩
end Go.Proofs.Ytlmplibdfhamjaa
