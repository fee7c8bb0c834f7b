/- sha: the constants; a block taken in. -/
import Derived.Test.YtgmafnpkhmlnnaaShaB
import Derived.Deep.DeepCutAuto
attribute [local go_sem ↓] Go.wp_at_zero Go.wp_at_succ
namespace Go.Mem
/-- an operation whose value is known -/
theorem wpList_value {P : Program} {ops : Array Oper} {rest : List Oper} {o : Oper} {a : Act} {w : World} {Q : Exit → Act → World → Prop} (hgd : o.guard = none) (v : Value) (hrun : (execOp a.eval o).run P w = .ok (.value v) w)
    (h : wpList P ops Q rest (a.put o.dst v) w) : wpList P ops Q (o :: rest) a w :=
  wpList_plain hgd fun _ hK => by
    unfold Oper.wp
    rw [hrun]
    exact hK _ _ h
end Go.Mem
namespace Go.Proofs.Ytgmafnpkhmlnnaa
open Go.RowKit Go.Mem Go.Num
set_option linter.unusedVariables false
def z1 (w : World) : World := w.alloc (.cells z64.toArray 104)
theorem info64 (cs : List Value) (h : cs.length = 64) : (Try.prog.info? 104).map (·.size) = some cs.toArray.size := by rw [List.size_toArray, h]; kernel_rfl
theorem one_u32 (l : List Nat) : (l.map u32v).toArray.all (·.oneCell') = true := all_oneCell_toArray (fun v hv => by obtain ⟨x, _, rfl⟩ := List.mem_map.1 hv; rfl)
theorem Blk.there' {w : World} {g : Nat} {t : TypeId} {cs vs : List Value} (h : Blk w g t cs) (hl : vs.length = cs.length) : w.there g 0 vs.toArray.size := by rw [List.size_toArray, hl]; exact h.there

def kList : List Value := Sha.K.map u32v
theorem kList_eq : kList = Sha.K.map u32v := rfl
theorem kList_len : kList.length = z64.length := rfl
theorem kList_64 : kList.length = 64 := rfl
theorem kList_one : kList.toArray.all (·.oneCell') = true := one_u32 Sha.K
attribute [irreducible] kList
set_option maxRecDepth 100000 in
set_option maxHeartbeats 1000000 in
theorem rounds_any (w : World) : Calls Try.prog 79 #[] w fun e w' => e = .returned (.agg kList.toArray) ∧ Below w.heap.size w w' := by
  have h2 : Blk (z1 w) w.heap.size 104 z64 := Blk.new w _ _
  have hB : Below w.heap.size w (z1 w) := (Below.refl _ _).alloc (Nat.le_refl _) _
  have hst := h2.store kList kList_len
  have hth := Blk.there' h2 kList_len
  have hb5 := below_setCells (Nat.le_refl w.heap.size) kList 0 (z1 w) hB
  have hi := info64 kList kList_64
  have HI := Lib.hid hi; have HTH := Lib.hid hth; have HST := Lib.hid hst; have HB5 := Lib.hid hb5; clear hi hth hst h2 hB hb5
  go_enter Try.func79, Try.ntmps79
  go_upto_region 1 with fail
  refine wp_world (w0 := z1 w) (by rfl) ?_
  generalize z1 w = w0 at HTH HST HB5 ⊢
  go_wp2_with (first | (refine wpList_store_mid (by rfl) 104 (.tmp 0) (.tmp 1) (by rfl) w.heap.size 0 kList.toArray (by rfl) (by rfl) HTH.out HI.out kList_one ?_) | (refine wpList_value (by rfl) (.agg kList.toArray) (by kernel_rfl) ?_))
  refine bodyPost_ret (results_cell_row rfl _ _ w.heap.size _ kList.toArray (0, 0) _ rfl HST.out Try.underlying104 rfl HI.out) rfl ⟨rfl, HB5.out⟩
end Go.Proofs.Ytgmafnpkhmlnnaa
