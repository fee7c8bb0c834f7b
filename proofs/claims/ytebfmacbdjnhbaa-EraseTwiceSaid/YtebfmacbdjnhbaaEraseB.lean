/- The package erase and its reference: what each function returns, for every argument. -/
import Derived.Test.YtebfmacbdjnhbaaEraseA
namespace Go.Proofs.Ytebfmacbdjnhbaa
open Go.RowKit Go.Mem
set_option linter.unusedVariables false

/-- does an event belong to another lane? -/
def othersB (k : Int) (lane t : ByteArray) : Bool :=
  if k == 1 then !(lane.toList == t.toList) else if k == 10 then !(lane.toList == t.toList) else if k == 11 then !(lane.toList == t.toList) else if k == 12 then !(lane.toList == t.toList) else if k == 13 then !(lane.toList == t.toList)
  else if k == 2 then !(lane.toList == t.toList) && !lane.toList.isEmpty else if k == 3 then !(lane.toList == t.toList) && !lane.toList.isEmpty else if k == 4 then !(lane.toList == t.toList) && !lane.toList.isEmpty else if k == 5 then !(lane.toList == t.toList) && !lane.toList.isEmpty else false
def oth (t : ByteArray) (e : Ev) : Bool := othersB e.kind e.lane t
/-- what is known of an event's cells where they are a letter -/
structure EvCells (q : Array Value) (e : Ev) : Prop where
  c0 : q[0]? = some (.int .i64 e.kind)
  c3 : q[3]? = some (.string e.lane)
theorem evCells (e : Ev) : EvCells e.arr e := ⟨rfl, rfl⟩
set_option maxRecDepth 100000 in
set_option maxHeartbeats 2000000 in
theorem othersE_any (q : Array Value) (k : Int) (lane t : ByteArray) (w : World) (c0 : q[0]? = some (.int .i64 k)) (c3 : q[3]? = some (.string lane)) :
    Calls Try.prog 17 #[.agg q, .string t] w fun e w' => e = .returned (.bool (othersB k lane t)) ∧ Below w.heap.size w w' := by
  go_enter Try.func17, Try.ntmps17
  go_wp2
  all_goals
    go_ret
    refine ⟨ret_bool ?_, (Below.refl _ _).alloc (Nat.le_refl _) _⟩
    unfold othersB
    clear c0 c3
    simp_all
set_option maxRecDepth 100000 in
set_option maxHeartbeats 2000000 in
theorem othersR_any (q : Array Value) (k : Int) (lane t : ByteArray) (w : World) (c0 : q[0]? = some (.int .i64 k)) (c3 : q[3]? = some (.string lane)) :
    Calls Try.prog 18 #[.agg q, .string t] w fun e w' => e = .returned (.bool (othersB k lane t)) ∧ Below w.heap.size w w' := by
  go_enter Try.func18, Try.ntmps18
  go_wp2
  all_goals
    go_ret
    refine ⟨ret_bool ?_, (Below.refl _ _).alloc (Nat.le_refl _) _⟩
    unfold othersB
    clear c0 c3
    simp_all

/-- is an event the tenant's own call? -/
def ownB (k : Int) (lane t : ByteArray) : Bool := k == 1 && lane.toList == t.toList
set_option maxRecDepth 100000 in
set_option maxHeartbeats 1000000 in
theorem erase1_any (q : Array Value) (k : Int) (lane t : ByteArray) (g : Nat) (w : World) (c0 : q[0]? = some (.int .i64 k)) (c3 : q[3]? = some (.string lane)) (hs : q.size = 22) (hc : w.cell? ⟨g, 0, none⟩ = some (.string t)) :
    Calls Try.prog 70 #[.agg q, .pointer (some ⟨g, 0, none⟩)] w fun e w' => e = .returned (.bool (othersB k lane t)) ∧ Below w.heap.size w w' := by
  have HI : Hid ((Try.prog.info? 34).map (·.size) = some q.size) := Lib.hid (by rw [hs]; exact row_ev.hi)
  clear hs
  have hc' : (w.alloc (.cells q 34)).cell? ⟨g, 0, none⟩ = some (.string t) := cell_below ((Below.refl _ _).alloc (Nat.le_refl _) _) hc
  go_enter Try.func70, Try.ntmps70
  go_wp2_with (refine wpList_load_arr (by rfl) _ (by rfl) w.heap.size 0 (by rfl) q (range_new _ _ _) row_ev.d HI.out ?_)
  refine (othersE_any q k lane t _ c0 c3).mono ?_
  rintro e w1 ⟨rfl, hb1⟩
  go_wp2
  go_ret
  exact ⟨rfl, below_alloc hb1⟩
set_option maxRecDepth 100000 in
set_option maxHeartbeats 1000000 in
theorem calls1_any (q : Array Value) (k : Int) (lane t : ByteArray) (g : Nat) (w : World) (c0 : q[0]? = some (.int .i64 k)) (c3 : q[3]? = some (.string lane)) (hc : w.cell? ⟨g, 0, none⟩ = some (.string t)) :
    Calls Try.prog 74 #[.agg q, .pointer (some ⟨g, 0, none⟩)] w fun e w' => e = .returned (.bool (ownB k lane t)) ∧ Below w.heap.size w w' := by
  have hc' : (w.alloc (.cells q 34)).cell? ⟨g, 0, none⟩ = some (.string t) := cell_below ((Below.refl _ _).alloc (Nat.le_refl _) _) hc
  go_enter Try.func74, Try.ntmps74
  go_wp2
  all_goals
    go_ret
    refine ⟨ret_bool ?_, (Below.refl _ _).alloc (Nat.le_refl _) _⟩
    unfold ownB
    clear c0 c3 hc hc'
    simp_all
end Go.Proofs.Ytebfmacbdjnhbaa
