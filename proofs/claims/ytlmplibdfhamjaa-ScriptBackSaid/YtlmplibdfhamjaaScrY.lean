/- A cluster and events written as bytes, by the code. -/
import Derived.Test.YtlmplibdfhamjaaScrX
import Derived.Test.YtlmplibdfhamjaaWireA
import Derived.Test.YtlmplibdfhamjaaScrR
import Derived.Test.YtlmplibdfhamjaaScrQ
attribute [local go_sem ↓] Go.wp_at_zero Go.wp_at_succ
namespace Go.Proofs.Ytlmplibdfhamjaa
open Go.RowKit Go.Mem Go.Num
set_option linter.unusedVariables false
set_option linter.unusedSimpArgs false

/-- behind an alloc and a store of a struct of letters -/
theorem wpList_store_hid {P : Program} {ty : TypeId} {w : World} {ops : Array Oper} {rest : List Oper} {op : Oper} {a : Act} {Q : Exit → Act → World → Prop} (hgd : op.guard = none) (x y : Operand) (ho : op.op = .store ty x y)
    (g o : Nat) (Z c : Array Value) (t : TypeId) (hx : a.eval x = .pointer (some ⟨g, o, none⟩)) (hy : a.eval y = .agg c) (hg : w.heap[g]? = some (.cells Z t (0, 0))) (hZ : o + c.size ≤ Z.size)
    (hi : (P.info? ty).map (·.size) = some c.size) (h1 : ∀ u ∈ c.toList, u.oneCell' = true)
    (h : ∀ w', Hid (w' = w.setCells g o c.toList) → wpList P ops Q rest (a.put op.dst undef) w') : wpList P ops Q (op :: rest) a w :=
  wpList_store_part hgd x y ho g o Z c t hx hy hg hZ hi h1 fun w' e => h w' (Lib.hid e)
theorem stored_range {w w' : World} {g : Nat} {Z q : Array Value} {T : TypeId} (hg : w.heap[g]? = some (.cells Z T (0, 0))) (hz : Z.size = q.size) (h : Hid (w' = w.setCells g 0 q.toList)) : w'.rangeAt g 0 q.toList := fun j v hv => by
  have hb : w'.heap[g]? = some (.cells q T (0, 0)) := by rw [h.out, setCells_row T g _ 0 w Z hg, setL_all _ _ (by simpa using hz)]
  rw [Nat.zero_add, cell_of_row _ _ _ _ _ _ hb]; simpa using hv
theorem stored_below {w w' : World} {o : Obj} {vs : List Value} (h : Hid (w' = (w.alloc o).setCells w.heap.size 0 vs)) : Below w.heap.size w w' := by
  rw [h.out]; exact below_setCells (Nat.le_refl _) vs 0 _ ((Below.refl _ _).alloc (Nat.le_refl _) o)
theorem Wr.below {B b : Nat} {l : List UInt8} {w w' : World} (h : Wr B b l w) (hb : Below w.heap.size w w') : Wr B b l w' := by
  rcases h with ⟨hB, v, h1, hown, hne⟩ | ⟨hB, v, h1, hown, hne⟩
  · exact .inl ⟨hB, v, (hb.block b (Array.getElem?_eq_some_iff.1 h1).1).trans h1, own_below hown hb, hne⟩
  · exact .inr ⟨hB, v, (hb.block b (Array.getElem?_eq_some_iff.1 h1).1).trans h1, own_below hown hb, hne⟩
theorem enter_wMem (args : Array Value) (W : World) : Sem.run Try.prog (callFunc 65 args) W = .ok (.enter 65 args) W := by kernel_rfl
theorem enter_wEv (args : Array Value) (W : World) : Sem.run Try.prog (callFunc 67 args) W = .ok (.enter 67 args) W := by kernel_rfl
set_option maxRecDepth 100000 in
set_option maxHeartbeats 4000000 in
theorem wMems_turn (B b : Nat) (l : List UInt8) (A : Option Addr) (n cap : Nat) (xs : List Memb) (w : World) (h : Wr B b l w) (hr : ∀ W, Below B w W → Rd W A (xs.flatMap fun m => m.arr.toList)) (hn : xs.length = n) (hlen : l.length + (memsB xs).length + 512 ≤ 140737488355328) (hBw : B ≤ w.heap.size) :
    Calls Try.prog 64 #[.pointer (some ⟨b, 0, none⟩), .slice A n cap, .func (.func 65) #[.agg #[.pointer (some ⟨b, 0, none⟩)]] #[]] w fun e w' => e = .returned (.tuple #[]) ∧ Wr B b (l ++ memsB xs) w' ∧ Turn B b w w' := by
  have hlen2 : l.length + 4 + (xs.flatMap memB).length + 512 ≤ 140737488355328 := by
    unfold memsB at hlen; rw [List.length_append, be_length] at hlen; omega
  have hnn : n ≤ 140737488355328 := by
    have : ∀ xs : List Memb, xs.length ≤ (xs.flatMap memB).length := by
      intro xs
      induction xs with
      | nil => simp
      | cons x xs ih => rw [List.flatMap_cons, List.length_append, List.length_cons]; have : 1 ≤ (memB x).length := by rw [memB_length]; omega
                        omega
    have := this xs; omega
  have HN := Lib.hid hn; have HLEN := Lib.hid hlen2
  have HRD := Lib.hid hr
  skip
  clear hn hlen hlen2 hr
  have hcf := enter_wMem
  go_enter Try.func64, Try.ntmps64
  go_wp2_with fail
  refine (wCount_turn B b l _ _ h (by have := HLEN.out; omega) hBw).mono ?_
  rintro e w1 ⟨rfl, hw, ht⟩
  clear h
  go_wp2
  go_loopw [14] (fun i wr => ∃ k : Nat, k ≤ n ∧ i = .int .i64 k ∧ Wr B b (l ++ be 4 n ++ (xs.take k).flatMap memB) wr ∧ Turn B b w wr) (fun i _ => n - (intOf i).toNat)
  case atStart => exact ⟨0, Nat.zero_le _, rfl, by simpa using hw, ht⟩
  case round =>
    obtain ⟨k, hk, rfl, hw, ht⟩ := hrel
    by_cases hlt : k < n
    · have hx : k < xs.length := by have := HN.out; omega
      obtain ⟨b', off, rfl, hrg⟩ := row_memb.at_ (HRD.out wr ht.bel) k hx
      have HNX := Lib.hid (flat_step memB xs k hx)
      have HLE := Lib.hid (flat_take_le memB xs k hx)
      generalize xs[k] = s at hrg HNX HLE
      have hsize := ht.size
      have HS := Lib.hid (fun (W : World) (l : List UInt8) => wMem_turn B b l s W)
      have HI : Hid ((Try.prog.info? 82).map (·.size) = some s.arr.size) := Lib.hid row_memb.hi
      have H1 := Lib.hid (row_memb.one s); have HZ : Hid ((#[.string ⟨#[]⟩, .string ⟨#[]⟩, .string ⟨#[]⟩, .bool false] : Array Value).size = s.arr.size) := Lib.hid (row_memb.size s).symm
      generalize s.arr = q at hrg HS HI H1 HZ
      have HRQ := Lib.hid hrg
      clear hrg
      go_wp2_with (first | (refine wpList_load_arr (by rfl) _ (by rfl) b' (off + k * 4) (by rfl) q HRQ.out row_memb.d HI.out ?_) | (refine wpList_store_hid (by rfl) _ _ (by rfl) wr.heap.size 0 (#[.string ⟨#[]⟩, .string ⟨#[]⟩, .string ⟨#[]⟩, .bool false]) q 82 (by rfl) (by rfl) (heap_alloc_new wr _) (by rw [HZ.out]; omega) HI.out H1.out ?_; intro w2 hw2) | (refine wpList_load_arr (by rfl) _ (by rfl) wr.heap.size 0 (by rfl) q (stored_range (heap_alloc_new wr _) HZ.out hw2) row_memb.d HI.out ?_))
      have hb2 := stored_below hw2
      refine (HS.out _ _ (hw.below hb2) (by have := HLE.out; have := HLEN.out; simp only [List.length_append, be_length]; omega) (Nat.le_trans (by omega) hb2.size)).mono ?_
      rintro e w3 ⟨rfl, hw3, ht3⟩
      clear hw2
      go_wp2
      go_roundw
      case rel => exact ⟨k + 1, by omega, by go_num, by rw [HNX.out, ← List.append_assoc]; exact hw3, (ht.below (by omega) hb2).trans ht3⟩
      case measure => simp [intOf]; omega
    · obtain rfl : k = n := by omega
      go_wp2
      go_end0
      rw [List.take_of_length_le (by have := HN.out; omega), List.append_assoc] at hw
      refine ⟨rfl, ?_, ht⟩
      unfold memsB
      rw [HN.out]
      exact hw
set_option maxRecDepth 100000 in
set_option maxHeartbeats 4000000 in
theorem wEvs_turn (B b : Nat) (l : List UInt8) (A : Option Addr) (n cap : Nat) (xs : List Ev) (w : World) (h : Wr B b l w) (hr : ∀ W, Below B w W → Rd W A (xs.flatMap fun m => m.arr.toList)) (ho : ∀ W, Below B w W → ∀ x ∈ xs, x.call.ctx.ok W) (hn : xs.length = n) (hlen : l.length + (evsB xs).length + 512 ≤ 140737488355328) (hBw : B ≤ w.heap.size) :
    Calls Try.prog 66 #[.pointer (some ⟨b, 0, none⟩), .slice A n cap, .func (.func 67) #[.agg #[.pointer (some ⟨b, 0, none⟩)]] #[]] w fun e w' => e = .returned (.tuple #[]) ∧ Wr B b (l ++ evsB xs) w' ∧ Turn B b w w' := by
  have hlen2 : l.length + 4 + (xs.flatMap evB).length + 512 ≤ 140737488355328 := by
    unfold evsB at hlen; rw [List.length_append, be_length] at hlen; omega
  have hnn : n ≤ 140737488355328 := by
    have : ∀ xs : List Ev, xs.length ≤ (xs.flatMap evB).length := by
      intro xs
      induction xs with
      | nil => simp
      | cons x xs ih => rw [List.flatMap_cons, List.length_append, List.length_cons]; have : 1 ≤ (evB x).length := by unfold evB headB; simp only [List.length_append, be_length]; omega
                        omega
    have := this xs; omega
  have HN := Lib.hid hn; have HLEN := Lib.hid hlen2
  have HRD := Lib.hid hr
  have HO := Lib.hid ho; clear ho
  clear hn hlen hlen2 hr
  have hcf := enter_wEv
  go_enter Try.func66, Try.ntmps66
  go_wp2_with fail
  refine (wCount_turn B b l _ _ h (by have := HLEN.out; omega) hBw).mono ?_
  rintro e w1 ⟨rfl, hw, ht⟩
  clear h
  go_wp2
  go_loopw [14] (fun i wr => ∃ k : Nat, k ≤ n ∧ i = .int .i64 k ∧ Wr B b (l ++ be 4 n ++ (xs.take k).flatMap evB) wr ∧ Turn B b w wr) (fun i _ => n - (intOf i).toNat)
  case atStart => exact ⟨0, Nat.zero_le _, rfl, by simpa using hw, ht⟩
  case round =>
    obtain ⟨k, hk, rfl, hw, ht⟩ := hrel
    by_cases hlt : k < n
    · have hx : k < xs.length := by have := HN.out; omega
      obtain ⟨b', off, rfl, hrg⟩ := row_ev.at_ (HRD.out wr ht.bel) k hx
      have HNX := Lib.hid (flat_step evB xs k hx)
      have HLE := Lib.hid (flat_take_le evB xs k hx)
      have HOK := Lib.hid (fun (W : World) (hW : Below B w W) => HO.out W hW xs[k] (List.getElem_mem hx))
      generalize xs[k] = s at hrg HNX HLE HOK
      have hsize := ht.size
      have HS := Lib.hid (fun (W : World) (l : List UInt8) => wEv_turn B b l s W)
      have HI : Hid ((Try.prog.info? 89).map (·.size) = some s.arr.size) := Lib.hid row_ev.hi
      have H1 := Lib.hid (row_ev.one s); have HZ : Hid ((#[.int .i64 0, .string ⟨#[]⟩, .string ⟨#[]⟩, .string ⟨#[]⟩, .int .i64 0, .int .i64 0, .string ⟨#[]⟩, .string ⟨#[]⟩, .string ⟨#[]⟩, .string ⟨#[]⟩, .slice none 0 0, .int .i64 0, .int .i64 0, .string ⟨#[]⟩, .string ⟨#[]⟩, .string ⟨#[]⟩, .string ⟨#[]⟩, .int .i64 0, .string ⟨#[]⟩, .string ⟨#[]⟩, .string ⟨#[]⟩, .bool false] : Array Value).size = s.arr.size) := Lib.hid (row_ev.size s).symm
      generalize s.arr = q at hrg HS HI H1 HZ
      have HRQ := Lib.hid hrg
      clear hrg
      go_wp2_with (first | (refine wpList_load_arr (by rfl) _ (by rfl) b' (off + k * 22) (by rfl) q HRQ.out row_ev.d HI.out ?_) | (refine wpList_store_hid (by rfl) _ _ (by rfl) wr.heap.size 0 (#[.int .i64 0, .string ⟨#[]⟩, .string ⟨#[]⟩, .string ⟨#[]⟩, .int .i64 0, .int .i64 0, .string ⟨#[]⟩, .string ⟨#[]⟩, .string ⟨#[]⟩, .string ⟨#[]⟩, .slice none 0 0, .int .i64 0, .int .i64 0, .string ⟨#[]⟩, .string ⟨#[]⟩, .string ⟨#[]⟩, .string ⟨#[]⟩, .int .i64 0, .string ⟨#[]⟩, .string ⟨#[]⟩, .string ⟨#[]⟩, .bool false]) q 89 (by rfl) (by rfl) (heap_alloc_new wr _) (by rw [HZ.out]; omega) HI.out H1.out ?_; intro w2 hw2) | (refine wpList_load_arr (by rfl) _ (by rfl) wr.heap.size 0 (by rfl) q (stored_range (heap_alloc_new wr _) HZ.out hw2) row_ev.d HI.out ?_))
      have hb2 := stored_below hw2
      refine (HS.out _ _ (hw.below hb2) (fun W hW => HOK.out W ((ht.below (by omega) hb2).bel.trans hW)) (by have := HLE.out; have := HLEN.out; simp only [List.length_append, be_length]; omega) (Nat.le_trans (by omega) hb2.size)).mono ?_
      rintro e w3 ⟨rfl, hw3, ht3⟩
      clear hw2
      go_wp2
      go_roundw
      case rel => exact ⟨k + 1, by omega, by go_num, by rw [HNX.out, ← List.append_assoc]; exact hw3, (ht.below (by omega) hb2).trans ht3⟩
      case measure => simp [intOf]; omega
    · obtain rfl : k = n := by omega
      go_wp2
      go_end0
      rw [List.take_of_length_le (by have := HN.out; omega), List.append_assoc] at hw
      refine ⟨rfl, ?_, ht⟩
      unfold evsB
      rw [HN.out]
      exact hw
end Go.Proofs.Ytlmplibdfhamjaa
