/- slices.IndexFunc, Clone, DeleteFunc at a slice of events. -/
import Derived.Test.YtebfmacbdjnhbaaEvent
import Derived.WalkLawsBesides
import Derived.WalkSpells
namespace Go.Proofs.Ytebfmacbdjnhbaa
open Go.RowKit Go.Mem
set_option linter.unusedVariables false

/-- a function value that answers a bool to an element, in every world that is as 'w' was but for one block -/
structure AsksREv (P : Program) (row : Option Nat) (w : World) (f : FuncId) (caps : Array Value) (p : Ev → Bool) (ms : List Ev) : Prop where
  enter : ∀ (args : Array Value) (W : World), Sem.run P (callFunc f args) W = .ok (.enter f args) W
  ask : ∀ W m, w.grownBy W row → m ∈ ms → Calls P f (#[.agg m.arr] ++ caps) W fun e W' => e = .returned (.bool (p m)) ∧ Below W.heap.size W W'
def FoundREv (p : Ev → Bool) (ms : List Ev) (w : World) (e : Ending) (w' : World) : Prop :=
  Below w.heap.size w w' ∧ ((∃ k : Nat, ∃ h : k < ms.length, p ms[k] = true ∧ (∀ s ∈ ms.take k, p s = false) ∧ e = .returned (.int .i64 k)) ∨ ((∀ s ∈ ms, p s = false) ∧ e = .returned (.int .i64 (-1))))
theorem el_ev : Elem Try.prog 22 34 22 304 := Elem.of (z := .agg #[.int .i64 0, .string ByteArray.empty, .string ByteArray.empty, .string ByteArray.empty, .int .i64 0, .int .i64 0, .string ByteArray.empty, .string ByteArray.empty, .string ByteArray.empty, .string ByteArray.empty, .slice none 0 0, .int .i64 0, .int .i64 0, .string ByteArray.empty, .string ByteArray.empty, .string ByteArray.empty, .string ByteArray.empty, .int .i64 0, .string ByteArray.empty, .string ByteArray.empty, .string ByteArray.empty, .bool false]) Try.underlying22 (by kernel_rfl) rfl (by decide)
theorem zero_ev (W : World) : (zeroValue 34).run Try.prog W = .ok (.agg #[.int .i64 0, .string ByteArray.empty, .string ByteArray.empty, .string ByteArray.empty, .int .i64 0, .int .i64 0, .string ByteArray.empty, .string ByteArray.empty, .string ByteArray.empty, .string ByteArray.empty, .slice none 0 0, .int .i64 0, .int .i64 0, .string ByteArray.empty, .string ByteArray.empty, .string ByteArray.empty, .string ByteArray.empty, .int .i64 0, .string ByteArray.empty, .string ByteArray.empty, .string ByteArray.empty, .bool false]) W := by kernel_rfl

set_option maxRecDepth 100000 in
set_option maxHeartbeats 1000000 in
theorem indexFuncEv_any (A : Option Addr) (n c : Nat) (ms : List Ev) (f : FuncId) (caps : Array Value) (p : Ev → Bool) (w : World) (hr : Rd w A (ms.flatMap (fun m : Ev => m.arr.toList))) (hn : ms.length = n) (hm : n ≤ maxLen)
    (hf : AsksREv Try.prog none w f caps p ms) :
    Calls Try.prog 101 #[.slice A n c, .func (.func f) #[] caps] w (FoundREv p ms w) := by
  unfold maxLen at hm
  go_enter Try.func101, Try.ntmps101
  go_wp2
  go_loopw [8] (fun i wr => ∃ k : Nat, k ≤ n ∧ i = .int .i64 k ∧ (∀ s ∈ ms.take k, p s = false) ∧ Below w.heap.size w wr) (fun i _ => n - (intOf i).toNat)
  case atStart => exact ⟨0, Nat.zero_le _, rfl, by simp, Below.refl _ _⟩
  case round =>
    obtain ⟨k, hk, rfl, hnot, hbel⟩ := hrel
    have HN := Lib.hid hnot; clear hnot
    by_cases hlt : k < n
    · have hx : k < ms.length := by omega
      obtain ⟨b, off, rfl, hrg⟩ := row_ev.at_ (hr.below hbel) k hx
      have hcall := Lib.hid (hf.ask wr ms[k] (only_of hbel _) (List.getElem_mem hx))
      have hcf := hf.enter
      generalize hs : ms[k] = s at hrg hcall
      have HS := Lib.hid hs; clear hs
      have hsz := Lib.hid (row_ev.size s)
      generalize hq : s.arr = q at hrg hcall hsz
      clear hq
      have HR := Lib.hid hrg; clear hrg
      go_wp2_with (refine wpList_load_arr (by rfl) _ (by rfl) b (off + k * 22) (by rfl) q HR.out row_ev.d (by rw [hsz.out]; exact row_ev.hi) ?_)
      refine hcall.out.mono ?_
      rintro e w1 ⟨rfl, hb1⟩
      clear hcf hcall HR
      generalize hp : p s = ps
      have HP := Lib.hid hp; clear hp
      cases ps
      · go_wp2
        go_roundw
        case rel => exact ⟨k + 1, by omega, by go_num, fun t ht => by
          rw [mem_take_succ _ _ hx] at ht
          rcases ht with ht | ht
          · exact HN.out t ht
          · rw [ht, HS.out]; exact HP.out, then_ hbel hb1⟩
        case measure => simp [intOf]; omega
      · go_wp2
        go_ret
        exact ⟨then_ hbel hb1, .inl ⟨k, hx, by rw [HS.out]; exact HP.out, HN.out, rfl⟩⟩
    · obtain rfl : k = n := by omega
      go_wp2
      go_ret
      exact ⟨hbel, .inr ⟨fun s hs => HN.out s (by rw [← hn, List.take_length]; exact hs), rfl⟩⟩

set_option maxRecDepth 100000 in
set_option maxHeartbeats 1000000 in
theorem cloneEv_any (A : Option Addr) (n c : Nat) (ms : List Ev) (w : World) (hr : Rd w A (ms.flatMap (fun m : Ev => m.arr.toList))) (hn : ms.length = n) (hm : n ≤ 100000) :
    Calls Try.prog 72 #[.slice A n c] w (MakesR 34 22 n (ms.flatMap (fun m : Ev => m.arr.toList)) w) := by
  have heq := fun W => Lib.run_eql_slice_nil (P := Try.prog) W 22 34 A n c 0 0 Try.underlying22
  cases A with
  | none =>
    have h0 := hr.none_nil
    go_enter Try.func72, Try.ntmps72
    go_wp2_with fail
    go_ret
    have h1 := congrArg List.length h0
    rw [row_ev.len, hn] at h1
    obtain rfl : n = 0 := by simp at h1; omega
    rw [h0]
    exact ⟨_, rfl, World.ownsRow_nil _ _ _ _, Below.refl _ _⟩
  | some a =>
    have hne : Option.isNone (some a) = false := rfl
    have hl : (ms.flatMap (fun m : Ev => m.arr.toList)).length = n * 22 := by rw [row_ev.len, hn]
    have HL := Lib.hid hl; clear hl hn
    go_enter Try.func72, Try.ntmps72
    go_wp2_with (at_builtin; refine wpList_app el_ev rfl _ _ rfl w.heap.size _ 0 [] rfl (World.ownsRow_made w #[] 0 (Nat.le_refl _) (Nat.zero_le _) rfl) (some a) n c (ms.flatMap (fun m : Ev => m.arr.toList)) rfl HL.out (hr.alloc _) (row_ev.ones _) (by unfold maxLen; omega) (by omega) (by simp) ?_; intro v1 w1 hown1 hbel1 _ _)
    go_ret
    exact ⟨_, rfl, by simpa using hown1, ((Below.refl _ _).alloc (Nat.le_refl _) _).trans hbel1⟩

theorem take_filterEv (p : Ev → Bool) (ss : List Ev) (k : Nat) (hk : k < ss.length) (hp : p ss[k] = true) (hn : ∀ s ∈ ss.take k, p s = false) : (ss.take (k + 1)).filter (fun s => !p s) = ss.take k := by
  rw [List.take_succ_eq_append_getElem hk, List.filter_append]
  have h1 : (ss.take k).filter (fun s => !p s) = ss.take k := List.filter_eq_self.2 (fun s hs => by simp [hn s hs])
  rw [h1]
  simp [hp]
set_option maxRecDepth 100000 in
set_option maxHeartbeats 2000000 in
theorem deleteFuncEv_any (B : Nat) (v : Value) (n : Nat) (ss : List Ev) (f : FuncId) (caps : Array Value) (p : Ev → Bool) (w : World) (hB : B ≤ w.heap.size) (hown : w.ownsRow B 34 22 v n (ss.flatMap (fun m : Ev => m.arr.toList))) (hm : n ≤ 100000)
    (hf : AsksREv Try.prog v.ownBlock w f caps p ss) :
    Calls Try.prog 71 #[v, .func (.func f) #[] caps] w (Gives_ B 34 22 (ss.filter (fun s => !p s)).length ((ss.filter (fun s => !p s)).flatMap (fun m : Ev => m.arr.toList)) w) := by
  have hn : ss.length = n := by have := hown.1; rw [row_ev.len] at this; omega
  have hfw : AsksREv Try.prog none w f caps p ss := ⟨hf.enter, fun W s hb hs => hf.ask W s ⟨hb.os, hb.tape, hb.output, hb.size, fun i hi _ => hb.block i hi (by simp)⟩ hs⟩
  obtain ⟨A, c, rfl⟩ := own_form hown
  have hr := Rd.of_own hown
  have HN := Lib.hid hn; clear hn
  have HO := Lib.hid hown; clear hown
  go_enter Try.func71, Try.ntmps71
  go_wp2_with fail
  refine (indexFuncEv_any A n c ss f caps p _ hr HN.out (by unfold maxLen; omega) hfw).mono ?_
  rintro e w1 ⟨hb1, ⟨k, hk, hpk, hnone, rfl⟩ | ⟨hall, rfl⟩⟩
  · obtain ⟨g, rfl, hg1, hg2, hnc⟩ := own_pos HO.out (by have := HN.out; omega)
    have hkn : k < n := by have := HN.out; omega
    have HT := Lib.hid (take_filterEv p ss k hk hpk hnone); clear hpk hnone
    have hkm : ((k : Int) == -1) = false := by simp
    have hO1 := Lib.hid (own_below HO.out hb1)
    have hbel1 := hb1.mono hB
    have hgr1 := only_of hb1 (some g)
    clear HO hr hfw hb1
    go_wp2_with fail
    go_loopw [5, 6] (fun i j wr => ∃ i' j' : Nat, ∃ cs : List Ev, i' < j' ∧ j' ≤ n ∧ i = .int .i64 i' ∧ j = .int .i64 j' ∧ wr.ownsRow B 34 22 (.slice (some ⟨g, 0, none⟩) n c) n (cs.flatMap (fun m : Ev => m.arr.toList)) ∧ cs.take i' = (ss.take j').filter (fun s => !p s) ∧ cs.drop j' = ss.drop j' ∧ Below B w wr ∧ w.grownBy wr (some g)) (fun _ j _ => n - (intOf j).toNat)
    case atStart => exact ⟨k, k + 1, ss, by omega, by omega, rfl, by go_num, hO1.out, HT.out.symm, rfl, hbel1, hgr1⟩
    case round =>
      obtain ⟨i, j, cs, hij, hjn, rfl, rfl, hown, htk, hdr, hbel, hgr⟩ := hrel
      have HTK := Lib.hid htk; have HDR := Lib.hid hdr; have HO := Lib.hid hown; clear htk hdr hown
      have hcl : cs.length = n := by have := HO.out.1; rw [row_ev.len] at this; omega
      have HCL := Lib.hid hcl; clear hcl
      by_cases hlt : j < n
      · have hjs : j < ss.length := by have := HN.out; omega
        have hjc : j < cs.length := by have := HCL.out; omega
        have hej : cs[j] = ss[j] := by
          have := congrArg (·[0]?) HDR.out
          simpa [hjc, hjs] using this
        have hrg := row_ev.own_range HO.out hjc
        rw [hej] at hrg
        have hcall : ∀ (q : Array Value) (ty : TypeId), ss[j].arr = q → Calls Try.prog f (#[.agg q] ++ caps) (wr.alloc (.cells q ty)) fun e W' => e = .returned (.bool (p ss[j])) ∧ Below (wr.alloc (.cells q ty)).heap.size (wr.alloc (.cells q ty)) W' := fun q ty hq => by subst hq; exact hf.ask (wr.alloc (.cells ss[j].arr ty)) ss[j] (only_then hgr ((Below.refl _ _).alloc (Nat.le_refl _) _)) (List.getElem_mem hjs)
        have hcf := hf.enter
        generalize hs : ss[j] = s at hrg hcall
        have HS := Lib.hid hs; clear hs hej
        have hsz := Lib.hid (row_ev.size s); have hone := Lib.hid (row_ev.one s)
        generalize hq : s.arr = q at hrg hcall hsz hone
        have HC := Lib.hid (hcall q 34 rfl); clear hcall
        have HQ := Lib.hid hq; clear hq
        have HR := Lib.hid hrg; clear hrg
        have HI : Hid ((Try.prog.info? 34).map (·.size) = some q.size) := Lib.hid (by rw [hsz.out]; exact row_ev.hi)
        have HZ : Hid (22 = q.size) := Lib.hid hsz.out.symm
        go_wp2_with (first | (refine wpList_load_arr (by rfl) _ (by rfl) g (j * 22) (by rfl) q HR.out row_ev.d HI.out ?_) | (refine wpList_store_new (by rfl) _ _ (by rfl) wr _ _ (by rfl) q (by rfl) (by rfl) (by exact HZ.out) HI.out hone.out ?_) | (refine wpList_load_arr (by rfl) _ (by rfl) wr.heap.size 0 (by rfl) q (range_new _ _ _) row_ev.d HI.out ?_))
        refine HC.out.mono ?_
        rintro e w2 ⟨rfl, hb2⟩
        have HR2 := Lib.hid (rangeAt_below (range_new wr q 34) hb2)
        have hb2 := below_alloc hb2
        have hbel2 := hbel.trans (hb2.mono (Nat.le_trans hB hbel.size))
        have hO2 := Lib.hid (own_below HO.out hb2)
        have hgr2 := only_then hgr hb2
        have HT2 := Lib.hid (row_ev.own_there hO2.out (i := i) (by omega) q.size hsz.out)
        clear hcf HC HO HR
        generalize hp : p s = ps
        have HP := Lib.hid hp; clear hp
        have hfs : (ss.take (j + 1)).filter (fun s => !p s) = (ss.take j).filter (fun s => !p s) ++ (if ps then [] else [s]) := by
          rw [List.take_succ_eq_append_getElem hjs, List.filter_append, HS.out, ← HP.out]
          by_cases hq : p s <;> simp [hq]
        have HF := Lib.hid hfs; clear hfs
        have hd1 : cs.drop (j + 1) = ss.drop (j + 1) := by
          have := congrArg (List.drop 1) HDR.out
          simpa [Nat.add_comm] using this
        have HD1 := Lib.hid hd1; clear hd1
        cases ps
        · go_wp2_with (first | (refine wpList_load_arr (by rfl) _ (by rfl) wr.heap.size 0 (by rfl) q HR2.out row_ev.d HI.out ?_) | (refine wpList_store_arr (by rfl) _ _ (by rfl) g (i * 22) q (by rfl) (by rfl) HT2.out HI.out hone.out ?_))
          go_roundw
          case rel =>
            refine ⟨i + 1, j + 1, cs.set i s, by omega, by omega, by go_num, by go_num, ?_, ?_, ?_, below_setCells hg1 _ _ _ hbel2, only_setCells g _ _ hgr2⟩
            · rw [← HQ.out]
              exact row_ev.own_set hO2.out HCL.out (by omega) s
            · rw [HF.out, ← HTK.out, List.take_succ_eq_append_getElem (by rw [List.length_set, HCL.out]; omega)]
              have hti : List.take i (cs.set i s) = List.take i cs := by
                rw [List.take_set]; exact List.set_eq_of_length_le (by rw [List.length_take]; omega)
              simp [hti]
            · rw [List.drop_set]; simp [show i < j + 1 by omega, HD1.out]
          case measure => simp [intOf]; omega
        · go_wp2
          go_roundw
          case rel => exact ⟨i, j + 1, cs, by omega, by omega, rfl, by go_num, hO2.out, by rw [HF.out, HTK.out]; simp, HD1.out, hbel2, hgr2⟩
          case measure => simp [intOf]; omega
      · obtain rfl : j = n := by omega
        have hcl2 : ∀ ty, ∃ L : List Value, L.length = (j - i) * 22 ∧ _ := fun ty => run_clear_rows (P := Try.prog) (sz := 22) wr 22 34 ty (.agg #[.int .i64 0, .string ByteArray.empty, .string ByteArray.empty, .string ByteArray.empty, .int .i64 0, .int .i64 0, .string ByteArray.empty, .string ByteArray.empty, .string ByteArray.empty, .string ByteArray.empty, .slice none 0 0, .int .i64 0, .int .i64 0, .string ByteArray.empty, .string ByteArray.empty, .string ByteArray.empty, .string ByteArray.empty, .int .i64 0, .string ByteArray.empty, .string ByteArray.empty, .string ByteArray.empty, .bool false]) Try.underlying22 zero_ev rfl (by decide) (by decide) g (i * 22) (j - i) (c - i) (by omega)
          (fun k hk => by obtain ⟨⟨u, _, hu⟩, _⟩ := own_cells HO.out (i * 22 + k) (by omega); rw [hu]; rfl)
          (fun k hk => (own_cells HO.out (i * 22 + k) (by omega)).2)
        obtain ⟨L, hL, hclr⟩ := hcl2 0
        have HL := Lib.hid hL; clear hL hcl2
        go_wp2
        go_ret
        have h1 := own_setL L (i * 22) wr _ HO.out (by rw [HL.out]; omega)
        have h3 := own_take h1 i (by omega)
        have hall : ss.take j = ss := by rw [← HN.out, List.take_length]
        have htk := HTK.out
        rw [hall] at htk
        have hlen : (ss.filter (fun s => !p s)).length = i := by rw [← htk, List.length_take]; have := HCL.out; omega
        have he : (setL (cs.flatMap (fun m : Ev => m.arr.toList)) (i * 22) L).take (i * 22) = (ss.filter (fun s => !p s)).flatMap (fun m : Ev => m.arr.toList) := by
          rw [setL_take, ← htk]
          exact row_ev.take_flat cs i (by have := HCL.out; omega)
        rw [he] at h3
        rw [hlen]
        exact ⟨below_setCells hg1 _ _ _ hbel, _, rfl, h3⟩
  · go_wp2
    go_ret
    have hfl : ss.filter (fun s => !p s) = ss := List.filter_eq_self.2 (fun s hs => by simp [hall s hs])
    rw [hfl, HN.out]
    exact ⟨hb1.mono hB, _, rfl, own_below HO.out hb1⟩

end Go.Proofs.Ytebfmacbdjnhbaa
