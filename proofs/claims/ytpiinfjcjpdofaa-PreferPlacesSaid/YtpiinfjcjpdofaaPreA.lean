/- Choices and members: their cells; slices.IndexFunc, Clone, DeleteFunc at slices of them. -/
import Derived.Test.YtpiinfjcjpdofaaWalkA
import Derived.Test.YtpiinfjcjpdofaaOpen
import Derived.Test.YtpiinfjcjpdofaaRowK
import Derived.WalkLawsBesides
import Derived.WalkSpells
namespace Go.Proofs.Ytpiinfjcjpdofaa
open Go.RowKit Go.Mem
set_option linter.unusedVariables false
set_option maxRecDepth 100000
set_option linter.unusedSimpArgs false
/-- a choice -/
structure Cho where
  node : ByteArray
  primary : Bool
deriving DecidableEq
def Cho.arr (x : Cho) : Array Value := #[.string x.node, .bool x.primary]
def Cho.ok (w : World) (x : Cho) : Prop := x.node.size ≤ maxLen
theorem cells_cho : Try.prog.cellsOf 61 = 2 := by kernel_rfl
theorem is_cho {H : Type} {enc : TypeId × Value → H} {w : World} {cs : List Value} (h : Is enc Try.prog w 61 cs) : ∃ m : Cho, cs = m.arr.toList ∧ m.ok w := by
  obtain ⟨hl, hf⟩ := is_struct Try.underlying61 h
  rw [cells_cho] at hl
  obtain ⟨c0, r0, rfl, hl0⟩ := cons_of hl
  obtain ⟨c1, r1, rfl, hl1⟩ := cons_of hl0
  obtain rfl := nil_of hl1
  have f0 : Is enc Try.prog w 9 (List.take (Try.prog.cellsOf 9) (List.drop 0 _)) := hf 0 _ rfl
  rw [(show Try.prog.cellsOf 9 = 1 by kernel_rfl)] at f0
  simp only [List.drop_succ_cons, List.drop_zero, List.take_succ_cons, List.take_zero, List.take_nil] at f0
  obtain ⟨a0, h0, w0⟩ := is_string Try.underlying9 f0
  simp only [List.cons.injEq, and_true] at h0
  subst h0
  have f1 : Is enc Try.prog w 4 (List.take (Try.prog.cellsOf 4) (List.drop 1 _)) := hf 1 _ rfl
  rw [(show Try.prog.cellsOf 4 = 1 by kernel_rfl)] at f1
  simp only [List.drop_succ_cons, List.drop_zero, List.take_succ_cons, List.take_zero, List.take_nil] at f1
  obtain ⟨a1, h1⟩ := is_bool Try.underlying4 f1
  simp only [List.cons.injEq, and_true] at h1
  subst h1
  exact ⟨⟨a0, a1⟩, rfl, w0⟩
theorem Cho.ok.below {w w' : World} {x : Cho} (h : x.ok w) (hb : Below w.heap.size w w') : x.ok w' := by
  exact h
theorem row_cho : RowK Try.prog 61 Cho.arr 2 where
  d := ⟨_, Try.underlying61, rfl⟩
  hi := by kernel_rfl
  size m := rfl
  one m u hu := by simp only [Cho.arr, List.mem_cons, List.not_mem_nil, or_false] at hu; rcases hu with rfl | rfl <;> rfl
  pos := by decide
def Mb.arr (x : Mb) : Array Value := #[.string x.name, .string x.rack, .string x.zone, .bool x.up]
theorem row_mb : RowK Try.prog 34 Mb.arr 4 where
  d := ⟨_, Try.underlying34, rfl⟩
  hi := by kernel_rfl
  size m := rfl
  one m u hu := by simp only [Mb.arr, List.mem_cons, List.not_mem_nil, or_false] at hu; rcases hu with rfl | rfl | rfl | rfl <;> rfl
  pos := by decide

/-- a function value that answers a bool to an element, in every world that is as 'w' was but for one block -/
structure AsksRCho (P : Program) (row : Option Nat) (w : World) (f : FuncId) (caps : Array Value) (p : Cho → Bool) (ms : List Cho) : Prop where
  enter : ∀ (args : Array Value) (W : World), Sem.run P (callFunc f args) W = .ok (.enter f args) W
  ask : ∀ W m, w.grownBy W row → m ∈ ms → Calls P f (#[.agg m.arr] ++ caps) W fun e W' => e = .returned (.bool (p m)) ∧ Below W.heap.size W W'
def FoundRCho (p : Cho → Bool) (ms : List Cho) (w : World) (e : Ending) (w' : World) : Prop :=
  Below w.heap.size w w' ∧ ((∃ k : Nat, ∃ h : k < ms.length, p ms[k] = true ∧ (∀ s ∈ ms.take k, p s = false) ∧ e = .returned (.int .i64 k)) ∨ ((∀ s ∈ ms, p s = false) ∧ e = .returned (.int .i64 (-1))))
theorem el_cho : Elem Try.prog 51 61 2 24 := Elem.of (z := .agg #[.string ByteArray.empty, .bool false]) Try.underlying51 (by kernel_rfl) rfl (by decide)
theorem zero_cho (W : World) : (zeroValue 61).run Try.prog W = .ok (.agg #[.string ByteArray.empty, .bool false]) W := by kernel_rfl

set_option maxRecDepth 100000 in
set_option maxHeartbeats 1000000 in
theorem indexFuncCho_any (A : Option Addr) (n c : Nat) (ms : List Cho) (f : FuncId) (caps : Array Value) (p : Cho → Bool) (w : World) (hr : Rd w A (ms.flatMap (fun m : Cho => m.arr.toList))) (hn : ms.length = n) (hm : n ≤ maxLen)
    (hf : AsksRCho Try.prog none w f caps p ms) :
    Calls Try.prog 71 #[.slice A n c, .func (.func f) #[] caps] w (FoundRCho p ms w) := by
  unfold maxLen at hm
  go_enter Try.func71, Try.ntmps71
  go_wp2
  go_loopw [8] (fun i wr => ∃ k : Nat, k ≤ n ∧ i = .int .i64 k ∧ (∀ s ∈ ms.take k, p s = false) ∧ Below w.heap.size w wr) (fun i _ => n - (intOf i).toNat)
  case atStart => exact ⟨0, Nat.zero_le _, rfl, by simp, Below.refl _ _⟩
  case round =>
    obtain ⟨k, hk, rfl, hnot, hbel⟩ := hrel
    have HN := Lib.hid hnot; clear hnot
    by_cases hlt : k < n
    · have hx : k < ms.length := by omega
      obtain ⟨b, off, rfl, hrg⟩ := row_cho.at_ (hr.below hbel) k hx
      have hcall := Lib.hid (hf.ask wr ms[k] (only_of hbel _) (List.getElem_mem hx))
      have hcf := hf.enter
      generalize hs : ms[k] = s at hrg hcall
      have HS := Lib.hid hs; clear hs
      have hsz := Lib.hid (row_cho.size s)
      generalize hq : s.arr = q at hrg hcall hsz
      clear hq
      have HR := Lib.hid hrg; clear hrg
      go_wp2_with (refine wpList_load_arr (by rfl) _ (by rfl) b (off + k * 2) (by rfl) q HR.out row_cho.d (by rw [hsz.out]; exact row_cho.hi) ?_)
      refine hcall.out.mono ?_
      rintro e w1 ⟨rfl, hb1⟩
      clear hcf hcall HR
      generalize hp : p s = ps
      have HP := Lib.hid hp; clear hp
      cases ps
      · go_wp2
        go_roundw
        case rel => exact ⟨k + 1, by omega, by go_num, fun t ht => by
          rw [mem_take_succ _ _ hx] at ht
          rcases ht with ht | ht
          · exact HN.out t ht
          · rw [ht, HS.out]; exact HP.out, then_ hbel hb1⟩
        case measure => simp [intOf]; omega
      · go_wp2
        go_ret
        exact ⟨then_ hbel hb1, .inl ⟨k, hx, by rw [HS.out]; exact HP.out, HN.out, rfl⟩⟩
    · obtain rfl : k = n := by omega
      go_wp2
      go_ret
      exact ⟨hbel, .inr ⟨fun s hs => HN.out s (by rw [← hn, List.take_length]; exact hs), rfl⟩⟩

set_option maxRecDepth 100000 in
set_option maxHeartbeats 1000000 in
theorem cloneCho_any (A : Option Addr) (n c : Nat) (ms : List Cho) (w : World) (hr : Rd w A (ms.flatMap (fun m : Cho => m.arr.toList))) (hn : ms.length = n) (hm : n ≤ 100000) :
    Calls Try.prog 60 #[.slice A n c] w (MakesR 61 2 n (ms.flatMap (fun m : Cho => m.arr.toList)) w) := by
  have heq := fun W => Lib.run_eql_slice_nil (P := Try.prog) W 51 61 A n c 0 0 Try.underlying51
  cases A with
  | none =>
    have h0 := hr.none_nil
    go_enter Try.func60, Try.ntmps60
    go_wp2_with fail
    go_ret
    have h1 := congrArg List.length h0
    rw [row_cho.len, hn] at h1
    obtain rfl : n = 0 := by simp at h1; omega
    rw [h0]
    exact ⟨_, rfl, World.ownsRow_nil _ _ _ _, Below.refl _ _⟩
  | some a =>
    have hne : Option.isNone (some a) = false := rfl
    have hl : (ms.flatMap (fun m : Cho => m.arr.toList)).length = n * 2 := by rw [row_cho.len, hn]
    have HL := Lib.hid hl; clear hl hn
    go_enter Try.func60, Try.ntmps60
    go_wp2_with (at_builtin; refine wpList_app el_cho rfl _ _ rfl w.heap.size _ 0 [] rfl (World.ownsRow_made w #[] 0 (Nat.le_refl _) (Nat.zero_le _) rfl) (some a) n c (ms.flatMap (fun m : Cho => m.arr.toList)) rfl HL.out (hr.alloc _) (row_cho.ones _) (by unfold maxLen; omega) (by omega) (by simp) ?_; intro v1 w1 hown1 hbel1 _ _)
    go_ret
    exact ⟨_, rfl, by simpa using hown1, ((Below.refl _ _).alloc (Nat.le_refl _) _).trans hbel1⟩

theorem take_filterCho (p : Cho → Bool) (ss : List Cho) (k : Nat) (hk : k < ss.length) (hp : p ss[k] = true) (hn : ∀ s ∈ ss.take k, p s = false) : (ss.take (k + 1)).filter (fun s => !p s) = ss.take k := by
  rw [List.take_succ_eq_append_getElem hk, List.filter_append]
  have h1 : (ss.take k).filter (fun s => !p s) = ss.take k := List.filter_eq_self.2 (fun s hs => by simp [hn s hs])
  rw [h1]
  simp [hp]
set_option maxRecDepth 100000 in
set_option maxHeartbeats 2000000 in
theorem deleteFuncCho_any (B : Nat) (v : Value) (n : Nat) (ss : List Cho) (f : FuncId) (caps : Array Value) (p : Cho → Bool) (w : World) (hB : B ≤ w.heap.size) (hown : w.ownsRow B 61 2 v n (ss.flatMap (fun m : Cho => m.arr.toList))) (hm : n ≤ 100000)
    (hf : AsksRCho Try.prog v.ownBlock w f caps p ss) :
    Calls Try.prog 59 #[v, .func (.func f) #[] caps] w (Gives_ B 61 2 (ss.filter (fun s => !p s)).length ((ss.filter (fun s => !p s)).flatMap (fun m : Cho => m.arr.toList)) w) := by
  have hn : ss.length = n := by have := hown.1; rw [row_cho.len] at this; omega
  have hfw : AsksRCho Try.prog none w f caps p ss := ⟨hf.enter, fun W s hb hs => hf.ask W s ⟨hb.os, hb.tape, hb.output, hb.size, fun i hi _ => hb.block i hi (by simp)⟩ hs⟩
  obtain ⟨A, c, rfl⟩ := own_form hown
  have hr := Rd.of_own hown
  have HN := Lib.hid hn; clear hn
  have HO := Lib.hid hown; clear hown
  go_enter Try.func59, Try.ntmps59
  go_wp2_with fail
  refine (indexFuncCho_any A n c ss f caps p _ hr HN.out (by unfold maxLen; omega) hfw).mono ?_
  rintro e w1 ⟨hb1, ⟨k, hk, hpk, hnone, rfl⟩ | ⟨hall, rfl⟩⟩
  · obtain ⟨g, rfl, hg1, hg2, hnc⟩ := own_pos HO.out (by have := HN.out; omega)
    have hkn : k < n := by have := HN.out; omega
    have HT := Lib.hid (take_filterCho p ss k hk hpk hnone); clear hpk hnone
    have hkm : ((k : Int) == -1) = false := by simp
    have hO1 := Lib.hid (own_below HO.out hb1)
    have hbel1 := hb1.mono hB
    have hgr1 := only_of hb1 (some g)
    clear HO hr hfw hb1
    go_wp2_with fail
    go_loopw [5, 6] (fun i j wr => ∃ i' j' : Nat, ∃ cs : List Cho, i' < j' ∧ j' ≤ n ∧ i = .int .i64 i' ∧ j = .int .i64 j' ∧ wr.ownsRow B 61 2 (.slice (some ⟨g, 0, none⟩) n c) n (cs.flatMap (fun m : Cho => m.arr.toList)) ∧ cs.take i' = (ss.take j').filter (fun s => !p s) ∧ cs.drop j' = ss.drop j' ∧ Below B w wr ∧ w.grownBy wr (some g)) (fun _ j _ => n - (intOf j).toNat)
    case atStart => exact ⟨k, k + 1, ss, by omega, by omega, rfl, by go_num, hO1.out, HT.out.symm, rfl, hbel1, hgr1⟩
    case round =>
      obtain ⟨i, j, cs, hij, hjn, rfl, rfl, hown, htk, hdr, hbel, hgr⟩ := hrel
      have HTK := Lib.hid htk; have HDR := Lib.hid hdr; have HO := Lib.hid hown; clear htk hdr hown
      have hcl : cs.length = n := by have := HO.out.1; rw [row_cho.len] at this; omega
      have HCL := Lib.hid hcl; clear hcl
      by_cases hlt : j < n
      · have hjs : j < ss.length := by have := HN.out; omega
        have hjc : j < cs.length := by have := HCL.out; omega
        have hej : cs[j] = ss[j] := by
          have := congrArg (·[0]?) HDR.out
          simpa [hjc, hjs] using this
        have hrg := row_cho.own_range HO.out hjc
        rw [hej] at hrg
        have hcall : ∀ (q : Array Value) (ty : TypeId), ss[j].arr = q → Calls Try.prog f (#[.agg q] ++ caps) (wr.alloc (.cells q ty)) fun e W' => e = .returned (.bool (p ss[j])) ∧ Below (wr.alloc (.cells q ty)).heap.size (wr.alloc (.cells q ty)) W' := fun q ty hq => by subst hq; exact hf.ask (wr.alloc (.cells ss[j].arr ty)) ss[j] (only_then hgr ((Below.refl _ _).alloc (Nat.le_refl _) _)) (List.getElem_mem hjs)
        have hcf := hf.enter
        generalize hs : ss[j] = s at hrg hcall
        have HS := Lib.hid hs; clear hs hej
        have hsz := Lib.hid (row_cho.size s); have hone := Lib.hid (row_cho.one s)
        generalize hq : s.arr = q at hrg hcall hsz hone
        have HC := Lib.hid (hcall q 61 rfl); clear hcall
        have HQ := Lib.hid hq; clear hq
        have HR := Lib.hid hrg; clear hrg
        have HI : Hid ((Try.prog.info? 61).map (·.size) = some q.size) := Lib.hid (by rw [hsz.out]; exact row_cho.hi)
        have HZ : Hid (2 = q.size) := Lib.hid hsz.out.symm
        go_wp2_with (first | (refine wpList_load_arr (by rfl) _ (by rfl) g (j * 2) (by rfl) q HR.out row_cho.d HI.out ?_) | (refine wpList_store_new (by rfl) _ _ (by rfl) wr _ _ (by rfl) q (by rfl) (by rfl) (by exact HZ.out) HI.out hone.out ?_) | (refine wpList_load_arr (by rfl) _ (by rfl) wr.heap.size 0 (by rfl) q (range_new _ _ _) row_cho.d HI.out ?_))
        refine HC.out.mono ?_
        rintro e w2 ⟨rfl, hb2⟩
        have HR2 := Lib.hid (rangeAt_below (range_new wr q 61) hb2)
        have hb2 := below_alloc hb2
        have hbel2 := hbel.trans (hb2.mono (Nat.le_trans hB hbel.size))
        have hO2 := Lib.hid (own_below HO.out hb2)
        have hgr2 := only_then hgr hb2
        have HT2 := Lib.hid (row_cho.own_there hO2.out (i := i) (by omega) q.size hsz.out)
        clear hcf HC HO HR
        generalize hp : p s = ps
        have HP := Lib.hid hp; clear hp
        have hfs : (ss.take (j + 1)).filter (fun s => !p s) = (ss.take j).filter (fun s => !p s) ++ (if ps then [] else [s]) := by
          rw [List.take_succ_eq_append_getElem hjs, List.filter_append, HS.out, ← HP.out]
          by_cases hq : p s <;> simp [hq]
        have HF := Lib.hid hfs; clear hfs
        have hd1 : cs.drop (j + 1) = ss.drop (j + 1) := by
          have := congrArg (List.drop 1) HDR.out
          simpa [Nat.add_comm] using this
        have HD1 := Lib.hid hd1; clear hd1
        cases ps
        · go_wp2_with (first | (refine wpList_load_arr (by rfl) _ (by rfl) wr.heap.size 0 (by rfl) q HR2.out row_cho.d HI.out ?_) | (refine wpList_store_arr (by rfl) _ _ (by rfl) g (i * 2) q (by rfl) (by rfl) HT2.out HI.out hone.out ?_))
          go_roundw
          case rel =>
            refine ⟨i + 1, j + 1, cs.set i s, by omega, by omega, by go_num, by go_num, ?_, ?_, ?_, below_setCells hg1 _ _ _ hbel2, only_setCells g _ _ hgr2⟩
            · rw [← HQ.out]
              exact row_cho.own_set hO2.out HCL.out (by omega) s
            · rw [HF.out, ← HTK.out, List.take_succ_eq_append_getElem (by rw [List.length_set, HCL.out]; omega)]
              have hti : List.take i (cs.set i s) = List.take i cs := by
                rw [List.take_set]; exact List.set_eq_of_length_le (by rw [List.length_take]; omega)
              simp [hti]
            · rw [List.drop_set]; simp [show i < j + 1 by omega, HD1.out]
          case measure => simp [intOf]; omega
        · go_wp2
          go_roundw
          case rel => exact ⟨i, j + 1, cs, by omega, by omega, rfl, by go_num, hO2.out, by rw [HF.out, HTK.out]; simp, HD1.out, hbel2, hgr2⟩
          case measure => simp [intOf]; omega
      · obtain rfl : j = n := by omega
        have hcl2 : ∀ ty, ∃ L : List Value, L.length = (j - i) * 2 ∧ _ := fun ty => run_clear_rows (P := Try.prog) (sz := 2) wr 51 61 ty (.agg #[.string ByteArray.empty, .bool false]) Try.underlying51 zero_cho rfl (by decide) (by decide) g (i * 2) (j - i) (c - i) (by omega)
          (fun k hk => by obtain ⟨⟨u, _, hu⟩, _⟩ := own_cells HO.out (i * 2 + k) (by omega); rw [hu]; rfl)
          (fun k hk => (own_cells HO.out (i * 2 + k) (by omega)).2)
        obtain ⟨L, hL, hclr⟩ := hcl2 0
        have HL := Lib.hid hL; clear hL hcl2
        go_wp2
        go_ret
        have h1 := own_setL L (i * 2) wr _ HO.out (by rw [HL.out]; omega)
        have h3 := own_take h1 i (by omega)
        have hall : ss.take j = ss := by rw [← HN.out, List.take_length]
        have htk := HTK.out
        rw [hall] at htk
        have hlen : (ss.filter (fun s => !p s)).length = i := by rw [← htk, List.length_take]; have := HCL.out; omega
        have he : (setL (cs.flatMap (fun m : Cho => m.arr.toList)) (i * 2) L).take (i * 2) = (ss.filter (fun s => !p s)).flatMap (fun m : Cho => m.arr.toList) := by
          rw [setL_take, ← htk]
          exact row_cho.take_flat cs i (by have := HCL.out; omega)
        rw [he] at h3
        rw [hlen]
        exact ⟨below_setCells hg1 _ _ _ hbel, _, rfl, h3⟩
  · go_wp2
    go_ret
    have hfl : ss.filter (fun s => !p s) = ss := List.filter_eq_self.2 (fun s hs => by simp [hall s hs])
    rw [hfl, HN.out]
    exact ⟨hb1.mono hB, _, rfl, own_below HO.out hb1⟩

/-- a function value that answers a bool to an element, in every world that is as 'w' was but for one block -/
structure AsksRMb (P : Program) (row : Option Nat) (w : World) (f : FuncId) (caps : Array Value) (p : Mb → Bool) (ms : List Mb) : Prop where
  enter : ∀ (args : Array Value) (W : World), Sem.run P (callFunc f args) W = .ok (.enter f args) W
  ask : ∀ W m, w.grownBy W row → m ∈ ms → Calls P f (#[.agg m.arr] ++ caps) W fun e W' => e = .returned (.bool (p m)) ∧ Below W.heap.size W W'
def FoundRMb (p : Mb → Bool) (ms : List Mb) (w : World) (e : Ending) (w' : World) : Prop :=
  Below w.heap.size w w' ∧ ((∃ k : Nat, ∃ h : k < ms.length, p ms[k] = true ∧ (∀ s ∈ ms.take k, p s = false) ∧ e = .returned (.int .i64 k)) ∨ ((∀ s ∈ ms, p s = false) ∧ e = .returned (.int .i64 (-1))))
theorem el_mb : Elem Try.prog 23 34 4 56 := Elem.of (z := .agg #[.string ByteArray.empty, .string ByteArray.empty, .string ByteArray.empty, .bool false]) Try.underlying23 (by kernel_rfl) rfl (by decide)
theorem zero_mb (W : World) : (zeroValue 34).run Try.prog W = .ok (.agg #[.string ByteArray.empty, .string ByteArray.empty, .string ByteArray.empty, .bool false]) W := by kernel_rfl

set_option maxRecDepth 100000 in
set_option maxHeartbeats 1000000 in
theorem indexFuncMb_any (A : Option Addr) (n c : Nat) (ms : List Mb) (f : FuncId) (caps : Array Value) (p : Mb → Bool) (w : World) (hr : Rd w A (ms.flatMap (fun m : Mb => m.arr.toList))) (hn : ms.length = n) (hm : n ≤ maxLen)
    (hf : AsksRMb Try.prog none w f caps p ms) :
    Calls Try.prog 74 #[.slice A n c, .func (.func f) #[] caps] w (FoundRMb p ms w) := by
  unfold maxLen at hm
  go_enter Try.func74, Try.ntmps74
  go_wp2
  go_loopw [8] (fun i wr => ∃ k : Nat, k ≤ n ∧ i = .int .i64 k ∧ (∀ s ∈ ms.take k, p s = false) ∧ Below w.heap.size w wr) (fun i _ => n - (intOf i).toNat)
  case atStart => exact ⟨0, Nat.zero_le _, rfl, by simp, Below.refl _ _⟩
  case round =>
    obtain ⟨k, hk, rfl, hnot, hbel⟩ := hrel
    have HN := Lib.hid hnot; clear hnot
    by_cases hlt : k < n
    · have hx : k < ms.length := by omega
      obtain ⟨b, off, rfl, hrg⟩ := row_mb.at_ (hr.below hbel) k hx
      have hcall := Lib.hid (hf.ask wr ms[k] (only_of hbel _) (List.getElem_mem hx))
      have hcf := hf.enter
      generalize hs : ms[k] = s at hrg hcall
      have HS := Lib.hid hs; clear hs
      have hsz := Lib.hid (row_mb.size s)
      generalize hq : s.arr = q at hrg hcall hsz
      clear hq
      have HR := Lib.hid hrg; clear hrg
      go_wp2_with (refine wpList_load_arr (by rfl) _ (by rfl) b (off + k * 4) (by rfl) q HR.out row_mb.d (by rw [hsz.out]; exact row_mb.hi) ?_)
      refine hcall.out.mono ?_
      rintro e w1 ⟨rfl, hb1⟩
      clear hcf hcall HR
      generalize hp : p s = ps
      have HP := Lib.hid hp; clear hp
      cases ps
      · go_wp2
        go_roundw
        case rel => exact ⟨k + 1, by omega, by go_num, fun t ht => by
          rw [mem_take_succ _ _ hx] at ht
          rcases ht with ht | ht
          · exact HN.out t ht
          · rw [ht, HS.out]; exact HP.out, then_ hbel hb1⟩
        case measure => simp [intOf]; omega
      · go_wp2
        go_ret
        exact ⟨then_ hbel hb1, .inl ⟨k, hx, by rw [HS.out]; exact HP.out, HN.out, rfl⟩⟩
    · obtain rfl : k = n := by omega
      go_wp2
      go_ret
      exact ⟨hbel, .inr ⟨fun s hs => HN.out s (by rw [← hn, List.take_length]; exact hs), rfl⟩⟩

set_option maxRecDepth 100000 in
set_option maxHeartbeats 1000000 in
theorem cloneMb_any (A : Option Addr) (n c : Nat) (ms : List Mb) (w : World) (hr : Rd w A (ms.flatMap (fun m : Mb => m.arr.toList))) (hn : ms.length = n) (hm : n ≤ 100000) :
    Calls Try.prog 68 #[.slice A n c] w (MakesR 34 4 n (ms.flatMap (fun m : Mb => m.arr.toList)) w) := by
  have heq := fun W => Lib.run_eql_slice_nil (P := Try.prog) W 23 34 A n c 0 0 Try.underlying23
  cases A with
  | none =>
    have h0 := hr.none_nil
    go_enter Try.func68, Try.ntmps68
    go_wp2_with fail
    go_ret
    have h1 := congrArg List.length h0
    rw [row_mb.len, hn] at h1
    obtain rfl : n = 0 := by simp at h1; omega
    rw [h0]
    exact ⟨_, rfl, World.ownsRow_nil _ _ _ _, Below.refl _ _⟩
  | some a =>
    have hne : Option.isNone (some a) = false := rfl
    have hl : (ms.flatMap (fun m : Mb => m.arr.toList)).length = n * 4 := by rw [row_mb.len, hn]
    have HL := Lib.hid hl; clear hl hn
    go_enter Try.func68, Try.ntmps68
    go_wp2_with (at_builtin; refine wpList_app el_mb rfl _ _ rfl w.heap.size _ 0 [] rfl (World.ownsRow_made w #[] 0 (Nat.le_refl _) (Nat.zero_le _) rfl) (some a) n c (ms.flatMap (fun m : Mb => m.arr.toList)) rfl HL.out (hr.alloc _) (row_mb.ones _) (by unfold maxLen; omega) (by omega) (by simp) ?_; intro v1 w1 hown1 hbel1 _ _)
    go_ret
    exact ⟨_, rfl, by simpa using hown1, ((Below.refl _ _).alloc (Nat.le_refl _) _).trans hbel1⟩

theorem take_filterMb (p : Mb → Bool) (ss : List Mb) (k : Nat) (hk : k < ss.length) (hp : p ss[k] = true) (hn : ∀ s ∈ ss.take k, p s = false) : (ss.take (k + 1)).filter (fun s => !p s) = ss.take k := by
  rw [List.take_succ_eq_append_getElem hk, List.filter_append]
  have h1 : (ss.take k).filter (fun s => !p s) = ss.take k := List.filter_eq_self.2 (fun s hs => by simp [hn s hs])
  rw [h1]
  simp [hp]
set_option maxRecDepth 100000 in
set_option maxHeartbeats 2000000 in
theorem deleteFuncMb_any (B : Nat) (v : Value) (n : Nat) (ss : List Mb) (f : FuncId) (caps : Array Value) (p : Mb → Bool) (w : World) (hB : B ≤ w.heap.size) (hown : w.ownsRow B 34 4 v n (ss.flatMap (fun m : Mb => m.arr.toList))) (hm : n ≤ 100000)
    (hf : AsksRMb Try.prog v.ownBlock w f caps p ss) :
    Calls Try.prog 67 #[v, .func (.func f) #[] caps] w (Gives_ B 34 4 (ss.filter (fun s => !p s)).length ((ss.filter (fun s => !p s)).flatMap (fun m : Mb => m.arr.toList)) w) := by
  have hn : ss.length = n := by have := hown.1; rw [row_mb.len] at this; omega
  have hfw : AsksRMb Try.prog none w f caps p ss := ⟨hf.enter, fun W s hb hs => hf.ask W s ⟨hb.os, hb.tape, hb.output, hb.size, fun i hi _ => hb.block i hi (by simp)⟩ hs⟩
  obtain ⟨A, c, rfl⟩ := own_form hown
  have hr := Rd.of_own hown
  have HN := Lib.hid hn; clear hn
  have HO := Lib.hid hown; clear hown
  go_enter Try.func67, Try.ntmps67
  go_wp2_with fail
  refine (indexFuncMb_any A n c ss f caps p _ hr HN.out (by unfold maxLen; omega) hfw).mono ?_
  rintro e w1 ⟨hb1, ⟨k, hk, hpk, hnone, rfl⟩ | ⟨hall, rfl⟩⟩
  · obtain ⟨g, rfl, hg1, hg2, hnc⟩ := own_pos HO.out (by have := HN.out; omega)
    have hkn : k < n := by have := HN.out; omega
    have HT := Lib.hid (take_filterMb p ss k hk hpk hnone); clear hpk hnone
    have hkm : ((k : Int) == -1) = false := by simp
    have hO1 := Lib.hid (own_below HO.out hb1)
    have hbel1 := hb1.mono hB
    have hgr1 := only_of hb1 (some g)
    clear HO hr hfw hb1
    go_wp2_with fail
    go_loopw [5, 6] (fun i j wr => ∃ i' j' : Nat, ∃ cs : List Mb, i' < j' ∧ j' ≤ n ∧ i = .int .i64 i' ∧ j = .int .i64 j' ∧ wr.ownsRow B 34 4 (.slice (some ⟨g, 0, none⟩) n c) n (cs.flatMap (fun m : Mb => m.arr.toList)) ∧ cs.take i' = (ss.take j').filter (fun s => !p s) ∧ cs.drop j' = ss.drop j' ∧ Below B w wr ∧ w.grownBy wr (some g)) (fun _ j _ => n - (intOf j).toNat)
    case atStart => exact ⟨k, k + 1, ss, by omega, by omega, rfl, by go_num, hO1.out, HT.out.symm, rfl, hbel1, hgr1⟩
    case round =>
      obtain ⟨i, j, cs, hij, hjn, rfl, rfl, hown, htk, hdr, hbel, hgr⟩ := hrel
      have HTK := Lib.hid htk; have HDR := Lib.hid hdr; have HO := Lib.hid hown; clear htk hdr hown
      have hcl : cs.length = n := by have := HO.out.1; rw [row_mb.len] at this; omega
      have HCL := Lib.hid hcl; clear hcl
      by_cases hlt : j < n
      · have hjs : j < ss.length := by have := HN.out; omega
        have hjc : j < cs.length := by have := HCL.out; omega
        have hej : cs[j] = ss[j] := by
          have := congrArg (·[0]?) HDR.out
          simpa [hjc, hjs] using this
        have hrg := row_mb.own_range HO.out hjc
        rw [hej] at hrg
        have hcall : ∀ (q : Array Value) (ty : TypeId), ss[j].arr = q → Calls Try.prog f (#[.agg q] ++ caps) (wr.alloc (.cells q ty)) fun e W' => e = .returned (.bool (p ss[j])) ∧ Below (wr.alloc (.cells q ty)).heap.size (wr.alloc (.cells q ty)) W' := fun q ty hq => by subst hq; exact hf.ask (wr.alloc (.cells ss[j].arr ty)) ss[j] (only_then hgr ((Below.refl _ _).alloc (Nat.le_refl _) _)) (List.getElem_mem hjs)
        have hcf := hf.enter
        generalize hs : ss[j] = s at hrg hcall
        have HS := Lib.hid hs; clear hs hej
        have hsz := Lib.hid (row_mb.size s); have hone := Lib.hid (row_mb.one s)
        generalize hq : s.arr = q at hrg hcall hsz hone
        have HC := Lib.hid (hcall q 34 rfl); clear hcall
        have HQ := Lib.hid hq; clear hq
        have HR := Lib.hid hrg; clear hrg
        have HI : Hid ((Try.prog.info? 34).map (·.size) = some q.size) := Lib.hid (by rw [hsz.out]; exact row_mb.hi)
        have HZ : Hid (4 = q.size) := Lib.hid hsz.out.symm
        go_wp2_with (first | (refine wpList_load_arr (by rfl) _ (by rfl) g (j * 4) (by rfl) q HR.out row_mb.d HI.out ?_) | (refine wpList_store_new (by rfl) _ _ (by rfl) wr _ _ (by rfl) q (by rfl) (by rfl) (by exact HZ.out) HI.out hone.out ?_) | (refine wpList_load_arr (by rfl) _ (by rfl) wr.heap.size 0 (by rfl) q (range_new _ _ _) row_mb.d HI.out ?_))
        refine HC.out.mono ?_
        rintro e w2 ⟨rfl, hb2⟩
        have HR2 := Lib.hid (rangeAt_below (range_new wr q 34) hb2)
        have hb2 := below_alloc hb2
        have hbel2 := hbel.trans (hb2.mono (Nat.le_trans hB hbel.size))
        have hO2 := Lib.hid (own_below HO.out hb2)
        have hgr2 := only_then hgr hb2
        have HT2 := Lib.hid (row_mb.own_there hO2.out (i := i) (by omega) q.size hsz.out)
        clear hcf HC HO HR
        generalize hp : p s = ps
        have HP := Lib.hid hp; clear hp
        have hfs : (ss.take (j + 1)).filter (fun s => !p s) = (ss.take j).filter (fun s => !p s) ++ (if ps then [] else [s]) := by
          rw [List.take_succ_eq_append_getElem hjs, List.filter_append, HS.out, ← HP.out]
          by_cases hq : p s <;> simp [hq]
        have HF := Lib.hid hfs; clear hfs
        have hd1 : cs.drop (j + 1) = ss.drop (j + 1) := by
          have := congrArg (List.drop 1) HDR.out
          simpa [Nat.add_comm] using this
        have HD1 := Lib.hid hd1; clear hd1
        cases ps
        · go_wp2_with (first | (refine wpList_load_arr (by rfl) _ (by rfl) wr.heap.size 0 (by rfl) q HR2.out row_mb.d HI.out ?_) | (refine wpList_store_arr (by rfl) _ _ (by rfl) g (i * 4) q (by rfl) (by rfl) HT2.out HI.out hone.out ?_))
          go_roundw
          case rel =>
            refine ⟨i + 1, j + 1, cs.set i s, by omega, by omega, by go_num, by go_num, ?_, ?_, ?_, below_setCells hg1 _ _ _ hbel2, only_setCells g _ _ hgr2⟩
            · rw [← HQ.out]
              exact row_mb.own_set hO2.out HCL.out (by omega) s
            · rw [HF.out, ← HTK.out, List.take_succ_eq_append_getElem (by rw [List.length_set, HCL.out]; omega)]
              have hti : List.take i (cs.set i s) = List.take i cs := by
                rw [List.take_set]; exact List.set_eq_of_length_le (by rw [List.length_take]; omega)
              simp [hti]
            · rw [List.drop_set]; simp [show i < j + 1 by omega, HD1.out]
          case measure => simp [intOf]; omega
        · go_wp2
          go_roundw
          case rel => exact ⟨i, j + 1, cs, by omega, by omega, rfl, by go_num, hO2.out, by rw [HF.out, HTK.out]; simp, HD1.out, hbel2, hgr2⟩
          case measure => simp [intOf]; omega
      · obtain rfl : j = n := by omega
        have hcl2 : ∀ ty, ∃ L : List Value, L.length = (j - i) * 4 ∧ _ := fun ty => run_clear_rows (P := Try.prog) (sz := 4) wr 23 34 ty (.agg #[.string ByteArray.empty, .string ByteArray.empty, .string ByteArray.empty, .bool false]) Try.underlying23 zero_mb rfl (by decide) (by decide) g (i * 4) (j - i) (c - i) (by omega)
          (fun k hk => by obtain ⟨⟨u, _, hu⟩, _⟩ := own_cells HO.out (i * 4 + k) (by omega); rw [hu]; rfl)
          (fun k hk => (own_cells HO.out (i * 4 + k) (by omega)).2)
        obtain ⟨L, hL, hclr⟩ := hcl2 0
        have HL := Lib.hid hL; clear hL hcl2
        go_wp2
        go_ret
        have h1 := own_setL L (i * 4) wr _ HO.out (by rw [HL.out]; omega)
        have h3 := own_take h1 i (by omega)
        have hall : ss.take j = ss := by rw [← HN.out, List.take_length]
        have htk := HTK.out
        rw [hall] at htk
        have hlen : (ss.filter (fun s => !p s)).length = i := by rw [← htk, List.length_take]; have := HCL.out; omega
        have he : (setL (cs.flatMap (fun m : Mb => m.arr.toList)) (i * 4) L).take (i * 4) = (ss.filter (fun s => !p s)).flatMap (fun m : Mb => m.arr.toList) := by
          rw [setL_take, ← htk]
          exact row_mb.take_flat cs i (by have := HCL.out; omega)
        rw [he] at h3
        rw [hlen]
        exact ⟨below_setCells hg1 _ _ _ hbel, _, rfl, h3⟩
  · go_wp2
    go_ret
    have hfl : ss.filter (fun s => !p s) = ss := List.filter_eq_self.2 (fun s hs => by simp [hall s hs])
    rw [hfl, HN.out]
    exact ⟨hb1.mono hB, _, rfl, own_below HO.out hb1⟩

end Go.Proofs.Ytpiinfjcjpdofaa
