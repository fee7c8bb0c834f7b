/- slices.DeleteFunc at []string, where what the function value captured may lie in any block but the slice's own. -/
import Derived.Test.YtebfmacbdjnhbaaSlices
namespace Go.Proofs.Ytebfmacbdjnhbaa
open Go.RowKit Go.Mem
set_option linter.unusedVariables false

theorem only_of {a w : World} (h : Below a.heap.size a w) (row : Option Nat) : a.grownBy w row := ⟨h.os, h.tape, h.output, h.size, fun i hi _ => h.block i hi⟩
theorem only_then {a b w : World} {row : Option Nat} (h : a.grownBy b row) (k : Below b.heap.size b w) : a.grownBy w row :=
  ⟨k.os.trans h.os, k.tape.trans h.tape, k.output.trans h.output, Nat.le_trans h.size k.size, fun i hi hn => (k.block i (Nat.lt_of_lt_of_le hi h.size)).trans (h.block i hi hn)⟩
theorem only_set {a w : World} {g : Nat} (h : a.grownBy w (some g)) (i : Nat) (u : Value) : a.grownBy (w.setCell ⟨g, i, none⟩ u) (some g) :=
  ⟨h.os, h.tape, h.output, by simpa [World.setCell] using h.size, fun k hk hn => (Below.heap_setCell w _ u k (fun e => hn (by rw [e]))).trans (h.block k hk hn)⟩

/-- a function value that answers a bool to a text in every world that is as 'w' was but for one block -/
structure AsksBut (P : Program) (row : Option Nat) (w : World) (f : FuncId) (caps : Array Value) (p : ByteArray → Bool) (ss : List ByteArray) : Prop where
  enter : ∀ (args : Array Value) (W : World), Sem.run P (callFunc f args) W = .ok (.enter f args) W
  ask : ∀ W s, w.grownBy W row → s ∈ ss → Calls P f (#[.string s] ++ caps) W fun e W' => e = .returned (.bool (p s)) ∧ Below W.heap.size W W'

set_option maxRecDepth 100000 in
set_option maxHeartbeats 400000 in
theorem deleteFuncB_any (B : Nat) (v : Value) (n : Nat) (ss : List ByteArray) (f : FuncId) (caps : Array Value) (p : ByteArray → Bool) (w : World) (hB : B ≤ w.heap.size) (hown : w.ownsRow B 9 1 v n (ss.map Value.string)) (hm : n ≤ 1000000)
    (hf : AsksBut Try.prog v.ownBlock w f caps p ss) :
    Calls Try.prog 76 #[v, .func (.func f) #[] caps] w (Gives_ B 9 1 (ss.filter (fun s => !p s)).length ((ss.filter (fun s => !p s)).map Value.string) w) := by
  have hn : ss.length = n := by have := hown.1; simpa using this
  have hfw : Asks Try.prog w.heap.size w f caps p ss := ⟨hf.enter, fun W s hb hs => hf.ask W s (only_of hb _) hs⟩
  obtain ⟨A, c, rfl⟩ := own_form hown
  have hr := Rd.of_own hown
  have HN := Lib.hid hn; clear hn
  have HO := Lib.hid hown; clear hown
  go_enter Try.func76, Try.ntmps76
  go_wp2_with fail
  refine (indexFunc_any A n c ss f caps p _ hr HN.out (by unfold maxLen; omega) hfw).mono ?_
  rintro e w1 ⟨hb1, ⟨k, hk, hpk, hnone, rfl⟩ | ⟨hall, rfl⟩⟩
  · obtain ⟨g, rfl, hg1, hg2, hnc⟩ := own_pos HO.out (by have := HN.out; omega)
    have hkn : k < n := by have := HN.out; omega
    have HT := Lib.hid (take_filter p ss k hk hpk hnone); clear hpk hnone
    have hkm : ((k : Int) == -1) = false := by simp
    have hO1 := Lib.hid (own_below HO.out hb1)
    have hbel1 := hb1.mono hB
    have hgr1 := only_of hb1 (some g)
    clear HO hr hfw hb1
    go_wp2_with fail
    go_loopw [5, 6] (fun i j wr => ∃ i' j' : Nat, ∃ cs : List ByteArray, i' < j' ∧ j' ≤ n ∧ i = .int .i64 i' ∧ j = .int .i64 j' ∧ wr.ownsRow B 9 1 (.slice (some ⟨g, 0, none⟩) n c) n (cs.map Value.string) ∧ cs.take i' = (ss.take j').filter (fun s => !p s) ∧ cs.drop j' = ss.drop j' ∧ Below B w wr ∧ w.grownBy wr (some g)) (fun _ j _ => n - (intOf j).toNat)
    case atStart => exact ⟨k, k + 1, ss, by omega, by omega, rfl, by go_num, hO1.out, HT.out.symm, rfl, hbel1, hgr1⟩
    case round =>
      obtain ⟨i, j, cs, hij, hjn, rfl, rfl, hown, htk, hdr, hbel, hgr⟩ := hrel
      have HTK := Lib.hid htk; have HDR := Lib.hid hdr; have HO := Lib.hid hown; clear htk hdr hown
      by_cases hlt : j < n
      · have hcl : cs.length = n := by have := HO.out.1; simpa using this
        have hjs : j < ss.length := by have := HN.out; omega
        have hjc : j < cs.length := by omega
        have hej : cs[j] = ss[j] := by
          have := congrArg (·[0]?) HDR.out
          simpa [hjc, hjs] using this
        obtain ⟨⟨u, hu, hcell⟩, _⟩ := own_cells HO.out j (by omega)
        obtain ⟨_, hfro⟩ := own_cells HO.out i (by omega)
        obtain ⟨⟨u', hu', hcelli⟩, _⟩ := own_cells HO.out i (by omega)
        obtain rfl : u = .string ss[j] := by
          rw [← hej]; simp [hjc] at hu; exact hu.symm
        have hcall := Lib.hid (hf.ask wr ss[j] hgr (List.getElem_mem hjs))
        have hcf := hf.enter
        generalize hs : ss[j] = s at hcell hcall
        have HS := Lib.hid hs; clear hs hu hej hu'
        go_wp2_with fail
        refine hcall.out.mono ?_
        rintro e w2 ⟨rfl, hb2⟩
        have hbel2 := hbel.trans (hb2.mono (Nat.le_trans hB hbel.size))
        have hO2 := Lib.hid (own_below HO.out hb2)
        have hgr2 := only_then hgr hb2
        have hcelli2 := cell_below hb2 hcelli
        have hfro2 : w2.frozen? ⟨g, i, none⟩ = false := (hb2.frozen (World.block_lt_of_cell? _ _ hcelli)).trans hfro
        clear hcf hcall hcell hcelli hfro HO
        generalize hp : p s = ps
        have HP := Lib.hid hp; clear hp
        have hfs : (ss.take (j + 1)).filter (fun s => !p s) = (ss.take j).filter (fun s => !p s) ++ (if ps then [] else [s]) := by
          rw [List.take_succ_eq_append_getElem hjs, List.filter_append, HS.out, ← HP.out]
          by_cases hq : p s <;> simp [hq]
        have HF := Lib.hid hfs; clear hfs
        have hd1 : cs.drop (j + 1) = ss.drop (j + 1) := by
          have := congrArg (List.drop 1) HDR.out
          simpa [Nat.add_comm] using this
        have HD1 := Lib.hid hd1; clear hd1
        cases ps
        · go_wp2
          go_roundw
          case rel =>
            refine ⟨i + 1, j + 1, cs.set i s, by omega, by omega, by go_num, by go_num, ?_, ?_, ?_, hbel2.setCell hg1 _, only_set hgr2 _ _⟩
            · have := own_set hO2.out i (by omega) (.string s)
              rwa [← List.map_set] at this
            · rw [HF.out, ← HTK.out, List.take_succ_eq_append_getElem (by simp; omega)]
              have hti : List.take i (cs.set i s) = List.take i cs := by
                rw [List.take_set]; exact List.set_eq_of_length_le (by rw [List.length_take]; omega)
              simp [hti]
            · rw [List.drop_set]; simp [show i < j + 1 by omega, HD1.out]
          case measure => simp [intOf]; omega
        · go_wp2
          go_roundw
          case rel => exact ⟨i, j + 1, cs, by omega, by omega, rfl, by go_num, hO2.out, by rw [HF.out, HTK.out]; simp, HD1.out, hbel2, hgr2⟩
          case measure => simp [intOf]; omega
      · obtain rfl : j = n := by omega
        have hclr := fun ty => Lib.run_clear_slice (P := Try.prog) wr 42 9 ty (.string ByteArray.empty) Try.underlying42 zero_string rfl rfl g i (j - i) (c - i) (by omega)
          (fun k hk => by obtain ⟨⟨u, _, hu⟩, _⟩ := own_cells HO.out (i + k) (by omega); rw [hu]; rfl)
          (fun k hk => (own_cells HO.out (i + k) (by omega)).2)
        go_wp2
        go_ret
        obtain ⟨cs', h1, h2⟩ := own_setCells (List.replicate (j - i) (Value.string ByteArray.empty)) i wr _ HO.out (by simp; omega)
        have h3 := own_take h1 i (by omega)
        have hcl : cs.length = j := by have := HO.out.1; simpa using this
        have hall : ss.take j = ss := by rw [← HN.out, List.take_length]
        have htk := HTK.out
        rw [hall] at htk
        have hlen : (ss.filter (fun s => !p s)).length = i := by rw [← htk, List.length_take]; omega
        rw [Nat.mul_one, h2, ← List.map_take, htk] at h3
        rw [hlen]
        exact ⟨below_setCells hg1 _ _ _ hbel, _, rfl, h3⟩
  · go_wp2
    go_ret
    have hfl : ss.filter (fun s => !p s) = ss := List.filter_eq_self.2 (fun s hs => by simp [hall s hs])
    rw [hfl, HN.out]
    exact ⟨hb1.mono hB, _, rfl, own_below HO.out hb1⟩
end Go.Proofs.Ytebfmacbdjnhbaa
