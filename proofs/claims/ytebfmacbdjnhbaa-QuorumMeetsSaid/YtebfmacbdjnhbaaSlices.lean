/- slices.Index, Contains, Clone, IndexFunc, DeleteFunc at []string: what they return, for every argument. -/
import Derived.Test.YtebfmacbdjnhbaaChecked
import Derived.Test.YtebfmacbdjnhbaaMem
import Derived.WalkLawsBesides
import Derived.WalkSpells
namespace Go.Proofs.Ytebfmacbdjnhbaa
open Go.RowKit Go.Mem
set_option linter.unusedVariables false

theorem take_succ_mem {T : Type} (l : List T) (k : Nat) (h : k < l.length) (x : T) : x ∈ l.take (k + 1) ↔ x ∈ l.take k ∨ x = l[k] := by
  rw [List.take_succ_eq_append_getElem h, List.mem_append, List.mem_singleton]

/-- an index that tells whether something is there -/
def Tells (yes : Prop) (w : World) (e : Ending) (w' : World) : Prop := ∃ k : Int, (0 ≤ k ↔ yes) ∧ e = .returned (.int .i64 k) ∧ w = w'

set_option maxHeartbeats 400000 in
theorem index_any (A : Option Addr) (n c : Nat) (ss : List ByteArray) (s : ByteArray) (w : World) (hr : Rd w A (ss.map Value.string)) (hn : ss.length = n) (hm : n ≤ maxLen) :
    Calls Try.prog 105 #[.slice A n c, .string s] w (Tells (s ∈ ss) w) := by
  unfold maxLen at hm
  go_enter Try.func105, Try.ntmps105
  go_wp2
  go_loop [8] (fun i => ∃ k : Nat, k ≤ n ∧ i = .int .i64 k ∧ s ∉ ss.take k) (fun i => n - (intOf i).toNat)
  case atStart => exact ⟨0, Nat.zero_le _, rfl, by simp⟩
  case round =>
    obtain ⟨k, hk, rfl, hnot⟩ := hrel
    have HN := Lib.hid hnot; clear hnot
    by_cases hlt : k < n
    · obtain ⟨b, off, rfl, hcell⟩ := hr.at_ k (by simp; omega)
      have hx : k < ss.length := by omega
      simp only [List.getElem_map] at hcell
      go_wp2
      · rename_i h1 _
        have h1' := str_eq h1
        go_ret
        exact ⟨k, ⟨fun _ => by rw [h1']; exact List.getElem_mem hx, fun _ => by omega⟩, rfl, rfl⟩
      · rename_i h1
        have h1' := str_ne h1
        go_round
        case rel => exact ⟨k + 1, by omega, by go_num, by rw [take_succ_mem _ _ hx]; simp [HN.out, h1']⟩
        case measure => simp [intOf]; omega
    · obtain rfl : k = n := by omega
      go_wp2
      go_ret
      exact ⟨-1, ⟨fun h => absurd h (by omega), fun h => absurd h (by have := HN.out; rwa [← hn, List.take_length] at this)⟩, rfl, rfl⟩

set_option maxHeartbeats 400000 in
theorem contains_any (A : Option Addr) (n c : Nat) (ss : List ByteArray) (s : ByteArray) (w : World) (hr : Rd w A (ss.map Value.string)) (hn : ss.length = n) (hm : n ≤ maxLen) :
    Calls Try.prog 78 #[.slice A n c, .string s] w fun e w' => e = .returned (.bool (mem s ss)) ∧ w = w' := by
  go_enter Try.func78, Try.ntmps78
  go_wp2_with fail
  refine (index_any A n c ss s _ hr hn hm).mono ?_
  rintro e w' ⟨k, hk, rfl, rfl⟩
  have hd : decide (0 ≤ k) = mem s ss := by rw [Bool.eq_iff_iff, decide_eq_true_eq, mem_iff]; exact hk
  have HD := Lib.hid hd; clear hd hk
  go_wp2
  go_ret
  exact ⟨ret_bool HD.out, rfl⟩

/-- a function value that answers a bool to a text, and turns nothing below the heap's end: in every world that is as 'w' was below 'B' -/
structure Asks (P : Program) (B : Nat) (w : World) (f : FuncId) (caps : Array Value) (p : ByteArray → Bool) (ss : List ByteArray) : Prop where
  enter : ∀ (args : Array Value) (W : World), Sem.run P (callFunc f args) W = .ok (.enter f args) W
  ask : ∀ W s, Below B w W → s ∈ ss → Calls P f (#[.string s] ++ caps) W fun e W' => e = .returned (.bool (p s)) ∧ Below W.heap.size W W'

def Found (p : ByteArray → Bool) (ss : List ByteArray) (w : World) (e : Ending) (w' : World) : Prop :=
  Below w.heap.size w w' ∧ ((∃ k : Nat, ∃ h : k < ss.length, p ss[k] = true ∧ (∀ s ∈ ss.take k, p s = false) ∧ e = .returned (.int .i64 k)) ∨ ((∀ s ∈ ss, p s = false) ∧ e = .returned (.int .i64 (-1))))

set_option maxRecDepth 100000 in
set_option maxHeartbeats 400000 in
theorem indexFunc_any (A : Option Addr) (n c : Nat) (ss : List ByteArray) (f : FuncId) (caps : Array Value) (p : ByteArray → Bool) (w : World) (hr : Rd w A (ss.map Value.string)) (hn : ss.length = n) (hm : n ≤ maxLen)
    (hf : Asks Try.prog w.heap.size w f caps p ss) :
    Calls Try.prog 104 #[.slice A n c, .func (.func f) #[] caps] w (Found p ss w) := by
  unfold maxLen at hm
  go_enter Try.func104, Try.ntmps104
  go_wp2
  go_loopw [8] (fun i wr => ∃ k : Nat, k ≤ n ∧ i = .int .i64 k ∧ (∀ s ∈ ss.take k, p s = false) ∧ Below w.heap.size w wr) (fun i _ => n - (intOf i).toNat)
  case atStart => exact ⟨0, Nat.zero_le _, rfl, by simp, Below.refl _ _⟩
  case round =>
    obtain ⟨k, hk, rfl, hnot, hbel⟩ := hrel
    have HN := Lib.hid hnot; clear hnot
    by_cases hlt : k < n
    · obtain ⟨b, off, rfl, hcell⟩ := (hr.below hbel).at_ k (by simp; omega)
      have hx : k < ss.length := by omega
      simp only [List.getElem_map] at hcell
      have hcall := Lib.hid (hf.ask wr ss[k] hbel (List.getElem_mem hx))
      have hcf := hf.enter
      generalize hs : ss[k] = s at hcell hcall
      have HS := Lib.hid hs; clear hs
      go_wp2_with fail
      refine hcall.out.mono ?_
      rintro e w1 ⟨rfl, hb1⟩
      clear hcf hcall hcell
      generalize hp : p s = ps
      have HP := Lib.hid hp; clear hp
      cases ps
      · go_wp2
        go_roundw
        case rel => exact ⟨k + 1, by omega, by go_num, fun t ht => by
          rw [take_succ_mem _ _ hx] at ht
          rcases ht with ht | ht
          · exact HN.out t ht
          · rw [ht, HS.out]; exact HP.out, then_ hbel hb1⟩
        case measure => simp [intOf]; omega
      · go_wp2
        go_ret
        exact ⟨then_ hbel hb1, .inl ⟨k, hx, by rw [HS.out]; exact HP.out, HN.out, rfl⟩⟩
    · obtain rfl : k = n := by omega
      go_wp2
      go_ret
      exact ⟨hbel, .inr ⟨fun s hs => HN.out s (by rw [← hn, List.take_length]; exact hs), rfl⟩⟩

/-- the element type's row of the table -/
theorem el_string : Elem Try.prog 42 9 1 16 := Elem.of (z := .string ByteArray.empty) Try.underlying42 (by kernel_rfl) rfl (by decide)
theorem one_strings (ss : List ByteArray) : ∀ u ∈ ss.map Value.string, u.oneCell' = true := by
  intro u hu
  obtain ⟨s, _, rfl⟩ := List.mem_map.1 hu
  rfl

/-- a slice that a call made: it owns its cells, and what was there is as it was -/
def Makes (e : TypeId) (size n : Nat) (cs : List Value) (w : World) (r : Ending) (w' : World) : Prop := ∃ v, r = .returned v ∧ w'.ownsRow w.heap.size e size v n cs ∧ Below w.heap.size w w'

set_option maxRecDepth 100000 in
set_option maxHeartbeats 400000 in
theorem clone_any (A : Option Addr) (n c : Nat) (ss : List ByteArray) (w : World) (hr : Rd w A (ss.map Value.string)) (hn : ss.length = n) (hm : n ≤ 1000000) :
    Calls Try.prog 75 #[.slice A n c] w (Makes 9 1 n (ss.map Value.string) w) := by
  have heq := fun W => Lib.run_eql_slice_nil (P := Try.prog) W 42 9 A n c 0 0 Try.underlying42
  cases A with
  | none =>
    have h0 := hr.none_nil
    go_enter Try.func75, Try.ntmps75
    go_wp2_with fail
    go_ret
    simp at h0
    subst h0
    simp at hn
    subst hn
    exact ⟨_, rfl, World.ownsRow_nil _ _ _ _, Below.refl _ _⟩
  | some a =>
    have hne : Option.isNone (some a) = false := rfl
    have hl : (ss.map Value.string).length = n * 1 := by simp [hn]
    have HL := Lib.hid hl; clear hl hn
    go_enter Try.func75, Try.ntmps75
    go_wp2_with (at_builtin; refine wpList_app el_string rfl _ _ rfl w.heap.size _ 0 [] rfl (World.ownsRow_made w #[] 0 (Nat.le_refl _) (Nat.zero_le _) rfl) (some a) n c (ss.map Value.string) rfl HL.out (hr.alloc _) (one_strings _) (by unfold maxLen; omega) (by omega) (by simp) ?_; intro v1 w1 hown1 hbel1 _ _)
    go_ret
    exact ⟨_, rfl, by simpa using hown1, ((Below.refl _ _).alloc (Nat.le_refl _) _).trans hbel1⟩

theorem zero_string (W : World) : (zeroValue 9).run Try.prog W = .ok (.string ByteArray.empty) W := by kernel_rfl

theorem take_filter (p : ByteArray → Bool) (ss : List ByteArray) (k : Nat) (hk : k < ss.length) (hp : p ss[k] = true) (hn : ∀ s ∈ ss.take k, p s = false) : (ss.take (k + 1)).filter (fun s => !p s) = ss.take k := by
  rw [List.take_succ_eq_append_getElem hk, List.filter_append]
  have h1 : (ss.take k).filter (fun s => !p s) = ss.take k := List.filter_eq_self.2 (fun s hs => by simp [hn s hs])
  rw [h1]
  simp [hp]

set_option maxRecDepth 100000 in
set_option maxHeartbeats 400000 in
theorem deleteFunc_any (B : Nat) (v : Value) (n : Nat) (ss : List ByteArray) (f : FuncId) (caps : Array Value) (p : ByteArray → Bool) (w : World) (hB : B ≤ w.heap.size) (hown : w.ownsRow B 9 1 v n (ss.map Value.string)) (hm : n ≤ 1000000)
    (hf : Asks Try.prog B w f caps p ss) :
    Calls Try.prog 76 #[v, .func (.func f) #[] caps] w (Gives_ B 9 1 (ss.filter (fun s => !p s)).length ((ss.filter (fun s => !p s)).map Value.string) w) := by
  have hn : ss.length = n := by have := hown.1; simpa using this
  have hfw : Asks Try.prog w.heap.size w f caps p ss := ⟨hf.enter, fun W s hb hs => hf.ask W s (hb.mono hB) hs⟩
  obtain ⟨A, c, rfl⟩ := own_form hown
  have hr := Rd.of_own hown
  have HN := Lib.hid hn; clear hn
  have HO := Lib.hid hown; clear hown
  go_enter Try.func76, Try.ntmps76
  go_wp2_with fail
  refine (indexFunc_any A n c ss f caps p _ hr HN.out (by unfold maxLen; omega) hfw).mono ?_
  rintro e w1 ⟨hb1, ⟨k, hk, hpk, hnone, rfl⟩ | ⟨hall, rfl⟩⟩
  · obtain ⟨g, rfl, hg1, hg2, hnc⟩ := own_pos HO.out (by have := HN.out; omega)
    have hkn : k < n := by have := HN.out; omega
    have HT := Lib.hid (take_filter p ss k hk hpk hnone); clear hpk hnone
    have hkm : ((k : Int) == -1) = false := by simp
    have hO1 := Lib.hid (own_below HO.out hb1)
    have hbel1 := hb1.mono hB
    clear HO hr hfw hb1
    go_wp2_with fail
    go_loopw [5, 6] (fun i j wr => ∃ i' j' : Nat, ∃ cs : List ByteArray, i' < j' ∧ j' ≤ n ∧ i = .int .i64 i' ∧ j = .int .i64 j' ∧ wr.ownsRow B 9 1 (.slice (some ⟨g, 0, none⟩) n c) n (cs.map Value.string) ∧ cs.take i' = (ss.take j').filter (fun s => !p s) ∧ cs.drop j' = ss.drop j' ∧ Below B w wr) (fun _ j _ => n - (intOf j).toNat)
    case atStart => exact ⟨k, k + 1, ss, by omega, by omega, rfl, by go_num, hO1.out, HT.out.symm, rfl, hbel1⟩
    case round =>
      obtain ⟨i, j, cs, hij, hjn, rfl, rfl, hown, htk, hdr, hbel⟩ := hrel
      have HTK := Lib.hid htk; have HDR := Lib.hid hdr; have HO := Lib.hid hown; clear htk hdr hown
      by_cases hlt : j < n
      · have hcl : cs.length = n := by have := HO.out.1; simpa using this
        have hjs : j < ss.length := by have := HN.out; omega
        have hjc : j < cs.length := by omega
        have hej : cs[j] = ss[j] := by
          have := congrArg (·[0]?) HDR.out
          simpa [hjc, hjs] using this
        obtain ⟨⟨u, hu, hcell⟩, _⟩ := own_cells HO.out j (by omega)
        obtain ⟨_, hfro⟩ := own_cells HO.out i (by omega)
        obtain ⟨⟨u', hu', hcelli⟩, _⟩ := own_cells HO.out i (by omega)
        obtain rfl : u = .string ss[j] := by
          rw [← hej]; simp [hjc] at hu; exact hu.symm
        have hcall := Lib.hid (hf.ask wr ss[j] hbel (List.getElem_mem hjs))
        have hcf := hf.enter
        generalize hs : ss[j] = s at hcell hcall
        have HS := Lib.hid hs; clear hs hu hej hu'
        go_wp2_with fail
        refine hcall.out.mono ?_
        rintro e w2 ⟨rfl, hb2⟩
        have hbel2 := hbel.trans (hb2.mono (Nat.le_trans hB hbel.size))
        have hO2 := Lib.hid (own_below HO.out hb2)
        have hcelli2 := cell_below hb2 hcelli
        have hfro2 : w2.frozen? ⟨g, i, none⟩ = false := (hb2.frozen (World.block_lt_of_cell? _ _ hcelli)).trans hfro
        clear hcf hcall hcell hcelli hfro HO
        generalize hp : p s = ps
        have HP := Lib.hid hp; clear hp
        have hfs : (ss.take (j + 1)).filter (fun s => !p s) = (ss.take j).filter (fun s => !p s) ++ (if ps then [] else [s]) := by
          rw [List.take_succ_eq_append_getElem hjs, List.filter_append, HS.out, ← HP.out]
          by_cases hq : p s <;> simp [hq]
        have HF := Lib.hid hfs; clear hfs
        have hd1 : cs.drop (j + 1) = ss.drop (j + 1) := by
          have := congrArg (List.drop 1) HDR.out
          simpa [Nat.add_comm] using this
        have HD1 := Lib.hid hd1; clear hd1
        cases ps
        · go_wp2
          go_roundw
          case rel =>
            refine ⟨i + 1, j + 1, cs.set i s, by omega, by omega, by go_num, by go_num, ?_, ?_, ?_, hbel2.setCell hg1 _⟩
            · have := own_set hO2.out i (by omega) (.string s)
              rwa [← List.map_set] at this
            · rw [HF.out, ← HTK.out, List.take_succ_eq_append_getElem (by simp; omega)]
              have hti : List.take i (cs.set i s) = List.take i cs := by
                rw [List.take_set]; exact List.set_eq_of_length_le (by rw [List.length_take]; omega)
              simp [hti]
            · rw [List.drop_set]; simp [show i < j + 1 by omega, HD1.out]
          case measure => simp [intOf]; omega
        · go_wp2
          go_roundw
          case rel => exact ⟨i, j + 1, cs, by omega, by omega, rfl, by go_num, hO2.out, by rw [HF.out, HTK.out]; simp, HD1.out, hbel2⟩
          case measure => simp [intOf]; omega
      · obtain rfl : j = n := by omega
        have hclr := fun ty => Lib.run_clear_slice (P := Try.prog) wr 42 9 ty (.string ByteArray.empty) Try.underlying42 zero_string rfl rfl g i (j - i) (c - i) (by omega)
          (fun k hk => by obtain ⟨⟨u, _, hu⟩, _⟩ := own_cells HO.out (i + k) (by omega); rw [hu]; rfl)
          (fun k hk => (own_cells HO.out (i + k) (by omega)).2)
        go_wp2
        go_ret
        obtain ⟨cs', h1, h2⟩ := own_setCells (List.replicate (j - i) (Value.string ByteArray.empty)) i wr _ HO.out (by simp; omega)
        have h3 := own_take h1 i (by omega)
        have hcl : cs.length = j := by have := HO.out.1; simpa using this
        have hall : ss.take j = ss := by rw [← HN.out, List.take_length]
        have htk := HTK.out
        rw [hall] at htk
        have hlen : (ss.filter (fun s => !p s)).length = i := by rw [← htk, List.length_take]; omega
        rw [Nat.mul_one, h2, ← List.map_take, htk] at h3
        rw [hlen]
        exact ⟨below_setCells hg1 _ _ _ hbel, _, rfl, h3⟩
  · go_wp2
    go_ret
    have hfl : ss.filter (fun s => !p s) = ss := List.filter_eq_self.2 (fun s hs => by simp [hall s hs])
    rw [hfl, HN.out]
    exact ⟨hb1.mono hB, _, rfl, own_below HO.out hb1⟩
end Go.Proofs.Ytebfmacbdjnhbaa
