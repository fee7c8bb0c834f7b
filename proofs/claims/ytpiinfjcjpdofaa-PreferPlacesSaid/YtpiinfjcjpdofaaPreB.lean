/- Numbers of texts: the closure; Contains; the document's place, In, Pairs. -/
import Derived.Test.YtpiinfjcjpdofaaWalkD
import Derived.Test.YtpiinfjcjpdofaaPreA
import Derived.Test.YtpiinfjcjpdofaaPreP
import Derived.Test.YtpiinfjcjpdofaaCovF
import Derived.Test.YtpiinfjcjpdofaaCovH
import Derived.Deep.Cut
import Derived.Says
attribute [local go_sem ↓] Go.wp_at_zero Go.wp_at_succ
namespace Go.Proofs.Ytpiinfjcjpdofaa
open Go.RowKit Go.Mem Go.Cov
set_option linter.unusedVariables false
set_option linter.unusedSimpArgs false

/-- a closure's map of the texts that were told a number: its box at q, the map at b -/
structure Kn (W : World) (q b : Nat) (K : List ByteArray) : Prop where
  cell : W.cell? ⟨q, 0, none⟩ = some (.map (some b))
  dict : DictS W b K.length (Pref.kf K) K.length
theorem Kn.ne {W : World} {q b : Nat} {K : List ByteArray} (h : Kn W q b K) : q ≠ b := fun e => by
  obtain ⟨D, h1, _⟩ := h.dict
  obtain ⟨es, cl, hb, _⟩ := h1
  have := h.cell
  rw [e] at this
  simp [World.cell?, hb] at this
theorem Kn.below {W W' : World} {q b : Nat} {K : List ByteArray} (h : Kn W q b K) (hb : Below W.heap.size W W') : Kn W' q b K := ⟨cell_below hb h.cell, h.dict.below hb⟩
theorem Kn.kept {W W' : World} {q b : Nat} {K : List ByteArray} (h : Kn W q b K) {g : Nat} (hg : W.grownBy W' (some g)) (h1 : q ≠ g) (h2 : b ≠ g) : Kn W' q b K :=
  ⟨(World.cell?_of_block (a := ⟨q, 0, none⟩) (hg.block q (by
    cases hb : W.heap[q]? with
    | none => have := h.cell; simp [World.cell?, hb] at this
    | some o => exact (Array.getElem?_eq_some_iff.1 hb).1) (fun e => h1 (by injection e)))).trans h.cell, h.dict.kept hg (fun e => h2 (by injection e))⟩
theorem enter_num (args : Array Value) (W : World) : Sem.run Try.prog (callFunc 73 args) W = .ok (.enter 73 args) W := by kernel_rfl
def Numbered (q b : Nat) (K : List ByteArray) (s : ByteArray) (W : World) (e : Ending) (w' : World) : Prop := e = .returned (.int .i64 (Pref.idx K s : Int)) ∧ Kn w' q b (Pref.ins K s) ∧ W.grownBy w' (some b)
set_option maxRecDepth 100000 in
set_option maxHeartbeats 4000000 in
theorem num_any (q b : Nat) (K : List ByteArray) (s : ByteArray) (W : World) (h : Kn W q b K) (hs : s.size ≤ maxLen) (hK : K.length ≤ 1000) :
    Calls Try.prog 73 #[.string s, .pointer (some ⟨q, 0, none⟩)] W (Numbered q b K s W) := by
  have hc := h.cell
  have HKN := Lib.hid h
  have hlook := h.dict.look_ok kw Try.underlying66 Try.underlying3 (zero_int _) s hs
  have hlen := fun ty => h.dict.len_run Try.underlying66 ty
  by_cases hsk : s ∈ K
  · have HF := Lib.hid (show Numbered q b K s W (.returned (.int .i64 (Pref.idx K s : Int))) W from ⟨rfl, by rw [Pref.ins_in hsk]; exact h, World.grownBy.refl W _⟩)
    rw [Pref.kf_in hsk] at hlook
    simp only [Option.getD_some, Option.isSome_some] at hlook
    generalize Pref.idx K s = z at hlook HF
    clear hsk h hlen
    go_enter Try.func73, Try.ntmps73
    go_wp2_with fail
    go_ret
    exact HF.out
  · rw [Pref.kf_out hsk] at hlook
    simp only [Option.getD_none, Option.isSome_none] at hlook
    have HSK := Lib.hid hsk
    have hki : (Pref.idx K s : Int) = (K.length : Int) := by rw [Pref.idx_len hsk]
    have HKI := Lib.hid hki
    clear h hsk hki
    go_enter Try.func73, Try.ntmps73
    go_wp2_with (at_mapUpdate; refine wpList_dict_put rfl (.tmp 16) (.tmp 17) (.tmp 18) rfl HKN.out.dict kw Try.underlying66 Try.underlying3 (by unfold maxLen; omega) rfl s hs rfl (K.length : Int) rfl (by unfold Lit.wf; simp [IntKind.min, IntKind.max, IntKind.signed, IntKind.bits]; omega) ?_; intro w1 hd1 hg1)
    go_ret
    have hins : Pref.ins K s = K ++ [s] := Pref.ins_out HSK.out
    refine ⟨ret_int HKI.out.symm, ?_, hg1⟩
    rw [hins]
    rw [Pref.kf_out HSK.out] at hd1
    simp only [Option.isSome_none] at hd1
    refine ⟨(World.cell?_of_block (a := ⟨q, 0, none⟩) (hg1.block q (by
      cases hb : W.heap[q]? with
      | none => have := HKN.out.cell; simp [World.cell?, hb] at this
      | some o => exact (Array.getElem?_eq_some_iff.1 hb).1) (fun e => HKN.out.ne (by injection e)))).trans HKN.out.cell, ?_⟩
    rw [List.length_append]
    exact hd1.same (fun u _ => Pref.kf_ins HSK.out u)
theorem numbers_any (w : World) : Calls Try.prog 66 #[] w fun e w' => ∃ q b : Nat, e = .returned (.func (.func 73) #[] #[.pointer (some ⟨q, 0, none⟩)]) ∧ w.heap.size ≤ q ∧ w.heap.size ≤ b ∧ q < w'.heap.size ∧ b < w'.heap.size ∧ Kn w' q b [] ∧ Below w.heap.size w w' := by
  have hmm := @run_makeMap Try.prog
  go_enter Try.func66, Try.ntmps66
  go_wp2_with fail
  clear hmm
  go_ret
  have hz1 : (w.alloc (.map #[] 0)).heap.size = w.heap.size + 1 := by simp
  refine ⟨_, w.heap.size, rfl, by omega, by omega, by simp, by simp; omega, ⟨by rw [World.cell?_alloc_at _ _ _ _ hz1.symm]; rfl, ?_⟩, ((Below.refl _ _).alloc (Nat.le_refl _) _).alloc (by simp) _⟩
  refine Dict.same ((Dict.made w Try.prog 9 3 txOk txLit).alloc _) (fun x _ => ?_)
  exact Pref.kf_nil x

/-- an index that tells whether something is there -/
def TellsT (yes : Prop) (w : World) (e : Ending) (w' : World) : Prop := ∃ k : Int, (0 ≤ k ↔ yes) ∧ e = .returned (.int .i64 k) ∧ w = w'
set_option maxHeartbeats 400000 in
theorem indexT_any (A : Option Addr) (n c : Nat) (ss : List ByteArray) (s : ByteArray) (w : World) (hr : Rd w A (ss.map Value.string)) (hn : ss.length = n) (hm : n ≤ maxLen) :
    Calls Try.prog 70 #[.slice A n c, .string s] w (TellsT (s ∈ ss) w) := by
  unfold maxLen at hm
  go_enter Try.func70, Try.ntmps70
  go_wp2
  go_loop [8] (fun i => ∃ k : Nat, k ≤ n ∧ i = .int .i64 k ∧ s ∉ ss.take k) (fun i => n - (intOf i).toNat)
  case atStart => exact ⟨0, Nat.zero_le _, rfl, by simp⟩
  case round =>
    obtain ⟨k, hk, rfl, hnot⟩ := hrel
    have HN := Lib.hid hnot; clear hnot
    by_cases hlt : k < n
    · obtain ⟨b, off, rfl, hcell⟩ := hr.at_ k (by simp; omega)
      have hx : k < ss.length := by omega
      simp only [List.getElem_map] at hcell
      go_wp2
      · rename_i h1 _
        have h1' := str_eq h1
        go_ret
        exact ⟨k, ⟨fun _ => by rw [h1']; exact List.getElem_mem hx, fun _ => by omega⟩, rfl, rfl⟩
      · rename_i h1
        have h1' := str_ne h1
        go_round
        case rel => exact ⟨k + 1, by omega, by go_num, by rw [take_succ_mem _ _ hx]; simp [HN.out, h1']⟩
        case measure => simp [intOf]; omega
    · obtain rfl : k = n := by omega
      go_wp2
      go_ret
      exact ⟨-1, ⟨fun h => absurd h (by omega), fun h => absurd h (by have := HN.out; rwa [← hn, List.take_length] at this)⟩, rfl, rfl⟩
set_option maxHeartbeats 400000 in
theorem containsT_any (A : Option Addr) (n c : Nat) (ss : List ByteArray) (s : ByteArray) (w : World) (hr : Rd w A (ss.map Value.string)) (hn : ss.length = n) (hm : n ≤ maxLen) :
    Calls Try.prog 57 #[.slice A n c, .string s] w fun e w' => e = .returned (.bool (mem s ss)) ∧ w = w' := by
  go_enter Try.func57, Try.ntmps57
  go_wp2_with fail
  refine (indexT_any A n c ss s _ hr hn hm).mono ?_
  rintro e w' ⟨k, hk, rfl, rfl⟩
  have hd : decide (0 ≤ k) = mem s ss := by rw [Bool.eq_iff_iff, decide_eq_true_eq, mem_iff]; exact hk
  have HD := Lib.hid hd; clear hd hk
  go_wp2
  go_ret
  exact ⟨ret_bool HD.out, rfl⟩

theorem el_str : Elem Try.prog 22 9 1 16 := Elem.of (z := .string ByteArray.empty) Try.underlying22 (by kernel_rfl) rfl (by decide)
theorem one_strs (ss : List ByteArray) : ∀ u ∈ ss.map Value.string, u.oneCell' = true := by
  intro u hu; obtain ⟨s, _, rfl⟩ := List.mem_map.1 hu; rfl
set_option maxRecDepth 100000 in
set_option maxHeartbeats 4000000 in
theorem place_any (A : Option Addr) (n c : Nat) (K : List ByteArray) (s : ByteArray) (w : World) (hr : Rd w A (K.map Value.string)) (hn : K.length = n) (hm : n ≤ 1000) :
    Calls Try.prog 63 #[.slice A n c, .string s] w fun e w' => ∃ A' c', e = .returned (.tuple #[.slice A' (Pref.ins K s).length c', .int .i64 (Pref.idx K s : Int)]) ∧ Rd w' A' ((Pref.ins K s).map Value.string) ∧ ((A' = A ∧ Pref.ins K s = K) ∨ w'.ownsRow w.heap.size 9 1 (.slice A' (Pref.ins K s).length c') (Pref.ins K s).length ((Pref.ins K s).map Value.string)) ∧ Below w.heap.size w w' := by
  have HN := Lib.hid hn; have HR := Lib.hid hr
  clear hn hr
  go_enter Try.func63, Try.ntmps63
  go_wp2_with fail
  go_loopw [6] (fun i wr => ∃ k : Nat, k ≤ n ∧ i = .int .i64 k ∧ Hid (s ∉ K.take k) ∧ Hid (Below w.heap.size w wr)) (fun i _ => n - (intOf i).toNat)
  case atStart => exact ⟨0, Nat.zero_le _, rfl, Lib.hid (by simp), Lib.hid (Below.refl _ _)⟩
  case round =>
    obtain ⟨k, hk, rfl, HX, HB⟩ := hrel
    by_cases hlt : k < n
    · have hx : k < K.length := by have := HN.out; omega
      obtain ⟨b, off, rfl, hcell⟩ := (HR.out.below HB.out).at_ k (by simp; exact hx)
      simp only [List.getElem_map] at hcell
      have HT := Lib.hid (List.take_succ_eq_append_getElem hx)
      have HG := Lib.hid (List.getElem?_eq_getElem hx)
      generalize K[k] = u at hcell HT HG
      have hd : (k : Int) < (n : Int) := by omega
      have hk0 : (0 : Int) ≤ (k : Int) := by omega
      by_cases hu : u = s
      · subst hu
        have he : (u.toList == u.toList) = true := by simp
        have hin : Pref.ins K u = K := Pref.ins_in (List.mem_of_getElem? HG.out)
        have HF := Lib.hid (Pref.idx_at HG.out HX.out)
        have HF2 := Lib.hid hin
        clear hin
        go_wp2_with fail
        go_ret2
        rw [HF.out, HF2.out, HN.out]
        exact ⟨_, _, rfl, HR.out.below HB.out, .inl ⟨rfl, rfl⟩, HB.out⟩
      · have he : (u.toList == s.toList) = false := by rw [str_beq]; exact decide_eq_false hu
        have HY := Lib.hid hu; clear hu
        go_wp2_with fail
        exact ⟨⟨k + 1, by omega, by go_num, Lib.hid (by rw [HT.out, List.mem_append, List.mem_singleton]; exact fun h => h.elim HX.out (fun e => HY.out e.symm)), HB⟩, by simp [intOf]; omega⟩
    · have hkn : (n : Int) ≤ (k : Int) := by omega
      have HX2 : Hid (s ∉ K) := Lib.hid (by have h := HX.out; rwa [List.take_of_length_le (by have := HN.out; omega)] at h)
      have HRw := Lib.hid (HR.out.below HB.out)
      have HZ := Lib.hid HB.out.size
      have HZ0 := Lib.hid (World.ownsRow_nil wr w.heap.size 9 1)
      rename World => w1
      clear HX hlt
      go_wp2_with (first | (at_builtin; refine wpList_app el_str (by rfl) (.tmp 22) (.tmp 23) (by rfl) w.heap.size _ 0 [] (by rfl) HZ0.out A n c (K.map Value.string) (by rfl) (by simp; exact HN.out) HRw.out (one_strs K) (by unfold maxLen; omega) (by omega) HZ.out ?_; intro v1 w2 hown1 hbel1 _ _; rw [Nat.zero_add, List.nil_append] at hown1; have HO1 := Lib.hid hown1; have HB1 := Lib.hid hbel1; have HZ2 := Lib.hid (Nat.le_trans HZ.out hbel1.size); clear hown1 hbel1; obtain ⟨A2, c2, rfl⟩ := own_form HO1.out) | (at_builtin; refine wpList_app el_str (by rfl) (.tmp 25) (.tmp 27) (by rfl) w.heap.size _ n _ (by rfl) (HO1.out.alloc _) (some ⟨w2.heap.size, 0, none⟩) 1 1 [.string s] (by rfl) rfl (Rd.new w2 #[.string s] _) (by intro u hu; simp at hu; subst hu; rfl) (by unfold maxLen; omega) (by omega) (by have := HZ2.out; simp; omega) ?_; intro v2 w3 hown2 hbel2 _ _; have HO2 := Lib.hid hown2; have HB3 := Lib.hid (((HB.out.trans HB1.out).alloc HZ2.out _).trans hbel2); clear hown2 hbel2))
      go_ret2
      rw [Pref.ins_out HX2.out, Pref.idx_len HX2.out, HN.out]
      obtain ⟨A3, c3, e3⟩ := own_form HO2.out
      have hl : (K ++ [s]).length = n + 1 := by rw [List.length_append, HN.out]; simp
      rw [hl]
      subst e3
      refine ⟨A3, c3, rfl, ?_, .inr ?_, HB3.out⟩
      · have h10 := Rd.of_own HO2.out
        simpa using h10
      · have h10 := HO2.out
        simpa using h10
set_option maxRecDepth 100000 in
set_option maxHeartbeats 1000000 in
theorem rInT_any (A : Option Addr) (n c : Nat) (ss : List ByteArray) (s : ByteArray) (w : World) (hr : Rd w A (ss.map Value.string)) (hn : ss.length = n) (hm : n ≤ 1000000) :
    Calls Try.prog 46 #[.slice A n c, .string s] w fun e w' => e = .returned (.bool (mem s ss)) ∧ Below w.heap.size w w' := by
  have HN := Lib.hid hn; have HR := Lib.hid hr
  clear hn hr
  go_enter Try.func46, Try.ntmps46
  go_wp2_with fail
  go_loopw [5] (fun i wr => ∃ k : Nat, k ≤ n ∧ i = .int .i64 k ∧ Hid (s ∉ ss.take k) ∧ Hid (Below w.heap.size w wr)) (fun i _ => n - (intOf i).toNat)
  case atStart => exact ⟨0, Nat.zero_le _, rfl, Lib.hid (by simp), Lib.hid (Below.refl _ _)⟩
  case round =>
    obtain ⟨k, hk, rfl, HX, HB⟩ := hrel
    by_cases hlt : k < n
    · have hx : k < ss.length := by have := HN.out; omega
      obtain ⟨b, off, rfl, hcell⟩ := (HR.out.below HB.out).at_ k (by simp; exact hx)
      simp only [List.getElem_map] at hcell
      have HT := Lib.hid (List.take_succ_eq_append_getElem hx)
      have HG := Lib.hid (List.getElem_mem hx)
      generalize ss[k] = u at hcell HT HG
      have hd : (k : Int) < (n : Int) := by omega
      have hk0 : (0 : Int) ≤ (k : Int) := by omega
      by_cases hu : u = s
      · subst hu
        have he : (u.toList == u.toList) = true := by simp
        go_wp2_with fail
        go_ret
        exact ⟨ret_bool (mem_iff.2 HG.out).symm, HB.out⟩
      · have he : (u.toList == s.toList) = false := by rw [str_beq]; exact decide_eq_false hu
        have HY := Lib.hid hu; clear hu
        go_wp2_with fail
        exact ⟨⟨k + 1, by omega, by go_num, Lib.hid (by rw [HT.out, List.mem_append, List.mem_singleton]; exact fun h => h.elim HX.out (fun e => HY.out e.symm)), HB⟩, by simp [intOf]; omega⟩
    · have hkn : (n : Int) ≤ (k : Int) := by omega
      have HX2 : Hid (s ∉ ss) := Lib.hid (by have h := HX.out; rwa [List.take_of_length_le (by have := HN.out; omega)] at h)
      go_wp2_with fail
      go_ret
      exact ⟨ret_bool (mem_false.2 HX2.out).symm, HB.out⟩

/-- texts that a place was looked up in, and perhaps put into, lie apart still -/
theorem placed {w1 w2 : World} {base : Nat} {v : Value} {A A' : Option Addr} {c' : Nat} {K : List ByteArray} {s : ByteArray} (h : RowC w1 base v.ownBlock A (K.map Value.string)) (hv : ∀ b, v.ownBlock = some b → b < w1.heap.size) (hs : base ≤ w1.heap.size) (hb : Below w1.heap.size w1 w2)
    (hr : Rd w2 A' ((Pref.ins K s).map Value.string)) (ho : (A' = A ∧ Pref.ins K s = K) ∨ w2.ownsRow w1.heap.size 9 1 (.slice A' (Pref.ins K s).length c') (Pref.ins K s).length ((Pref.ins K s).map Value.string)) : RowC w2 base v.ownBlock A' ((Pref.ins K s).map Value.string) := by
  rcases ho with ⟨rfl, e⟩ | ho
  · rw [e]; exact h.below hb
  · refine ⟨hr, ?_⟩
    have hp : 0 < (Pref.ins K s).length := List.length_pos_of_mem (Pref.mem_ins.2 (.inr rfl))
    obtain ⟨g, e1, e2, e3, e4⟩ := own_pos ho hp
    exact .inr ⟨g, 0, e1, Nat.le_trans hs e2, e3, fun e => by have := hv g e; omega⟩
/-- the racks and zones of members at places -/
def rz (ms : List Mb) (ord : List Nat) : List (ByteArray × ByteArray) := ord.filterMap fun k => (ms[k]?).map fun x => (x.rack, x.zone)
theorem rz_snoc {ms : List Mb} {ord : List Nat} {k : Nat} (h : k < ms.length) : rz ms (ord ++ [k]) = rz ms ord ++ [(ms[k].rack, ms[k].zone)] := by
  unfold rz; rw [List.filterMap_append]; simp [h]
theorem rz_len {ms : List Mb} {ord : List Nat} (h : ∀ k ∈ ord, k < ms.length) : (rz ms ord).length = ord.length := by
  induction ord with
  | nil => rfl
  | cons k ord ih =>
    have hk := h k (by simp)
    unfold rz at ih ⊢
    rw [List.filterMap_cons]
    simp only [List.getElem?_eq_getElem hk, Option.map_some, List.length_cons]
    rw [ih (fun i hi => h i (by simp [hi]))]
theorem rz_le (ms : List Mb) (ord : List Nat) : (rz ms ord).length ≤ ord.length := List.length_filterMap_le _ _
set_option maxRecDepth 100000 in
set_option maxHeartbeats 4000000 in
theorem rPairs_any (B : Option Addr) (m d : Nat) (ms : List Mb) (A : Option Addr) (n c : Nat) (ord : List Nat) (hin : ∀ k ∈ ord, k < ms.length) (w : World) (hr' : Rd w B (ms.flatMap Mb.cells)) (hm : ms.length = m) (hr : Rd w A (ints (natI ord))) (hn : ord.length = n) (hn2 : n ≤ 1000) :
    Calls Try.prog 44 #[.slice B m d, .slice A n c] w (MakesP (Pref.pairsOf (rz ms ord)) w) := by
  have HIN := Lib.hid hin; have HN := Lib.hid hn; have HM := Lib.hid hm; have HR := Lib.hid hr; have HR' := Lib.hid hr'
  clear hin hn hm hr hr'
  go_enter Try.func44, Try.ntmps44
  go_wp2_with fail
  go_loopw [5, 6, 7, 8] (fun u v o i wr => ∃ (k : Nat) (Ar Az : Option Addr) (cr cz : Nat), k ≤ n ∧ i = .int .i64 k ∧ u = .slice Ar (Pref.knl ((rz ms (ord.take k)).map (·.1))).length cr ∧ v = .slice Az (Pref.knl ((rz ms (ord.take k)).map (·.2))).length cz ∧
    Hid (RowC wr w.heap.size o.ownBlock Ar ((Pref.knl ((rz ms (ord.take k)).map (·.1))).map Value.string)) ∧ Hid (RowC wr w.heap.size o.ownBlock Az ((Pref.knl ((rz ms (ord.take k)).map (·.2))).map Value.string)) ∧ Hid (wr.ownsRow w.heap.size 50 2 o (Pref.pairsOf (rz ms (ord.take k))).length (prc (Pref.pairsOf (rz ms (ord.take k))))) ∧ Hid (Below w.heap.size w wr)) (fun _ _ _ i _ => n - (intOf i).toNat)
  case atStart => exact ⟨0, none, none, 0, 0, Nat.zero_le _, rfl, rfl, rfl, Lib.hid RowC.nil, Lib.hid RowC.nil, Lib.hid (World.ownsRow_nil _ _ _ _), Lib.hid (Below.refl _ _)⟩
  case round =>
    obtain ⟨k, Ar, Az, cr, cz, hk, rfl, rfl, rfl, HA, HZ, HO, HB⟩ := hrel
    by_cases hlt : k < n
    · have hx : k < ord.length := by have := HN.out; omega
      have hxm : ord[k] < ms.length := HIN.out _ (List.getElem_mem hx)
      obtain ⟨b2, off2, rfl, hcell2⟩ := (HR.out.below HB.out).at_ k (by simp [ints, natI]; exact hx)
      simp only [ints, natI, List.map_map, List.getElem_map, Function.comp_apply] at hcell2
      have HT := Lib.hid (List.take_succ_eq_append_getElem hx)
      generalize ord[k] = i at hcell2 HT hxm
      obtain ⟨b, off, rfl, hc0, hc1, hc2, hc3⟩ := mb_row (HR'.out.below HB.out) i hxm
      have HRZ := Lib.hid (show rz ms (ord.take (k + 1)) = _ by rw [HT.out, rz_snoc hxm])
      have hlen : (rz ms (ord.take k)).length ≤ 1000 := by have h1 := rz_le ms (ord.take k); have h2 := List.length_take_le k ord; have := HN.out; omega
      generalize ms[i] = x at hc0 hc1 hc2 hc3 HRZ
      obtain ⟨nm, rk, zn, up⟩ := x
      simp only at hc0 hc1 hc2 hc3 HRZ
      have HPS := Lib.hid (Pref.pairsOf_snoc (rz ms (ord.take k)) (rk, zn))
      have HKR : Hid (Pref.knl ((rz ms (ord.take (k + 1))).map (·.1)) = Pref.ins (Pref.knl ((rz ms (ord.take k)).map (·.1))) rk) := Lib.hid (by rw [HRZ.out, List.map_append]; exact Pref.knl_snoc _ _)
      have HKZ : Hid (Pref.knl ((rz ms (ord.take (k + 1))).map (·.2)) = Pref.ins (Pref.knl ((rz ms (ord.take k)).map (·.2))) zn) := Lib.hid (by rw [HRZ.out, List.map_append]; exact Pref.knl_snoc _ _)
      rw [← HRZ.out] at HPS
      have hlr : (Pref.knl ((rz ms (ord.take k)).map (·.1))).length ≤ 1000 := by have := Pref.knl_len ((rz ms (ord.take k)).map (·.1)); rw [List.length_map] at this; omega
      have hlz : (Pref.knl ((rz ms (ord.take k)).map (·.2))).length ≤ 1000 := by have := Pref.knl_len ((rz ms (ord.take k)).map (·.2)); rw [List.length_map] at this; omega
      have hlp : (Pref.pairsOf (rz ms (ord.take k))).length ≤ 1000 := by rw [Pref.pairsOf_len]; omega
      generalize Pref.knl ((rz ms (ord.take k)).map (·.1)) = KR at HA HKR hlr HPS
      generalize Pref.knl ((rz ms (ord.take k)).map (·.2)) = KZ at HZ HKZ hlz HPS
      generalize Pref.pairsOf (rz ms (ord.take k)) = P at HO hlp HPS
      have hkn : (k : Int) < (n : Int) := by omega
      have hk0 : (0 : Int) ≤ (k : Int) := by omega
      have him : (i : Int) < (m : Int) := by have := HM.out; omega
      have hi0 : (0 : Int) ≤ (i : Int) := by omega
      have hal : Below wr.heap.size wr (wr.alloc (.cells #[.string nm, .string rk, .string zn, .bool up] 34)) := (Below.refl _ _).alloc (Nat.le_refl _) _
      have hx1 : (wr.alloc (.cells #[.string nm, .string rk, .string zn, .bool up] 34)).cell? ⟨wr.heap.size, 1, none⟩ = some (.string rk) := by rw [World.cell?_alloc_at _ _ _ _ rfl]; rfl
      have HX2 := Lib.hid (show (wr.alloc (.cells #[.string nm, .string rk, .string zn, .bool up] 34)).cell? ⟨wr.heap.size, 2, none⟩ = some (.string zn) by rw [World.cell?_alloc_at _ _ _ _ rfl]; rfl)
      have HA1 := Lib.hid (HA.out.below hal); have HZ1 := Lib.hid (HZ.out.below hal); have HO1 := Lib.hid (own_below HO.out hal); have HB1 := Lib.hid (then_ HB.out hal)
      clear hal HA HZ HO HB hlen
      go_wp2_with fail
      generalize wr.alloc (.cells #[.string nm, .string rk, .string zn, .bool up] 34) = w1 at hx1 HX2 HA1 HZ1 HO1 HB1 ⊢
      generalize wr.heap.size = xb at hx1 HX2 ⊢
      refine (place_any Ar KR.length cr KR rk w1 HA1.out.rd rfl (by omega)).mono ?_
      rintro e w2 ⟨Ar', cr', rfl, hrd, hor, hb⟩
      have HA2 := Lib.hid (placed HA1.out (fun b e => (HO1.out.lt b e).2) HB1.out.size hb hrd hor); have HZ2 := Lib.hid (HZ1.out.below hb); have HO2 := Lib.hid (own_below HO1.out hb); have HB2 := Lib.hid (then_ HB1.out hb)
      have hx2 := cell_below hb HX2.out
      clear hrd hor hb HA1 HZ1 HO1 HB1 HX2 hx1
      go_wp2_with fail
      refine (place_any Az KZ.length cz KZ zn w2 HZ2.out.rd rfl (by omega)).mono ?_
      rintro e w3 ⟨Az', cz', rfl, hrd, hor, hb⟩
      have HA3 := Lib.hid (HA2.out.below hb); have HZ3 := Lib.hid (placed HZ2.out (fun b e => (HO2.out.lt b e).2) HB2.out.size hb hrd hor); have HO3 := Lib.hid (own_below HO2.out hb); have HB3 := Lib.hid (then_ HB2.out hb)
      have HS3 := Lib.hid HB3.out.size
      clear hrd hor hb HA2 HZ2 HO2 HB2 hx2
      go_wp2_with (at_builtin; (refine wpList_app el_pair (by rfl) (.tmp 43) (.tmp 47) (by rfl) w.heap.size _ P.length _ (by rfl) (HO3.out.alloc _) (some ⟨w3.heap.size, 0, none⟩) 1 1 [.int .i64 (Pref.idx KR rk : Int), .int .i64 (Pref.idx KZ zn : Int)] (by rfl) rfl (Rd.new w3 #[.int .i64 (Pref.idx KR rk : Int), .int .i64 (Pref.idx KZ zn : Int)] _) (by intro u hu; simp at hu; rcases hu with rfl | rfl <;> rfl) (by unfold maxLen; omega) (by omega) (by have := HS3.out; simp; omega) ?_; intro v1 w4 hown1 hbel1 hg1 hat1))
      have hal : Below w3.heap.size w3 (w3.alloc (.cells #[.int .i64 (Pref.idx KR rk : Int), .int .i64 (Pref.idx KZ zn : Int)] 50)) := (Below.refl _ _).alloc (Nat.le_refl _) _
      exact ⟨⟨k + 1, Ar', Az', cr', cz', by omega, by go_num, by rw [HKR.out], by rw [HKZ.out], Lib.hid (by rw [HKR.out]; exact (HA3.out.below hal).app hg1 hat1), Lib.hid (by rw [HKZ.out]; exact (HZ3.out.below hal).app hg1 hat1), Lib.hid (by rw [HPS.out, List.length_append, prc_snoc]; exact hown1), Lib.hid ((HB3.out.alloc HS3.out _).trans hbel1)⟩, by simp [intOf]; omega⟩
    · have hkn : (n : Int) ≤ (k : Int) := by omega
      have hfull : ord.take k = ord := List.take_of_length_le (by have := HN.out; omega)
      rw [hfull] at HO
      go_wp2
      go_ret
      exact ⟨_, rfl, HO.out, HB.out⟩
end Go.Proofs.Ytpiinfjcjpdofaa
