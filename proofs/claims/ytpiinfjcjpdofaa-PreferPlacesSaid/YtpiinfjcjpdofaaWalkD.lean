/- walk: the walk of the program's Order. -/
import Derived.Test.YtpiinfjcjpdofaaWalkC
namespace Go.Proofs.Ytpiinfjcjpdofaa
open Go.RowKit Go.Mem
set_option linter.unusedVariables false
theorem kw : Keyw Try.prog 9 txOk Value.string txLit := keyw_string Try.underlying9
theorem zero_int (w : World) : (zeroValue 3).run Try.prog w = .ok (.int .i64 0) w := by kernel_rfl
abbrev DictS (w : World) (b n : Nat) (f : ByteArray → Option Int) (c : Nat) : Prop := Dict Try.prog 9 3 txOk txLit w b n f c
/-- where a name stands first, from a place on -/
def pf (ns : List ByteArray) (k : Nat) (s : ByteArray) : Option Int := (WalkL.where_ (ns.drop k) s).map fun (i : Nat) => ((i + k : Nat) : Int)
theorem pf_step (ns : List ByteArray) (k : Nat) (hk : k < ns.length) (s : ByteArray) : pf ns k s = if s = ns[k] then some (k : Int) else pf ns (k + 1) s := by
  unfold pf
  rw [List.drop_eq_getElem_cons hk, WalkL.where_cons]
  by_cases h : ns[k] = s
  · rw [if_pos h, if_pos h.symm]; simp
  · rw [if_neg h, if_neg (fun e => h e.symm)]
    cases WalkL.where_ (ns.drop (k + 1)) s with
    | none => rfl
    | some i => simp; omega
theorem pf_end (ns : List ByteArray) (k : Nat) (hk : ns.length ≤ k) (s : ByteArray) : pf ns k s = none := by
  unfold pf
  rw [List.drop_eq_nil_of_le hk]; rfl
/-- where a name stands first, if that place was not told -/
def left (ns : List ByteArray) (cur : List Nat) (s : ByteArray) : Option Int := match WalkL.where_ ns s with | none => none | some i => if i ∈ cur then none else some (i : Int)
theorem left_nil (ns : List ByteArray) (s : ByteArray) : left ns [] s = pf ns 0 s := by
  unfold left pf
  rw [List.drop_zero]
  cases WalkL.where_ ns s <;> simp
theorem left_add (ns : List ByteArray) (cur : List Nat) (s : ByteArray) (i : Nat) (h : WalkL.where_ ns s = some i) (t : ByteArray) : left ns (cur ++ [i]) t = if t = s then none else left ns cur t := by
  unfold left
  by_cases ht : t = s
  · subst ht; rw [if_pos rfl, h]; simp
  · rw [if_neg ht]
    cases hw : WalkL.where_ ns t with
    | none => rfl
    | some j =>
      have hji : j ≠ i := by
        rintro rfl
        obtain ⟨h1, h2⟩ := WalkL.where_at h
        obtain ⟨h3, h4⟩ := WalkL.where_at hw
        exact ht (h4.symm.trans h2)
      simp [hji]
/-- which places were told -/
def toldL (m : Nat) (cur : List Nat) : List Bool := (List.range m).map fun i => decide (i ∈ cur)
theorem toldL_length (m : Nat) (cur : List Nat) : (toldL m cur).length = m := by simp [toldL]
theorem toldL_nil (m : Nat) : toldL m [] = List.replicate m false := by
  unfold toldL
  apply List.ext_getElem <;> simp
theorem toldL_set (m : Nat) (cur : List Nat) (k : Nat) (hk : k < m) : (toldL m cur).set k true = toldL m (cur ++ [k]) := by
  apply List.ext_getElem
  · simp [toldL]
  · intro i h1 h2
    simp only [toldL, List.getElem_set, List.getElem_map, List.getElem_range]
    by_cases h : k = i
    · subst h; simp
    · have : i ≠ k := fun e => h e.symm
      rw [if_neg h]
      simp [this]
theorem toldL_at (m : Nat) (cur : List Nat) (k : Nat) (hk : k < m) : ((toldL m cur).map Value.bool)[k]? = some (.bool (decide (k ∈ cur))) := by
  rw [List.getElem?_map]
  unfold toldL
  rw [List.getElem?_map, List.getElem?_range hk]
  rfl
theorem TellSt.kept {w w' : World} {base Ba Bb M : Nat} {told : List Bool} {out : List Nat} (h : TellSt w base Ba Bb M told out) (hg : w.grownBy w' (some M)) : TellSt w' base Ba Bb M told out := by
  obtain ⟨T, cT, v, ha, hoT, hb, hov, ⟨d1, d2, d3, d4, d5, d6⟩, ⟨m1, m2, m3, m4⟩, b1, b2, hM⟩ := h
  have hbl : ∀ i, i < w.heap.size → i ≠ M → w'.heap[i]? = w.heap[i]? := fun i hi hne => hg.block i hi (fun e => by injection e with e; exact hne e)
  refine ⟨T, cT, v, (hbl _ (lt_of_block ha) m1.symm).trans ha, own_block hoT (fun i hi => ?_), (hbl _ (lt_of_block hb) m2.symm).trans hb, own_block hov (fun i hi => ?_), ⟨d1, d2, d3, d4, d5, d6⟩, ⟨m1, m2, m3, m4⟩, b1, b2, Nat.lt_of_lt_of_le hM hg.size⟩
  · have := (hoT.lt i hi).2
    injection hi with hi; subst hi
    exact hbl _ this m3.symm
  · exact hbl _ (hov.lt i hi).2 (fun e => m4 (e ▸ hi))
theorem made_false (m : Nat) : (madeCells (Value.bool false).cells (m * 1)).toList = (toldL m []).map Value.bool := by
  rw [toldL_nil]
  unfold madeCells
  apply List.ext_getElem
  · simp
  · intro i h1 h2
    simp [Value.cells, Nat.mod_one]
theorem tell_new {w wr w1 : World} {m : Nat} (hbel : Below w.heap.size w wr) (hown : w1.ownsRow w.heap.size 4 1 (.slice (some ⟨wr.heap.size, 0, none⟩) m m) m (madeCells (Value.bool false).cells (m * 1)).toList) (hgr : wr.grownBy w1 none) (hlt : w.heap.size < wr.heap.size) :
    TellSt ((w1.alloc (.cells #[.slice (some ⟨wr.heap.size, 0, none⟩) m m] 67)).alloc (.cells #[.slice none 0 0] 28)) w.heap.size w1.heap.size (w1.heap.size + 1) w.heap.size (toldL m []) [] := by
  have hlt1 : wr.heap.size < w1.heap.size := (hown.lt wr.heap.size rfl).2
  rw [made_false] at hown
  refine ⟨wr.heap.size, m, .slice none 0 0, ?_, ?_, ?_, World.ownsRow_nil _ _ _ _, ⟨by omega, by omega, by omega, by simp [Value.ownBlock], by simp [Value.ownBlock], by simp [Value.ownBlock]⟩, ⟨by omega, by omega, by omega, by simp [Value.ownBlock]⟩, by omega, by omega, by simp; omega⟩
  · rw [heap_alloc_old _ _ (by simp), toldL_length]
    exact heap_alloc_new w1 _
  · rw [toldL_length]
    exact (hown.alloc _).alloc _
  · have := heap_alloc_new (w1.alloc (.cells #[.slice (some ⟨wr.heap.size, 0, none⟩) m m] 67)) (.cells #[.slice none 0 0] 28)
    simpa using this
theorem enter_tell (args : Array Value) (W : World) : Sem.run Try.prog (callFunc 47 args) W = .ok (.enter 47 args) W := by kernel_rfl
set_option maxRecDepth 100000 in
set_option maxHeartbeats 2000000 in
theorem order_any (A : Option Addr) (n c : Nat) (ss : List ByteArray) (B : Option Addr) (m d : Nat) (ms : List Mb) (part : Int) (w : World) (hr : Rd w A (ss.map Value.string)) (hn : ss.length = n) (hn' : n ≤ 1000) (hr' : Rd w B (ms.flatMap Mb.cells)) (hm : ms.length = m) (hm' : m ≤ 1000) (hp : (Lit.int .i64 part).wf = true)
    (hss : ∀ s ∈ ss, s.size ≤ maxLen) (hms : ∀ x ∈ ms, x.name.size ≤ maxLen) :
    Calls Try.prog 15 #[.slice A n c, .slice B m d, .int .i64 part] w (Makes 3 1 (WalkL.order (names ms) ss ByteArray.empty part).length (nats (WalkL.order (names ms) ss ByteArray.empty part)) w) := by
  have HN := Lib.hid hn; have HM := Lib.hid hm; have HSS := Lib.hid hss; have HMS := Lib.hid hms; clear hn hm hss hms
  have hnl : (names ms).length = m := by simp [names]; exact HM.out
  have HNL := Lib.hid hnl; clear hnl
  have hmm := @run_makeMap Try.prog
  go_enter Try.func15, Try.ntmps15
  go_wp2
  clear hmm
  go_loopw [8] (fun i wr => ∃ (k : Nat) (z : Int) (q : Nat), k ≤ m ∧ i = .int .i64 z ∧ z + 1 ≤ (k : Int) ∧ (k : Int) ≤ z + 1 ∧ DictS wr w.heap.size (m - k) (pf (names ms) k) q ∧ Below w.heap.size w wr) (fun i _ => (intOf i + 1).toNat)
  case atStart => exact ⟨m, _, 0, Nat.le_refl _, rfl, by omega, by omega, ((Dict.made w Try.prog 9 3 txOk txLit).mono (Nat.zero_le _)).same (fun s _ => pf_end _ _ (by rw [HNL.out]; exact Nat.le_refl _) s), (Below.refl _ _).alloc (Nat.le_refl _) _⟩
  case round =>
    obtain ⟨k, z, q, hk, rfl, hz1, hz2, hd, hbel⟩ := hrel
    by_cases hlt : 0 < k
    · obtain ⟨j, rfl⟩ : ∃ j : Nat, z = j := ⟨z.toNat, by omega⟩
      obtain rfl : k = j + 1 := by omega
      have hx : j < ms.length := by have := HM.out; omega
      obtain ⟨b, off, rfl, hc0, _, _, _⟩ := mb_row (hr'.below hbel) j hx
      have hsz := HMS.out ms[j] (List.getElem_mem hx)
      have hst : ∀ s, pf (names ms) j s = if s = ms[j].name then some (j : Int) else pf (names ms) (j + 1) s := fun s => by
        rw [pf_step (names ms) j (by simp [names]; exact hx)]; simp [names]
      have HST := Lib.hid hst; have HSZ := Lib.hid hsz; have HDD := Lib.hid hd; clear hst hsz hd
      generalize ms[j].name = s at *
      clear hz1 hz2
      have hi0 : (0 : Int) ≤ (j : Int) := by omega
      have hi1 : (j : Int) < (m : Int) := by omega
      go_wp2_with (at_mapUpdate; refine wpList_dict_put rfl (.tmp 26) (.tmp 31) (.tmp 32) rfl HDD.out kw Try.underlying66 Try.underlying3 (by unfold maxLen; omega) rfl s HSZ.out rfl (j : Int) rfl (by unfold Lit.wf; simp [IntKind.min, IntKind.max, IntKind.signed, IntKind.bits]; omega) ?_; intro w1 hd1 hg1)
      go_roundw
      case rel => exact ⟨j, _, _, by omega, rfl, by omega, by omega, (hd1.mono (by omega)).same (fun s _ => HST.out s), hbel.grown hg1 hbel.size (fun i hi => by injection hi with hi; omega)⟩
      case measure => simp [intOf]
    · obtain rfl : k = 0 := by omega
      obtain rfl : z = -1 := by omega
      obtain ⟨i0, hi, hz0, hzs, hzb⟩ := info_parts (by kernel_rfl : (Try.prog.info? 4).map (fun i => (i.zero, i.size, i.bytes)) = some (some (.bool false), 1, 1))
      obtain ⟨w1, hmk, hown, hgr⟩ := run_makeSlice_full (P := Try.prog) wr w.heap.size 67 4 i0 (.bool false) 1 Try.underlying67 hi hz0 hzs .i64 .i64 m (by omega) (by rw [hzb]; omega) (by unfold maxLen; omega) hbel.size
      clear hi hz0 hzs hzb
      have HO := Lib.hid hown; have HG := Lib.hid hgr; have HDD := Lib.hid hd; clear hown hgr hd hlt
      go_wp2_with fail
      refine (from_any part n _ hp (by omega)).mono ?_
      rintro e w2 ⟨rfl, rfl⟩
      go_wp2_with fail
      have hFl : 0 < n → WalkL.fromN part n < n := fun h => WalkL.fromN_lt part h
      have hord : WalkL.order (names ms) ss ByteArray.empty part = WalkL.rest (WalkL.own (names ms) (WalkL.rot ss ByteArray.empty (WalkL.fromN part n))) m := by unfold WalkL.order; rw [HN.out, HNL.out]
      have HORD := Lib.hid hord; clear hord
      generalize WalkL.fromN part n = F at *
      have hrl := rot_len ss F
      have hrt := rot_take ss F
      generalize hR : WalkL.rot ss ByteArray.empty F = R at *
      have HRL := Lib.hid hrl; have HRT := Lib.hid hrt; clear hrl hrt hR hmk
      have hbA : Below w.heap.size w ((w1.alloc (.cells #[.slice (some ⟨wr.heap.size, 0, none⟩) m m] 67)).alloc (.cells #[.slice none 0 0] 28)) :=
        ((hbel.grown HG.out hbel.size (fun i hi => by cases hi)).alloc (Nat.le_trans hbel.size HG.out.size) _).alloc (by simp; have := hbel.size; have := HG.out.size; omega) _
      have hstA := tell_new hbel HO.out HG.out HDD.out.lt
      have hdA : DictS ((w1.alloc (.cells #[.slice (some ⟨wr.heap.size, 0, none⟩) m m] 67)).alloc (.cells #[.slice none 0 0] 28)) w.heap.size (m - 0) (left (names ms) []) q :=
        (((HDD.out.kept HG.out (by simp)).alloc _).alloc _).same (fun s _ => left_nil (names ms) s)
      have hwA : w1.heap.size + 1 < ((w1.alloc (.cells #[.slice (some ⟨wr.heap.size, 0, none⟩) m m] 67)).alloc (.cells #[.slice none 0 0] 28)).heap.size := by simp
      clear HO HG HDD hbel
      generalize (w1.alloc (.cells #[.slice (some ⟨wr.heap.size, 0, none⟩) m m] 67)).alloc (.cells #[.slice none 0 0] 28) = wA at *
      generalize w1.heap.size = Ba at *
      generalize wr.heap.size = T0 at *
      go_loopw [43] (fun i wr => ∃ (k q : Nat), k ≤ n ∧ i = .int .i64 k ∧ TellSt wr w.heap.size Ba (Ba + 1) w.heap.size (toldL m (WalkL.own (names ms) (R.take k))) (WalkL.own (names ms) (R.take k)) ∧ DictS wr w.heap.size (m - 0) (left (names ms) (WalkL.own (names ms) (R.take k))) q ∧ Below w.heap.size w wr) (fun i _ => n - (intOf i).toNat)
      case atStart => exact ⟨0, q, Nat.zero_le _, rfl, hstA, hdA, hbA⟩
      case round =>
        clear hstA hdA hbA hwA
        obtain ⟨k, q, hk, rfl, hst, hd, hbel⟩ := hrel
        by_cases hlt : k < n
        · have hx : k < ss.length := by have := HN.out; omega
          have hFn := hFl (by omega)
          obtain ⟨u, hu⟩ : ∃ u, (F + k) % n = u := ⟨_, rfl⟩
          have hun : u < n := by rw [← hu]; exact Nat.mod_lt _ (by omega)
          have hus : u < ss.length := by rw [HN.out]; exact hun
          have hui : ((F : Int) + (k : Int)) % (n : Int) = (u : Int) := by
            rw [← hu]; simp
          obtain ⟨b, off, rfl, hcell⟩ := (hr.below hbel).at_ u (by simp; exact hus)
          simp only [List.getElem_map] at hcell
          have hone := HRT.out k hx (by rw [HN.out, hu]; exact hun)
          simp only [HN.out, hu] at hone
          have hsn : WalkL.own (names ms) (R.take (k + 1)) = WalkL.step (names ms) (WalkL.own (names ms) (R.take k)) ss[u] := by rw [hone, WalkL.own_snoc]
          have hle : (WalkL.own (names ms) (R.take k)).length ≤ m := by have := WalkL.own_le (names ms) (R.take k); rw [HNL.out] at this; exact this
          have hsz := HSS.out ss[u] (List.getElem_mem hus)
          generalize hcur : WalkL.own (names ms) (R.take k) = cur at *
          generalize ss[u] = s at hcell hsn hsz
          have hlook := hd.look_ok kw Try.underlying66 Try.underlying3 (zero_int _) s hsz
          have HSN := Lib.hid hsn; have HSZ := Lib.hid hsz; have HD := Lib.hid hd; have HST := Lib.hid hst; clear hsn hone hu hcur hsz hd hst
          have hi0 : (0 : Int) ≤ (u : Int) := by omega
          have hi1 : (u : Int) < (n : Int) := by omega
          have hn0 : ((n : Int) == 0) = false := by simp; omega
          have hcf := enter_tell
          rcases hw : WalkL.where_ (names ms) s with _ | i
          · have hl : left (names ms) cur s = none := by unfold left; rw [hw]
            have HS2 : Hid (WalkL.own (names ms) (R.take (k + 1)) = cur) := Lib.hid (by rw [HSN.out, step_none hw])
            rw [hl] at hlook
            clear hw hl
            go_wp2
            go_roundw
            case rel => exact ⟨k + 1, q, by omega, by go_num, by rw [HS2.out]; exact HST.out, by rw [HS2.out]; exact HD.out, hbel⟩
            case measure => simp [intOf]; omega
          · have him : i < m := by have := WalkL.where_lt hw; rw [HNL.out] at this; exact this
            have HS2 : Hid (WalkL.own (names ms) (R.take (k + 1)) = WalkL.add cur i) := Lib.hid (by rw [HSN.out, step_some hw])
            by_cases hin : i ∈ cur
            · have hl : left (names ms) cur s = none := by unfold left; rw [hw]; simp [hin]
              have HS3 : Hid (WalkL.own (names ms) (R.take (k + 1)) = cur) := Lib.hid (by rw [HS2.out, add_in hin])
              rw [hl] at hlook
              clear hw hl hin
              go_wp2
              go_roundw
              case rel => exact ⟨k + 1, q, by omega, by go_num, by rw [HS3.out]; exact HST.out, by rw [HS3.out]; exact HD.out, hbel⟩
              case measure => simp [intOf]; omega
            · have hl : left (names ms) cur s = some (i : Int) := by unfold left; rw [hw]; simp [hin]
              have HS3 : Hid (WalkL.own (names ms) (R.take (k + 1)) = cur ++ [i]) := Lib.hid (by rw [HS2.out, add_new hin])
              have HLA : Hid (∀ t, left (names ms) (cur ++ [i]) t = if t = s then none else left (names ms) cur t) := Lib.hid (left_add _ _ _ _ hw)
              rw [hl] at hlook
              clear hw hl hin
              go_wp2_with (at_delete; refine wpList_dict_del rfl (.tmp 62) (.tmp 63) rfl HD.out kw Try.underlying66 rfl s HSZ.out rfl ?_; intro w2 hd2 hg2)
              have hb2 := hbel.grown hg2 hbel.size (fun i hi => by injection hi with hi; omega)
              refine (tell_any _ _ _ _ _ _ _ i (HST.out.kept hg2) (by rw [toldL_length]; exact him) (by omega) (by omega) hb2.size).mono ?_
              rintro e w3 ⟨rfl, hst3, hb3, hM3⟩
              rw [toldL_set m cur i him] at hst3
              have HST3 := Lib.hid hst3
              have hd3 := Lib.hid (hd2.block hM3)
              clear hd2 hg2 hst3 hM3 hlook hcf
              go_wp2
              go_roundw
              case rel => exact ⟨k + 1, _, by omega, by go_num, by rw [HS3.out]; exact HST3.out, by rw [HS3.out]; exact hd3.out.same (fun t _ => HLA.out t), hb2.trans hb3⟩
              case measure => simp [intOf]; omega
        · have HK : Hid (k = n) := Lib.hid (by omega)
          have hge : (n : Int) ≤ (k : Int) := by omega
          have hRt : R.take k = R := List.take_of_length_le (by rw [HRL.out, HN.out, HK.out]; exact Nat.le_refl _)
          rw [hRt] at hst
          have hprops := WalkL.own_props (names ms) R
          rw [HNL.out] at hprops
          generalize WalkL.own (names ms) R = cur at *
          have HP := Lib.hid hprops; have HST := Lib.hid hst; clear hprops hst hd hRt HRT HRL
          obtain ⟨w2, rfl⟩ : ∃ w2, w2 = wr := ⟨_, rfl⟩
          have hsz2 := hbel.size
          go_wp2_with fail
          go_loopw [70] (fun i wr => ∃ k : Nat, k ≤ m ∧ i = .int .i64 k ∧ TellSt wr w.heap.size Ba (Ba + 1) w.heap.size (toldL m (WalkL.rest cur k)) (WalkL.rest cur k) ∧ Below w.heap.size w wr) (fun i _ => m - (intOf i).toNat)
          case atStart => exact ⟨0, Nat.zero_le _, rfl, HST.out, hbel⟩
          case round =>
            clear HST hbel
            obtain ⟨k, hk, rfl, hst, hbel⟩ := hrel
            by_cases hlt : k < m
            · have hsn := WalkL.rest_succ cur k
              have hle : (WalkL.rest cur k).length ≤ m := WalkL.rest_len_le cur m k HP.out.1 HP.out.2 hk
              generalize hL : WalkL.rest cur k = out at *
              have HSN := Lib.hid hsn; have HST := Lib.hid hst; clear hsn hL
              obtain ⟨T, cT, v, ha, hoT, hb, hov, _⟩ := hst
              have c1 := cell_of_one ha
              obtain ⟨⟨x, hx1, hx2⟩, hx3⟩ := own_cells hoT k (by rw [toldL_length]; omega)
              rw [toldL_at m out k hlt] at hx1
              injection hx1 with hx1
              subst hx1
              rw [toldL_length] at c1
              clear ha hoT hb hov
              have hi0 : (0 : Int) ≤ (k : Int) := by omega
              have hi1 : (k : Int) < (m : Int) := by omega
              have hcf := enter_tell
              by_cases hin : k ∈ out
              · rw [decide_eq_true hin] at hx2
                have HS3 : Hid (WalkL.rest cur (k + 1) = out) := Lib.hid (by rw [HSN.out, add_in hin])
                clear hin
                go_wp2
                go_roundw
                case rel => exact ⟨k + 1, by omega, by go_num, by rw [HS3.out]; exact HST.out, hbel⟩
                case measure => simp [intOf]; omega
              · rw [decide_eq_false hin] at hx2
                have HS3 : Hid (WalkL.rest cur (k + 1) = out ++ [k]) := Lib.hid (by rw [HSN.out, add_new hin])
                clear hin
                go_wp2_with fail
                refine (tell_any _ _ _ _ _ _ _ k HST.out (by rw [toldL_length]; exact hlt) (by omega) (by omega) hbel.size).mono ?_
                rintro e w3 ⟨rfl, hst3, hb3, hM3⟩
                rw [toldL_set m out k hlt] at hst3
                have HST3 := Lib.hid hst3
                clear hst3 hM3 hcf c1 hx2 hx3
                go_wp2
                go_roundw
                case rel => exact ⟨k + 1, by omega, by go_num, by rw [HS3.out]; exact HST3.out, hbel.trans hb3⟩
                case measure => simp [intOf]; omega
            · have HK2 : Hid (k = m) := Lib.hid (by omega)
              have hge : (m : Int) ≤ (k : Int) := by omega
              obtain ⟨T, cT, v, ha, hoT, hb, hov, _⟩ := hst
              have c1 := cell_of_one hb
              have HO := Lib.hid hov
              clear ha hoT hb hov
              go_wp2
              go_ret
              exact ⟨_, rfl, by rw [HORD.out, ← HK2.out]; exact HO.out, hbel⟩
end Go.Proofs.Ytpiinfjcjpdofaa
