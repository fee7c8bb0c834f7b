/- The package erase and its reference: what Erase and Calls return, for every argument. -/
import Derived.Test.YtebfmacbdjnhbaaEraseB
namespace Go.Proofs.Ytebfmacbdjnhbaa
open Go.RowKit Go.Mem
set_option linter.unusedVariables false

theorem enter_erase1 (args : Array Value) (W : World) : Sem.run Try.prog (callFunc 70 args) W = .ok (.enter 70 args) W := by kernel_rfl
theorem enter_calls1 (args : Array Value) (W : World) : Sem.run Try.prog (callFunc 74 args) W = .ok (.enter 74 args) W := by kernel_rfl
def erL (t : ByteArray) (l : List Ev) : List Ev := l.filter fun e => !oth t e
def caL (t : ByteArray) (l : List Ev) : List Cal := (l.filter fun e => ownB e.kind e.lane t).map Ev.call
abbrev evs (l : List Ev) : List Value := l.flatMap fun m : Ev => m.arr.toList
abbrev cals (l : List Cal) : List Value := l.flatMap fun m : Cal => m.arr.toList

theorem MakesR.mono {e : TypeId} {size n : Nat} {cs : List Value} {w w0 : World} {r : Ending} {w' : World} (h : MakesR e size n cs w r w') (hb : Below w0.heap.size w0 w) : MakesR e size n cs w0 r w' := by
  obtain ⟨v, h1, h2, h3⟩ := h
  exact ⟨v, h1, own_mono h2 hb.size, then_ hb h3⟩

set_option maxRecDepth 100000 in
set_option maxHeartbeats 1000000 in
theorem erase_any (A : Option Addr) (n c : Nat) (l : List Ev) (t : ByteArray) (w : World) (hr : Rd w A (evs l)) (hn : l.length = n) (hm : n ≤ 100000) :
    Calls Try.prog 20 #[.slice A n c, .string t] w (MakesR 34 22 (erL t l).length (evs (erL t l)) w) := by
  have HN := Lib.hid hn; clear hn
  go_enter Try.func20, Try.ntmps20
  go_wp2_with fail
  refine (cloneEv_any A n c l _ (hr.alloc _) HN.out hm).mono ?_
  rintro e w1 ⟨v, rfl, hown, hb1⟩
  have hc1 : w1.cell? ⟨w.heap.size, 0, none⟩ = some (.string t) := cell_below hb1 (by simp)
  have hlt : w.heap.size < w1.heap.size := World.block_lt_of_cell? _ _ hc1
  have hask : AsksREv Try.prog v.ownBlock w1 70 #[.pointer (some ⟨w.heap.size, 0, none⟩)] (oth t) l :=
    ⟨enter_erase1, fun W m hg hm => (erase1_any m.arr m.kind m.lane t w.heap.size W rfl rfl rfl (by
      have hne : some w.heap.size ≠ v.ownBlock := by
        intro he
        have h1 := (hown.lt _ he.symm).1
        have h2 : (w.alloc (.cells #[.string t] 9)).heap.size = w.heap.size + 1 := by simp
        omega
      have := hg.block w.heap.size hlt hne
      unfold World.cell? at hc1 ⊢
      rw [this]; exact hc1))⟩
  have HA := Lib.hid hask; have HO := Lib.hid hown; have HB := Lib.hid (hb1.size); clear hask hown hc1
  go_wp2_with fail
  refine (deleteFuncEv_any _ v n l _ _ (oth t) _ HB.out HO.out (by omega) HA.out).mono ?_
  rintro e w2 ⟨hb2, v2, rfl, hown2⟩
  go_wp2
  go_ret
  have hb02 : Below w.heap.size w w2 := below_alloc (hb1.trans hb2)
  exact ⟨_, rfl, own_mono hown2 (by simp), hb02⟩

theorem erL_snoc (t : ByteArray) (l : List Ev) (e : Ev) : erL t (l ++ [e]) = erL t l ++ (if oth t e then [] else [e]) := by
  unfold erL; rw [List.filter_append]; by_cases h : oth t e <;> simp [h]
theorem erL_le (t : ByteArray) (l : List Ev) : (erL t l).length ≤ l.length := List.length_filter_le _ _
theorem caL_snoc (t : ByteArray) (l : List Ev) (e : Ev) : caL t (l ++ [e]) = caL t l ++ (if ownB e.kind e.lane t then [e.call] else []) := by
  unfold caL; rw [List.filter_append, List.map_append]; by_cases h : ownB e.kind e.lane t <;> simp [h]
theorem caL_le (t : ByteArray) (l : List Ev) : (caL t l).length ≤ l.length := by unfold caL; rw [List.length_map]; exact List.length_filter_le _ _
theorem zero_cal (W : World) : (zeroValue 28).run Try.prog W = .ok (.agg #[.int .i64 0, .string ByteArray.empty, .string ByteArray.empty, .string ByteArray.empty, .string ByteArray.empty, .slice none 0 0, .int .i64 0]) W := by kernel_rfl
theorem el_cal : Elem Try.prog 38 28 7 104 := Elem.of (z := .agg #[.int .i64 0, .string ByteArray.empty, .string ByteArray.empty, .string ByteArray.empty, .string ByteArray.empty, .slice none 0 0, .int .i64 0]) Try.underlying38 (by kernel_rfl) rfl (by decide)
theorem info_ev {q : Array Value} {e : Ev} (h : e.arr = q) : (Try.prog.info? 34).map (·.size) = some q.size := by subst h; exact row_ev.hi

set_option maxRecDepth 100000 in
set_option maxHeartbeats 2000000 in
theorem rerase_any (A : Option Addr) (n c : Nat) (l : List Ev) (t : ByteArray) (w : World) (hr : Rd w A (evs l)) (hn : l.length = n) (hm : n ≤ 100000) :
    Calls Try.prog 21 #[.slice A n c, .string t] w (MakesR 34 22 (erL t l).length (evs (erL t l)) w) := by
  have HN := Lib.hid hn; clear hn
  go_enter Try.func21, Try.ntmps21
  go_wp2
  go_loopw [5, 6] (fun v i wr => ∃ k : Nat, k ≤ n ∧ i = .int .i64 k ∧ wr.ownsRow w.heap.size 34 22 v (erL t (l.take k)).length (evs (erL t (l.take k))) ∧ Below w.heap.size w wr) (fun _ i _ => n - (intOf i).toNat)
  case atStart => exact ⟨0, Nat.zero_le _, rfl, World.ownsRow_nil _ _ _ _, Below.refl _ _⟩
  case round =>
    obtain ⟨k, hk, rfl, hown, hbel⟩ := hrel
    by_cases hlt : k < n
    · have hx : k < l.length := by have := HN.out; omega
      obtain ⟨b, off, rfl, hrg⟩ := row_ev.at_ (hr.below hbel) k hx
      have hle : (erL t (l.take k)).length ≤ k := Nat.le_trans (erL_le _ _) (by simp; omega)
      have hs1 := erL_snoc t (l.take k) l[k]
      rw [← List.take_succ_eq_append_getElem hx] at hs1
      have hcells := evCells l[k]
      have hone := Lib.hid (row_ev.one l[k])
      have hlen := Lib.hid (row_ev.size l[k])
      generalize he : l[k] = e at hrg hs1 hcells hone hlen
      have hcall := othersR_any e.arr e.kind e.lane t wr hcells.c0 hcells.c3
      have ho : othersB e.kind e.lane t = oth t e := rfl
      rw [ho] at hcall
      generalize hq : e.arr = q at hrg hcall hone hlen
      have HI := Lib.hid (info_ev hq); have HQ := Lib.hid hq
      have hfold := fold_zip #[.int .i64 0, .string ⟨#[]⟩, .string ⟨#[]⟩, .string ⟨#[]⟩, .int .i64 0, .int .i64 0, .string ⟨#[]⟩, .string ⟨#[]⟩, .string ⟨#[]⟩, .string ⟨#[]⟩, .slice none 0 0, .int .i64 0, .int .i64 0, .string ⟨#[]⟩, .string ⟨#[]⟩, .string ⟨#[]⟩, .string ⟨#[]⟩, .int .i64 0, .string ⟨#[]⟩, .string ⟨#[]⟩, .string ⟨#[]⟩, .bool false] q (by rw [hlen.out]; rfl)
      rw [hlen.out] at hfold
      have hq22 := hlen.out
      have HS := Lib.hid hs1; have HO := Lib.hid hown; have HR := Lib.hid hrg; have HC := Lib.hid hcall; clear hs1 hown he hrg hcall hcells hq
      generalize hL : erL t (l.take k) = cur at HO HS hle
      clear hL
      go_wp2_with (refine wpList_load_arr (by rfl) _ (by rfl) b (off + k * 22) (by rfl) q HR.out row_ev.d HI.out ?_)
      refine HC.out.mono ?_
      rintro _ w1 ⟨rfl, hb1⟩
      have HR1 := Lib.hid (rangeAt_below HR.out hb1); have HO1 := Lib.hid (own_below HO.out hb1)
      have hbel1 := then_ hbel hb1
      clear hbel hb1 HC HR HO
      generalize hp : oth t e = p at HS
      clear hp
      cases p
      · go_wp2_with (first | (refine wpList_load_arr (by rfl) _ (by rfl) b (off + k * 22) (by rfl) q HR1.out row_ev.d HI.out ?_) | (at_builtin; refine wpList_app el_ev rfl (.tmp 20) (.tmp 25) rfl w.heap.size _ _ _ rfl (HO1.out.alloc _) (some ⟨w1.heap.size, 0, none⟩) 1 1 q.toList rfl (by simp [hlen.out]) (Rd.new w1 q _) hone.out (by unfold maxLen; omega) (by omega) (by have := hbel1.size; simp; omega) ?_; intro v1 w2 hown1 hbel2 _ _))
        go_roundw
        case rel => exact ⟨k + 1, by omega, by go_num, by rw [HS.out]; simpa [HQ.out] using hown1, (hbel1.alloc hbel1.size _).trans hbel2⟩
        case measure => simp [intOf]; omega
      · go_wp2
        go_roundw
        case rel => exact ⟨k + 1, by omega, by go_num, by rw [HS.out]; simpa using HO1.out, hbel1⟩
        case measure => simp [intOf]; omega
    · obtain rfl : k = n := by omega
      go_wp2
      go_ret
      rw [List.take_of_length_le (by rw [HN.out]; omega)] at hown
      exact ⟨_, rfl, hown, hbel⟩

theorem call_range {w : World} {b o : Nat} {e : Ev} (h : w.rangeAt b o e.arr.toList) : w.rangeAt b (o + 5) e.call.arr.toList :=
  rangeAt_mid (pre := [.int .i64 e.kind, .string e.node, .string e.to, .string e.lane, .int .i64 e.n]) (post := e.adm.arr.toList) h
theorem adm_range {w : World} {b o : Nat} {e : Ev} (h : w.rangeAt b o e.arr.toList) : w.rangeAt b (o + 12) e.adm.arr.toList :=
  rangeAt_mid (pre := [.int .i64 e.kind, .string e.node, .string e.to, .string e.lane, .int .i64 e.n] ++ e.call.arr.toList) (post := []) (by rw [List.append_nil]; exact h)
theorem info_cal {q : Array Value} {e : Cal} (h : e.arr = q) : (Try.prog.info? 28).map (·.size) = some q.size := by subst h; exact row_cal.hi

set_option maxRecDepth 100000 in
set_option maxHeartbeats 2000000 in
theorem calls_any (A : Option Addr) (n c : Nat) (l : List Ev) (t : ByteArray) (w : World) (hr : Rd w A (evs l)) (hn : l.length = n) (hm : n ≤ 100000) :
    Calls Try.prog 23 #[.slice A n c, .string t] w (MakesR 28 7 (caL t l).length (cals (caL t l)) w) := by
  have HN := Lib.hid hn; clear hn
  have hcf := enter_calls1
  go_enter Try.func23, Try.ntmps23
  go_wp2
  go_loopw [6, 12] (fun v i wr => ∃ k : Nat, k ≤ n ∧ i = .int .i64 k ∧ wr.ownsRow (w.heap.size + 1) 28 7 v (caL t (l.take k)).length (cals (caL t (l.take k))) ∧ Below (w.heap.size + 1) (w.alloc (.cells #[.string t] 9)) wr) (fun _ i _ => n - (intOf i).toNat)
  case atStart => exact ⟨0, Nat.zero_le _, rfl, World.ownsRow_nil _ _ _ _, Below.refl _ _⟩
  case round =>
    obtain ⟨k, hk, rfl, hown, hbel0⟩ := hrel
    have hsz0 : (w.alloc (.cells #[.string t] 9)).heap.size = w.heap.size + 1 := by simp
    have hsz1 : w.heap.size + 1 ≤ wr.heap.size := by have := hbel0.size; omega
    have hbel : Below w.heap.size w wr := below_alloc (by rw [hsz0]; exact hbel0)
    have hct : wr.cell? ⟨w.heap.size, 0, none⟩ = some (.string t) := (hbel0.cell (by simp)).trans (by simp)
    clear hsz0
    by_cases hlt : k < n
    · have hx : k < l.length := by have := HN.out; omega
      obtain ⟨b, off, rfl, hrg⟩ := row_ev.at_ (hr.below hbel) k hx
      have hle : (caL t (l.take k)).length ≤ k := Nat.le_trans (caL_le _ _) (by simp; omega)
      have hs1 := caL_snoc t (l.take k) l[k]
      rw [← List.take_succ_eq_append_getElem hx] at hs1
      have hcells := evCells l[k]
      have hone := Lib.hid (row_ev.one l[k])
      have hlen := Lib.hid (row_ev.size l[k])
      have hone2 := Lib.hid (row_cal.one l[k].call)
      have hlen2 := Lib.hid (row_cal.size l[k].call)
      generalize he : l[k] = e at hrg hs1 hcells hone hlen hone2 hlen2
      have hcall := calls1_any e.arr e.kind e.lane t w.heap.size (wr.alloc (.cells e.arr 34)) hcells.c0 hcells.c3 (cell_below ((Below.refl _ _).alloc (Nat.le_refl _) _) hct)
      have hrc := call_range (range_new wr e.arr 34)
      generalize hq : e.arr = q at hrg hcall hone hlen hrc
      generalize hq2 : e.call.arr = q2 at hone2 hlen2 hrc
      have HI := Lib.hid (info_ev hq); have HQ := Lib.hid hq; have HI2 := Lib.hid (info_cal hq2); have HQ2 := Lib.hid hq2
      have HZ : Hid (22 = q.size) := Lib.hid hlen.out.symm
      have HS := Lib.hid hs1; have HO := Lib.hid hown; have HR := Lib.hid hrg; have HC := Lib.hid hcall; have HRC := Lib.hid hrc; clear hs1 hown he hrg hcall hcells hq hq2 hct hrc
      generalize hL : caL t (l.take k) = cur at HO HS hle
      clear hL
      go_wp2_with (first | (refine wpList_load_arr (by rfl) _ (by rfl) b (off + k * 22) (by rfl) q HR.out row_ev.d HI.out ?_) | (refine wpList_store_new (by rfl) _ _ (by rfl) wr _ _ (by rfl) q (by rfl) (by rfl) (by exact HZ.out) HI.out hone.out ?_) | (refine wpList_load_arr (by rfl) _ (by rfl) wr.heap.size 0 (by rfl) q (range_new _ _ _) row_ev.d HI.out ?_))
      refine HC.out.mono ?_
      rintro _ w1 ⟨rfl, hb1⟩
      have HR1 := Lib.hid (rangeAt_below HRC.out hb1); have HO1 := Lib.hid (own_below HO.out (below_alloc hb1))
      have hbel1 := hbel0.trans ((below_alloc hb1).mono hsz1)
      have hsz2 := hbel1.size
      simp only [World.size_alloc] at hsz2
      clear hbel hbel0 hb1 HC HR HO HRC
      generalize hp : ownB e.kind e.lane t = p at HS
      clear hp
      cases p
      · go_wp2
        go_roundw
        case rel => exact ⟨k + 1, by omega, by go_num, by rw [HS.out]; simpa using HO1.out, hbel1⟩
        case measure => simp [intOf]; omega
      · have hfold := fold_zip #[.int .i64 0, .string ⟨#[]⟩, .string ⟨#[]⟩, .string ⟨#[]⟩, .string ⟨#[]⟩, .slice none 0 0, .int .i64 0] q2 (by rw [hlen2.out]; rfl)
        rw [hlen2.out] at hfold
        have hq22 := hlen2.out
        go_wp2_with (first | (refine wpList_load_arr (by rfl) _ (by rfl) wr.heap.size 5 (by rfl) q2 (by simpa using HR1.out) row_cal.d HI2.out ?_) | (at_builtin; refine wpList_app el_cal rfl (.tmp 19) (.tmp 22) rfl (w.heap.size + 1) _ _ _ rfl (HO1.out.alloc _) (some ⟨w1.heap.size, 0, none⟩) 1 1 q2.toList rfl (by simp [hlen2.out]) (Rd.new w1 q2 _) hone2.out (by unfold maxLen; omega) (by omega) (by simp; omega) ?_; intro v1 w2 hown1 hbel2 _ _))
        go_roundw
        case rel => exact ⟨k + 1, by omega, by go_num, by rw [HS.out]; simpa [HQ2.out] using hown1, (hbel1.alloc (by omega) _).trans hbel2⟩
        case measure => simp [intOf]; omega
    · obtain rfl : k = n := by omega
      clear hct
      go_wp2
      go_ret
      rw [List.take_of_length_le (by rw [HN.out]; omega)] at hown
      exact ⟨_, rfl, own_mono hown (by omega), hbel⟩
set_option maxRecDepth 100000 in
set_option maxHeartbeats 2000000 in
theorem rcalls_any (A : Option Addr) (n c : Nat) (l : List Ev) (t : ByteArray) (w : World) (hr : Rd w A (evs l)) (hn : l.length = n) (hm : n ≤ 100000) :
    Calls Try.prog 24 #[.slice A n c, .string t] w (MakesR 28 7 (caL t l).length (cals (caL t l)) w) := by
  have HN := Lib.hid hn; clear hn
  go_enter Try.func24, Try.ntmps24
  go_wp2
  go_loopw [5, 6] (fun v i wr => ∃ k : Nat, k ≤ n ∧ i = .int .i64 k ∧ wr.ownsRow w.heap.size 28 7 v (caL t (l.take k)).length (cals (caL t (l.take k))) ∧ Below w.heap.size w wr) (fun _ i _ => n - (intOf i).toNat)
  case atStart => exact ⟨0, Nat.zero_le _, rfl, World.ownsRow_nil _ _ _ _, Below.refl _ _⟩
  case round =>
    obtain ⟨k, hk, rfl, hown, hbel⟩ := hrel
    by_cases hlt : k < n
    · have hx : k < l.length := by have := HN.out; omega
      obtain ⟨b, off, rfl, hrg⟩ := row_ev.at_ (hr.below hbel) k hx
      have hle : (caL t (l.take k)).length ≤ k := Nat.le_trans (caL_le _ _) (by simp; omega)
      have hs1 := caL_snoc t (l.take k) l[k]
      rw [← List.take_succ_eq_append_getElem hx] at hs1
      have hone2 := Lib.hid (row_cal.one l[k].call)
      have hlen2 := Lib.hid (row_cal.size l[k].call)
      generalize he : l[k] = e at hrg hs1 hone2 hlen2
      have hrc := call_range hrg
      have hc0 : wr.cell? ⟨b, off + k * 22, none⟩ = some (.int .i64 e.kind) := rangeAt_cell hrg 0 rfl
      have hc3 : wr.cell? ⟨b, off + k * 22 + 3, none⟩ = some (.string e.lane) := rangeAt_cell hrg 3 rfl
      generalize hq2 : e.call.arr = q2 at hone2 hlen2 hrc
      have HI2 := Lib.hid (info_cal hq2); have HQ2 := Lib.hid hq2
      have HS := Lib.hid hs1; have HO := Lib.hid hown; have HRC := Lib.hid hrc; clear hs1 hown he hrg hq2 hrc
      have hfold := fold_zip #[.int .i64 0, .string ⟨#[]⟩, .string ⟨#[]⟩, .string ⟨#[]⟩, .string ⟨#[]⟩, .slice none 0 0, .int .i64 0] q2 (by rw [hlen2.out]; rfl)
      rw [hlen2.out] at hfold
      have hq22 := hlen2.out
      generalize hL : caL t (l.take k) = cur at HO HS hle
      clear hL
      have hps : ownB e.kind e.lane t = (e.kind == 1 && e.lane.toList == t.toList) := rfl
      rw [hps] at HS
      generalize e.kind = kd at hc0 HS
      generalize e.lane = ln at hc3 HS
      have hcs : ((kd == 1) = true ∧ (ln.toList == t.toList) = true) ∨ ((kd == 1) = true ∧ (ln.toList == t.toList) = false) ∨ (kd == 1) = false := by
        cases (kd == 1) <;> cases (ln.toList == t.toList) <;> simp
      rcases hcs with ⟨h1, h2⟩ | hcs
      · have HS2 : Hid (caL t (List.take (k + 1) l) = cur ++ [e.call]) := Lib.hid (by have := HS.out; rw [h1, h2] at this; exact this)
        clear HS
        go_wp2_with (first | (refine wpList_load_arr (by rfl) _ (by rfl) b (off + k * 22 + 5) (by rfl) q2 HRC.out row_cal.d HI2.out ?_) | (at_builtin; refine wpList_app el_cal rfl (.tmp 28) (.tmp 34) rfl w.heap.size _ _ _ rfl (HO.out.alloc _) (some ⟨wr.heap.size, 0, none⟩) 1 1 q2.toList rfl (by simp [hlen2.out]) (Rd.new wr q2 _) hone2.out (by unfold maxLen; omega) (by omega) (by have := hbel.size; simp; omega) ?_; intro v1 w2 hown1 hbel2 _ _))
        go_roundw
        case rel => exact ⟨k + 1, by omega, by go_num, by rw [HS2.out]; simpa [HQ2.out] using hown1, (hbel.alloc hbel.size _).trans hbel2⟩
        case measure => simp [intOf]; omega
      · have HS2 : Hid (caL t (List.take (k + 1) l) = cur) := Lib.hid (by have := HS.out; rcases hcs with ⟨h1, h2⟩ | h1 <;> simp [*] at this <;> exact this)
        clear HS
        rcases hcs with ⟨h1, h2⟩ | h1
        all_goals
          focus go_wp2
          go_roundw
          case rel => exact ⟨k + 1, by omega, by go_num, by rw [HS2.out]; exact HO.out, hbel⟩
          case measure => simp [intOf]; omega
    · obtain rfl : k = n := by omega
      go_wp2
      go_ret
      rw [List.take_of_length_le (by rw [HN.out]; omega)] at hown
      exact ⟨_, rfl, hown, hbel⟩
end Go.Proofs.Ytebfmacbdjnhbaa
