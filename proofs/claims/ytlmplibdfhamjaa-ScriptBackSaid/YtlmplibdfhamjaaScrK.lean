/- 'Few' of members, calls, administrators' deeds, events, of a cluster and events: where it says yes, all is small. -/
import Derived.Test.YtlmplibdfhamjaaScrZ
import Derived.Test.YtlmplibdfhamjaaFewC
import Derived.Test.YtlmplibdfhamjaaFewE
attribute [local go_sem ↓] Go.wp_at_zero Go.wp_at_succ
namespace Go.Proofs.Ytlmplibdfhamjaa
open Go.RowKit Go.Mem Go.Num
set_option linter.unusedVariables false
set_option linter.unusedSimpArgs false

def FewP (P : Prop) (w : World) (e : Ending) (w' : World) : Prop := ∃ b : Bool, (b = true → P) ∧ e = .returned (.bool b) ∧ Below w.heap.size w w'
def smallM (m : Memb) : Prop := m.name.size ≤ 100 ∧ m.rack.size ≤ 100 ∧ m.zone.size ≤ 100
def smallC (c : Cal) : Prop := c.token.size ≤ 300 ∧ c.bucket.size ≤ 100 ∧ c.key.size ≤ 100 ∧ c.value.size ≤ 300 ∧ fewCx c.ctx
def smallA (x : Adm) : Prop := x.tenant.size ≤ 100 ∧ x.bucket.size ≤ 100 ∧ x.field.size ≤ 100 ∧ x.text.size ≤ 300 ∧ smallM x.member
def smallV (e : Ev) : Prop := e.node.size ≤ 100 ∧ e.to.size ≤ 100 ∧ e.lane.size ≤ 100 ∧ smallC e.call ∧ smallA e.adm
set_option maxRecDepth 100000 in
set_option maxHeartbeats 2000000 in
theorem few13B_any (A : Option Addr) (n c : Nat) (l : List Memb) (q : Nat) (w : World) (hr : Rd w A (l.flatMap fun m : Memb => m.arr.toList)) (hn : l.length = n) (hm : n ≤ maxLen) (hq0 : q ≤ 1000) :
    Calls Try.prog 61 #[.slice A n c, .int .i64 q] w (FewP (n ≤ q ∧ ∀ m ∈ l, smallM m) w) := by
  have HN := Lib.hid hn; clear hn
  unfold maxLen at hm
  go_enter Try.func61, Try.ntmps61
  go_wp2
  go_loopw [5] (fun i wr => ∃ k : Nat, k ≤ n ∧ i = .int .i64 k ∧ Below w.heap.size w wr ∧ Hid (∀ s ∈ l.take k, smallM s)) (fun i _ => n - (intOf i).toNat)
  case atStart => exact ⟨0, Nat.zero_le _, rfl, Below.refl _ _, Lib.hid (by simp)⟩
  case round =>
    obtain ⟨k, hk, rfl, hbel, HA⟩ := hrel
    by_cases hend : k < n ∧ k < q
    · obtain ⟨hlt, hlq⟩ := hend
      have hx : k < l.length := by have := HN.out; omega
      obtain ⟨b, off, rfl, hrg⟩ := row_memb.at_ (hr.below hbel) k hx
      have HT := Lib.hid (fun s => mem_take_succC l k hx s)
      generalize l[k] = s at hrg HT
      obtain ⟨nm, rk, zn, up⟩ := s
      have c0 : wr.cell? ⟨b, off + k * 4, none⟩ = some (.string nm) := rangeAt_cell hrg 0 rfl
      have c1 : wr.cell? ⟨b, off + k * 4 + 1, none⟩ = some (.string rk) := rangeAt_cell hrg 1 rfl
      have c2 : wr.cell? ⟨b, off + k * 4 + 2, none⟩ = some (.string zn) := rangeAt_cell hrg 2 rfl
      clear hrg
      by_cases g1 : 100 < nm.size
      · go_wp2
        go_ret
        exact ⟨false, by simp, rfl, hbel⟩
      by_cases g2 : 100 < rk.size
      · go_wp2
        go_ret
        exact ⟨false, by simp, rfl, hbel⟩
      by_cases g3 : 100 < zn.size
      · go_wp2
        go_ret
        exact ⟨false, by simp, rfl, hbel⟩
      go_wp2
      go_roundw
      case rel => exact ⟨k + 1, by omega, by go_num, hbel, Lib.hid fun s hs => by
        rcases (HT.out s).1 hs with h | rfl
        · exact HA.out s h
        · exact ⟨by simp only; omega, by simp only; omega, by simp only; omega⟩⟩
      case measure => simp [intOf]; omega
    · have HE : Hid (k = n ∨ q ≤ k) := Lib.hid (by omega)
      have HL : Hid ((n : Int) ≤ (q : Int) → n ≤ q ∧ ∀ m ∈ l, smallM m) := Lib.hid fun h => ⟨by omega, by
        have hkn : k = n := by rcases HE.out with h1 | h1 <;> omega
        have := HA.out
        rwa [List.take_of_length_le (by rw [HN.out]; omega)] at this⟩
      by_cases hlt : k < n
      · have hq : ¬ k < q := fun h => hend ⟨hlt, h⟩
        clear hend
        go_wp2
        all_goals (go_ret; exact ⟨_, fun h => HL.out (by simpa using h), rfl, hbel⟩)
      · obtain rfl : k = n := by omega
        clear hend
        go_wp2
        all_goals (go_ret; exact ⟨_, fun h => HL.out (by simpa using h), rfl, hbel⟩)
set_option maxRecDepth 100000 in
set_option maxHeartbeats 2000000 in
theorem few40B_any (x : Cal) (w : World) (hok : x.ok w) : Calls Try.prog 105 #[.agg x.arr] w (FewP (smallC x) w) := by
  have HC := Lib.hid (fun (W : World) (hW : Below w.heap.size w W) => few06_any x.ctx W (Cal.ok.below hok hW).2.2.2.2.2.1)
  clear hok
  obtain ⟨kd, tk, bu, ke, va, cx, ti⟩ := x
  simp only [Cal.arr] at *
  generalize cx.v = cv at HC
  by_cases g1 : ¬ tk.size ≤ 300
  · go_enter Try.func105, Try.ntmps105
    go_wp2
    go_ret
    exact ⟨false, by simp, rfl, (Below.refl _ _).alloc (Nat.le_refl _) _⟩
  have g1 : tk.size ≤ 300 := Decidable.not_not.1 g1
  by_cases g2 : ¬ bu.size ≤ 100
  · go_enter Try.func105, Try.ntmps105
    go_wp2
    go_ret
    exact ⟨false, by simp, rfl, (Below.refl _ _).alloc (Nat.le_refl _) _⟩
  have g2 : bu.size ≤ 100 := Decidable.not_not.1 g2
  by_cases g3 : ¬ ke.size ≤ 100
  · go_enter Try.func105, Try.ntmps105
    go_wp2
    go_ret
    exact ⟨false, by simp, rfl, (Below.refl _ _).alloc (Nat.le_refl _) _⟩
  have g3 : ke.size ≤ 100 := Decidable.not_not.1 g3
  by_cases g4 : ¬ va.size ≤ 300
  · go_enter Try.func105, Try.ntmps105
    go_wp2
    go_ret
    exact ⟨false, by simp, rfl, (Below.refl _ _).alloc (Nat.le_refl _) _⟩
  have g4 : va.size ≤ 300 := Decidable.not_not.1 g4
  go_enter Try.func105, Try.ntmps105
  go_wp2_with fail
  refine (HC.out _ ((Below.refl _ _).alloc (Nat.le_refl _) _)).mono ?_
  rintro e w1 ⟨b, hb, rfl, hb1⟩
  have HBB := Lib.hid hb; clear hb
  go_wp2
  go_ret
  exact ⟨b, fun h => ⟨g1, g2, g3, g4, HBB.out h⟩, rfl, below_alloc hb1⟩
theorem rdNew_at (w : World) (cs : Array Value) (e : TypeId) (g : Nat) (hg : g = w.heap.size) : Rd (w.alloc (.cells cs e)) (some ⟨g, 0, none⟩) cs.toList := by subst hg; exact Rd.new w cs e
set_option maxRecDepth 100000 in
set_option maxHeartbeats 2000000 in
theorem few41B_any (x : Adm) (w : World) (hok : x.ok w) : Calls Try.prog 106 #[.agg x.arr] w (FewP (smallA x) w) := by
  obtain ⟨kd, te, bu, fi, tx, an, ⟨mn, mr, mz, up⟩⟩ := x
  simp only [Adm.arr] at *
  clear hok
  by_cases g1 : ¬ te.size ≤ 100
  · go_enter Try.func106, Try.ntmps106
    go_wp2
    go_ret
    exact ⟨false, by simp, rfl, (Below.refl _ _).alloc (Nat.le_refl _) _⟩
  have g1 : te.size ≤ 100 := Decidable.not_not.1 g1
  by_cases g2 : ¬ bu.size ≤ 100
  · go_enter Try.func106, Try.ntmps106
    go_wp2
    go_ret
    exact ⟨false, by simp, rfl, (Below.refl _ _).alloc (Nat.le_refl _) _⟩
  have g2 : bu.size ≤ 100 := Decidable.not_not.1 g2
  by_cases g3 : ¬ fi.size ≤ 100
  · go_enter Try.func106, Try.ntmps106
    go_wp2
    go_ret
    exact ⟨false, by simp, rfl, (Below.refl _ _).alloc (Nat.le_refl _) _⟩
  have g3 : fi.size ≤ 100 := Decidable.not_not.1 g3
  by_cases g4 : ¬ tx.size ≤ 300
  · go_enter Try.func106, Try.ntmps106
    go_wp2
    go_ret
    exact ⟨false, by simp, rfl, (Below.refl _ _).alloc (Nat.le_refl _) _⟩
  have g4 : tx.size ≤ 300 := Decidable.not_not.1 g4
  go_enter Try.func106, Try.ntmps106
  go_wp2_with fail
  refine (few13B_any _ 1 1 [⟨mn, mr, mz, up⟩] 1 _ (by exact rdNew_at _ #[.string mn, .string mr, .string mz, .bool up] _ _ (by simp)) rfl (by decide) (by decide)).mono ?_
  rintro e w1 ⟨b, hb, rfl, hb1⟩
  have HBB := Lib.hid hb; clear hb
  go_wp2
  go_ret
  exact ⟨b, fun h => ⟨g1, g2, g3, g4, (HBB.out h).2 _ (by simp)⟩, rfl, below_alloc (below_alloc hb1)⟩
theorem call_range {w : World} {b o : Nat} {e : Ev} (h : w.rangeAt b o e.arr.toList) : w.rangeAt b (o + 5) e.call.arr.toList :=
  rangeAt_mid (pre := [.int .i64 e.kind, .string e.node, .string e.to, .string e.lane, .int .i64 e.n]) (cs := e.call.arr.toList) (post := e.adm.arr.toList) h
theorem adm_range {w : World} {b o : Nat} {e : Ev} (h : w.rangeAt b o e.arr.toList) : w.rangeAt b (o + 12) e.adm.arr.toList := by
  have h2 := rangeAt_mid (pre := [.int .i64 e.kind, .string e.node, .string e.to, .string e.lane, .int .i64 e.n] ++ e.call.arr.toList) (cs := e.adm.arr.toList) (post := []) (b := b) (o := o) (w := w) (by rw [List.append_nil]; exact h)
  exact h2
theorem info_cal' {q : Array Value} {e : Cal} (h : e.arr = q) : (Try.prog.info? 85).map (·.size) = some q.size := by subst h; exact row_cal.hi
theorem info_adm' {q : Array Value} {e : Adm} (h : e.arr = q) : (Try.prog.info? 87).map (·.size) = some q.size := by subst h; exact row_adm.hi
set_option maxRecDepth 100000 in
set_option maxHeartbeats 2000000 in
theorem few43B_any (x : Evs) (q : Nat) (w : World) (hok : x.ok w) (hq0 : q ≤ 1000) : Calls Try.prog 62 #[x.v, .int .i64 q] w (FewP (x.n ≤ q ∧ ∀ m ∈ x.l, smallV m) w) := by
  obtain ⟨A, n, c, l⟩ := x
  have HOK := Lib.hid hok
  obtain ⟨hr, hn, hm, hall⟩ := hok
  simp only at hr hn hm hall
  have HN := Lib.hid hn; clear hn hall
  unfold maxLen at hm
  unfold Evs.v
  simp only
  go_enter Try.func62, Try.ntmps62
  go_wp2
  go_loopw [5] (fun i wr => ∃ k : Nat, k ≤ n ∧ i = .int .i64 k ∧ Below w.heap.size w wr ∧ Hid (∀ s ∈ l.take k, smallV s)) (fun i _ => n - (intOf i).toNat)
  case atStart => exact ⟨0, Nat.zero_le _, rfl, Below.refl _ _, Lib.hid (by simp)⟩
  case round =>
    obtain ⟨k, hk, rfl, hbel, HA⟩ := hrel
    by_cases hend : k < n ∧ k < q
    · obtain ⟨hlt, hlq⟩ := hend
      have hx : k < l.length := by have := HN.out; omega
      obtain ⟨b, off, rfl, hrg⟩ := row_ev.at_ (hr.below hbel) k hx
      have hs := (HOK.out.all l[k] (List.getElem_mem hx)).below hbel
      have HT := Lib.hid (fun s => mem_take_succC l k hx s)
      generalize l[k] = s at hrg hs HT
      have hc1 : wr.cell? ⟨b, off + k * 22 + 1, none⟩ = some (.string s.node) := rangeAt_cell hrg 1 rfl
      have hc2 : wr.cell? ⟨b, off + k * 22 + 2, none⟩ = some (.string s.to) := rangeAt_cell hrg 2 rfl
      have hc3 : wr.cell? ⟨b, off + k * 22 + 3, none⟩ = some (.string s.lane) := rangeAt_cell hrg 3 rfl
      have hrc := call_range hrg
      have hra := adm_range hrg
      have hC := few40B_any s.call wr hs.2.2.2.2.2.1
      have hA := fun W (hW : Below wr.heap.size wr W) => few41B_any s.adm W (Adm.ok.below hs.2.2.2.2.2.2 hW)
      have HSV : Hid (s.node.size ≤ 100 → s.to.size ≤ 100 → s.lane.size ≤ 100 → smallC s.call → smallA s.adm → smallV s) := Lib.hid fun h1 h2 h3 h4 h5 => ⟨h1, h2, h3, h4, h5⟩
      generalize hq1 : s.call.arr = q1 at hrc hC
      generalize hq2 : s.adm.arr = q2 at hra hA
      have HI1 := Lib.hid (info_cal' hq1); have HI2 := Lib.hid (info_adm' hq2)
      have HRC := Lib.hid hrc; have HRA := Lib.hid hra; have HC := Lib.hid hC; have HAD := Lib.hid hA
      clear hrg hrc hra hC hA hq1 hq2 hs
      generalize smallC s.call = PC at HC HSV
      generalize smallA s.adm = PA at HAD HSV
      generalize s.node = nd at hc1 HSV
      generalize s.to = too at hc2 HSV
      generalize s.lane = ln at hc3 HSV
      by_cases g1 : (100 : Int) < (nd.size : Int)
      · have d1 : decide ((100 : Int) < (nd.size : Int)) = true := by simpa using g1
        clear g1
        go_wp2
        go_ret
        exact ⟨false, by simp, rfl, hbel⟩
      have d1 : decide ((100 : Int) < (nd.size : Int)) = false := by simpa using g1
      have G1 : Hid (nd.size ≤ 100) := Lib.hid (by omega)
      clear g1
      by_cases g2 : (100 : Int) < (too.size : Int)
      · have d2 : decide ((100 : Int) < (too.size : Int)) = true := by simpa using g2
        clear g2
        go_wp2
        go_ret
        exact ⟨false, by simp, rfl, hbel⟩
      have d2 : decide ((100 : Int) < (too.size : Int)) = false := by simpa using g2
      have G2 : Hid (too.size ≤ 100) := Lib.hid (by omega)
      clear g2
      by_cases g3 : (100 : Int) < (ln.size : Int)
      · have d3 : decide ((100 : Int) < (ln.size : Int)) = true := by simpa using g3
        clear g3
        go_wp2
        go_ret
        exact ⟨false, by simp, rfl, hbel⟩
      have d3 : decide ((100 : Int) < (ln.size : Int)) = false := by simpa using g3
      have G3 : Hid (ln.size ≤ 100) := Lib.hid (by omega)
      clear g3
      go_wp2_with (refine wpList_load_g (by rfl) _ (by rfl) b (off + k * 22 + 5) (by rfl) q1 HRC.out row_cal.d HI1.out ?_)
      refine HC.out.mono ?_
      rintro e w1 ⟨b1, hp1, rfl, hb1⟩
      have HP1 := Lib.hid hp1; clear hp1
      have hbel1 := then_ hbel hb1
      have HRA1 := Lib.hid (rangeAt_below HRA.out hb1)
      have HAD1 := Lib.hid (HAD.out w1 hb1)
      clear hbel
      cases b1
      · go_wp2
        go_ret
        exact ⟨false, by simp, rfl, hbel1⟩
      go_wp2_with (refine wpList_load_g (by rfl) _ (by rfl) b (off + k * 22 + 12) (by rfl) q2 HRA1.out row_adm.d HI2.out ?_)
      refine HAD1.out.mono ?_
      rintro e w2 ⟨b2, hp2, rfl, hb2⟩
      have HP2 := Lib.hid hp2; clear hp2
      cases b2
      · go_wp2
        go_ret
        exact ⟨false, by simp, rfl, then_ hbel1 hb2⟩
      · go_wp2
        go_roundw
        case rel => exact ⟨k + 1, by omega, by go_num, then_ hbel1 hb2, Lib.hid fun s' hs' => by
          rcases (HT.out s').1 hs' with h | rfl
          · exact HA.out s' h
          · exact HSV.out G1.out G2.out G3.out (HP1.out trivial) (HP2.out trivial)⟩
        case measure => simp [intOf]; omega
    · have HE : Hid (k = n ∨ q ≤ k) := Lib.hid (by omega)
      have HL : Hid ((n : Int) ≤ (q : Int) → n ≤ q ∧ ∀ m ∈ l, smallV m) := Lib.hid fun h => ⟨by omega, by
        have hkn : k = n := by rcases HE.out with h1 | h1 <;> omega
        have := HA.out
        rwa [List.take_of_length_le (by rw [HN.out]; omega)] at this⟩
      by_cases hlt : k < n
      · have hq : ¬ k < q := fun h => hend ⟨hlt, h⟩
        clear hend
        go_wp2
        all_goals (go_ret; exact ⟨_, fun h => HL.out (by simpa using h), rfl, hbel⟩)
      · obtain rfl : k = n := by omega
        clear hend
        go_wp2
        all_goals (go_ret; exact ⟨_, fun h => HL.out (by simpa using h), rfl, hbel⟩)
/-- all is small -/
def fewS (m : Mems) (e : Ents) (x : Evs) : Prop := (m.n ≤ 10 ∧ ∀ y ∈ m.l, smallM y) ∧ (e.l.length ≤ 20 ∧ ∀ y ∈ e.l, small y) ∧ (x.n ≤ 20 ∧ ∀ y ∈ x.l, smallV y)
set_option maxRecDepth 100000 in
set_option maxHeartbeats 2000000 in
theorem few47_any (m : Mems) (e : Ents) (x : Evs) (w : World) (hm : m.ok w) (he : e.ok w) (hx : x.ok w) : Calls Try.prog 17 #[.agg (setup m e), x.v] w (FewP (fewS m e x) w) := by
  have H1 := Lib.hid (fun (W : World) (hW : Below w.heap.size w W) => few13B_any m.A m.n m.c m.l 10 W (hm.rd.below hW) hm.len hm.le (by decide))
  have H2 := Lib.hid (fun (W : World) (hW : Below w.heap.size w W) => few10_any e.A e.n e.c e.l 20 W (he.rd.below hW) he.len he.le (fun y hy => (he.all y hy).below hW))
  have H3 := Lib.hid (fun (W : World) (hW : Below w.heap.size w W) => few43B_any x 20 W (hx.below hW) (by decide))
  have HF : Hid ((m.n ≤ 10 ∧ ∀ y ∈ m.l, smallM y) → ((e.l.length : Int) ≤ 20 ∧ ∀ y ∈ e.l, small y) → (x.n ≤ 20 ∧ ∀ y ∈ x.l, smallV y) → fewS m e x) := Lib.hid fun a b c => ⟨a, ⟨by omega, b.2⟩, c⟩
  generalize fewS m e x = P at HF ⊢
  obtain ⟨mA, mn, mc, ms⟩ := m
  obtain ⟨eA, en, ec, es⟩ := e
  obtain ⟨xA, xn, xc, xs⟩ := x
  clear hm he hx
  simp only [setup, Evs.v] at *
  generalize (mn ≤ 10 ∧ ∀ y ∈ ms, smallM y) = P1 at H1 HF
  generalize (xn ≤ 20 ∧ ∀ y ∈ xs, smallV y) = P3 at H3 HF
  have hb := (Below.refl w.heap.size w).alloc (Nat.le_refl _) (.cells #[.slice mA mn mc, .slice eA en ec] 26)
  have q0 := SBox.new w 26 #[.slice mA mn mc, .slice eA en ec]
  have HB := Lib.hid hb; have Q0 := Lib.hid q0; clear hb q0
  have a0 := Q0.out.cell 0 rfl
  go_enter Try.func17, Try.ntmps17
  go_wp2_with fail
  generalize w.alloc (.cells #[.slice mA mn mc, .slice eA en ec] 26) = W0 at *
  refine (H1.out _ HB.out).mono ?_
  clear a0
  rintro e w1 ⟨b1, hp1, rfl, hb1⟩
  have HB := Lib.hid (then_ HB.out hb1); have Q0 := Lib.hid ((hb1.block _ (Array.getElem?_eq_some_iff.1 Q0.out).1).trans Q0.out)
  have HP1 := Lib.hid hp1
  clear hb1 hp1
  cases b1
  · go_wp2
    go_ret
    exact ⟨false, by simp, rfl, HB.out⟩
  have a0 : w1.cell? ⟨w.heap.size, 1, none⟩ = some (.slice eA en ec) := cell_of_row _ _ _ _ _ _ Q0.out
  go_wp2_with fail
  refine (H2.out _ HB.out).mono ?_
  clear a0
  rintro e w2 ⟨b2, hp2, rfl, hb2⟩
  have HB := Lib.hid (then_ HB.out hb2)
  have HP2 := Lib.hid hp2
  clear hb2 hp2
  cases b2
  · go_wp2
    go_ret
    exact ⟨false, by simp, rfl, HB.out⟩
  go_wp2_with fail
  refine (H3.out _ HB.out).mono ?_
  rintro e w3 ⟨b3, hp3, rfl, hb3⟩
  have HP3 := Lib.hid hp3; clear hp3
  go_wp2
  go_ret
  exact ⟨b3, fun h => HF.out (HP1.out trivial) (HP2.out trivial) (HP3.out h), rfl, then_ HB.out hb3⟩
end Go.Proofs.Ytlmplibdfhamjaa
