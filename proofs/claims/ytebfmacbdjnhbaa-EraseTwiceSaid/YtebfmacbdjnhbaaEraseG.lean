/- 'Few' of contexts, calls, members, administrators' deeds and events: each answers; where it says yes there are few. -/
import Derived.Test.YtebfmacbdjnhbaaEraseD
namespace Go.Proofs.Ytebfmacbdjnhbaa
open Go.RowKit Go.Mem
set_option linter.unusedVariables false

theorem rdNew_at (w : World) (cs : Array Value) (e : TypeId) (g : Nat) (hg : g = w.heap.size) : Rd (w.alloc (.cells cs e)) (some ⟨g, 0, none⟩) cs.toList := by subst hg; exact Rd.new w cs e
def AnyB (w : World) (e : Ending) (w' : World) : Prop := ∃ b : Bool, e = .returned (.bool b) ∧ Below w.heap.size w w'
set_option maxRecDepth 100000 in
set_option maxHeartbeats 1000000 in
theorem few06_any (x : Ctx) (w : World) (hok : x.ok w) : Calls Try.prog 99 #[x.v] w (AnyB w) := by
  obtain ⟨A, n, c, l⟩ := x
  obtain ⟨hr, hn, hm, hall⟩ := hok
  simp only at hr hn hm hall
  have HN := Lib.hid hn; have HALL := Lib.hid hall; clear hn hall
  unfold maxLen at hm
  unfold Ctx.v
  simp only
  go_enter Try.func99, Try.ntmps99
  go_wp2
  go_loop [3] (fun i => ∃ k : Nat, k ≤ n ∧ i = .int .i64 k) (fun i => n - (intOf i).toNat)
  case atStart => exact ⟨0, Nat.zero_le _, rfl⟩
  case round =>
    obtain ⟨k, hk, rfl⟩ := hrel
    by_cases hlt : k < n
    · have hx : k < l.length := by have := HN.out; omega
      obtain ⟨b, off, rfl, hrg⟩ := row_seen.at_ hr k hx
      have hsz := (HALL.out l[k] (List.getElem_mem hx)).1
      unfold maxLen at hsz
      generalize l[k] = s at hrg hsz
      obtain ⟨nd, ba, ⟨mA, mn, mc, ml⟩⟩ := s
      have hc0 : w.cell? ⟨b, off + k * 3, none⟩ = some (.string nd) := rangeAt_cell hrg 0 rfl
      have hc2 : w.cell? ⟨b, off + k * 3 + 2, none⟩ = some (.slice mA mn mc) := rangeAt_cell hrg 2 rfl
      clear hrg
      simp only at hsz
      go_wp2
      all_goals first
        | (go_round
           case rel => exact ⟨k + 1, by omega, by go_num⟩
           case measure => simp [intOf]; omega)
        | (go_ret; exact ⟨_, rfl, Below.refl _ _⟩)
    · obtain rfl : k = n := by omega
      go_wp2
      all_goals (go_ret; exact ⟨_, rfl, Below.refl _ _⟩)

set_option maxRecDepth 100000 in
set_option maxHeartbeats 1000000 in
theorem few13_any (A : Option Addr) (n c : Nat) (l : List Memb) (q : Int) (w : World) (hr : Rd w A (l.flatMap fun m => m.arr.toList)) (hn : l.length = n) (hm : n ≤ maxLen) :
    Calls Try.prog 100 #[.slice A n c, .int .i64 q] w (AnyB w) := by
  have HN := Lib.hid hn; clear hn
  unfold maxLen at hm
  go_enter Try.func100, Try.ntmps100
  go_wp2
  go_loop [5] (fun i => ∃ k : Nat, k ≤ n ∧ i = .int .i64 k) (fun i => n - (intOf i).toNat)
  case atStart => exact ⟨0, Nat.zero_le _, rfl⟩
  case round =>
    obtain ⟨k, hk, rfl⟩ := hrel
    by_cases hlt : k < n
    · have hx : k < l.length := by have := HN.out; omega
      obtain ⟨b, off, rfl, hrg⟩ := row_memb.at_ hr k hx
      generalize l[k] = s at hrg
      obtain ⟨nm, ra, zo, up⟩ := s
      have hc0 : w.cell? ⟨b, off + k * 4, none⟩ = some (.string nm) := rangeAt_cell hrg 0 rfl
      have hc1 : w.cell? ⟨b, off + k * 4 + 1, none⟩ = some (.string ra) := rangeAt_cell hrg 1 rfl
      have hc2 : w.cell? ⟨b, off + k * 4 + 2, none⟩ = some (.string zo) := rangeAt_cell hrg 2 rfl
      clear hrg
      go_wp2
      all_goals first
        | (go_round
           case rel => exact ⟨k + 1, by omega, by go_num⟩
           case measure => simp [intOf]; omega)
        | (go_ret; exact ⟨_, rfl, Below.refl _ _⟩)
    · obtain rfl : k = n := by omega
      go_wp2
      all_goals (go_ret; exact ⟨_, rfl, Below.refl _ _⟩)

set_option maxRecDepth 100000 in
set_option maxHeartbeats 1000000 in
theorem few40_any (x : Cal) (w : World) (hok : x.ok w) : Calls Try.prog 68 #[.agg x.arr] w (AnyB w) := by
  have hc := fun W hW => few06_any x.ctx W (Cal.ok.below hok hW).2.2.2.2.2.1
  have HC := Lib.hid hc; clear hc hok
  obtain ⟨kd, tk, bu, ke, va, cx, ti⟩ := x
  simp only [Cal.arr] at HC ⊢
  generalize cx.v = cv at HC
  go_enter Try.func68, Try.ntmps68
  go_wp2_with ((go_at_call 99; refine (HC.out _ ((Below.refl _ _).alloc (Nat.le_refl _) _)).mono ?_; rintro e w1 ⟨b, rfl, hb1⟩))
  all_goals (go_ret; first | exact ⟨_, rfl, below_alloc hb1⟩ | exact ⟨_, rfl, (Below.refl _ _).alloc (Nat.le_refl _) _⟩)

set_option maxRecDepth 100000 in
set_option maxHeartbeats 1000000 in
theorem few41_any (x : Adm) (w : World) : Calls Try.prog 69 #[.agg x.arr] w (AnyB w) := by
  obtain ⟨kd, te, bu, fi, tx, an, ⟨mn, mr, mz, up⟩⟩ := x
  simp only [Adm.arr]
  go_enter Try.func69, Try.ntmps69
  go_wp2_with ((go_at_call 100; refine (few13_any _ 1 1 [⟨mn, mr, mz, up⟩] 1 _ (by exact rdNew_at _ #[.string mn, .string mr, .string mz, .bool up] _ _ (by simp)) rfl (by decide)).mono ?_; rintro e w1 ⟨b, rfl, hb1⟩))
  all_goals (go_ret; first | exact ⟨_, rfl, below_alloc (below_alloc hb1)⟩ | exact ⟨_, rfl, (Below.refl _ _).alloc (Nat.le_refl _) _⟩)

def FewB (n : Nat) (q : Int) (w : World) (e : Ending) (w' : World) : Prop := ∃ b : Bool, (b = true → (n : Int) ≤ q) ∧ e = .returned (.bool b) ∧ Below w.heap.size w w'
theorem info_adm {q : Array Value} {e : Adm} (h : e.arr = q) : (Try.prog.info? 32).map (·.size) = some q.size := by subst h; exact row_adm.hi
set_option maxRecDepth 100000 in
set_option maxHeartbeats 2000000 in
theorem few43_any (x : Evs) (q : Int) (w : World) (hok : x.ok w) : Calls Try.prog 15 #[x.v, .int .i64 q] w (FewB x.n q w) := by
  obtain ⟨A, n, c, l⟩ := x
  have HOK := Lib.hid hok
  obtain ⟨hr, hn, hm, hall⟩ := hok
  simp only at hr hn hm hall
  have HN := Lib.hid hn; clear hn hall
  unfold maxLen at hm
  unfold Evs.v
  simp only
  go_enter Try.func15, Try.ntmps15
  go_wp2
  go_loopw [5] (fun i wr => ∃ k : Nat, k ≤ n ∧ i = .int .i64 k ∧ Below w.heap.size w wr) (fun i _ => n - (intOf i).toNat)
  case atStart => exact ⟨0, Nat.zero_le _, rfl, Below.refl _ _⟩
  case round =>
    obtain ⟨k, hk, rfl, hbel⟩ := hrel
    by_cases hend : k < n ∧ (k : Int) < q
    · obtain ⟨hlt, hlq⟩ := hend
      have hx : k < l.length := by have := HN.out; omega
      obtain ⟨b, off, rfl, hrg⟩ := row_ev.at_ (hr.below hbel) k hx
      have hs := (HOK.out.all l[k] (List.getElem_mem hx)).below hbel
      generalize l[k] = s at hrg hs
      have hc1 : wr.cell? ⟨b, off + k * 22 + 1, none⟩ = some (.string s.node) := rangeAt_cell hrg 1 rfl
      have hc2 : wr.cell? ⟨b, off + k * 22 + 2, none⟩ = some (.string s.to) := rangeAt_cell hrg 2 rfl
      have hc3 : wr.cell? ⟨b, off + k * 22 + 3, none⟩ = some (.string s.lane) := rangeAt_cell hrg 3 rfl
      have hrc := call_range hrg
      have hra := adm_range hrg
      have hC := few40_any s.call wr hs.2.2.2.2.2.1
      have hA := fun W => few41_any s.adm W
      generalize hq1 : s.call.arr = q1 at hrc hC
      generalize hq2 : s.adm.arr = q2 at hra hA
      have HI1 := Lib.hid (info_cal hq1); have HI2 := Lib.hid (info_adm hq2)
      have HRC := Lib.hid hrc; have HRA := Lib.hid hra; have HC := Lib.hid hC; have HA := Lib.hid hA
      clear hrg hrc hra hC hA hq1 hq2 hs
      generalize s.node = nd at hc1
      generalize s.to = too at hc2
      generalize s.lane = ln at hc3
      by_cases g1 : (100 : Int) < (nd.size : Int)
      · have d1 : decide ((100 : Int) < (nd.size : Int)) = true := by simpa using g1
        clear g1
        go_wp2
        go_ret
        exact ⟨false, by simp, rfl, hbel⟩
      have d1 : decide ((100 : Int) < (nd.size : Int)) = false := by simpa using g1
      clear g1
      by_cases g2 : (100 : Int) < (too.size : Int)
      · have d2 : decide ((100 : Int) < (too.size : Int)) = true := by simpa using g2
        clear g2
        go_wp2
        go_ret
        exact ⟨false, by simp, rfl, hbel⟩
      have d2 : decide ((100 : Int) < (too.size : Int)) = false := by simpa using g2
      clear g2
      by_cases g3 : (100 : Int) < (ln.size : Int)
      · have d3 : decide ((100 : Int) < (ln.size : Int)) = true := by simpa using g3
        clear g3
        go_wp2
        go_ret
        exact ⟨false, by simp, rfl, hbel⟩
      have d3 : decide ((100 : Int) < (ln.size : Int)) = false := by simpa using g3
      clear g3
      go_wp2_with (refine wpList_load_g (by rfl) _ (by rfl) b (off + k * 22 + 5) (by rfl) q1 HRC.out row_cal.d HI1.out ?_)
      refine HC.out.mono ?_
      rintro e w1 ⟨b1, rfl, hb1⟩
      have hbel1 := then_ hbel hb1
      have HRA1 := Lib.hid (rangeAt_below HRA.out hb1)
      clear hbel
      cases b1
      · go_wp2
        go_ret
        exact ⟨false, by simp, rfl, hbel1⟩
      go_wp2_with (refine wpList_load_g (by rfl) _ (by rfl) b (off + k * 22 + 12) (by rfl) q2 HRA1.out row_adm.d HI2.out ?_)
      refine (HA.out _).mono ?_
      rintro e w2 ⟨b2, rfl, hb2⟩
      cases b2
      · go_wp2
        go_ret
        exact ⟨false, by simp, rfl, then_ hbel1 hb2⟩
      · go_wp2
        go_roundw
        case rel => exact ⟨k + 1, by omega, by go_num, then_ hbel1 hb2⟩
        case measure => simp [intOf]; omega
    · have HE : Hid (k = n ∨ q ≤ (k : Int)) := Lib.hid (by omega)
      by_cases hlt : k < n
      · have hq : ¬ (k : Int) < q := fun h => hend ⟨hlt, h⟩
        clear hend
        go_wp2
        all_goals (go_ret; exact ⟨_, fun h => by simpa using h, rfl, hbel⟩)
      · obtain rfl : k = n := by omega
        clear hend
        go_wp2
        all_goals (go_ret; exact ⟨_, fun h => by simpa using h, rfl, hbel⟩)
end Go.Proofs.Ytebfmacbdjnhbaa
