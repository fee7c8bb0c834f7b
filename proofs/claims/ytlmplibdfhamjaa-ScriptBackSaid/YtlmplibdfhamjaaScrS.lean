/- Sameness of contexts, calls and events that may lie elsewhere, by the document: what is the same is told to be. -/
import Derived.Test.YtlmplibdfhamjaaScrP
import Derived.Deep.RegionHeld3
import Derived.Deep.DrawnRows
import Derived.Deep.DeepCutAuto
import Derived.Deep.QuietTactic
import Derived.BigQuiet
attribute [local go_sem ↓] Go.wp_at_zero Go.wp_at_succ
namespace Go.Proofs.Ytlmplibdfhamjaa
open Go.RowKit Go.Mem Go.Num
set_option linter.unusedVariables false

theorem drewN_drewN (w : World) (a b : Nat) : (w.drewN a).drewN b = w.drewN (a + b) := by
  induction b with
  | zero => rfl
  | succ b ih => exact congrArg World.drew ih
/-- 'it says yes, and has drawn at most' -/
def Yes (w : World) (e : Ending) (w' : World) : Prop := e = .returned (.bool true) ∧ ∃ q, w' = w.drewN q
theorem Calls.quiet_yes {P : Program} {f : FuncId} {args : Array Value} {w : World} {n : Nat} (h : Calls P f args (w.drewN n) (Yes (w.drewN n))) : Calls P f args (w.drewN n) fun e w'' => e = .returned (.bool true) ∧ ∃ m, w'' = w.drewN m :=
  h.mono fun _ _ ⟨he, q, hq⟩ => ⟨he, n + q, by rw [hq, drewN_drewN]⟩

set_option maxRecDepth 100000 in
set_option maxHeartbeats 1000000 in
theorem sameIntsY_any (A : Option Addr) (n c : Nat) (B : Option Addr) (d : Nat) (ss : List Int) (w : World) (hr : Rd w A (ss.map (Value.int .i64))) (hr' : Rd w B (ss.map (Value.int .i64))) (hn : ss.length = n) (hm : n ≤ maxLen) :
    Calls Try.prog 157 #[.slice A n c, .slice B n d] w (Yes w) := by
  unfold maxLen at hm
  have HN := Lib.hid hn; clear hn
  go_enter Try.func157, Try.ntmps157
  go_wp2
  go_loopw [5] (fun i wr => ∃ k : Nat, k ≤ n ∧ i = .int .i64 k ∧ Hid (∃ q, wr = w.drewN q)) (fun i _ => n - (intOf i).toNat)
  case atStart => exact ⟨0, Nat.zero_le _, rfl, Lib.hid ⟨0, rfl⟩⟩
  case round =>
    obtain ⟨k, hk, rfl, HQ⟩ := hrel
    obtain ⟨q, hq⟩ := HQ.out
    by_cases hlt : k < n
    · have hx : k < ss.length := by have := HN.out; omega
      obtain ⟨b, off, rfl, hcell⟩ := (hr.drewN q).at_ k (by simp; exact hx)
      obtain ⟨b', off', rfl, hcell'⟩ := (hr'.drewN q).at_ k (by simp; exact hx)
      rw [← hq] at hcell hcell'
      have HQ2 := Lib.hid hq; clear hq
      simp only [List.getElem_map] at hcell hcell'
      have hd : decide ((k : Int) < (n : Int)) = true := by simp; omega
      have hi0 : (0 : Int) ≤ (k : Int) := by omega
      generalize ss[k] = s at hcell hcell'
      have hne : (s != s) = false := by rw [bne_eq_false_iff_eq]
      go_wp2
      go_quiet (fail)
      go_wp2
      go_roundw
      case rel => exact ⟨k + 1, by omega, by go_num, Lib.hid ⟨_, by rw [HQ2.out, drewN_drewN]⟩⟩
      case measure => simp [intOf]; omega
    · obtain rfl : k = n := by omega
      have hd : decide ((k : Int) < (k : Int)) = false := by simp
      clear hq
      go_wp2
      go_ret
      exact ⟨rfl, HQ.out⟩
theorem nums_same (a b : Nums) (w : World) (ha : a.ok w) (hb : b.ok w) (h : a.l = b.l) : Calls Try.prog 157 #[a.v, b.v] w (Yes w) := by
  obtain ⟨A, n, c, l⟩ := a
  obtain ⟨B, m, d, l'⟩ := b
  simp only at h
  subst h
  have hm : n = m := ha.len.symm.trans hb.len
  subst hm
  exact sameIntsY_any A n c B d l w ha.rd hb.rd ha.len ha.le

theorem Nums.ok.drewN {w : World} {x : Nums} (h : x.ok w) (q : Nat) : x.ok (w.drewN q) := ⟨h.rd.drewN q, h.len, h.le, h.all⟩
theorem Seen.ok.drewN {w : World} {x : Seen} (h : x.ok w) (q : Nat) : x.ok (w.drewN q) := ⟨h.1, h.2.1, h.2.2.drewN q⟩
theorem Ctx.ok.drewN {w : World} {x : Ctx} (h : x.ok w) (q : Nat) : x.ok (w.drewN q) := ⟨h.rd.drewN q, h.len, h.le, fun m hm => (h.all m hm).drewN q⟩

theorem seen_bare {x y : Seen} (h : x.bare = y.bare) : x.node = y.node ∧ x.base = y.base ∧ x.more.l = y.more.l := by
  unfold Seen.bare Nums.bare at h
  injection h with h1 h2 h3
  injection h3 with _ _ _ h4
  exact ⟨h1, h2, h4⟩
theorem bare_at {T : Type} {f : T → T} {a b : List T} (h : a.map f = b.map f) (k : Nat) (h1 : k < a.length) (h2 : k < b.length) : f a[k] = f b[k] := by
  have h3 := congrArg (fun l => l[k]?) h
  simpa [List.getElem?_eq_getElem, h1, h2] using h3
theorem bare_len {T : Type} {f : T → T} {a b : List T} (h : a.map f = b.map f) : a.length = b.length := by
  have := congrArg List.length h; simpa using this
set_option maxRecDepth 100000 in
set_option maxHeartbeats 2000000 in
theorem ctx_same2 (x y : Ctx) (w : World) (hok : x.ok w) (hok' : y.ok w) (hxy : x.bare = y.bare) : Calls Try.prog 136 #[x.v, y.v] w (Yes w) := by
  obtain ⟨A, n, c, l⟩ := x
  obtain ⟨B, m, d, l'⟩ := y
  unfold Ctx.bare at hxy
  injection hxy with _ _ _ hll
  simp only at hll
  have HLL := Lib.hid hll
  have HOK := Lib.hid hok
  have HOK' := Lib.hid hok'
  have hL := bare_len hll
  obtain ⟨hr, hn, hm, _⟩ := hok
  obtain ⟨hr', hn', _, _⟩ := hok'
  simp only at hr hn hm hr' hn'
  obtain rfl : n = m := by omega
  have HN := Lib.hid hn; have HN' := Lib.hid hn'; clear hn hn' hL hll
  unfold maxLen at hm
  unfold Ctx.v
  simp only
  go_enter Try.func136, Try.ntmps136
  go_wp2
  go_loopw [5] (fun i wr => ∃ k : Nat, k ≤ n ∧ i = .int .i64 k ∧ Hid (∃ q, wr = w.drewN q)) (fun i _ => n - (intOf i).toNat)
  case atStart => exact ⟨0, Nat.zero_le _, rfl, Lib.hid ⟨0, rfl⟩⟩
  case round =>
    obtain ⟨k, hk, rfl, HQ⟩ := hrel
    obtain ⟨q, hq⟩ := HQ.out
    by_cases hlt : k < n
    · have hx : k < l.length := by have := HN.out; omega
      have hx' : k < l'.length := by have := HN'.out; omega
      obtain ⟨b, off, rfl, hrg⟩ := row_seen.at_ (hr.drewN q) k hx
      obtain ⟨b', off', rfl, hrg'⟩ := row_seen.at_ (hr'.drewN q) k hx'
      have hs := ((HOK.out.all l[k] (List.getElem_mem hx)).drewN q).2.2
      have hs' := ((HOK'.out.all l'[k] (List.getElem_mem hx')).drewN q).2.2
      rw [← hq] at hrg hs hrg' hs'
      have HQ2 := Lib.hid hq; clear hq
      have hd : decide ((k : Int) < (n : Int)) = true := by simp; omega
      have hi0 : (0 : Int) ≤ (k : Int) := by omega
      obtain ⟨e1, e2, e3⟩ := seen_bare (bare_at HLL.out k hx hx')
      generalize l[k] = s at hrg hs e1 e2 e3
      generalize l'[k] = t at hrg' hs' e1 e2 e3
      have HC := fun z => Lib.hid (nums_same s.more t.more _ (hs.drewN z) (hs'.drewN z) e3)
      clear hs hs' e3
      have hc0 : wr.cell? ⟨b, off + k * 3, none⟩ = some (.string s.node) := rangeAt_cell hrg 0 rfl
      have hc1 : wr.cell? ⟨b, off + k * 3 + 1, none⟩ = some (.int .i64 s.base) := rangeAt_cell hrg 1 rfl
      have hc2 : wr.cell? ⟨b, off + k * 3 + 2, none⟩ = some s.more.v := rangeAt_cell hrg 2 rfl
      have hd0 : wr.cell? ⟨b', off' + k * 3, none⟩ = some (.string s.node) := by rw [e1]; exact rangeAt_cell hrg' 0 rfl
      have hd1 : wr.cell? ⟨b', off' + k * 3 + 1, none⟩ = some (.int .i64 s.base) := by rw [e2]; exact rangeAt_cell hrg' 1 rfl
      have hd2 : wr.cell? ⟨b', off' + k * 3 + 2, none⟩ = some t.more.v := rangeAt_cell hrg' 2 rfl
      clear hrg hrg' e1 e2
      generalize s.node = nd at hc0 hd0
      generalize s.base = ba at hc1 hd1
      generalize s.more.v = mv at hc2 HC
      generalize t.more.v = mv' at hd2 HC
      have hn1 : (nd.toList == nd.toList) = true := by rw [beq_iff_eq]
      have hn2 : (ba != ba) = false := by rw [bne_eq_false_iff_eq]
      go_wp2
      go_quiet ((go_at_call 157; exact Calls.quiet_yes (HC _).out))
      go_wp2
      go_roundw
      case rel => exact ⟨k + 1, by omega, by go_num, Lib.hid ⟨_, by rw [HQ2.out, drewN_drewN]⟩⟩
      case measure => simp [intOf]; omega
    · obtain rfl : k = n := by omega
      have hd : decide ((k : Int) < (k : Int)) = false := by simp
      clear hq
      go_wp2
      go_ret
      exact ⟨rfl, HQ.out⟩

set_option maxRecDepth 100000 in
set_option maxHeartbeats 1000000 in
theorem sibs_none (w : World) : Calls Try.prog 137 #[.slice none 0 0, .slice none 0 0] w (Yes w) := by
  go_enter Try.func137, Try.ntmps137
  go_wp2
  go_loopw [5] (fun i wr => i = .int .i64 0 ∧ wr = w) (fun i _ => 0)
  case atStart => exact ⟨rfl, rfl⟩
  case round =>
    obtain ⟨rfl, rfl⟩ := hrel
    go_wp2
    go_ret
    exact ⟨rfl, 0, rfl⟩
/-- 'it says yes, and what was there is as it was' -/
def YesB (w : World) (e : Ending) (w' : World) : Prop := e = .returned (.bool true) ∧ Below w.heap.size w w'
theorem Yes.below {w w' : World} {e : Ending} (h : Yes w e w') : YesB w e w' := ⟨h.1, by obtain ⟨_, q, rfl⟩ := h; exact drewN_ (Below.refl _ _) q⟩
set_option maxRecDepth 100000 in
set_option maxHeartbeats 1000000 in
theorem obj_same2 (x y : Ctx) (w : World) (hok : x.ok w) (hok' : y.ok w) (hxy : x.bare = y.bare) : Calls Try.prog 107 #[.agg #[x.v, .slice none 0 0], .agg #[y.v, .slice none 0 0]] w (YesB w) := by
  have hb2 : Below w.heap.size w ((w.alloc (.cells #[x.v, .slice none 0 0] 144)).alloc (.cells #[y.v, .slice none 0 0] 144)) := ((Below.refl _ _).alloc (Nat.le_refl _) _).alloc (by simp) _
  have HC := Lib.hid (ctx_same2 x y ((w.alloc (.cells #[x.v, .slice none 0 0] 144)).alloc (.cells #[y.v, .slice none 0 0] 144)) (hok.below hb2) (hok'.below hb2) hxy)
  clear hb2
  generalize x.v = xv at HC
  generalize y.v = yv at HC
  go_enter Try.func107, Try.ntmps107
  go_wp2_with fail
  refine HC.out.mono ?_
  rintro e w1 ⟨rfl, q, hq⟩
  have HQ := Lib.hid hq
  have hc : ∀ g j : Nat, w1.cell? ⟨g, j, none⟩ = ((w.alloc (.cells #[xv, .slice none 0 0] 144)).alloc (.cells #[yv, .slice none 0 0] 144)).cell? ⟨g, j, none⟩ := fun g j => by rw [hq]; rfl
  have hc1 : w1.cell? ⟨w.heap.size, 1, none⟩ = some (.slice none 0 0) := by rw [hc]; simp
  have hc2 : w1.cell? ⟨w.heap.size + 1, 1, none⟩ = some (.slice none 0 0) := by rw [hc]; simp
  clear hq hc
  go_wp2_with fail
  refine (sibs_none _).mono ?_
  rintro e w2 h2
  have h3 := h2.below
  obtain ⟨rfl, hb⟩ := h3
  clear h2
  go_wp2
  go_ret
  refine ⟨rfl, Below.trans ?_ (hb.mono ?_)⟩
  · rw [HQ.out]; exact drewN_ (((Below.refl _ _).alloc (Nat.le_refl _) _).alloc (by simp) _) q
  · rw [HQ.out]; simp; omega

theorem cal_bare {x y : Cal} (h : x.bare = y.bare) : x.kind = y.kind ∧ x.token = y.token ∧ x.bucket = y.bucket ∧ x.key = y.key ∧ x.value = y.value ∧ x.ctx.bare = y.ctx.bare ∧ x.time = y.time := by
  unfold Cal.bare at h; injection h with h1 h2 h3 h4 h5 h6 h7; exact ⟨h1, h2, h3, h4, h5, h6, h7⟩
abbrev cals (l : List Cal) : List Value := l.flatMap fun m : Cal => m.arr.toList
set_option maxRecDepth 100000 in
set_option maxHeartbeats 4000000 in
theorem sameCalls2 (A : Option Addr) (n c : Nat) (B : Option Addr) (d : Nat) (l l' : List Cal) (w : World) (hr : Rd w A (cals l)) (hr' : Rd w B (cals l')) (hn : l.length = n) (hm : n ≤ 100000) (hok : ∀ m ∈ l, m.ok w) (hok' : ∀ m ∈ l', m.ok w) (hll : l.map Cal.bare = l'.map Cal.bare) :
    Calls Try.prog 63 #[.slice A n c, .slice B n d] w (YesB w) := by
  have hn' : l'.length = n := by rw [← bare_len hll]; exact hn
  have HN := Lib.hid hn; have HOK := Lib.hid hok; have HN' := Lib.hid hn'; have HOK' := Lib.hid hok'; have HLL := Lib.hid hll; clear hn hok hn' hok' hll
  go_enter Try.func63, Try.ntmps63
  go_wp2
  go_loopw [5] (fun i wr => ∃ k : Nat, k ≤ n ∧ i = .int .i64 k ∧ Below w.heap.size w wr) (fun i _ => n - (intOf i).toNat)
  case atStart => exact ⟨0, Nat.zero_le _, rfl, Below.refl _ _⟩
  case round =>
    obtain ⟨k, hk, rfl, hbel⟩ := hrel
    by_cases hlt : k < n
    · have hx : k < l.length := by have := HN.out; omega
      have hx' : k < l'.length := by have := HN'.out; omega
      obtain ⟨b, off, rfl, hrg⟩ := row_cal.at_ (hr.below hbel) k hx
      obtain ⟨b', off', rfl, hrg'⟩ := row_cal.at_ (hr'.below hbel) k hx'
      have hs := (HOK.out l[k] (List.getElem_mem hx)).below hbel
      have hs' := (HOK'.out l'[k] (List.getElem_mem hx')).below hbel
      have hd : decide ((k : Int) < (n : Int)) = true := by simp; omega
      have hi0 : (0 : Int) ≤ (k : Int) := by omega
      have hbb := cal_bare (bare_at HLL.out k hx hx')
      generalize l[k] = s at hrg hs hbb
      generalize l'[k] = t at hrg' hs' hbb
      have hobj := fun W hW => obj_same2 s.ctx t.ctx W (Cal.ok.below hs hW).2.2.2.2.2.1 (Cal.ok.below hs' hW).2.2.2.2.2.1 hbb.2.2.2.2.2.1
      have HOBJ := Lib.hid hobj
      clear hobj hs hs'
      obtain ⟨kd, tk, bu, ke, va, ⟨cA, cn, cc, cl⟩, ti⟩ := s
      obtain ⟨kd2, tk2, bu2, ke2, va2, ⟨dA, dn, dc, dl⟩, ti2⟩ := t
      obtain ⟨e0, e1, e2, e3, e4, -, e6⟩ := hbb
      simp only at e0 e1 e2 e3 e4 e6
      subst e0 e1 e2 e3 e4 e6
      simp only [Ctx.v] at HOBJ
      have c0 : wr.cell? ⟨b, off + k * 7, none⟩ = some (.int .i64 kd) := rangeAt_cell hrg 0 rfl
      have c1 : wr.cell? ⟨b, off + k * 7 + 1, none⟩ = some (.string tk) := rangeAt_cell hrg 1 rfl
      have c2 : wr.cell? ⟨b, off + k * 7 + 2, none⟩ = some (.string bu) := rangeAt_cell hrg 2 rfl
      have c3 : wr.cell? ⟨b, off + k * 7 + 3, none⟩ = some (.string ke) := rangeAt_cell hrg 3 rfl
      have c4 : wr.cell? ⟨b, off + k * 7 + 4, none⟩ = some (.string va) := rangeAt_cell hrg 4 rfl
      have c5 : wr.cell? ⟨b, off + k * 7 + 5, none⟩ = some (.slice cA cn cc) := rangeAt_cell hrg 5 rfl
      have c6 : wr.cell? ⟨b, off + k * 7 + 6, none⟩ = some (.int .i64 ti) := rangeAt_cell hrg 6 rfl
      have d0 : wr.cell? ⟨b', off' + k * 7, none⟩ = some (.int .i64 kd) := rangeAt_cell hrg' 0 rfl
      have d1 : wr.cell? ⟨b', off' + k * 7 + 1, none⟩ = some (.string tk) := rangeAt_cell hrg' 1 rfl
      have d2 : wr.cell? ⟨b', off' + k * 7 + 2, none⟩ = some (.string bu) := rangeAt_cell hrg' 2 rfl
      have d3 : wr.cell? ⟨b', off' + k * 7 + 3, none⟩ = some (.string ke) := rangeAt_cell hrg' 3 rfl
      have d4 : wr.cell? ⟨b', off' + k * 7 + 4, none⟩ = some (.string va) := rangeAt_cell hrg' 4 rfl
      have d5 : wr.cell? ⟨b', off' + k * 7 + 5, none⟩ = some (.slice dA dn dc) := rangeAt_cell hrg' 5 rfl
      have d6 : wr.cell? ⟨b', off' + k * 7 + 6, none⟩ = some (.int .i64 ti) := rangeAt_cell hrg' 6 rfl
      clear hrg hrg'
      have t1 : (tk.toList == tk.toList) = true := by rw [beq_iff_eq]
      have t2 : (bu.toList == bu.toList) = true := by rw [beq_iff_eq]
      have t3 : (ke.toList == ke.toList) = true := by rw [beq_iff_eq]
      have t4 : (va.toList == va.toList) = true := by rw [beq_iff_eq]
      have t0 : (kd != kd) = false := by rw [bne_eq_false_iff_eq]
      have t6 : (ti != ti) = false := by rw [bne_eq_false_iff_eq]
      go_upto_region 6 with fail
      go_cut [6, 7] (fun p q wx => ∃ g g' : Nat, p = .pointer (some ⟨g, 0, none⟩) ∧ q = .pointer (some ⟨g', 0, none⟩) ∧ Hid (Below wr.heap.size wr wx ∧ wx.heap[g]? = some (.cells #[.int .i64 kd, .string tk, .string bu, .string ke, .string va, .slice cA cn cc, .int .i64 ti] 85 (0, 0)) ∧ wx.heap[g']? = some (.cells #[.int .i64 kd, .string tk, .string bu, .string ke, .string va, .slice dA dn dc, .int .i64 ti] 85 (0, 0))))
      case first =>
        go_region_held3 (fun W => (W.cell? ⟨b, off + k * 7, none⟩ = some (.int .i64 kd) ∧ W.cell? ⟨b, off + k * 7 + 1, none⟩ = some (.string tk) ∧ W.cell? ⟨b, off + k * 7 + 2, none⟩ = some (.string bu) ∧ W.cell? ⟨b, off + k * 7 + 3, none⟩ = some (.string ke) ∧ W.cell? ⟨b, off + k * 7 + 4, none⟩ = some (.string va) ∧ W.cell? ⟨b, off + k * 7 + 5, none⟩ = some (.slice cA cn cc) ∧ W.cell? ⟨b, off + k * 7 + 6, none⟩ = some (.int .i64 ti)) ∧ (W.cell? ⟨b', off' + k * 7, none⟩ = some (.int .i64 kd) ∧ W.cell? ⟨b', off' + k * 7 + 1, none⟩ = some (.string tk) ∧ W.cell? ⟨b', off' + k * 7 + 2, none⟩ = some (.string bu) ∧ W.cell? ⟨b', off' + k * 7 + 3, none⟩ = some (.string ke) ∧ W.cell? ⟨b', off' + k * 7 + 4, none⟩ = some (.string va) ∧ W.cell? ⟨b', off' + k * 7 + 5, none⟩ = some (.slice dA dn dc) ∧ W.cell? ⟨b', off' + k * 7 + 6, none⟩ = some (.int .i64 ti)))
          (go_keep) (fail)
        all_goals
          focus (go_wp2_with fail)
          go_meet
          refine ⟨_, _, rfl, rfl, Lib.hid ⟨((((Below.refl _ _).alloc (Nat.le_refl _) _).alloc (by simp) _).drew), ?_, ?_⟩⟩
          all_goals first | exact heap_alloc2_new wr _ _ | exact heap_alloc2_old wr _ _
      case rest =>
        obtain ⟨g, g', rfl, rfl, HT⟩ := hcut
        have hb := HT.out.1; have h1 := HT.out.2.1; have h2 := HT.out.2.2
        clear c0 c1 c2 c3 c4 c5 c6 d0 d1 d2 d3 d4 d5 d6 HT
        have e0 : wc.cell? ⟨g, 0, none⟩ = some (.int .i64 kd) := cell_of_row _ _ _ _ _ _ h1
        have e1 : wc.cell? ⟨g, 1, none⟩ = some (.string tk) := cell_of_row _ _ _ _ _ _ h1
        have e2 : wc.cell? ⟨g, 2, none⟩ = some (.string bu) := cell_of_row _ _ _ _ _ _ h1
        have e3 : wc.cell? ⟨g, 3, none⟩ = some (.string ke) := cell_of_row _ _ _ _ _ _ h1
        have e4 : wc.cell? ⟨g, 4, none⟩ = some (.string va) := cell_of_row _ _ _ _ _ _ h1
        have e5 : wc.cell? ⟨g, 5, none⟩ = some (.slice cA cn cc) := cell_of_row _ _ _ _ _ _ h1
        have e6 : wc.cell? ⟨g, 6, none⟩ = some (.int .i64 ti) := cell_of_row _ _ _ _ _ _ h1
        have f0 : wc.cell? ⟨g', 0, none⟩ = some (.int .i64 kd) := cell_of_row _ _ _ _ _ _ h2
        have f1 : wc.cell? ⟨g', 1, none⟩ = some (.string tk) := cell_of_row _ _ _ _ _ _ h2
        have f2 : wc.cell? ⟨g', 2, none⟩ = some (.string bu) := cell_of_row _ _ _ _ _ _ h2
        have f3 : wc.cell? ⟨g', 3, none⟩ = some (.string ke) := cell_of_row _ _ _ _ _ _ h2
        have f4 : wc.cell? ⟨g', 4, none⟩ = some (.string va) := cell_of_row _ _ _ _ _ _ h2
        have f5 : wc.cell? ⟨g', 5, none⟩ = some (.slice dA dn dc) := cell_of_row _ _ _ _ _ _ h2
        have f6 : wc.cell? ⟨g', 6, none⟩ = some (.int .i64 ti) := cell_of_row _ _ _ _ _ _ h2
        clear h1 h2
        go_wp2_with fail
        refine (HOBJ.out _ hb).mono ?_
        rintro e w1 ⟨rfl, hb1⟩
        go_wp2
        go_roundw
        case rel => exact ⟨k + 1, by omega, by go_num, then_ hbel (then_ hb hb1)⟩
        case measure => simp [intOf]; omega
    · obtain rfl : k = n := by omega
      have hd : decide ((k : Int) < (k : Int)) = false := by simp
      go_wp2
      go_ret
      exact ⟨rfl, hbel⟩
end Go.Proofs.Ytlmplibdfhamjaa
