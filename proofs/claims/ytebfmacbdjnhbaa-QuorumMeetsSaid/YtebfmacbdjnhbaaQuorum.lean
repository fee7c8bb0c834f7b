/- The package quorum: what each function returns, for every argument. -/
import Derived.Test.YtebfmacbdjnhbaaPlanE
namespace Go.Proofs.Ytebfmacbdjnhbaa
open Go.RowKit Go.Mem
set_option linter.unusedVariables false

/-- a slice of texts: its value and what it holds -/
structure Sl where
  A : Option Addr
  n : Nat
  c : Nat
  ss : List ByteArray
def Sl.v (s : Sl) : Value := .slice s.A s.n s.c
structure Sl.ok (w : World) (s : Sl) : Prop where
  rd : Rd w s.A (s.ss.map Value.string)
  len : s.ss.length = s.n
  le : s.n ≤ 1000000
theorem Sl.ok.below {w w' : World} {s : Sl} (h : s.ok w) (hb : Below w.heap.size w w') : s.ok w' := ⟨h.rd.below hb, h.len, h.le⟩

/-- a function value that answers a bool to a slice of texts -/
structure AsksL (P : Program) (w : World) (f : FuncId) (caps : Array Value) (p : Sl → Bool) (ss : List Sl) : Prop where
  enter : ∀ (args : Array Value) (W : World), Sem.run P (callFunc f args) W = .ok (.enter f args) W
  ask : ∀ W s, Below w.heap.size w W → s ∈ ss → Calls P f (#[s.v] ++ caps) W fun e W' => e = .returned (.bool (p s)) ∧ Below W.heap.size W W'
def FoundL (p : Sl → Bool) (ss : List Sl) (w : World) (e : Ending) (w' : World) : Prop :=
  Below w.heap.size w w' ∧ ((∃ k : Nat, ∃ h : k < ss.length, p ss[k] = true ∧ (∀ s ∈ ss.take k, p s = false) ∧ e = .returned (.int .i64 k)) ∨ ((∀ s ∈ ss, p s = false) ∧ e = .returned (.int .i64 (-1))))

set_option maxRecDepth 100000 in
set_option maxHeartbeats 400000 in
theorem indexFuncL_any (A : Option Addr) (n c : Nat) (ss : List Sl) (f : FuncId) (caps : Array Value) (p : Sl → Bool) (w : World) (hr : Rd w A (ss.map Sl.v)) (hn : ss.length = n) (hm : n ≤ maxLen)
    (hf : AsksL Try.prog w f caps p ss) :
    Calls Try.prog 118 #[.slice A n c, .func (.func f) #[] caps] w (FoundL p ss w) := by
  unfold maxLen at hm
  go_enter Try.func118, Try.ntmps118
  go_wp2
  go_loopw [8] (fun i wr => ∃ k : Nat, k ≤ n ∧ i = .int .i64 k ∧ (∀ s ∈ ss.take k, p s = false) ∧ Below w.heap.size w wr) (fun i _ => n - (intOf i).toNat)
  case atStart => exact ⟨0, Nat.zero_le _, rfl, by simp, Below.refl _ _⟩
  case round =>
    obtain ⟨k, hk, rfl, hnot, hbel⟩ := hrel
    have HN := Lib.hid hnot; clear hnot
    by_cases hlt : k < n
    · obtain ⟨b, off, rfl, hcell⟩ := (hr.below hbel).at_ k (by simp; omega)
      have hx : k < ss.length := by omega
      simp only [List.getElem_map] at hcell
      have hcall := Lib.hid (hf.ask wr ss[k] hbel (List.getElem_mem hx))
      have hcf := hf.enter
      generalize hs : ss[k] = s at hcell hcall
      have HS := Lib.hid hs; clear hs
      go_wp2_with fail
      refine hcall.out.mono ?_
      rintro e w1 ⟨rfl, hb1⟩
      clear hcf hcall hcell
      generalize hp : p s = ps
      have HP := Lib.hid hp; clear hp
      cases ps
      · go_wp2
        go_roundw
        case rel => exact ⟨k + 1, by omega, by go_num, fun t ht => by
          rw [take_succ_mem _ _ hx] at ht
          rcases ht with ht | ht
          · exact HN.out t ht
          · rw [ht, HS.out]; exact HP.out, then_ hbel hb1⟩
        case measure => simp [intOf]; omega
      · go_wp2
        go_ret
        exact ⟨then_ hbel hb1, .inl ⟨k, hx, by rw [HS.out]; exact HP.out, HN.out, rfl⟩⟩
    · obtain rfl : k = n := by omega
      go_wp2
      go_ret
      exact ⟨hbel, .inr ⟨fun s hs => HN.out s (by rw [← hn, List.take_length]; exact hs), rfl⟩⟩

set_option maxRecDepth 100000 in
set_option maxHeartbeats 400000 in
theorem containsFuncL_any (A : Option Addr) (n c : Nat) (ss : List Sl) (f : FuncId) (caps : Array Value) (p : Sl → Bool) (w : World) (hr : Rd w A (ss.map Sl.v)) (hn : ss.length = n) (hm : n ≤ maxLen)
    (hf : AsksL Try.prog w f caps p ss) :
    Calls Try.prog 107 #[.slice A n c, .func (.func f) #[] caps] w fun e w' => e = .returned (.bool (ss.any p)) ∧ Below w.heap.size w w' := by
  have HN := Lib.hid hn; clear hn
  go_enter Try.func107, Try.ntmps107
  go_wp2_with fail
  refine (indexFuncL_any A n c ss f caps p _ hr HN.out hm hf).mono ?_
  rintro e w1 ⟨hb1, ⟨k, hk, hpk, hnone, rfl⟩ | ⟨hall, rfl⟩⟩
  · have h0 : (0 : Int) ≤ (k : Int) := by omega
    go_wp2
    go_ret
    exact ⟨ret_bool (by symm; rw [List.any_eq_true]; exact ⟨_, List.getElem_mem hk, hpk⟩), hb1⟩
  · have HA := Lib.hid hall; clear hall
    go_wp2
    go_ret
    exact ⟨ret_bool (by symm; rw [List.any_eq_false]; intro s hs; simp [HA.out s hs]), hb1⟩


/-- a function value that answers a bool to every text -/
structure Fv (P : Program) (w : World) (f : FuncId) (caps : Array Value) (p : ByteArray → Bool) : Prop where
  enter : ∀ (args : Array Value) (W : World), Sem.run P (callFunc f args) W = .ok (.enter f args) W
  ask : ∀ W s, Below w.heap.size w W → Calls P f (#[.string s] ++ caps) W fun e W' => e = .returned (.bool (p s)) ∧ Below W.heap.size W W'
theorem Fv.below {P : Program} {w w' : World} {f : FuncId} {caps : Array Value} {p : ByteArray → Bool} (h : Fv P w f caps p) (hb : Below w.heap.size w w') : Fv P w' f caps p :=
  ⟨h.enter, fun W s hW => h.ask W s (then_ hb hW)⟩

theorem enter_of11 (args : Array Value) (W : World) : Sem.run Try.prog (callFunc 108 args) W = .ok (.enter 108 args) W := by kernel_rfl
theorem enter_of1 (args : Array Value) (W : World) : Sem.run Try.prog (callFunc 106 args) W = .ok (.enter 106 args) W := by kernel_rfl
theorem enter_possible1 (args : Array Value) (W : World) : Sem.run Try.prog (callFunc 109 args) W = .ok (.enter 109 args) W := by kernel_rfl

theorem of11_any (l : Sl) (s : ByteArray) (g : Nat) (w : World) (hl : l.ok w) (hc : w.cell? ⟨g, 0, none⟩ = some (.string s)) :
    Calls Try.prog 108 #[l.v, .pointer (some ⟨g, 0, none⟩)] w fun e w' => e = .returned (.bool (mem s l.ss)) ∧ w = w' := by
  obtain ⟨A, n, c, ss⟩ := l
  obtain ⟨hr, hn, hm⟩ := hl
  simp only at hr hn hm
  have HN := Lib.hid hn; clear hn
  unfold Sl.v
  simp only
  go_enter Try.func108, Try.ntmps108
  go_wp2_with fail
  refine (contains_any A n c ss s _ hr HN.out (by unfold maxLen; omega)).mono ?_
  rintro e w' ⟨rfl, rfl⟩
  go_wp2
  go_ret
  exact ⟨rfl, rfl⟩

set_option maxRecDepth 100000 in
set_option maxHeartbeats 400000 in
theorem of1_any (A : Option Addr) (n c : Nat) (ls : List Sl) (s : ByteArray) (g : Nat) (w : World) (hc : w.cell? ⟨g, 0, none⟩ = some (.slice A n c)) (hr : Rd w A (ls.map Sl.v)) (hn : ls.length = n) (hm : n ≤ 1000000) (hok : ∀ l ∈ ls, l.ok w) :
    Calls Try.prog 106 #[.string s, .pointer (some ⟨g, 0, none⟩)] w fun e w' => e = .returned (.bool (ls.any fun l => mem s l.ss)) ∧ Below w.heap.size w w' := by
  have HN := Lib.hid hn; have HOK := Lib.hid hok; clear hn hok
  have hask : AsksL Try.prog (w.alloc (.cells #[.string s] 9)) 108 #[.pointer (some ⟨w.heap.size, 0, none⟩)] (fun l => mem s l.ss) ls :=
    ⟨enter_of11, fun W l hb hl => (of11_any l s w.heap.size W ((HOK.out l hl).below (((Below.refl _ _).alloc (Nat.le_refl _) _).trans (hb.mono (by simp)))) (by rw [hb.cell (by simp)]; simp)).mono (fun e w' h => ⟨h.1, h.2 ▸ Below.refl _ _⟩)⟩
  have hc' : (w.alloc (.cells #[.string s] 9)).cell? ⟨g, 0, none⟩ = some (.slice A n c) := cell_below ((Below.refl _ _).alloc (Nat.le_refl _) _) hc
  go_enter Try.func106, Try.ntmps106
  go_wp2_with fail
  refine (containsFuncL_any A n c ls _ _ _ _ (hr.alloc _) HN.out (by unfold maxLen; omega) hask).mono ?_
  rintro e w1 ⟨rfl, hb1⟩
  go_wp2
  go_ret
  exact ⟨rfl, ba hb1⟩

/-- what 'of' hands back: a function value that tells whether a text is in one of some lists -/
def OfGives (ls : List Sl) (w : World) (e : Ending) (w' : World) : Prop :=
  Below w.heap.size w w' ∧ ∃ caps, e = .returned (.func (.func 106) #[] caps) ∧ Fv Try.prog w' 106 caps (fun s => ls.any fun l => mem s l.ss)

set_option maxRecDepth 100000 in
theorem of_any (A : Option Addr) (n c : Nat) (ls : List Sl) (w : World) (hr : Rd w A (ls.map Sl.v)) (hn : ls.length = n) (hm : n ≤ 1000000) (hok : ∀ l ∈ ls, l.ok w) :
    Calls Try.prog 82 #[.slice A n c] w (OfGives ls w) := by
  have HN := Lib.hid hn; have HOK := Lib.hid hok; clear hn hok
  go_enter Try.func82, Try.ntmps82
  go_wp2
  go_ret
  have hb0 : Below w.heap.size w (w.alloc (.cells #[.slice A n c] 62)) := (Below.refl _ _).alloc (Nat.le_refl _) _
  refine ⟨hb0, #[.pointer (some ⟨w.heap.size, 0, none⟩)], rfl, enter_of1, fun W s hb => ?_⟩
  have hbW := then_ hb0 hb
  exact of1_any A n c ls s w.heap.size W (by rw [hb.cell (by simp)]; simp) (hr.below hbW) HN.out hm (fun l hl => (HOK.out l hl).below hbW)

/-- an entry of a preference list -/
structure Ch where
  node : ByteArray
  prim : Bool
def Ch.cells (x : Ch) : List Value := [.string x.node, .bool x.prim]
theorem ch_row {w : World} {B : Option Addr} {ms : List Ch} (h : Rd w B (ms.flatMap Ch.cells)) (k : Nat) (hk : k < ms.length) :
    ∃ b off, B = some ⟨b, off, none⟩ ∧ w.cell? ⟨b, off + k * 2, none⟩ = some (.string ms[k].node) ∧ w.cell? ⟨b, off + k * 2 + 1, none⟩ = some (.bool ms[k].prim) := by
  rw [List.flatMap_def] at h
  have hs : ∀ r ∈ ms.map Ch.cells, r.length = 2 := by intro r hr; obtain ⟨m, _, rfl⟩ := List.mem_map.1 hr; rfl
  have hi : (ms.map Ch.cells)[k]? = some ms[k].cells := by simp [hk]
  obtain ⟨b, off, rfl, h0⟩ := h.row hs k _ hi 0 _ rfl
  obtain ⟨b1, off1, e1, h1⟩ := h.row hs k _ hi 1 _ rfl
  injection e1 with e1; injection e1 with e1 e1'; subst e1 e1'
  exact ⟨b, off, rfl, h0, by rw [Nat.add_assoc]; exact h1⟩

/-- how many entries are so, and how many of those that are there by claim -/
def cnt (p : ByteArray → Bool) (l : List Ch) : Nat := (l.filter fun x => p x.node).length
def cntP (p : ByteArray → Bool) (l : List Ch) : Nat := (l.filter fun x => p x.node && x.prim).length
theorem cnt_snoc (p : ByteArray → Bool) (l : List Ch) (x : Ch) : cnt p (l ++ [x]) = cnt p l + (if p x.node then 1 else 0) := by
  unfold cnt; rw [List.filter_append, List.length_append]; by_cases h : p x.node <;> simp [h]
theorem cntP_snoc (p : ByteArray → Bool) (l : List Ch) (x : Ch) : cntP p (l ++ [x]) = cntP p l + (if p x.node && x.prim then 1 else 0) := by
  unfold cntP; rw [List.filter_append, List.length_append]; by_cases h : (p x.node && x.prim) = true <;> simp [h]
theorem cnt_le (p : ByteArray → Bool) (l : List Ch) : cnt p l ≤ l.length := List.length_filter_le _ _
theorem cntP_le (p : ByteArray → Bool) (l : List Ch) : cntP p l ≤ l.length := List.length_filter_le _ _

set_option maxRecDepth 100000 in
set_option maxHeartbeats 1000000 in
theorem count_any (A : Option Addr) (n c : Nat) (l : List Ch) (f : FuncId) (caps : Array Value) (p : ByteArray → Bool) (w : World) (hr : Rd w A (l.flatMap Ch.cells)) (hn : l.length = n) (hm : n ≤ 1000000) (hf : Fv Try.prog w f caps p) :
    Calls Try.prog 81 #[.slice A n c, .func (.func f) #[] caps] w fun e w' => e = .returned (.tuple #[.int .i64 (cnt p l : Nat), .int .i64 (cntP p l : Nat)]) ∧ Below w.heap.size w w' := by
  have HN := Lib.hid hn; clear hn
  go_enter Try.func81, Try.ntmps81
  go_wp2
  go_loopw [6, 7, 12] (fun a b i wr => ∃ k : Nat, k ≤ n ∧ i = .int .i64 k ∧ a = .int .i64 (cnt p (l.take k) : Nat) ∧ b = .int .i64 (cntP p (l.take k) : Nat) ∧ Below w.heap.size w wr) (fun _ _ i _ => n - (intOf i).toNat)
  case atStart => exact ⟨0, Nat.zero_le _, rfl, rfl, rfl, Below.refl _ _⟩
  case round =>
    obtain ⟨k, hk, rfl, rfl, rfl, hbel⟩ := hrel
    by_cases hlt : k < n
    · have hx : k < l.length := by have := HN.out; omega
      obtain ⟨b, off, rfl, hc0, hc1⟩ := ch_row (hr.below hbel) k hx
      have h1 := cnt_snoc p (l.take k) l[k]
      have h2 := cntP_snoc p (l.take k) l[k]
      rw [← List.take_succ_eq_append_getElem hx] at h1 h2
      have h3 : cnt p (l.take k) ≤ k := Nat.le_trans (cnt_le _ _) (by rw [List.length_take]; omega)
      have h4 : cntP p (l.take k) ≤ k := Nat.le_trans (cntP_le _ _) (by rw [List.length_take]; omega)
      generalize l[k] = x at hc0 hc1 h1 h2
      obtain ⟨node, prim⟩ := x
      simp only at hc0 hc1 h1 h2
      generalize cnt p (l.take k) = a at h1 h3
      generalize cntP p (l.take k) = b' at h2 h4
      have H1 := Lib.hid h1; have H2 := Lib.hid h2; clear h1 h2
      have hcf := hf.enter
      have hcall := Lib.hid (hf.ask (wr.alloc (.cells #[.string node, .bool prim] 71)) node (hbel.alloc hbel.size _))
      go_wp2_with fail
      refine hcall.out.mono ?_
      rintro e w1 ⟨rfl, hb1⟩
      have hbw := then_ hbel (ba hb1)
      have hp1 : w1.cell? ⟨wr.heap.size, 1, none⟩ = some (.bool prim) := cell_below hb1 (by simp)
      generalize hp : p node = pn at H1 H2
      clear hcf hcall hc0 hc1 hp hbel hb1
      cases pn
      · go_wp2
        go_roundw
        case rel => exact ⟨k + 1, by omega, by go_num, by rw [H1.out]; rfl, by rw [H2.out]; rfl, hbw⟩
        case measure => simp [intOf]; omega
      · cases prim
        · go_wp2
          go_roundw
          case rel => exact ⟨k + 1, by omega, by go_num, by rw [H1.out]; go_num, by rw [H2.out]; rfl, hbw⟩
          case measure => simp [intOf]; omega
        · go_wp2
          go_roundw
          case rel => exact ⟨k + 1, by omega, by go_num, by rw [H1.out]; go_num, by rw [H2.out]; go_num, hbw⟩
          case measure => simp [intOf]; omega
    · obtain rfl : k = n := by omega
      rw [List.take_of_length_le (by rw [HN.out]; omega)]
      go_wp2
      go_ret2
      exact ⟨rfl, hbel⟩

set_option maxRecDepth 100000 in
set_option maxHeartbeats 1000000 in
theorem enough_any (A : Option Addr) (n c : Nat) (l : List Ch) (f : FuncId) (caps : Array Value) (p : ByteArray → Bool) (x y : Int) (w : World) (hr : Rd w A (l.flatMap Ch.cells)) (hn : l.length = n) (hm : n ≤ 1000000) (hf : Fv Try.prog w f caps p) :
    Calls Try.prog 84 #[.slice A n c, .func (.func f) #[] caps, .int .i64 x, .int .i64 y] w fun e w' => e = .returned (.bool (decide (x ≤ (cnt p l : Nat)) && decide (y ≤ (cntP p l : Nat)))) ∧ Below w.heap.size w w' := by
  have HN := Lib.hid hn; clear hn
  go_enter Try.func84, Try.ntmps84
  go_wp2_with fail
  refine (count_any A n c l f caps p _ hr HN.out hm hf).mono ?_
  rintro e w1 ⟨rfl, hb1⟩
  generalize ha : cnt p l = a
  generalize hb : cntP p l = b
  have HA := Lib.hid ha; have HB := Lib.hid hb; clear ha hb
  by_cases h1 : x ≤ (a : Int)
  · have hd1 : decide (x ≤ (a : Int)) = true := by simpa using h1
    go_wp2
    go_ret
    exact ⟨ret_bool (by rw [HA.out, HB.out, hd1]; rfl), hb1⟩
  · have hd1 : decide (x ≤ (a : Int)) = false := by simpa using h1
    go_wp2
    go_ret
    exact ⟨ret_bool (by rw [HA.out, HB.out, hd1]; rfl), hb1⟩

set_option maxRecDepth 100000 in
set_option maxHeartbeats 1000000 in
theorem possible1_any (f g : FuncId) (cf cg : Array Value) (p q : ByteArray → Bool) (bf bg : Nat) (s : ByteArray) (w : World) (hcf : w.cell? ⟨bf, 0, none⟩ = some (.func (.func f) #[] cf)) (hcg : w.cell? ⟨bg, 0, none⟩ = some (.func (.func g) #[] cg))
    (hf : Fv Try.prog w f cf p) (hg : Fv Try.prog w g cg q) :
    Calls Try.prog 109 #[.string s, .pointer (some ⟨bf, 0, none⟩), .pointer (some ⟨bg, 0, none⟩)] w fun e w' => e = .returned (.bool (p s || !q s)) ∧ Below w.heap.size w w' := by
  have h1 := hf.enter
  have h2 := hg.enter
  go_enter Try.func109, Try.ntmps109
  go_wp2_with fail
  refine (hf.ask w s (Below.refl _ _)).mono ?_
  rintro e w1 ⟨rfl, hb1⟩
  have hcg1 := cell_below hb1 hcg
  generalize hps : p s = ps
  have HPS := Lib.hid hps; clear hps
  cases ps
  · go_wp2_with fail
    refine (hg.ask w1 s hb1).mono ?_
    rintro e w2 ⟨rfl, hb2⟩
    go_wp2
    go_ret
    exact ⟨ret_bool (by rw [HPS.out]; rfl), then_ hb1 hb2⟩
  · go_wp2
    go_ret
    exact ⟨ret_bool (by rw [HPS.out]; rfl), hb1⟩

set_option maxRecDepth 100000 in
set_option maxHeartbeats 1000000 in
theorem possible_any (A : Option Addr) (n c : Nat) (l : List Ch) (f g : FuncId) (cf cg : Array Value) (p q : ByteArray → Bool) (x y : Int) (w : World) (hr : Rd w A (l.flatMap Ch.cells)) (hn : l.length = n) (hm : n ≤ 1000000) (hf : Fv Try.prog w f cf p) (hg : Fv Try.prog w g cg q) :
    Calls Try.prog 85 #[.slice A n c, .func (.func f) #[] cf, .func (.func g) #[] cg, .int .i64 x, .int .i64 y] w fun e w' => e = .returned (.bool (decide (x ≤ (cnt (fun s => p s || !q s) l : Nat)) && decide (y ≤ (cntP (fun s => p s || !q s) l : Nat)))) ∧ Below w.heap.size w w' := by
  have HN := Lib.hid hn; clear hn
  have hb0 : Below w.heap.size w ((w.alloc (.cells #[.func (.func f) #[] cf] 114)).alloc (.cells #[.func (.func g) #[] cg] 114)) := ((Below.refl _ _).alloc (Nat.le_refl _) _).alloc (by simp) _
  have hfv : Fv Try.prog ((w.alloc (.cells #[.func (.func f) #[] cf] 114)).alloc (.cells #[.func (.func g) #[] cg] 114)) 109 #[.pointer (some ⟨w.heap.size, 0, none⟩), .pointer (some ⟨w.heap.size + 1, 0, none⟩)] (fun s => p s || !q s) :=
    ⟨enter_possible1, fun W s hb => possible1_any f g cf cg p q w.heap.size (w.heap.size + 1) s W (by rw [hb.cell (by simp; omega)]; simp) (by rw [hb.cell (by simp)]; simp) (hf.below (then_ hb0 hb)) (hg.below (then_ hb0 hb))⟩
  go_enter Try.func85, Try.ntmps85
  go_wp2_with fail
  refine (enough_any A n c l _ _ _ x y _ (hr.below hb0) HN.out hm hfv).mono ?_
  rintro e w1 ⟨rfl, hb1⟩
  go_wp2
  go_ret
  exact ⟨rfl, then_ hb0 hb1⟩

theorem any_one (ns : Sl) : (fun s => [ns].any fun l => mem s l.ss) = fun s => mem s ns.ss := by funext s; simp
theorem rd_one {w : World} {l : Sl} {e : TypeId} : Rd (w.alloc (.cells #[l.v] e)) (some ⟨w.heap.size, 0, none⟩) ([l].map Sl.v) := Rd.new w #[l.v] e

set_option maxRecDepth 100000 in
set_option maxHeartbeats 1000000 in
theorem qcount_any (A : Option Addr) (n c : Nat) (l : List Ch) (ns : Sl) (w : World) (hr : Rd w A (l.flatMap Ch.cells)) (hn : l.length = n) (hm : n ≤ 1000000) (hok : ns.ok w) :
    Calls Try.prog 41 #[.slice A n c, ns.v] w fun e w' => e = .returned (.tuple #[.int .i64 (cnt (fun s => mem s ns.ss) l : Nat), .int .i64 (cntP (fun s => mem s ns.ss) l : Nat)]) ∧ Below w.heap.size w w' := by
  have HN := Lib.hid hn; clear hn
  have hb0 : ∀ o, Below w.heap.size w (w.alloc o) := fun o => (Below.refl _ _).alloc (Nat.le_refl _) o
  have HB0 := Lib.hid hb0; clear hb0
  unfold Sl.v
  go_enter Try.func41, Try.ntmps41
  go_wp2_with fail
  refine (of_any _ 1 1 [ns] _ (by exact rd_one) rfl (by omega) (by intro l hl; rw [List.mem_singleton] at hl; subst hl; exact hok.below (HB0.out _))).mono ?_
  rintro e w1 ⟨hb1, caps, rfl, hfv⟩
  have hbw := ba hb1
  go_wp2_with fail
  refine (count_any A n c l _ _ _ _ (hr.below hbw) HN.out hm hfv).mono ?_
  rintro e w2 ⟨rfl, hb2⟩
  go_wp2
  go_ret2
  exact ⟨by first | rfl | (rw [← any_one]; rfl), then_ hbw hb2⟩
end Go.Proofs.Ytebfmacbdjnhbaa
