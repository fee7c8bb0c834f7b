/- writer: an answer done; nobody's writer; what must come. -/
import Derived.Test.YtebfmacbdjnhbaaWriterD
attribute [local go_sem ↓] Go.wp_at_zero Go.wp_at_succ
namespace Go.Proofs.Ytebfmacbdjnhbaa
open Go.RowKit Go.Mem
set_option linter.unusedVariables false
def Ac.arr (a : Ac) : Array Value := #[.int .i64 a.kind, .string a.node, .int .i64 a.err]
theorem done_any (w : World) (base T g M K : Nat) (X : Wt) (s : ByteArray) (h : WrAt w base T g M K X) (hm : X.l.length ≤ 1000) (hs : ∀ s ∈ nodes X.l, txOk s) (hK : K ≤ 1000) (hok : txOk s) :
    Calls Try.prog 92 #[.pointer (some ⟨g, 0, none⟩), .string s] w (LeavesW base T g M (K + 1) (X.ans s 1 false) w) := by
  have HS := Lib.hid hs; clear hs
  go_enter Try.func92, Try.ntmps92
  go_wp2_with fail
  refine (answer_any w base T g M K X s 1 false h hm HS.out hK hok (by decide)).mono ?_
  rintro e w1 ⟨rfl, hw1, hk1⟩
  have HW := Lib.hid hw1; have HK := Lib.hid hk1; clear hw1 hk1
  go_wp2
  go_end0
  exact ⟨rfl, HW.out, HK.out⟩
theorem refused_any (w : World) (base T g M K : Nat) (X : Wt) (s : ByteArray) (er : Int) (h : WrAt w base T g M K X) (hm : X.l.length ≤ 1000) (hs : ∀ s ∈ nodes X.l, txOk s) (hK : K ≤ 1000) (hok : txOk s) :
    Calls Try.prog 93 #[.pointer (some ⟨g, 0, none⟩), .string s, .int .i64 er] w (LeavesW base T g M (K + 1) (X.ans s 2 (decide (er = 10))) w) := by
  have HS := Lib.hid hs; clear hs
  have heq : (er == 10) = decide (er = 10) := rfl
  go_enter Try.func93, Try.ntmps93
  go_wp2_with fail
  refine (answer_any w base T g M K X s 2 (decide (er = 10)) h hm HS.out hK hok (by decide)).mono ?_
  rintro e w1 ⟨rfl, hw1, hk1⟩
  have HW := Lib.hid hw1; have HK := Lib.hid hk1; clear hw1 hk1
  go_wp2
  go_end0
  exact ⟨rfl, HW.out, HK.out⟩
theorem wdo_any (w : World) (base T g M K : Nat) (X : Wt) (a : Ac) (h : WrAt w base T g M K X) (hm : X.l.length ≤ 1000) (hs : ∀ s ∈ nodes X.l, txOk s) (hK : K ≤ 1000) (hok : txOk a.node) :
    Calls Try.prog 64 #[.pointer (some ⟨g, 0, none⟩), .agg a.arr] w (LeavesW base T g M (K + 1) (X.act a) w) := by
  have HS := Lib.hid hs; clear hs
  obtain ⟨k, s, er⟩ := a
  unfold Ac.arr
  simp only at hok ⊢
  have hb0 : Below w.heap.size w (w.alloc (.cells #[.int .i64 k, .string s, .int .i64 er] 95)) := (Below.refl _ _).alloc (Nat.le_refl _) _
  have HW0 := Lib.hid (h.below hb0); clear h
  by_cases hk : k = 1
  · have hd : (k == 1) = true := by rw [beq_iff_eq]; exact hk
    have HA : Hid (X.act ⟨k, s, er⟩ = X.ans s 1 false) := Lib.hid (by unfold Wt.act; rw [if_pos hk])
    clear hk
    go_enter Try.func64, Try.ntmps64
    go_wp2_with fail
    refine (done_any _ base T g M K X s HW0.out hm HS.out hK hok).mono ?_
    rintro e w1 ⟨rfl, hw1, hk1⟩
    have HW := Lib.hid hw1; have HK := Lib.hid ((Keeps2.of_below hb0).then_ hk1); clear hw1 hk1
    go_wp2
    go_end0
    rw [HA.out]
    exact ⟨rfl, HW.out, HK.out⟩
  · have hd : (k == 1) = false := by rw [beq_eq_false_iff_ne]; exact hk
    have HA : Hid (X.act ⟨k, s, er⟩ = X.ans s 2 (decide (er = 10))) := Lib.hid (by unfold Wt.act; rw [if_neg hk])
    clear hk
    go_enter Try.func64, Try.ntmps64
    go_wp2_with fail
    refine (refused_any _ base T g M K X s er HW0.out hm HS.out hK hok).mono ?_
    rintro e w1 ⟨rfl, hw1, hk1⟩
    have HW := Lib.hid hw1; have HK := Lib.hid ((Keeps2.of_below hb0).then_ hk1); clear hw1 hk1
    go_wp2
    go_end0
    rw [HA.out]
    exact ⟨rfl, HW.out, HK.out⟩
/-- a writer that nobody began -/
def zeroCells : Array Value := #[.int .i64 0, .int .i64 0, .int .i64 0, .int .i64 0, .int .i64 0, .bool false, .bool false, .bool false, .slice none 0 0, .map none, .bool false, .int .i64 0, .int .i64 0]
/-- a pointer to no writer, or to one that nobody began -/
def Nobody (w : World) (v : Value) : Prop := v = .pointer none ∨ ∃ g, v = .pointer (some ⟨g, 0, none⟩) ∧ w.heap[g]? = some (.cells zeroCells 100 (0, 0))
theorem Nobody.below {w w' : World} {v : Value} (h : Nobody w v) (hb : Below w.heap.size w w') : Nobody w' v := by
  rcases h with h | ⟨g, h1, h2⟩
  · exact .inl h
  · exact .inr ⟨g, h1, (hb.block g (lt_of_block h2)).trans h2⟩
set_option maxRecDepth 100000 in
theorem answer_nobody (w : World) (v : Value) (s : ByteArray) (k : Int) (b : Bool) (h : Nobody w v) :
    Calls Try.prog 113 #[v, .string s, .int .i64 k, .bool b] w fun e w' => e = .returned (.tuple #[]) ∧ Below w.heap.size w w' := by
  rcases h with rfl | ⟨g, rfl, hg⟩
  · go_enter Try.func113, Try.ntmps113
    go_wp2
    go_quiet (fail)
    go_wp2
    refine bodyPost_ret (results_none rfl _ _ _) rfl ?_
    exact ⟨rfl, drewN_ ((Below.refl _ _).alloc (Nat.le_refl _) _) _⟩
  · have k9 : ∀ o, (w.alloc o).cell? ⟨g, 9, none⟩ = some (.map none) := fun o => cell_below ((Below.refl _ _).alloc (Nat.le_refl _) o) ((cell_of_block hg 9).trans rfl)
    have heqm := fun W => run_eql_map_nil (P := Try.prog) W 98 9 3 none Try.underlying98
    clear hg
    go_enter Try.func113, Try.ntmps113
    go_wp2
    go_quiet (fail)
    go_wp2
    refine bodyPost_ret (results_none rfl _ _ _) rfl ?_
    exact ⟨rfl, drewN_ ((Below.refl _ _).alloc (Nat.le_refl _) _) _⟩
theorem done_nobody (w : World) (v : Value) (s : ByteArray) (h : Nobody w v) : Calls Try.prog 92 #[v, .string s] w fun e w' => e = .returned (.tuple #[]) ∧ Below w.heap.size w w' := by
  have H := Lib.hid h; clear h
  go_enter Try.func92, Try.ntmps92
  go_wp2_with fail
  refine (answer_nobody w v s 1 false H.out).mono ?_
  rintro e w1 ⟨rfl, hb1⟩
  go_wp2
  go_end0
  exact ⟨rfl, hb1⟩
theorem refused_nobody (w : World) (v : Value) (s : ByteArray) (er : Int) (h : Nobody w v) : Calls Try.prog 93 #[v, .string s, .int .i64 er] w fun e w' => e = .returned (.tuple #[]) ∧ Below w.heap.size w w' := by
  have H := Lib.hid h; clear h
  go_enter Try.func93, Try.ntmps93
  go_wp2_with fail
  refine (answer_nobody w v s 2 _ H.out).mono ?_
  rintro e w1 ⟨rfl, hb1⟩
  go_wp2
  go_end0
  exact ⟨rfl, hb1⟩
theorem do_nobody (w : World) (v : Value) (a : Ac) (h : Nobody w v) : Calls Try.prog 64 #[v, .agg a.arr] w fun e w' => e = .returned (.tuple #[]) ∧ Below w.heap.size w w' := by
  obtain ⟨k, s, er⟩ := a
  unfold Ac.arr
  simp only
  have h0 := Lib.hid (h.below ((Below.refl _ _).alloc (Nat.le_refl _) (.cells #[.int .i64 k, .string s, .int .i64 er] 95)))
  by_cases hk : k = 1
  · have hd : (k == 1) = true := by rw [beq_iff_eq]; exact hk
    clear hk h
    go_enter Try.func64, Try.ntmps64
    go_wp2_with fail
    refine (done_nobody _ v s h0.out).mono ?_
    rintro e w1 ⟨rfl, hb1⟩
    go_wp2
    go_end0
    exact ⟨rfl, ba hb1⟩
  · have hd : (k == 1) = false := by rw [beq_eq_false_iff_ne]; exact hk
    clear hk h
    go_enter Try.func64, Try.ntmps64
    go_wp2_with fail
    refine (refused_nobody _ v s er h0.out).mono ?_
    rintro e w1 ⟨rfl, hb1⟩
    go_wp2
    go_end0
    exact ⟨rfl, ba hb1⟩
theorem state_nobody (w : World) (v : Value) (h : Nobody w v) : Calls Try.prog 62 #[v] w fun e w' => e = .returned (.int .i64 0) ∧ w = w' := by
  rcases h with rfl | ⟨g, rfl, hg⟩
  · go_enter Try.func62, Try.ntmps62
    go_wp2
    go_ret
    exact ⟨rfl, rfl⟩
  · have c11 : w.cell? ⟨g, 11, none⟩ = some (.int .i64 0) := (cell_of_block hg 11).trans rfl
    clear hg
    go_enter Try.func62, Try.ntmps62
    go_wp2
    go_ret
    exact ⟨rfl, rfl⟩
theorem err_nobody (w : World) (v : Value) (h : Nobody w v) : Calls Try.prog 63 #[v] w fun e w' => e = .returned (.int .i64 0) ∧ w = w' := by
  rcases h with rfl | ⟨g, rfl, hg⟩
  · go_enter Try.func63, Try.ntmps63
    go_wp2
    go_ret
    exact ⟨rfl, rfl⟩
  · have c12 : w.cell? ⟨g, 12, none⟩ = some (.int .i64 0) := (cell_of_block hg 12).trans rfl
    clear hg
    go_enter Try.func63, Try.ntmps63
    go_wp2
    go_ret
    exact ⟨rfl, rfl⟩
theorem opn_nobody (w : World) (v : Value) (h : Nobody w v) : Calls Try.prog 66 #[v] w fun e w' => e = .returned (.bool false) ∧ Below w.heap.size w w' := by
  rcases h with rfl | ⟨g, rfl, hg⟩
  · go_enter Try.func66, Try.ntmps66
    go_wp2
    go_ret
    exact ⟨rfl, (Below.refl _ _).alloc (Nat.le_refl _) _⟩
  · have c8 : ∀ o, (w.alloc o).cell? ⟨g, 8, none⟩ = some (.slice none 0 0) := fun o => cell_below ((Below.refl _ _).alloc (Nat.le_refl _) o) ((cell_of_block hg 8).trans rfl)
    have hf : FvC Try.prog (w.alloc (.cells #[.pointer (some ⟨g, 0, none⟩)] 86)) 98 #[.pointer (some ⟨w.heap.size, 0, none⟩)] (fun x => false) [] :=
      ⟨enter_Open1, fun W x hb hx => by cases hx⟩
    clear hg
    go_enter Try.func66, Try.ntmps66
    go_wp2_with fail
    refine (containsFuncC_any none 0 0 [] _ _ (fun x => false) _ Rd.nil rfl (by omega) hf).mono ?_
    rintro e w1 ⟨rfl, hb1⟩
    rw [List.any_nil]
    go_wp2
    go_ret
    exact ⟨rfl, ba hb1⟩
end Go.Proofs.Ytebfmacbdjnhbaa
