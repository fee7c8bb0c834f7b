/- The next register: the code's and the document's. -/
import Derived.Test.YtlmplibdfhamjaaRegB
namespace Go.Proofs.Ytlmplibdfhamjaa
open Go.RowKit Go.Mem
set_option linter.unusedVariables false
set_option linter.unusedSimpArgs false

theorem results_cell_row2 {P : Program} {fn : Func} {p u : Tmp} {ty : TypeId} (h : fn.results = #[.cell p ty, .tmp u]) (tmps : Array Value) (w : World) (g : Nat) (t : TypeId) (cs : Array Value) (fr : Nat × Nat) (d : TypeDesc)
    (hp : tmps.getD p undef = .pointer (some ⟨g, 0, none⟩)) (hg : w.heap[g]? = some (.cells cs t fr))
    (hu : P.underlying ty = some d) (hd : (match d with | .struct _ | .array _ _ => true | _ => false) = true) (hi : (P.info? ty).map (·.size) = some cs.size) :
    (results fn tmps).run P w = .ok (.tuple #[.agg cs, tmps.getD u undef]) w := by
  have hp' : tmps[p]?.getD undef = .pointer (some ⟨g, 0, none⟩) := by simpa using hp
  simp [results, h, hp', asAddr, run_loadVar_row w g t ty cs fr d hg hu hd hi]

def zRB (r : Rg) : Bool := decide (r.n = 0) && r.by_.toList.isEmpty && r.value.toList.isEmpty
def nxE (z m q s g : Bool) : Int := if ((!z && !m) || !q || s) = true then 1 else if g = true then 4 else 0
/-- what the next register fails with -/
def nextErr (r : Rg) (by_ val : ByteArray) : Int := nxE (zRB r) (mayR r) (nameB by_) (decide (256 < val.size)) (decide (9007199254740992 ≤ r.n))
def nextRg (r : Rg) (by_ val : ByteArray) : Rg := if nextErr r by_ val = 0 then ⟨r.n + 1, by_, val⟩ else zR

/-- the argument's block and the result's -/
structure NX (w W : World) (n : Int) (b v : ByteArray) : Prop where
  bel : Below w.heap.size w W
  p : W.heap[w.heap.size]? = some (.cells #[.int .i64 n, .string b, .string v] 45 (0, 0))
  r : W.heap[w.heap.size + 1]? = some (.cells #[.int .i64 0, .string ⟨#[]⟩, .string ⟨#[]⟩] 45 (0, 0))
theorem NX.start (w : World) (n : Int) (b v : ByteArray) : NX w ((w.alloc (.cells #[.int .i64 n, .string b, .string v] 45)).alloc (.cells #[.int .i64 0, .string ⟨#[]⟩, .string ⟨#[]⟩] 45)) n b v :=
  ⟨((Below.refl _ _).alloc (Nat.le_refl _) _).alloc (by simp) _, heap_alloc2_old w _ _, heap_alloc2_new w _ _⟩
theorem NX.step {w W W' : World} {n : Int} {b v : ByteArray} (h : NX w W n b v) (hb : Below W.heap.size W W') : NX w W' n b v :=
  ⟨then_ h.bel hb, (hb.block _ (Array.getElem?_eq_some_iff.1 h.p).1).trans h.p, (hb.block _ (Array.getElem?_eq_some_iff.1 h.r).1).trans h.r⟩
theorem NX.cells {w W : World} {n : Int} {b v : ByteArray} (h : NX w W n b v) : W.cell? ⟨w.heap.size, 0, none⟩ = some (.int .i64 n) ∧ W.cell? ⟨w.heap.size, 1, none⟩ = some (.string b) ∧ W.cell? ⟨w.heap.size, 2, none⟩ = some (.string v) ∧
    W.cell? ⟨w.heap.size + 1, 0, none⟩ = some (.int .i64 0) ∧ W.cell? ⟨w.heap.size + 1, 1, none⟩ = some (.string ⟨#[]⟩) ∧ W.cell? ⟨w.heap.size + 1, 2, none⟩ = some (.string ⟨#[]⟩) ∧
    W.frozen? ⟨w.heap.size + 1, 0, none⟩ = false ∧ W.frozen? ⟨w.heap.size + 1, 1, none⟩ = false ∧ W.frozen? ⟨w.heap.size + 1, 2, none⟩ = false :=
  ⟨cell_of_row _ _ _ _ _ _ h.p, cell_of_row _ _ _ _ _ _ h.p, cell_of_row _ _ _ _ _ _ h.p, cell_of_row _ _ _ _ _ _ h.r, cell_of_row _ _ _ _ _ _ h.r, cell_of_row _ _ _ _ _ _ h.r, frozen_of_row _ _ _ _ _ h.r, frozen_of_row _ _ _ _ _ h.r, frozen_of_row _ _ _ _ _ h.r⟩
def NextR (r : Rg) (by_ val : ByteArray) (w : World) (e : Ending) (w' : World) : Prop := e = .returned (.tuple #[.agg (nextRg r by_ val).arr, .int .i64 (nextErr r by_ val)]) ∧ Below w.heap.size w w'
theorem isEmpty_nil {l : List UInt8} (h : l = []) : l.isEmpty = true := by rw [h]; rfl

set_option maxRecDepth 100000 in
set_option maxHeartbeats 8000000 in
theorem next09_any (r : Rg) (by_ val : ByteArray) (w : World) (hs : r.by_.size ≤ maxLen) (hv : r.value.size ≤ maxLen) (hb : by_.size ≤ maxLen) (hl : val.size ≤ maxLen) : Calls Try.prog 116 #[.agg r.arr, .string by_, .string val] w (NextR r by_ val w) := by
  obtain ⟨n, b, v⟩ := r
  have hck := fun W => check09_any ⟨n, b, v⟩ W hs hv
  have hnm : ∀ W, Calls Try.prog 72 #[.string by_] W fun e w' => e = .returned (.bool (nameB by_)) ∧ Below W.heap.size W w' := fun W => isName_any by_ W hb
  simp only [Rg.arr] at hck ⊢
  unfold errR at hck
  clear hs hv hb
  unfold maxLen at hl
  have HX := Lib.hid (NX.start w n b v)
  by_cases hn0 : n = 0
  · by_cases hb0 : b.toList = []
    · by_cases hv0 : v.toList = []
      · subst hn0
        have hz : zRB ⟨0, b, v⟩ = true := by unfold zRB; simp [isEmpty_nil hb0, isEmpty_nil hv0]
        generalize hq : nameB by_ = q at hnm
        cases q
        · have HE : Hid (nextErr ⟨0, b, v⟩ by_ val = 1) := Lib.hid (by unfold nextErr nxE; simp [hz, hq])
          have HG : Hid ((nextRg ⟨0, b, v⟩ by_ val).arr = #[.int .i64 0, .string ⟨#[]⟩, .string ⟨#[]⟩]) := Lib.hid (by unfold nextRg; rw [HE.out]; rfl)
          have HCK := Lib.hid hck; have HNM := Lib.hid hnm
          clear hck hnm hz hq
          go_enter Try.func116, Try.ntmps116
          go_wp2_with fail
          refine (HNM.out _).mono ?_
          rintro e w2 ⟨rfl, hb2⟩
          have hx := HX.out.step hb2
          obtain ⟨p0, p1, p2, r0, r1, r2, z0, z1, z2⟩ := hx.cells
          have HX := Lib.hid hx; clear hx hb2
          go_wp2
          refine bodyPost_ret (results_cell_row2 rfl _ _ (w.heap.size + 1) _ #[.int .i64 0, .string ⟨#[]⟩, .string ⟨#[]⟩] (0, 0) _ rfl (set3 HX.out.r _ _ _) Try.underlying45 rfl row_rg.hi) rfl ⟨?_, ?_⟩
          · rw [HE.out, HG.out]; rfl
          · exact ((HX.out.bel.setCell (by simp) _).setCell (by simp) _).setCell (by simp) _
        · by_cases h256 : 256 < val.size
          · have hsz : decide (256 < val.size) = true := by simpa using h256
            have HE : Hid (nextErr ⟨0, b, v⟩ by_ val = 1) := Lib.hid (by unfold nextErr nxE; simp [hz, hq, hsz])
            have HG : Hid ((nextRg ⟨0, b, v⟩ by_ val).arr = #[.int .i64 0, .string ⟨#[]⟩, .string ⟨#[]⟩]) := Lib.hid (by unfold nextRg; rw [HE.out]; rfl)
            have HCK := Lib.hid hck; have HNM := Lib.hid hnm
            clear hck hnm hz hq hsz
            go_enter Try.func116, Try.ntmps116
            go_wp2_with fail
            refine (HNM.out _).mono ?_
            rintro e w2 ⟨rfl, hb2⟩
            have hx := HX.out.step hb2
            obtain ⟨p0, p1, p2, r0, r1, r2, z0, z1, z2⟩ := hx.cells
            have HX := Lib.hid hx; clear hx hb2
            go_wp2
            refine bodyPost_ret (results_cell_row2 rfl _ _ (w.heap.size + 1) _ #[.int .i64 0, .string ⟨#[]⟩, .string ⟨#[]⟩] (0, 0) _ rfl (set3 HX.out.r _ _ _) Try.underlying45 rfl row_rg.hi) rfl ⟨?_, ?_⟩
            · rw [HE.out, HG.out]; rfl
            · exact ((HX.out.bel.setCell (by simp) _).setCell (by simp) _).setCell (by simp) _
          · have hsz : decide (256 < val.size) = false := by simpa using h256
            have hbg : decide ((9007199254740992 : Int) ≤ 0) = false := by decide
            have HE : Hid (nextErr ⟨0, b, v⟩ by_ val = 0) := Lib.hid (by unfold nextErr nxE; simp [hz, hq, hsz, hbg])
            have HG : Hid ((nextRg ⟨0, b, v⟩ by_ val).arr = #[.int .i64 1, .string by_, .string val]) := Lib.hid (by unfold nextRg; rw [HE.out]; rfl)
            have HCK := Lib.hid hck; have HNM := Lib.hid hnm
            clear hck hnm hz hq hsz hbg
            go_enter Try.func116, Try.ntmps116
            go_wp2_with fail
            refine (HNM.out _).mono ?_
            rintro e w2 ⟨rfl, hb2⟩
            have hx := HX.out.step hb2
            obtain ⟨p0, p1, p2, r0, r1, r2, z0, z1, z2⟩ := hx.cells
            have HX := Lib.hid hx; clear hx hb2
            go_wp2
            refine bodyPost_ret (results_cell_row2 rfl _ _ (w.heap.size + 1) _ #[.int .i64 1, .string by_, .string val] (0, 0) _ rfl (set3 HX.out.r _ _ _) Try.underlying45 rfl row_rg.hi) rfl ⟨?_, ?_⟩
            · rw [HE.out, HG.out]; rfl
            · exact ((HX.out.bel.setCell (by simp) _).setCell (by simp) _).setCell (by simp) _
      · have hz : zRB ⟨n, b, v⟩ = false := by unfold zRB; simp [hv0]
        subst hn0
        generalize hm : mayR ⟨0, b, v⟩ = p at hck
        cases p
        · have HE : Hid (nextErr ⟨0, b, v⟩ by_ val = 1) := Lib.hid (by unfold nextErr nxE; simp [hz, hm])
          have HG : Hid ((nextRg ⟨0, b, v⟩ by_ val).arr = #[.int .i64 0, .string ⟨#[]⟩, .string ⟨#[]⟩]) := Lib.hid (by unfold nextRg; rw [HE.out]; rfl)
          have HCK := Lib.hid hck; have HNM := Lib.hid hnm
          clear hck hnm hz hm
          go_enter Try.func116, Try.ntmps116
          go_wp2_with fail
          refine (HCK.out _).mono ?_
          rintro e w1 ⟨rfl, hb1⟩
          have hx := HX.out.step hb1
          obtain ⟨p0, p1, p2, r0, r1, r2, z0, z1, z2⟩ := hx.cells
          have HX := Lib.hid hx; clear hx hb1
          go_wp2_with fail
          refine bodyPost_ret (results_cell_row2 rfl _ _ (w.heap.size + 1) _ #[.int .i64 0, .string ⟨#[]⟩, .string ⟨#[]⟩] (0, 0) _ rfl (set3 HX.out.r _ _ _) Try.underlying45 rfl row_rg.hi) rfl ⟨?_, ?_⟩
          · rw [HE.out, HG.out]; rfl
          · exact ((HX.out.bel.setCell (by simp) _).setCell (by simp) _).setCell (by simp) _
        · generalize hq : nameB by_ = q at hnm
          cases q
          · have HE : Hid (nextErr ⟨0, b, v⟩ by_ val = 1) := Lib.hid (by unfold nextErr nxE; simp [hz, hm, hq])
            have HG : Hid ((nextRg ⟨0, b, v⟩ by_ val).arr = #[.int .i64 0, .string ⟨#[]⟩, .string ⟨#[]⟩]) := Lib.hid (by unfold nextRg; rw [HE.out]; rfl)
            have HCK := Lib.hid hck; have HNM := Lib.hid hnm
            clear hck hnm hz hm hq
            go_enter Try.func116, Try.ntmps116
            go_wp2_with fail
            refine (HCK.out _).mono ?_
            rintro e w1 ⟨rfl, hb1⟩
            have hx := HX.out.step hb1
            obtain ⟨p0, p1, p2, r0, r1, r2, z0, z1, z2⟩ := hx.cells
            have HX := Lib.hid hx; clear hx hb1
            go_wp2_with fail
            refine (HNM.out _).mono ?_
            rintro e w2 ⟨rfl, hb2⟩
            have hx := HX.out.step hb2
            obtain ⟨p0, p1, p2, r0, r1, r2, z0, z1, z2⟩ := hx.cells
            have HX := Lib.hid hx; clear hx hb2
            go_wp2
            refine bodyPost_ret (results_cell_row2 rfl _ _ (w.heap.size + 1) _ #[.int .i64 0, .string ⟨#[]⟩, .string ⟨#[]⟩] (0, 0) _ rfl (set3 HX.out.r _ _ _) Try.underlying45 rfl row_rg.hi) rfl ⟨?_, ?_⟩
            · rw [HE.out, HG.out]; rfl
            · exact ((HX.out.bel.setCell (by simp) _).setCell (by simp) _).setCell (by simp) _
          · by_cases h256 : 256 < val.size
            · have hsz : decide (256 < val.size) = true := by simpa using h256
              have HE : Hid (nextErr ⟨0, b, v⟩ by_ val = 1) := Lib.hid (by unfold nextErr nxE; simp [hz, hm, hq, hsz])
              have HG : Hid ((nextRg ⟨0, b, v⟩ by_ val).arr = #[.int .i64 0, .string ⟨#[]⟩, .string ⟨#[]⟩]) := Lib.hid (by unfold nextRg; rw [HE.out]; rfl)
              have HCK := Lib.hid hck; have HNM := Lib.hid hnm
              clear hck hnm hz hm hq hsz
              go_enter Try.func116, Try.ntmps116
              go_wp2_with fail
              refine (HCK.out _).mono ?_
              rintro e w1 ⟨rfl, hb1⟩
              have hx := HX.out.step hb1
              obtain ⟨p0, p1, p2, r0, r1, r2, z0, z1, z2⟩ := hx.cells
              have HX := Lib.hid hx; clear hx hb1
              go_wp2_with fail
              refine (HNM.out _).mono ?_
              rintro e w2 ⟨rfl, hb2⟩
              have hx := HX.out.step hb2
              obtain ⟨p0, p1, p2, r0, r1, r2, z0, z1, z2⟩ := hx.cells
              have HX := Lib.hid hx; clear hx hb2
              go_wp2
              refine bodyPost_ret (results_cell_row2 rfl _ _ (w.heap.size + 1) _ #[.int .i64 0, .string ⟨#[]⟩, .string ⟨#[]⟩] (0, 0) _ rfl (set3 HX.out.r _ _ _) Try.underlying45 rfl row_rg.hi) rfl ⟨?_, ?_⟩
              · rw [HE.out, HG.out]; rfl
              · exact ((HX.out.bel.setCell (by simp) _).setCell (by simp) _).setCell (by simp) _
            · have hsz : decide (256 < val.size) = false := by simpa using h256
              have hbg : decide ((9007199254740992 : Int) ≤ 0) = false := by decide
              have HE : Hid (nextErr ⟨0, b, v⟩ by_ val = 0) := Lib.hid (by unfold nextErr nxE; simp [hz, hm, hq, hsz, hbg])
              have HG : Hid ((nextRg ⟨0, b, v⟩ by_ val).arr = #[.int .i64 1, .string by_, .string val]) := Lib.hid (by unfold nextRg; rw [HE.out]; rfl)
              have HCK := Lib.hid hck; have HNM := Lib.hid hnm
              clear hck hnm hz hm hq hsz hbg
              go_enter Try.func116, Try.ntmps116
              go_wp2_with fail
              refine (HCK.out _).mono ?_
              rintro e w1 ⟨rfl, hb1⟩
              have hx := HX.out.step hb1
              obtain ⟨p0, p1, p2, r0, r1, r2, z0, z1, z2⟩ := hx.cells
              have HX := Lib.hid hx; clear hx hb1
              go_wp2_with fail
              refine (HNM.out _).mono ?_
              rintro e w2 ⟨rfl, hb2⟩
              have hx := HX.out.step hb2
              obtain ⟨p0, p1, p2, r0, r1, r2, z0, z1, z2⟩ := hx.cells
              have HX := Lib.hid hx; clear hx hb2
              go_wp2
              refine bodyPost_ret (results_cell_row2 rfl _ _ (w.heap.size + 1) _ #[.int .i64 1, .string by_, .string val] (0, 0) _ rfl (set3 HX.out.r _ _ _) Try.underlying45 rfl row_rg.hi) rfl ⟨?_, ?_⟩
              · rw [HE.out, HG.out]; rfl
              · exact ((HX.out.bel.setCell (by simp) _).setCell (by simp) _).setCell (by simp) _
    · have hz : zRB ⟨n, b, v⟩ = false := by unfold zRB; simp [hb0]
      subst hn0
      generalize hm : mayR ⟨0, b, v⟩ = p at hck
      cases p
      · have HE : Hid (nextErr ⟨0, b, v⟩ by_ val = 1) := Lib.hid (by unfold nextErr nxE; simp [hz, hm])
        have HG : Hid ((nextRg ⟨0, b, v⟩ by_ val).arr = #[.int .i64 0, .string ⟨#[]⟩, .string ⟨#[]⟩]) := Lib.hid (by unfold nextRg; rw [HE.out]; rfl)
        have HCK := Lib.hid hck; have HNM := Lib.hid hnm
        clear hck hnm hz hm
        go_enter Try.func116, Try.ntmps116
        go_wp2_with fail
        refine (HCK.out _).mono ?_
        rintro e w1 ⟨rfl, hb1⟩
        have hx := HX.out.step hb1
        obtain ⟨p0, p1, p2, r0, r1, r2, z0, z1, z2⟩ := hx.cells
        have HX := Lib.hid hx; clear hx hb1
        go_wp2_with fail
        refine bodyPost_ret (results_cell_row2 rfl _ _ (w.heap.size + 1) _ #[.int .i64 0, .string ⟨#[]⟩, .string ⟨#[]⟩] (0, 0) _ rfl (set3 HX.out.r _ _ _) Try.underlying45 rfl row_rg.hi) rfl ⟨?_, ?_⟩
        · rw [HE.out, HG.out]; rfl
        · exact ((HX.out.bel.setCell (by simp) _).setCell (by simp) _).setCell (by simp) _
      · generalize hq : nameB by_ = q at hnm
        cases q
        · have HE : Hid (nextErr ⟨0, b, v⟩ by_ val = 1) := Lib.hid (by unfold nextErr nxE; simp [hz, hm, hq])
          have HG : Hid ((nextRg ⟨0, b, v⟩ by_ val).arr = #[.int .i64 0, .string ⟨#[]⟩, .string ⟨#[]⟩]) := Lib.hid (by unfold nextRg; rw [HE.out]; rfl)
          have HCK := Lib.hid hck; have HNM := Lib.hid hnm
          clear hck hnm hz hm hq
          go_enter Try.func116, Try.ntmps116
          go_wp2_with fail
          refine (HCK.out _).mono ?_
          rintro e w1 ⟨rfl, hb1⟩
          have hx := HX.out.step hb1
          obtain ⟨p0, p1, p2, r0, r1, r2, z0, z1, z2⟩ := hx.cells
          have HX := Lib.hid hx; clear hx hb1
          go_wp2_with fail
          refine (HNM.out _).mono ?_
          rintro e w2 ⟨rfl, hb2⟩
          have hx := HX.out.step hb2
          obtain ⟨p0, p1, p2, r0, r1, r2, z0, z1, z2⟩ := hx.cells
          have HX := Lib.hid hx; clear hx hb2
          go_wp2
          refine bodyPost_ret (results_cell_row2 rfl _ _ (w.heap.size + 1) _ #[.int .i64 0, .string ⟨#[]⟩, .string ⟨#[]⟩] (0, 0) _ rfl (set3 HX.out.r _ _ _) Try.underlying45 rfl row_rg.hi) rfl ⟨?_, ?_⟩
          · rw [HE.out, HG.out]; rfl
          · exact ((HX.out.bel.setCell (by simp) _).setCell (by simp) _).setCell (by simp) _
        · by_cases h256 : 256 < val.size
          · have hsz : decide (256 < val.size) = true := by simpa using h256
            have HE : Hid (nextErr ⟨0, b, v⟩ by_ val = 1) := Lib.hid (by unfold nextErr nxE; simp [hz, hm, hq, hsz])
            have HG : Hid ((nextRg ⟨0, b, v⟩ by_ val).arr = #[.int .i64 0, .string ⟨#[]⟩, .string ⟨#[]⟩]) := Lib.hid (by unfold nextRg; rw [HE.out]; rfl)
            have HCK := Lib.hid hck; have HNM := Lib.hid hnm
            clear hck hnm hz hm hq hsz
            go_enter Try.func116, Try.ntmps116
            go_wp2_with fail
            refine (HCK.out _).mono ?_
            rintro e w1 ⟨rfl, hb1⟩
            have hx := HX.out.step hb1
            obtain ⟨p0, p1, p2, r0, r1, r2, z0, z1, z2⟩ := hx.cells
            have HX := Lib.hid hx; clear hx hb1
            go_wp2_with fail
            refine (HNM.out _).mono ?_
            rintro e w2 ⟨rfl, hb2⟩
            have hx := HX.out.step hb2
            obtain ⟨p0, p1, p2, r0, r1, r2, z0, z1, z2⟩ := hx.cells
            have HX := Lib.hid hx; clear hx hb2
            go_wp2
            refine bodyPost_ret (results_cell_row2 rfl _ _ (w.heap.size + 1) _ #[.int .i64 0, .string ⟨#[]⟩, .string ⟨#[]⟩] (0, 0) _ rfl (set3 HX.out.r _ _ _) Try.underlying45 rfl row_rg.hi) rfl ⟨?_, ?_⟩
            · rw [HE.out, HG.out]; rfl
            · exact ((HX.out.bel.setCell (by simp) _).setCell (by simp) _).setCell (by simp) _
          · have hsz : decide (256 < val.size) = false := by simpa using h256
            have hbg : decide ((9007199254740992 : Int) ≤ 0) = false := by decide
            have HE : Hid (nextErr ⟨0, b, v⟩ by_ val = 0) := Lib.hid (by unfold nextErr nxE; simp [hz, hm, hq, hsz, hbg])
            have HG : Hid ((nextRg ⟨0, b, v⟩ by_ val).arr = #[.int .i64 1, .string by_, .string val]) := Lib.hid (by unfold nextRg; rw [HE.out]; rfl)
            have HCK := Lib.hid hck; have HNM := Lib.hid hnm
            clear hck hnm hz hm hq hsz hbg
            go_enter Try.func116, Try.ntmps116
            go_wp2_with fail
            refine (HCK.out _).mono ?_
            rintro e w1 ⟨rfl, hb1⟩
            have hx := HX.out.step hb1
            obtain ⟨p0, p1, p2, r0, r1, r2, z0, z1, z2⟩ := hx.cells
            have HX := Lib.hid hx; clear hx hb1
            go_wp2_with fail
            refine (HNM.out _).mono ?_
            rintro e w2 ⟨rfl, hb2⟩
            have hx := HX.out.step hb2
            obtain ⟨p0, p1, p2, r0, r1, r2, z0, z1, z2⟩ := hx.cells
            have HX := Lib.hid hx; clear hx hb2
            go_wp2
            refine bodyPost_ret (results_cell_row2 rfl _ _ (w.heap.size + 1) _ #[.int .i64 1, .string by_, .string val] (0, 0) _ rfl (set3 HX.out.r _ _ _) Try.underlying45 rfl row_rg.hi) rfl ⟨?_, ?_⟩
            · rw [HE.out, HG.out]; rfl
            · exact ((HX.out.bel.setCell (by simp) _).setCell (by simp) _).setCell (by simp) _
  · have hz : zRB ⟨n, b, v⟩ = false := by unfold zRB; simp [hn0]
    generalize hm : mayR ⟨n, b, v⟩ = p at hck
    cases p
    · have HE : Hid (nextErr ⟨n, b, v⟩ by_ val = 1) := Lib.hid (by unfold nextErr nxE; simp [hz, hm])
      have HG : Hid ((nextRg ⟨n, b, v⟩ by_ val).arr = #[.int .i64 0, .string ⟨#[]⟩, .string ⟨#[]⟩]) := Lib.hid (by unfold nextRg; rw [HE.out]; rfl)
      have HCK := Lib.hid hck; have HNM := Lib.hid hnm
      clear hck hnm hz hm
      go_enter Try.func116, Try.ntmps116
      go_wp2_with fail
      refine (HCK.out _).mono ?_
      rintro e w1 ⟨rfl, hb1⟩
      have hx := HX.out.step hb1
      obtain ⟨p0, p1, p2, r0, r1, r2, z0, z1, z2⟩ := hx.cells
      have HX := Lib.hid hx; clear hx hb1
      go_wp2_with fail
      refine bodyPost_ret (results_cell_row2 rfl _ _ (w.heap.size + 1) _ #[.int .i64 0, .string ⟨#[]⟩, .string ⟨#[]⟩] (0, 0) _ rfl (set3 HX.out.r _ _ _) Try.underlying45 rfl row_rg.hi) rfl ⟨?_, ?_⟩
      · rw [HE.out, HG.out]; rfl
      · exact ((HX.out.bel.setCell (by simp) _).setCell (by simp) _).setCell (by simp) _
    · generalize hq : nameB by_ = q at hnm
      cases q
      · have HE : Hid (nextErr ⟨n, b, v⟩ by_ val = 1) := Lib.hid (by unfold nextErr nxE; simp [hz, hm, hq])
        have HG : Hid ((nextRg ⟨n, b, v⟩ by_ val).arr = #[.int .i64 0, .string ⟨#[]⟩, .string ⟨#[]⟩]) := Lib.hid (by unfold nextRg; rw [HE.out]; rfl)
        have hn1 : 1 ≤ n := (mayR_iff.1 hm).1
        have HCK := Lib.hid hck; have HNM := Lib.hid hnm
        clear hck hnm hz hm hq
        go_enter Try.func116, Try.ntmps116
        go_wp2_with fail
        refine (HCK.out _).mono ?_
        rintro e w1 ⟨rfl, hb1⟩
        have hx := HX.out.step hb1
        obtain ⟨p0, p1, p2, r0, r1, r2, z0, z1, z2⟩ := hx.cells
        have HX := Lib.hid hx; clear hx hb1
        go_wp2_with fail
        refine (HNM.out _).mono ?_
        rintro e w2 ⟨rfl, hb2⟩
        have hx := HX.out.step hb2
        obtain ⟨p0, p1, p2, r0, r1, r2, z0, z1, z2⟩ := hx.cells
        have HX := Lib.hid hx; clear hx hb2
        go_wp2
        refine bodyPost_ret (results_cell_row2 rfl _ _ (w.heap.size + 1) _ #[.int .i64 0, .string ⟨#[]⟩, .string ⟨#[]⟩] (0, 0) _ rfl (set3 HX.out.r _ _ _) Try.underlying45 rfl row_rg.hi) rfl ⟨?_, ?_⟩
        · rw [HE.out, HG.out]; rfl
        · exact ((HX.out.bel.setCell (by simp) _).setCell (by simp) _).setCell (by simp) _
      · by_cases h256 : 256 < val.size
        · have hsz : decide (256 < val.size) = true := by simpa using h256
          have HE : Hid (nextErr ⟨n, b, v⟩ by_ val = 1) := Lib.hid (by unfold nextErr nxE; simp [hz, hm, hq, hsz])
          have HG : Hid ((nextRg ⟨n, b, v⟩ by_ val).arr = #[.int .i64 0, .string ⟨#[]⟩, .string ⟨#[]⟩]) := Lib.hid (by unfold nextRg; rw [HE.out]; rfl)
          have hn1 : 1 ≤ n := (mayR_iff.1 hm).1
          have HCK := Lib.hid hck; have HNM := Lib.hid hnm
          clear hck hnm hz hm hq hsz
          go_enter Try.func116, Try.ntmps116
          go_wp2_with fail
          refine (HCK.out _).mono ?_
          rintro e w1 ⟨rfl, hb1⟩
          have hx := HX.out.step hb1
          obtain ⟨p0, p1, p2, r0, r1, r2, z0, z1, z2⟩ := hx.cells
          have HX := Lib.hid hx; clear hx hb1
          go_wp2_with fail
          refine (HNM.out _).mono ?_
          rintro e w2 ⟨rfl, hb2⟩
          have hx := HX.out.step hb2
          obtain ⟨p0, p1, p2, r0, r1, r2, z0, z1, z2⟩ := hx.cells
          have HX := Lib.hid hx; clear hx hb2
          go_wp2
          refine bodyPost_ret (results_cell_row2 rfl _ _ (w.heap.size + 1) _ #[.int .i64 0, .string ⟨#[]⟩, .string ⟨#[]⟩] (0, 0) _ rfl (set3 HX.out.r _ _ _) Try.underlying45 rfl row_rg.hi) rfl ⟨?_, ?_⟩
          · rw [HE.out, HG.out]; rfl
          · exact ((HX.out.bel.setCell (by simp) _).setCell (by simp) _).setCell (by simp) _
        · have hsz : decide (256 < val.size) = false := by simpa using h256
          by_cases h53 : 9007199254740992 ≤ n
          · have hbg : decide (9007199254740992 ≤ n) = true := by simpa using h53
            have HE : Hid (nextErr ⟨n, b, v⟩ by_ val = 4) := Lib.hid (by unfold nextErr nxE; simp [hz, hm, hq, hsz, hbg])
            have HG : Hid ((nextRg ⟨n, b, v⟩ by_ val).arr = #[.int .i64 0, .string ⟨#[]⟩, .string ⟨#[]⟩]) := Lib.hid (by unfold nextRg; rw [HE.out]; rfl)
            have hn1 : 1 ≤ n := (mayR_iff.1 hm).1
            have HCK := Lib.hid hck; have HNM := Lib.hid hnm
            clear hck hnm hz hm hq hsz hbg
            go_enter Try.func116, Try.ntmps116
            go_wp2_with fail
            refine (HCK.out _).mono ?_
            rintro e w1 ⟨rfl, hb1⟩
            have hx := HX.out.step hb1
            obtain ⟨p0, p1, p2, r0, r1, r2, z0, z1, z2⟩ := hx.cells
            have HX := Lib.hid hx; clear hx hb1
            go_wp2_with fail
            refine (HNM.out _).mono ?_
            rintro e w2 ⟨rfl, hb2⟩
            have hx := HX.out.step hb2
            obtain ⟨p0, p1, p2, r0, r1, r2, z0, z1, z2⟩ := hx.cells
            have HX := Lib.hid hx; clear hx hb2
            go_wp2
            refine bodyPost_ret (results_cell_row2 rfl _ _ (w.heap.size + 1) _ #[.int .i64 0, .string ⟨#[]⟩, .string ⟨#[]⟩] (0, 0) _ rfl (set3 HX.out.r _ _ _) Try.underlying45 rfl row_rg.hi) rfl ⟨?_, ?_⟩
            · rw [HE.out, HG.out]; rfl
            · exact ((HX.out.bel.setCell (by simp) _).setCell (by simp) _).setCell (by simp) _
          · have hbg : decide (9007199254740992 ≤ n) = false := by simpa using h53
            have HE : Hid (nextErr ⟨n, b, v⟩ by_ val = 0) := Lib.hid (by unfold nextErr nxE; simp [hz, hm, hq, hsz, hbg])
            have HG : Hid ((nextRg ⟨n, b, v⟩ by_ val).arr = #[.int .i64 (n + 1), .string by_, .string val]) := Lib.hid (by unfold nextRg; rw [HE.out]; rfl)
            have hn1 : 1 ≤ n := (mayR_iff.1 hm).1
            have HCK := Lib.hid hck; have HNM := Lib.hid hnm
            clear hck hnm hz hm hq hsz hbg
            go_enter Try.func116, Try.ntmps116
            go_wp2_with fail
            refine (HCK.out _).mono ?_
            rintro e w1 ⟨rfl, hb1⟩
            have hx := HX.out.step hb1
            obtain ⟨p0, p1, p2, r0, r1, r2, z0, z1, z2⟩ := hx.cells
            have HX := Lib.hid hx; clear hx hb1
            go_wp2_with fail
            refine (HNM.out _).mono ?_
            rintro e w2 ⟨rfl, hb2⟩
            have hx := HX.out.step hb2
            obtain ⟨p0, p1, p2, r0, r1, r2, z0, z1, z2⟩ := hx.cells
            have HX := Lib.hid hx; clear hx hb2
            go_wp2
            refine bodyPost_ret (results_cell_row2 rfl _ _ (w.heap.size + 1) _ #[.int .i64 (n + 1), .string by_, .string val] (0, 0) _ rfl (set3 HX.out.r _ _ _) Try.underlying45 rfl row_rg.hi) rfl ⟨?_, ?_⟩
            · rw [HE.out, HG.out]; rfl
            · exact ((HX.out.bel.setCell (by simp) _).setCell (by simp) _).setCell (by simp) _
set_option maxRecDepth 100000 in
set_option maxHeartbeats 8000000 in
theorem rnext09_any (r : Rg) (by_ val : ByteArray) (w : World) (hs : r.by_.size ≤ maxLen) (hv : r.value.size ≤ maxLen) (hb : by_.size ≤ maxLen) (hl : val.size ≤ maxLen) : Calls Try.prog 117 #[.agg r.arr, .string by_, .string val] w (NextR r by_ val w) := by
  obtain ⟨n, b, v⟩ := r
  have hck := fun W => may09_any ⟨n, b, v⟩ W hs hv
  have hnm : ∀ W, Calls Try.prog 74 #[.string by_] W fun e w' => e = .returned (.bool (nameB by_)) ∧ Below W.heap.size W w' := fun W => (refIs_any by_ W hb).mono fun _ _ ⟨h1, h2⟩ => ⟨h1, h2 ▸ Below.refl _ _⟩
  simp only [Rg.arr] at hck ⊢
  try simp only at hck
  clear hs hv hb
  unfold maxLen at hl
  have HX := Lib.hid (NX.start w n b v)
  by_cases hn0 : n = 0
  · by_cases hb0 : b.toList = []
    · by_cases hv0 : v.toList = []
      · subst hn0
        have hz : zRB ⟨0, b, v⟩ = true := by unfold zRB; simp [isEmpty_nil hb0, isEmpty_nil hv0]
        generalize hq : nameB by_ = q at hnm
        cases q
        · have HE : Hid (nextErr ⟨0, b, v⟩ by_ val = 1) := Lib.hid (by unfold nextErr nxE; simp [hz, hq])
          have HG : Hid ((nextRg ⟨0, b, v⟩ by_ val).arr = #[.int .i64 0, .string ⟨#[]⟩, .string ⟨#[]⟩]) := Lib.hid (by unfold nextRg; rw [HE.out]; rfl)
          have HCK := Lib.hid hck; have HNM := Lib.hid hnm
          clear hck hnm hz hq
          go_enter Try.func117, Try.ntmps117
          go_wp2_with fail
          refine (HNM.out _).mono ?_
          rintro e w2 ⟨rfl, hb2⟩
          have hx := HX.out.step hb2
          obtain ⟨p0, p1, p2, r0, r1, r2, z0, z1, z2⟩ := hx.cells
          have HX := Lib.hid hx; clear hx hb2
          go_wp2
          refine bodyPost_ret (results_cell_row2 rfl _ _ (w.heap.size + 1) _ #[.int .i64 0, .string ⟨#[]⟩, .string ⟨#[]⟩] (0, 0) _ rfl (set3 HX.out.r _ _ _) Try.underlying45 rfl row_rg.hi) rfl ⟨?_, ?_⟩
          · rw [HE.out, HG.out]; rfl
          · exact ((HX.out.bel.setCell (by simp) _).setCell (by simp) _).setCell (by simp) _
        · by_cases h256 : 256 < val.size
          · have hsz : decide (256 < val.size) = true := by simpa using h256
            have HE : Hid (nextErr ⟨0, b, v⟩ by_ val = 1) := Lib.hid (by unfold nextErr nxE; simp [hz, hq, hsz])
            have HG : Hid ((nextRg ⟨0, b, v⟩ by_ val).arr = #[.int .i64 0, .string ⟨#[]⟩, .string ⟨#[]⟩]) := Lib.hid (by unfold nextRg; rw [HE.out]; rfl)
            have HCK := Lib.hid hck; have HNM := Lib.hid hnm
            clear hck hnm hz hq hsz
            go_enter Try.func117, Try.ntmps117
            go_wp2_with fail
            refine (HNM.out _).mono ?_
            rintro e w2 ⟨rfl, hb2⟩
            have hx := HX.out.step hb2
            obtain ⟨p0, p1, p2, r0, r1, r2, z0, z1, z2⟩ := hx.cells
            have HX := Lib.hid hx; clear hx hb2
            go_wp2
            refine bodyPost_ret (results_cell_row2 rfl _ _ (w.heap.size + 1) _ #[.int .i64 0, .string ⟨#[]⟩, .string ⟨#[]⟩] (0, 0) _ rfl (set3 HX.out.r _ _ _) Try.underlying45 rfl row_rg.hi) rfl ⟨?_, ?_⟩
            · rw [HE.out, HG.out]; rfl
            · exact ((HX.out.bel.setCell (by simp) _).setCell (by simp) _).setCell (by simp) _
          · have hsz : decide (256 < val.size) = false := by simpa using h256
            have hbg : decide ((9007199254740992 : Int) ≤ 0) = false := by decide
            have HE : Hid (nextErr ⟨0, b, v⟩ by_ val = 0) := Lib.hid (by unfold nextErr nxE; simp [hz, hq, hsz, hbg])
            have HG : Hid ((nextRg ⟨0, b, v⟩ by_ val).arr = #[.int .i64 1, .string by_, .string val]) := Lib.hid (by unfold nextRg; rw [HE.out]; rfl)
            have HCK := Lib.hid hck; have HNM := Lib.hid hnm
            clear hck hnm hz hq hsz hbg
            go_enter Try.func117, Try.ntmps117
            go_wp2_with fail
            refine (HNM.out _).mono ?_
            rintro e w2 ⟨rfl, hb2⟩
            have hx := HX.out.step hb2
            obtain ⟨p0, p1, p2, r0, r1, r2, z0, z1, z2⟩ := hx.cells
            have HX := Lib.hid hx; clear hx hb2
            go_wp2
            refine bodyPost_ret (results_cell_row2 rfl _ _ (w.heap.size + 1) _ #[.int .i64 1, .string by_, .string val] (0, 0) _ rfl (set3 HX.out.r _ _ _) Try.underlying45 rfl row_rg.hi) rfl ⟨?_, ?_⟩
            · rw [HE.out, HG.out]; rfl
            · exact ((HX.out.bel.setCell (by simp) _).setCell (by simp) _).setCell (by simp) _
      · have hz : zRB ⟨n, b, v⟩ = false := by unfold zRB; simp [hv0]
        subst hn0
        generalize hm : mayR ⟨0, b, v⟩ = p at hck
        cases p
        · have HE : Hid (nextErr ⟨0, b, v⟩ by_ val = 1) := Lib.hid (by unfold nextErr nxE; simp [hz, hm])
          have HG : Hid ((nextRg ⟨0, b, v⟩ by_ val).arr = #[.int .i64 0, .string ⟨#[]⟩, .string ⟨#[]⟩]) := Lib.hid (by unfold nextRg; rw [HE.out]; rfl)
          have HCK := Lib.hid hck; have HNM := Lib.hid hnm
          clear hck hnm hz hm
          go_enter Try.func117, Try.ntmps117
          go_wp2_with fail
          refine (HCK.out _).mono ?_
          rintro e w1 ⟨rfl, hb1⟩
          have hx := HX.out.step hb1
          obtain ⟨p0, p1, p2, r0, r1, r2, z0, z1, z2⟩ := hx.cells
          have HX := Lib.hid hx; clear hx hb1
          go_wp2_with fail
          refine bodyPost_ret (results_cell_row2 rfl _ _ (w.heap.size + 1) _ #[.int .i64 0, .string ⟨#[]⟩, .string ⟨#[]⟩] (0, 0) _ rfl (set3 HX.out.r _ _ _) Try.underlying45 rfl row_rg.hi) rfl ⟨?_, ?_⟩
          · rw [HE.out, HG.out]; rfl
          · exact ((HX.out.bel.setCell (by simp) _).setCell (by simp) _).setCell (by simp) _
        · generalize hq : nameB by_ = q at hnm
          cases q
          · have HE : Hid (nextErr ⟨0, b, v⟩ by_ val = 1) := Lib.hid (by unfold nextErr nxE; simp [hz, hm, hq])
            have HG : Hid ((nextRg ⟨0, b, v⟩ by_ val).arr = #[.int .i64 0, .string ⟨#[]⟩, .string ⟨#[]⟩]) := Lib.hid (by unfold nextRg; rw [HE.out]; rfl)
            have HCK := Lib.hid hck; have HNM := Lib.hid hnm
            clear hck hnm hz hm hq
            go_enter Try.func117, Try.ntmps117
            go_wp2_with fail
            refine (HCK.out _).mono ?_
            rintro e w1 ⟨rfl, hb1⟩
            have hx := HX.out.step hb1
            obtain ⟨p0, p1, p2, r0, r1, r2, z0, z1, z2⟩ := hx.cells
            have HX := Lib.hid hx; clear hx hb1
            go_wp2_with fail
            refine (HNM.out _).mono ?_
            rintro e w2 ⟨rfl, hb2⟩
            have hx := HX.out.step hb2
            obtain ⟨p0, p1, p2, r0, r1, r2, z0, z1, z2⟩ := hx.cells
            have HX := Lib.hid hx; clear hx hb2
            go_wp2
            refine bodyPost_ret (results_cell_row2 rfl _ _ (w.heap.size + 1) _ #[.int .i64 0, .string ⟨#[]⟩, .string ⟨#[]⟩] (0, 0) _ rfl (set3 HX.out.r _ _ _) Try.underlying45 rfl row_rg.hi) rfl ⟨?_, ?_⟩
            · rw [HE.out, HG.out]; rfl
            · exact ((HX.out.bel.setCell (by simp) _).setCell (by simp) _).setCell (by simp) _
          · by_cases h256 : 256 < val.size
            · have hsz : decide (256 < val.size) = true := by simpa using h256
              have HE : Hid (nextErr ⟨0, b, v⟩ by_ val = 1) := Lib.hid (by unfold nextErr nxE; simp [hz, hm, hq, hsz])
              have HG : Hid ((nextRg ⟨0, b, v⟩ by_ val).arr = #[.int .i64 0, .string ⟨#[]⟩, .string ⟨#[]⟩]) := Lib.hid (by unfold nextRg; rw [HE.out]; rfl)
              have HCK := Lib.hid hck; have HNM := Lib.hid hnm
              clear hck hnm hz hm hq hsz
              go_enter Try.func117, Try.ntmps117
              go_wp2_with fail
              refine (HCK.out _).mono ?_
              rintro e w1 ⟨rfl, hb1⟩
              have hx := HX.out.step hb1
              obtain ⟨p0, p1, p2, r0, r1, r2, z0, z1, z2⟩ := hx.cells
              have HX := Lib.hid hx; clear hx hb1
              go_wp2_with fail
              refine (HNM.out _).mono ?_
              rintro e w2 ⟨rfl, hb2⟩
              have hx := HX.out.step hb2
              obtain ⟨p0, p1, p2, r0, r1, r2, z0, z1, z2⟩ := hx.cells
              have HX := Lib.hid hx; clear hx hb2
              go_wp2
              refine bodyPost_ret (results_cell_row2 rfl _ _ (w.heap.size + 1) _ #[.int .i64 0, .string ⟨#[]⟩, .string ⟨#[]⟩] (0, 0) _ rfl (set3 HX.out.r _ _ _) Try.underlying45 rfl row_rg.hi) rfl ⟨?_, ?_⟩
              · rw [HE.out, HG.out]; rfl
              · exact ((HX.out.bel.setCell (by simp) _).setCell (by simp) _).setCell (by simp) _
            · have hsz : decide (256 < val.size) = false := by simpa using h256
              have hbg : decide ((9007199254740992 : Int) ≤ 0) = false := by decide
              have HE : Hid (nextErr ⟨0, b, v⟩ by_ val = 0) := Lib.hid (by unfold nextErr nxE; simp [hz, hm, hq, hsz, hbg])
              have HG : Hid ((nextRg ⟨0, b, v⟩ by_ val).arr = #[.int .i64 1, .string by_, .string val]) := Lib.hid (by unfold nextRg; rw [HE.out]; rfl)
              have HCK := Lib.hid hck; have HNM := Lib.hid hnm
              clear hck hnm hz hm hq hsz hbg
              go_enter Try.func117, Try.ntmps117
              go_wp2_with fail
              refine (HCK.out _).mono ?_
              rintro e w1 ⟨rfl, hb1⟩
              have hx := HX.out.step hb1
              obtain ⟨p0, p1, p2, r0, r1, r2, z0, z1, z2⟩ := hx.cells
              have HX := Lib.hid hx; clear hx hb1
              go_wp2_with fail
              refine (HNM.out _).mono ?_
              rintro e w2 ⟨rfl, hb2⟩
              have hx := HX.out.step hb2
              obtain ⟨p0, p1, p2, r0, r1, r2, z0, z1, z2⟩ := hx.cells
              have HX := Lib.hid hx; clear hx hb2
              go_wp2
              refine bodyPost_ret (results_cell_row2 rfl _ _ (w.heap.size + 1) _ #[.int .i64 1, .string by_, .string val] (0, 0) _ rfl (set3 HX.out.r _ _ _) Try.underlying45 rfl row_rg.hi) rfl ⟨?_, ?_⟩
              · rw [HE.out, HG.out]; rfl
              · exact ((HX.out.bel.setCell (by simp) _).setCell (by simp) _).setCell (by simp) _
    · have hz : zRB ⟨n, b, v⟩ = false := by unfold zRB; simp [hb0]
      subst hn0
      generalize hm : mayR ⟨0, b, v⟩ = p at hck
      cases p
      · have HE : Hid (nextErr ⟨0, b, v⟩ by_ val = 1) := Lib.hid (by unfold nextErr nxE; simp [hz, hm])
        have HG : Hid ((nextRg ⟨0, b, v⟩ by_ val).arr = #[.int .i64 0, .string ⟨#[]⟩, .string ⟨#[]⟩]) := Lib.hid (by unfold nextRg; rw [HE.out]; rfl)
        have HCK := Lib.hid hck; have HNM := Lib.hid hnm
        clear hck hnm hz hm
        go_enter Try.func117, Try.ntmps117
        go_wp2_with fail
        refine (HCK.out _).mono ?_
        rintro e w1 ⟨rfl, hb1⟩
        have hx := HX.out.step hb1
        obtain ⟨p0, p1, p2, r0, r1, r2, z0, z1, z2⟩ := hx.cells
        have HX := Lib.hid hx; clear hx hb1
        go_wp2_with fail
        refine bodyPost_ret (results_cell_row2 rfl _ _ (w.heap.size + 1) _ #[.int .i64 0, .string ⟨#[]⟩, .string ⟨#[]⟩] (0, 0) _ rfl (set3 HX.out.r _ _ _) Try.underlying45 rfl row_rg.hi) rfl ⟨?_, ?_⟩
        · rw [HE.out, HG.out]; rfl
        · exact ((HX.out.bel.setCell (by simp) _).setCell (by simp) _).setCell (by simp) _
      · generalize hq : nameB by_ = q at hnm
        cases q
        · have HE : Hid (nextErr ⟨0, b, v⟩ by_ val = 1) := Lib.hid (by unfold nextErr nxE; simp [hz, hm, hq])
          have HG : Hid ((nextRg ⟨0, b, v⟩ by_ val).arr = #[.int .i64 0, .string ⟨#[]⟩, .string ⟨#[]⟩]) := Lib.hid (by unfold nextRg; rw [HE.out]; rfl)
          have HCK := Lib.hid hck; have HNM := Lib.hid hnm
          clear hck hnm hz hm hq
          go_enter Try.func117, Try.ntmps117
          go_wp2_with fail
          refine (HCK.out _).mono ?_
          rintro e w1 ⟨rfl, hb1⟩
          have hx := HX.out.step hb1
          obtain ⟨p0, p1, p2, r0, r1, r2, z0, z1, z2⟩ := hx.cells
          have HX := Lib.hid hx; clear hx hb1
          go_wp2_with fail
          refine (HNM.out _).mono ?_
          rintro e w2 ⟨rfl, hb2⟩
          have hx := HX.out.step hb2
          obtain ⟨p0, p1, p2, r0, r1, r2, z0, z1, z2⟩ := hx.cells
          have HX := Lib.hid hx; clear hx hb2
          go_wp2
          refine bodyPost_ret (results_cell_row2 rfl _ _ (w.heap.size + 1) _ #[.int .i64 0, .string ⟨#[]⟩, .string ⟨#[]⟩] (0, 0) _ rfl (set3 HX.out.r _ _ _) Try.underlying45 rfl row_rg.hi) rfl ⟨?_, ?_⟩
          · rw [HE.out, HG.out]; rfl
          · exact ((HX.out.bel.setCell (by simp) _).setCell (by simp) _).setCell (by simp) _
        · by_cases h256 : 256 < val.size
          · have hsz : decide (256 < val.size) = true := by simpa using h256
            have HE : Hid (nextErr ⟨0, b, v⟩ by_ val = 1) := Lib.hid (by unfold nextErr nxE; simp [hz, hm, hq, hsz])
            have HG : Hid ((nextRg ⟨0, b, v⟩ by_ val).arr = #[.int .i64 0, .string ⟨#[]⟩, .string ⟨#[]⟩]) := Lib.hid (by unfold nextRg; rw [HE.out]; rfl)
            have HCK := Lib.hid hck; have HNM := Lib.hid hnm
            clear hck hnm hz hm hq hsz
            go_enter Try.func117, Try.ntmps117
            go_wp2_with fail
            refine (HCK.out _).mono ?_
            rintro e w1 ⟨rfl, hb1⟩
            have hx := HX.out.step hb1
            obtain ⟨p0, p1, p2, r0, r1, r2, z0, z1, z2⟩ := hx.cells
            have HX := Lib.hid hx; clear hx hb1
            go_wp2_with fail
            refine (HNM.out _).mono ?_
            rintro e w2 ⟨rfl, hb2⟩
            have hx := HX.out.step hb2
            obtain ⟨p0, p1, p2, r0, r1, r2, z0, z1, z2⟩ := hx.cells
            have HX := Lib.hid hx; clear hx hb2
            go_wp2
            refine bodyPost_ret (results_cell_row2 rfl _ _ (w.heap.size + 1) _ #[.int .i64 0, .string ⟨#[]⟩, .string ⟨#[]⟩] (0, 0) _ rfl (set3 HX.out.r _ _ _) Try.underlying45 rfl row_rg.hi) rfl ⟨?_, ?_⟩
            · rw [HE.out, HG.out]; rfl
            · exact ((HX.out.bel.setCell (by simp) _).setCell (by simp) _).setCell (by simp) _
          · have hsz : decide (256 < val.size) = false := by simpa using h256
            have hbg : decide ((9007199254740992 : Int) ≤ 0) = false := by decide
            have HE : Hid (nextErr ⟨0, b, v⟩ by_ val = 0) := Lib.hid (by unfold nextErr nxE; simp [hz, hm, hq, hsz, hbg])
            have HG : Hid ((nextRg ⟨0, b, v⟩ by_ val).arr = #[.int .i64 1, .string by_, .string val]) := Lib.hid (by unfold nextRg; rw [HE.out]; rfl)
            have HCK := Lib.hid hck; have HNM := Lib.hid hnm
            clear hck hnm hz hm hq hsz hbg
            go_enter Try.func117, Try.ntmps117
            go_wp2_with fail
            refine (HCK.out _).mono ?_
            rintro e w1 ⟨rfl, hb1⟩
            have hx := HX.out.step hb1
            obtain ⟨p0, p1, p2, r0, r1, r2, z0, z1, z2⟩ := hx.cells
            have HX := Lib.hid hx; clear hx hb1
            go_wp2_with fail
            refine (HNM.out _).mono ?_
            rintro e w2 ⟨rfl, hb2⟩
            have hx := HX.out.step hb2
            obtain ⟨p0, p1, p2, r0, r1, r2, z0, z1, z2⟩ := hx.cells
            have HX := Lib.hid hx; clear hx hb2
            go_wp2
            refine bodyPost_ret (results_cell_row2 rfl _ _ (w.heap.size + 1) _ #[.int .i64 1, .string by_, .string val] (0, 0) _ rfl (set3 HX.out.r _ _ _) Try.underlying45 rfl row_rg.hi) rfl ⟨?_, ?_⟩
            · rw [HE.out, HG.out]; rfl
            · exact ((HX.out.bel.setCell (by simp) _).setCell (by simp) _).setCell (by simp) _
  · have hz : zRB ⟨n, b, v⟩ = false := by unfold zRB; simp [hn0]
    generalize hm : mayR ⟨n, b, v⟩ = p at hck
    cases p
    · have HE : Hid (nextErr ⟨n, b, v⟩ by_ val = 1) := Lib.hid (by unfold nextErr nxE; simp [hz, hm])
      have HG : Hid ((nextRg ⟨n, b, v⟩ by_ val).arr = #[.int .i64 0, .string ⟨#[]⟩, .string ⟨#[]⟩]) := Lib.hid (by unfold nextRg; rw [HE.out]; rfl)
      have HCK := Lib.hid hck; have HNM := Lib.hid hnm
      clear hck hnm hz hm
      go_enter Try.func117, Try.ntmps117
      go_wp2_with fail
      refine (HCK.out _).mono ?_
      rintro e w1 ⟨rfl, hb1⟩
      have hx := HX.out.step hb1
      obtain ⟨p0, p1, p2, r0, r1, r2, z0, z1, z2⟩ := hx.cells
      have HX := Lib.hid hx; clear hx hb1
      go_wp2_with fail
      refine bodyPost_ret (results_cell_row2 rfl _ _ (w.heap.size + 1) _ #[.int .i64 0, .string ⟨#[]⟩, .string ⟨#[]⟩] (0, 0) _ rfl (set3 HX.out.r _ _ _) Try.underlying45 rfl row_rg.hi) rfl ⟨?_, ?_⟩
      · rw [HE.out, HG.out]; rfl
      · exact ((HX.out.bel.setCell (by simp) _).setCell (by simp) _).setCell (by simp) _
    · generalize hq : nameB by_ = q at hnm
      cases q
      · have HE : Hid (nextErr ⟨n, b, v⟩ by_ val = 1) := Lib.hid (by unfold nextErr nxE; simp [hz, hm, hq])
        have HG : Hid ((nextRg ⟨n, b, v⟩ by_ val).arr = #[.int .i64 0, .string ⟨#[]⟩, .string ⟨#[]⟩]) := Lib.hid (by unfold nextRg; rw [HE.out]; rfl)
        have hn1 : 1 ≤ n := (mayR_iff.1 hm).1
        have HCK := Lib.hid hck; have HNM := Lib.hid hnm
        clear hck hnm hz hm hq
        go_enter Try.func117, Try.ntmps117
        go_wp2_with fail
        refine (HCK.out _).mono ?_
        rintro e w1 ⟨rfl, hb1⟩
        have hx := HX.out.step hb1
        obtain ⟨p0, p1, p2, r0, r1, r2, z0, z1, z2⟩ := hx.cells
        have HX := Lib.hid hx; clear hx hb1
        go_wp2_with fail
        refine (HNM.out _).mono ?_
        rintro e w2 ⟨rfl, hb2⟩
        have hx := HX.out.step hb2
        obtain ⟨p0, p1, p2, r0, r1, r2, z0, z1, z2⟩ := hx.cells
        have HX := Lib.hid hx; clear hx hb2
        go_wp2
        refine bodyPost_ret (results_cell_row2 rfl _ _ (w.heap.size + 1) _ #[.int .i64 0, .string ⟨#[]⟩, .string ⟨#[]⟩] (0, 0) _ rfl (set3 HX.out.r _ _ _) Try.underlying45 rfl row_rg.hi) rfl ⟨?_, ?_⟩
        · rw [HE.out, HG.out]; rfl
        · exact ((HX.out.bel.setCell (by simp) _).setCell (by simp) _).setCell (by simp) _
      · by_cases h256 : 256 < val.size
        · have hsz : decide (256 < val.size) = true := by simpa using h256
          have HE : Hid (nextErr ⟨n, b, v⟩ by_ val = 1) := Lib.hid (by unfold nextErr nxE; simp [hz, hm, hq, hsz])
          have HG : Hid ((nextRg ⟨n, b, v⟩ by_ val).arr = #[.int .i64 0, .string ⟨#[]⟩, .string ⟨#[]⟩]) := Lib.hid (by unfold nextRg; rw [HE.out]; rfl)
          have hn1 : 1 ≤ n := (mayR_iff.1 hm).1
          have HCK := Lib.hid hck; have HNM := Lib.hid hnm
          clear hck hnm hz hm hq hsz
          go_enter Try.func117, Try.ntmps117
          go_wp2_with fail
          refine (HCK.out _).mono ?_
          rintro e w1 ⟨rfl, hb1⟩
          have hx := HX.out.step hb1
          obtain ⟨p0, p1, p2, r0, r1, r2, z0, z1, z2⟩ := hx.cells
          have HX := Lib.hid hx; clear hx hb1
          go_wp2_with fail
          refine (HNM.out _).mono ?_
          rintro e w2 ⟨rfl, hb2⟩
          have hx := HX.out.step hb2
          obtain ⟨p0, p1, p2, r0, r1, r2, z0, z1, z2⟩ := hx.cells
          have HX := Lib.hid hx; clear hx hb2
          go_wp2
          refine bodyPost_ret (results_cell_row2 rfl _ _ (w.heap.size + 1) _ #[.int .i64 0, .string ⟨#[]⟩, .string ⟨#[]⟩] (0, 0) _ rfl (set3 HX.out.r _ _ _) Try.underlying45 rfl row_rg.hi) rfl ⟨?_, ?_⟩
          · rw [HE.out, HG.out]; rfl
          · exact ((HX.out.bel.setCell (by simp) _).setCell (by simp) _).setCell (by simp) _
        · have hsz : decide (256 < val.size) = false := by simpa using h256
          by_cases h53 : 9007199254740992 ≤ n
          · have hbg : decide (9007199254740992 ≤ n) = true := by simpa using h53
            have HE : Hid (nextErr ⟨n, b, v⟩ by_ val = 4) := Lib.hid (by unfold nextErr nxE; simp [hz, hm, hq, hsz, hbg])
            have HG : Hid ((nextRg ⟨n, b, v⟩ by_ val).arr = #[.int .i64 0, .string ⟨#[]⟩, .string ⟨#[]⟩]) := Lib.hid (by unfold nextRg; rw [HE.out]; rfl)
            have hn1 : 1 ≤ n := (mayR_iff.1 hm).1
            have HCK := Lib.hid hck; have HNM := Lib.hid hnm
            clear hck hnm hz hm hq hsz hbg
            go_enter Try.func117, Try.ntmps117
            go_wp2_with fail
            refine (HCK.out _).mono ?_
            rintro e w1 ⟨rfl, hb1⟩
            have hx := HX.out.step hb1
            obtain ⟨p0, p1, p2, r0, r1, r2, z0, z1, z2⟩ := hx.cells
            have HX := Lib.hid hx; clear hx hb1
            go_wp2_with fail
            refine (HNM.out _).mono ?_
            rintro e w2 ⟨rfl, hb2⟩
            have hx := HX.out.step hb2
            obtain ⟨p0, p1, p2, r0, r1, r2, z0, z1, z2⟩ := hx.cells
            have HX := Lib.hid hx; clear hx hb2
            go_wp2
            refine bodyPost_ret (results_cell_row2 rfl _ _ (w.heap.size + 1) _ #[.int .i64 0, .string ⟨#[]⟩, .string ⟨#[]⟩] (0, 0) _ rfl (set3 HX.out.r _ _ _) Try.underlying45 rfl row_rg.hi) rfl ⟨?_, ?_⟩
            · rw [HE.out, HG.out]; rfl
            · exact ((HX.out.bel.setCell (by simp) _).setCell (by simp) _).setCell (by simp) _
          · have hbg : decide (9007199254740992 ≤ n) = false := by simpa using h53
            have HE : Hid (nextErr ⟨n, b, v⟩ by_ val = 0) := Lib.hid (by unfold nextErr nxE; simp [hz, hm, hq, hsz, hbg])
            have HG : Hid ((nextRg ⟨n, b, v⟩ by_ val).arr = #[.int .i64 (n + 1), .string by_, .string val]) := Lib.hid (by unfold nextRg; rw [HE.out]; rfl)
            have hn1 : 1 ≤ n := (mayR_iff.1 hm).1
            have HCK := Lib.hid hck; have HNM := Lib.hid hnm
            clear hck hnm hz hm hq hsz hbg
            go_enter Try.func117, Try.ntmps117
            go_wp2_with fail
            refine (HCK.out _).mono ?_
            rintro e w1 ⟨rfl, hb1⟩
            have hx := HX.out.step hb1
            obtain ⟨p0, p1, p2, r0, r1, r2, z0, z1, z2⟩ := hx.cells
            have HX := Lib.hid hx; clear hx hb1
            go_wp2_with fail
            refine (HNM.out _).mono ?_
            rintro e w2 ⟨rfl, hb2⟩
            have hx := HX.out.step hb2
            obtain ⟨p0, p1, p2, r0, r1, r2, z0, z1, z2⟩ := hx.cells
            have HX := Lib.hid hx; clear hx hb2
            go_wp2
            refine bodyPost_ret (results_cell_row2 rfl _ _ (w.heap.size + 1) _ #[.int .i64 (n + 1), .string by_, .string val] (0, 0) _ rfl (set3 HX.out.r _ _ _) Try.underlying45 rfl row_rg.hi) rfl ⟨?_, ?_⟩
            · rw [HE.out, HG.out]; rfl
            · exact ((HX.out.bel.setCell (by simp) _).setCell (by simp) _).setCell (by simp) _
end Go.Proofs.Ytlmplibdfhamjaa
