/- move.Apply, and the references of the package move: what each returns, for every argument. -/
import Derived.Test.YtebfmacbdjnhbaaMove
namespace Go.Proofs.Ytebfmacbdjnhbaa
open Go.RowKit Go.Mem
set_option linter.unusedVariables false

/-- owners behind moves -/
def applyL : List ByteArray → List Mv → Option (List ByteArray)
  | out, [] => some out
  | out, m :: l => if 0 ≤ m.part ∧ m.part < out.length ∧ out[m.part.toNat]? = some m.was then applyL (out.set m.part.toNat m.now) l else none
def applyOk (out : List ByteArray) (m : Mv) : Prop := 0 ≤ m.part ∧ m.part < out.length ∧ out[m.part.toNat]? = some m.was
instance (out : List ByteArray) (m : Mv) : Decidable (applyOk out m) := by unfold applyOk; infer_instance
theorem applyL_snoc (out : List ByteArray) (l : List Mv) (m : Mv) : applyL out (l ++ [m]) = (applyL out l).bind fun o => if applyOk o m then some (o.set m.part.toNat m.now) else none := by
  induction l generalizing out with
  | nil => simp only [List.nil_append, applyL, Option.bind_some]; rfl
  | cons x l ih =>
    simp only [List.cons_append, applyL]
    split
    · exact ih _
    · rfl
theorem applyL_none (out : List ByteArray) (l l' : List Mv) (h : applyL out l = none) : applyL out (l ++ l') = none := by
  induction l generalizing out with
  | nil => simp [applyL] at h
  | cons x l ih =>
    simp only [List.cons_append, applyL] at h ⊢
    split
    · rename_i h1; rw [if_pos h1] at h; exact ih _ h
    · rfl
theorem applyL_length {out o : List ByteArray} {l : List Mv} (h : applyL out l = some o) : o.length = out.length := by
  induction l generalizing out with
  | nil => simp [applyL] at h; rw [h]
  | cons x l ih =>
    simp only [applyL] at h
    split at h
    · have := ih h; simpa using this
    · cases h

/-- a list of owners and no error; or nothing and an error -/
def Applies (r : Option (List ByteArray)) (w : World) (e : Ending) (w' : World) : Prop :=
  Below w.heap.size w w' ∧ ((∃ out v, r = some out ∧ e = .returned (.tuple #[v, .int .i64 0]) ∧ w'.ownsRow w.heap.size 9 1 v out.length (out.map Value.string)) ∨ (r = none ∧ e = .returned (.tuple #[.slice none 0 0, .int .i64 1])))

theorem mv_row {w : World} {B : Option Addr} {ms : List Mv} (h : Rd w B (ms.flatMap Mv.cells)) (k : Nat) (hk : k < ms.length) :
    ∃ b off, B = some ⟨b, off, none⟩ ∧ w.cell? ⟨b, off + k * 3, none⟩ = some (.int .i64 ms[k].part) ∧ w.cell? ⟨b, off + k * 3 + 1, none⟩ = some (.string ms[k].was) ∧ w.cell? ⟨b, off + k * 3 + 2, none⟩ = some (.string ms[k].now) := by
  rw [List.flatMap_def] at h
  have hs : ∀ r ∈ ms.map Mv.cells, r.length = 3 := by intro r hr; obtain ⟨m, _, rfl⟩ := List.mem_map.1 hr; rfl
  have hi : (ms.map Mv.cells)[k]? = some ms[k].cells := by simp [hk]
  obtain ⟨b, off, rfl, h0⟩ := h.row hs k _ hi 0 _ rfl
  obtain ⟨b1, off1, e1, h1⟩ := h.row hs k _ hi 1 _ rfl
  obtain ⟨b2, off2, e2, h2⟩ := h.row hs k _ hi 2 _ rfl
  injection e1 with e1; injection e1 with e1 e1'; subst e1 e1'
  injection e2 with e2; injection e2 with e2 e2'; subst e2 e2'
  exact ⟨b, off, rfl, h0, by rw [Nat.add_assoc]; exact h1, by rw [Nat.add_assoc]; exact h2⟩

set_option maxRecDepth 100000 in
set_option maxHeartbeats 1000000 in
theorem apply_any (A : Option Addr) (n c : Nat) (ss : List ByteArray) (B : Option Addr) (m d : Nat) (ms : List Mv) (w : World) (hr : Rd w A (ss.map Value.string)) (hn : ss.length = n) (hm : n ≤ 1000000)
    (hr' : Rd w B (ms.flatMap Mv.cells)) (hn' : ms.length = m) (hm' : m ≤ 1000000) :
    Calls Try.prog 28 #[.slice A n c, .slice B m d] w (Applies (applyL ss ms) w) := by
  have HN := Lib.hid hn; have HN' := Lib.hid hn'; clear hn hn'
  go_enter Try.func28, Try.ntmps28
  go_wp2_with fail
  refine (clone_any A n c ss _ hr HN.out hm).mono ?_
  rintro e w1 ⟨v, rfl, hown, hbel⟩
  obtain ⟨G, cc, rfl⟩ := own_form hown
  go_wp2
  have HO := Lib.hid hown; clear hown
  go_loopw [13] (fun i wr => ∃ k : Nat, ∃ cur : List ByteArray, k ≤ m ∧ i = .int .i64 k ∧ applyL ss (ms.take k) = some cur ∧ wr.ownsRow w.heap.size 9 1 (.slice G n cc) n (cur.map Value.string) ∧ Below w.heap.size w wr) (fun i _ => m - (intOf i).toNat)
  case atStart => exact ⟨0, ss, Nat.zero_le _, rfl, rfl, HO.out, hbel⟩
  case round =>
    clear HO hbel
    obtain ⟨k, cur, hk, rfl, happ, hown, hbel⟩ := hrel
    have HA := Lib.hid happ; have HO := Lib.hid hown; clear happ hown
    by_cases hlt : k < m
    · have hx : k < ms.length := by have := HN'.out; omega
      obtain ⟨b, off, rfl, hc0, hc1, hc2⟩ := mv_row (hr'.below hbel) k hx
      have hsn := applyL_snoc ss (ms.take k) ms[k]
      rw [← List.take_succ_eq_append_getElem hx, HA.out, Option.bind_some] at hsn
      have hnone : applyL ss (ms.take (k + 1)) = none → applyL ss ms = none := fun h => by
        have := applyL_none ss _ (ms.drop (k + 1)) h
        rwa [List.take_append_drop] at this
      have HNO := Lib.hid hnone; clear hnone
      generalize ms[k] = mk at hc0 hc1 hc2 hsn
      obtain ⟨part, was, now⟩ := mk
      have HS := Lib.hid hsn; clear hsn
      have hcl : cur.length = n := by have := HO.out.1; simpa using this
      have HCL := Lib.hid hcl; clear hcl
      simp only at hc0 hc1 hc2
      by_cases hp0 : part < 0
      · have hd0 : decide (part < 0) = true := by simpa using hp0
        go_wp2
        go_quiet (fail)
        go_wp2
        go_ret2
        refine ⟨(drewN_ (hbel.alloc hbel.size _) _), .inr ⟨HNO.out ?_, rfl⟩⟩
        rw [HS.out, if_neg (fun h => by have hcl := HCL.out; obtain ⟨h1, h2, h3⟩ := h; simp only at h1 h2 h3; omega)]
      have hd0 : decide (part < 0) = false := by simpa using hp0
      by_cases hp1 : (n : Int) ≤ part
      · have hd1 : decide ((n : Int) ≤ part) = true := by simpa using hp1
        go_wp2
        go_quiet (fail)
        go_wp2
        go_ret2
        refine ⟨(drewN_ (hbel.alloc hbel.size _) _), .inr ⟨HNO.out ?_, rfl⟩⟩
        rw [HS.out, if_neg (fun h => by have hcl := HCL.out; obtain ⟨h1, h2, h3⟩ := h; simp only at h1 h2 h3; omega)]
      have hd1 : decide ((n : Int) ≤ part) = false := by simpa using hp1
      obtain ⟨q, rfl⟩ : ∃ q : Nat, part = q := ⟨part.toNat, by omega⟩
      have hq : q < n := by omega
      have hqi : (q : Int) < (n : Int) := by omega
      have hq0 : (0 : Int) ≤ (q : Int) := by omega
      obtain ⟨g, rfl, hg1, hg2, hnc⟩ := own_pos HO.out (by omega)
      obtain ⟨⟨u, hu, hcell⟩, hfro⟩ := own_cells HO.out q (by omega)
      have hqc : q < cur.length := by have := HCL.out; omega
      obtain rfl : u = .string cur[q] := by simp [hqc] at hu; exact hu.symm
      clear hu
      generalize hcq : cur[q] = t at hcell
      have HQ := Lib.hid hcq; clear hcq
      by_cases hst : t = was
      · have hne : (t.toList == was.toList) = true := by rw [str_beq]; simpa using hst
        have HST := Lib.hid hst; clear hst
        have hok : applyOk cur ⟨q, was, now⟩ := ⟨hq0, by have := HCL.out; simp only; omega, by simp only [Int.toNat_natCast]; rw [List.getElem?_eq_getElem hqc, HQ.out, HST.out]⟩
        have HOK := Lib.hid hok; clear hok
        go_wp2
        go_quiet (fail)
        go_wp2
        go_roundw
        case rel =>
          refine ⟨k + 1, cur.set q now, by omega, by go_num, by rw [HS.out, if_pos HOK.out, Int.toNat_natCast], ?_, ?_⟩
          · rw [List.map_set]
            exact own_set (own_drewN (HO.out.alloc _) _) q (by omega) _
          · exact (drewN_ (hbel.alloc hbel.size _) _).setCell hg1 _
        case measure => simp [intOf]; omega
      · have hne : (t.toList == was.toList) = false := by rw [str_beq]; simpa using hst
        go_wp2
        go_quiet (fail)
        go_wp2
        go_ret2
        refine ⟨(drewN_ (hbel.alloc hbel.size _) _), .inr ⟨HNO.out ?_, rfl⟩⟩
        rw [HS.out, if_neg (fun h => by have hcl := HCL.out; obtain ⟨h1, h2, h3⟩ := h; simp only at h1 h2 h3; rw [Int.toNat_natCast, List.getElem?_eq_getElem hqc, HQ.out] at h3; injection h3 with h3; exact hst h3)]
    · obtain rfl : k = m := by omega
      go_wp2
      go_ret2
      have ha := HA.out
      rw [← HN'.out, List.take_length] at ha
      have hcl : cur.length = n := by have := HO.out.1; simpa using this
      exact ⟨hbel, .inl ⟨cur, _, ha, rfl, by rw [hcl]; exact HO.out⟩⟩
end Go.Proofs.Ytebfmacbdjnhbaa
