/- The bytes of a cluster and of events, by the document. -/
import Derived.Test.YtlmplibdfhamjaaScrD
import Derived.Test.YtlmplibdfhamjaaWireB
import Derived.Test.YtlmplibdfhamjaaScrZ
attribute [local go_sem ↓] Go.wp_at_zero Go.wp_at_succ
namespace Go.Proofs.Ytlmplibdfhamjaa
open Go.RowKit Go.Mem Go.Num
set_option linter.unusedVariables false
set_option linter.unusedSimpArgs false

set_option maxRecDepth 100000 in
set_option maxHeartbeats 4000000 in
theorem rBytes47_any (m : Mems) (e : Ents) (x : Evs) (w : World) (hm : m.ok w) (he : e.ok w) (hx : x.ok w) (hlen : (scrB m.l e.l x.l).length + 1024 ≤ 140737488355328) :
    Calls Try.prog 51 #[.agg (setup m e), x.v] w (SaysT (scrB m.l e.l x.l) w) := by
  have HF : Hid (scrB m.l e.l x.l = be 4 m.l.length ++ m.l.flatMap memB ++ rawB e.l ++ be 4 x.l.length ++ x.l.flatMap evB) := Lib.hid (by unfold scrB memsB evsB; simp only [List.append_assoc])
  rw [HF.out] at hlen
  generalize scrB m.l e.l x.l = F at HF ⊢
  simp only [List.length_append, be_length] at hlen
  have HM := Lib.hid (fun (W : World) (hW : Below w.heap.size w W) => hm.rd.below hW)
  have HE := Lib.hid (fun (W : World) (hW : Below w.heap.size w W) => he.rd.below hW)
  have HV := Lib.hid (fun (W : World) (hW : Below w.heap.size w W) => hx.rd.below hW)
  have HO := Lib.hid (fun (W : World) (hW : Below w.heap.size w W) (y : Ev) (hy : y ∈ x.l) => ((hx.all y hy).below hW).2.2.2.2.2.1.2.2.2.2.2.1)
  have hmn := hm.len; have hen := he.len; have hxn := hx.len
  obtain ⟨mA, mn, mc, ms⟩ := m
  obtain ⟨eA, en, ec, es⟩ := e
  obtain ⟨xA, xn, xc, xs⟩ := x
  simp only at hmn hen hxn hlen HM HE HV HO HF
  clear hm he hx
  have hraw : (rawB es).length = 20 * es.length + eSum es + 4 := by unfold rawB; simp only [List.length_append, be_length, flatE_length]; unfold eSum; omega
  have hmm : ∀ xs : List Memb, xs.length ≤ (xs.flatMap memB).length := by
    intro xs
    induction xs with
    | nil => simp
    | cons x xs ih => rw [List.flatMap_cons, List.length_append, memB_length, List.length_cons]; omega
  have hvv : ∀ xs : List Ev, xs.length ≤ (xs.flatMap evB).length := by
    intro xs
    induction xs with
    | nil => simp
    | cons x xs ih =>
      rw [List.flatMap_cons, List.length_append, List.length_cons]
      have : 1 ≤ (evB x).length := by unfold evB headB; simp only [List.length_append, be_length]; omega
      omega
  have hm1 := hmm ms; have hv1 := hvv xs
  have hmx : mn ≤ 140737488355328 := by omega
  have hxx : xn ≤ 140737488355328 := by omega
  have HRAWL : Hid (20 * en + eSum es + 128 ≤ 140737488355328) := Lib.hid (by omega)
  clear hmm hvv hm1 hv1
  generalize hR : rawB es = R at HF hlen hraw
  clear hraw
  rw [hmn, hxn] at HF
  have HMN := Lib.hid hmn; have HEN := Lib.hid hen; have HXN := Lib.hid hxn; have HLEN := Lib.hid hlen; have HR := Lib.hid hR
  clear hmn hen hxn hlen hR
  simp only [setup, Evs.v]
  have hb := (Below.refl w.heap.size w).alloc (Nat.le_refl _) (.cells #[.slice mA mn mc, .slice eA en ec] 26)
  have q0 := SBox.new w 26 #[.slice mA mn mc, .slice eA en ec]
  have HB := Lib.hid hb; have Q0 := Lib.hid q0; clear hb q0
  have a0 := Q0.out.cell 0 rfl
  go_enter Try.func51, Try.ntmps51
  go_wp2_with fail
  generalize w.alloc (.cells #[.slice mA mn mc, .slice eA en ec] 26) = W0 at *
  refine (refCount_any _ _).mono ?_
  clear a0
  rintro e w1 ⟨rfl, hb1⟩
  have HB := Lib.hid (then_ HB.out hb1); have Q0 := Lib.hid (Q0.out.below hb1)
  clear hb1
  go_wp2
  go_loopw [5, 6] (fun s i wr => ∃ k : Nat, k ≤ mn ∧ i = .int .i64 k ∧ s = .string (bs (be 4 mn ++ (ms.take k).flatMap memB)) ∧ Hid (Below w.heap.size w wr) ∧ Hid (SBox 26 #[.slice mA mn mc, .slice eA en ec] w.heap.size wr)) (fun _ i _ => mn - (intOf i).toNat)
  case atStart => exact ⟨0, Nat.zero_le _, rfl, by simp, HB, Q0⟩
  case round =>
    clear HB Q0
    obtain ⟨k, hk, rfl, rfl, HB, Q0⟩ := hrel
    have a0 := Q0.out.cell 0 rfl
    by_cases hlt : k < mn
    · have hx : k < ms.length := by have := HMN.out; omega
      obtain ⟨b', off, rfl, hrg⟩ := row_memb.at_ (HM.out wr HB.out) k hx
      have hnx : bs (be 4 mn ++ (ms.take (k + 1)).flatMap memB) = bs (be 4 mn ++ (ms.take k).flatMap memB) ++ bs (memB ms[k]) := by rw [flat_step memB ms k hx, ← List.append_assoc, bs_append]
      have hle : (bs (be 4 mn ++ (ms.take k).flatMap memB)).size + (memB ms[k]).length + 512 ≤ 140737488355328 := by
        have := flat_take_le memB ms k hx; have := HLEN.out
        rw [bs_size, List.length_append, be_length]; omega
      generalize bs (be 4 mn ++ (ms.take k).flatMap memB) = s at hnx hle
      generalize ms[k] = t at hrg hnx hle
      have h1 := fun (W : World) => rMemW_any t W (by omega)
      obtain ⟨nm, rk, zn, up⟩ := t
      simp only [Memb.arr] at h1 hrg
      unfold SaysT at h1
      have hsu : (bs (memB ⟨nm, rk, zn, up⟩)).size = (memB ⟨nm, rk, zn, up⟩).length := bs_size _
      generalize bs (memB ⟨nm, rk, zn, up⟩) = u at h1 hnx hsu
      have hq : ¬ 9223372036854775807 < s.size + u.size := by omega
      have H1 := Lib.hid h1; have HNX := Lib.hid hnx
      clear h1 hnx hle hsu
      have c0 : wr.cell? ⟨b', off + k * 4, none⟩ = some (.string nm) := rangeAt_cell hrg 0 rfl
      have c1 : wr.cell? ⟨b', off + k * 4 + 1, none⟩ = some (.string rk) := rangeAt_cell hrg 1 rfl
      have c2 : wr.cell? ⟨b', off + k * 4 + 2, none⟩ = some (.string zn) := rangeAt_cell hrg 2 rfl
      have c3 : wr.cell? ⟨b', off + k * 4 + 3, none⟩ = some (.bool up) := rangeAt_cell hrg 3 rfl
      clear hrg
      have hki0 : (0 : Int) ≤ (k : Int) := by omega
      have hkin : (k : Int) < (mn : Int) := by omega
      go_wp2_with fail
      refine (H1.out _).mono ?_
      clear a0 c0 c1 c2 c3
      rintro e w2 ⟨rfl, hb2⟩
      go_wp2
      go_roundw
      case rel => exact ⟨k + 1, by omega, by go_num, by rw [HNX.out], Lib.hid (then_ HB.out hb2), Lib.hid (Q0.out.below hb2)⟩
      case measure => simp [intOf]; omega
    · obtain rfl : k = mn := by omega
      rw [List.take_of_length_le (by have := HMN.out; omega)]
      have a1 := Q0.out.cell 1 rfl
      have hsz : (bs (be 4 k ++ ms.flatMap memB)).size = 4 + (ms.flatMap memB).length := by rw [bs_size, List.length_append, be_length]
      have hrw := rRaw_any eA en ec es wr (HE.out wr HB.out) HEN.out HRAWL.out
      unfold Says at hrw
      rw [HR.out] at hrw
      have hct := fun (W : World) => refCount_any (xn : Int) W
      have hrs : (bs R).size = R.length := bs_size _
      have hcs : (bs (be 4 (xn : Int))).size = 4 := by rw [bs_size, be_length]
      have hfin : bs (be 4 (k : Int) ++ ms.flatMap memB ++ R ++ be 4 (xn : Int)) = bs (be 4 (k : Int) ++ ms.flatMap memB) ++ bs R ++ bs (be 4 (xn : Int)) := by rw [bs_append, bs_append]
      have HFIN := Lib.hid hfin
      have hl9 := HLEN.out
      generalize bs (be 4 (k : Int) ++ ms.flatMap memB) = s1 at hsz HFIN
      generalize bs R = u1 at hrw hrs HFIN
      generalize bs (be 4 (xn : Int)) = u2 at hct hcs HFIN
      have q1 : ¬ 9223372036854775807 < s1.size + u1.size := by omega
      have q2 : ¬ 9223372036854775807 < s1.size + u1.size + u2.size := by omega
      have HRW := Lib.hid hrw; have HCT := Lib.hid hct
      clear hrw hct hsz hrs hcs hfin hl9
      go_wp2_with fail
      refine HRW.out.mono ?_
      clear a0 a1
      rintro e w2 ⟨rfl, hb2⟩
      have HB := Lib.hid (then_ HB.out hb2)
      clear hb2
      go_wp2_with fail
      refine (HCT.out _).mono ?_
      rintro e w3 ⟨rfl, hb3⟩
      have HB := Lib.hid (then_ HB.out hb3)
      clear hb3 Q0
      go_wp2
      go_loopw [5, 7] (fun s i wr => ∃ j : Nat, j ≤ xn ∧ i = .int .i64 j ∧ s = .string (bs (be 4 k ++ ms.flatMap memB ++ R ++ be 4 xn ++ (xs.take j).flatMap evB)) ∧ Hid (Below w.heap.size w wr)) (fun _ i _ => xn - (intOf i).toNat)
      case atStart => exact ⟨0, Nat.zero_le _, rfl, by simp only [List.take_zero, List.flatMap_nil, List.append_nil]; rw [HFIN.out], HB⟩
      case round =>
        clear HB
        obtain ⟨j, hj, rfl, rfl, HB⟩ := hrel
        by_cases hlj : j < xn
        · have hxj : j < xs.length := by have := HXN.out; omega
          obtain ⟨b', off, rfl, hrg⟩ := row_ev.at_ (HV.out wr HB.out) j hxj
          have hnx : bs (be 4 k ++ ms.flatMap memB ++ R ++ be 4 xn ++ (xs.take (j + 1)).flatMap evB) = bs (be 4 k ++ ms.flatMap memB ++ R ++ be 4 xn ++ (xs.take j).flatMap evB) ++ bs (evB xs[j]) := by rw [flat_step evB xs j hxj, ← List.append_assoc, bs_append]
          have hle : (bs (be 4 k ++ ms.flatMap memB ++ R ++ be 4 xn ++ (xs.take j).flatMap evB)).size + (evB xs[j]).length + 512 ≤ 140737488355328 := by
            have := flat_take_le evB xs j hxj; have := HLEN.out
            rw [bs_size]; simp only [List.length_append, be_length]; omega
          generalize bs (be 4 k ++ ms.flatMap memB ++ R ++ be 4 xn ++ (xs.take j).flatMap evB) = s at hnx hle
          have hok := HO.out wr HB.out xs[j] (List.getElem_mem hxj)
          generalize xs[j] = t at hrg hnx hle hok
          have h1 := rEvW_any t wr hok (by omega)
          have HI : Hid ((Try.prog.info? 89).map (·.size) = some t.arr.size) := Lib.hid row_ev.hi
          unfold SaysT at h1
          have hsu : (bs (evB t)).size = (evB t).length := bs_size _
          generalize t.arr = q at hrg h1 HI
          generalize bs (evB t) = u at h1 hnx hsu
          have hq : ¬ 9223372036854775807 < s.size + u.size := by omega
          have H1 := Lib.hid h1; have HNX := Lib.hid hnx; have HRG := Lib.hid hrg
          clear h1 hnx hle hsu hrg hok
          have hki0 : (0 : Int) ≤ (j : Int) := by omega
          have hkin : (j : Int) < (xn : Int) := by omega
          go_wp2_with (refine wpList_load_arr (by rfl) _ (by rfl) b' (off + j * 22) (by rfl) q HRG.out row_ev.d HI.out ?_)
          refine H1.out.mono ?_
          rintro e w2 ⟨rfl, hb2⟩
          go_wp2
          go_roundw
          case rel => exact ⟨j + 1, by omega, by go_num, by rw [HNX.out], Lib.hid (then_ HB.out hb2)⟩
          case measure => simp [intOf]; omega
        · obtain rfl : j = xn := by omega
          rw [List.take_of_length_le (by have := HXN.out; omega)]
          have HS : Hid (bs (be 4 k ++ ms.flatMap memB ++ R ++ be 4 j ++ xs.flatMap evB) = bs F) := Lib.hid (by rw [HF.out])
          generalize bs (be 4 k ++ ms.flatMap memB ++ R ++ be 4 j ++ xs.flatMap evB) = z at HS
          go_wp2
          go_ret
          exact ⟨ret_string HS.out, HB.out⟩
end Go.Proofs.Ytlmplibdfhamjaa
