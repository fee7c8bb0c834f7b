/- Entries read of bytes: the code's reading of many. -/
import Derived.Test.YtlmplibdfhamjaaWireC
import Derived.Test.YtlmplibdfhamjaaSev
import Derived.Test.YtlmplibdfhamjaaOctT
namespace Go.Proofs.Ytlmplibdfhamjaa
open Go.RowKit Go.Mem Go.Num
set_option linter.unusedVariables false
set_option linter.unusedSimpArgs false

theorem enter_rEntry (args : Array Value) (W : World) : Sem.run Try.prog (callFunc 89 args) W = .ok (.enter 89 args) W := by kernel_rfl
/-- a call that hands back rows of its own, and turns a reader's block alone -/
def GivesE (e : TypeId) (sz : Nat) (b : Nat) (R : Nat → St → World → Prop) (n : Nat) (cs : List Value) (st : St) (w : World) (r : Ending) (w' : World) : Prop := ∃ v, r = .returned v ∧ w'.ownsRow w.heap.size e sz v n cs ∧ R b st w' ∧ Only b w w'
theorem only_below {b : Nat} {w w' w'' : World} (h : Only b w w') {o : Obj} (hb : Below w.heap.size (w'.alloc o) w'') : Only b w w'' := by
  have hx := h.alloc o
  exact ⟨hb.os.trans hx.os, hb.tape.trans hx.tape, hb.output.trans hx.output, Nat.le_trans hx.size hb.size, fun i hi hne => (hb.block i hi).trans (hx.block i hi hne)⟩
set_option maxRecDepth 100000 in
set_option maxHeartbeats 4000000 in
theorem rEntries_any (b : Nat) (st : St) (w : World) (h : RdO b st w) (hs : st.1.length ≤ 140737488355328) :
    Calls Try.prog 46 #[.pointer (some ⟨b, 0, none⟩)] w (GivesE 47 4 b RdO (rdAll rdEnt 65536 st).1.length (entc (rdAll rdEnt 65536 st).1) (rdAll rdEnt 65536 st).2 w) := by
  have hbw : b < w.heap.size := h.lt
  have hcf := enter_rEntry
  have hta := rCount_any b 65536 st w h hs
  have hlen := rdCount_len 65536 st
  have hra := rdCount_range 65536 st
  unfold rdAll
  generalize rdCount 65536 st = r at hta hlen hra ⊢
  obtain ⟨n, st'⟩ := r
  simp only at hlen hra hta ⊢
  obtain ⟨n, rfl⟩ := Int.eq_ofNat_of_zero_le hra.1
  rw [Int.toNat_natCast]
  have hn := hra.2.2 (by omega)
  clear hra
  have HTA := Lib.hid hta; clear hta
  generalize hS : sevG rdEnt n st' = S
  have HS := Lib.hid hS; clear hS
  go_enter Try.func46, Try.ntmps46
  go_wp2_with fail
  refine HTA.out.mono ?_
  rintro e w1 ⟨rfl, h1, ho1⟩
  go_wp2
  go_loopw [4, 5] (fun o i wr => ∃ (m : Nat) (s : St) (acc : List Ent), m ≤ n ∧ i = .int .i64 m ∧ (acc ++ (sevG rdEnt m s).1, (sevG rdEnt m s).2) = S ∧ acc.length + m = n ∧ s.1.length ≤ 140737488355328 ∧ wr.ownsRow w.heap.size 47 4 o acc.length (entc acc) ∧ RdO b s wr ∧ Only b w wr) (fun _ i _ => (intOf i).toNat)
  case atStart => exact ⟨n, st', [], Nat.le_refl _, rfl, by simpa using HS.out, by simp, by omega, World.ownsRow_nil _ _ _ _, h1, ho1⟩
  case round =>
    obtain ⟨m, s, acc, hm, rfl, hacc, hal, hsl, hown, hR, hO⟩ := hrel
    have HA := Lib.hid hacc; have HAL := Lib.hid hal; have HOW := Lib.hid hown; clear hacc hal hown h HS
    have hbad := Lib.hid (fun W (hW : RdO b s W) => rBad_any b s W hW)
    cases m with
    | succ m =>
      have e1 : ((m + 1 : Nat) : Int) = (m : Int) + 1 := by omega
      rw [e1]
      have hd : decide ((0 : Int) < (m : Int) + 1) = true := decide_eq_true (by omega)
      have hm0 : (0 : Int) < (m : Int) + 1 := by omega
      cases hg : s.2 with
      | true =>
        have hst := sevG_step rdEnt m s hg
        have HST := Lib.hid hst; have HG := Lib.hid hg; clear hst hg
        have hlen2 := rdEnt_len s
        have HTE := Lib.hid (fun W (hW : RdO b s W) => rEntry_any b s W hW hsl)
        go_wp2_with fail
        refine (hbad.out _ hR).mono ?_
        rintro e w2 ⟨rfl, rfl⟩
        rw [HG.out]
        go_wp2_with fail
        refine (HTE.out _ hR).mono ?_
        rintro e w3 ⟨rfl, h3, ho3⟩
        have hown3 := own_only HOW.out hbw ho3
        generalize rdEnt s = r at hlen2 HST h3
        obtain ⟨⟨tk, ⟨tn, tb, tv⟩⟩, s'⟩ := r
        simp only [Ent.arr] at hlen2 h3 HST ⊢
        have HL := HAL.out
        have hsz2 := hO.size
        have hsz3 := ho3.size
        have hal1 : acc.length + 1 ≤ 65536 := by omega
        clear HL
        go_wp2_with (at_builtin; refine wpList_app el_ent rfl (.tmp 20) (.tmp 23) rfl w.heap.size _ _ _ rfl (hown3.alloc _) (some ⟨w3.heap.size, 0, none⟩) 1 1 [.string tk, .int .i64 tn, .string tb, .string tv] rfl rfl (Rd.new w3 #[.string tk, .int .i64 tn, .string tb, .string tv] _) (by simp [Value.oneCell']) (by unfold maxLen; omega) (by omega) (by simp; omega) ?_; intro v1 w4 hown4 hbel4 hgr4 _)
        have h4 : RdO b s' w4 := Two.below_at (h3.alloc _) hbel4 hbw
        have hO4 : Only b w w4 := only_below (hO.then_ ho3) hbel4
        go_roundw
        case rel =>
          refine ⟨m, s', acc ++ [⟨tk, ⟨tn, tb, tv⟩⟩], by omega, by go_num, ?_, by have := HAL.out; rw [List.length_append]; simp; omega, by omega, ?_, h4, hO4⟩
          · rw [← HA.out, HST.out, List.append_assoc]; rfl
          · rw [List.length_append]
            simpa [entc, Ent.arr] using hown4
        case measure => simp [intOf]
      | false =>
        have hb := sevG_bad rdEnt (m + 1) s hg
        have HB := Lib.hid hb; have HG := Lib.hid hg; clear hb hg
        go_wp2_with fail
        refine (hbad.out _ hR).mono ?_
        rintro e w2 ⟨rfl, rfl⟩
        rw [HG.out]
        go_wp2_with fail
        refine (hbad.out _ hR).mono ?_
        rintro e w2 ⟨rfl, rfl⟩
        rw [HG.out]
        go_wp2
        go_ret
        have h5 := HA.out
        rw [HB.out] at h5
        rw [← h5]
        refine ⟨_, rfl, ?_, hR, hO⟩
        unfold outT
        rw [if_neg (by rw [HG.out]; simp)]
        exact World.ownsRow_nil _ _ _ _
    | zero =>
      have h5 := HA.out
      simp only [sevG, List.append_nil] at h5
      have H5 := Lib.hid h5; clear h5
      have hd : decide ((0 : Int) < ((0 : Nat) : Int)) = false := by simp
      have hd2 : decide ((0 : Nat) < 0) = false := by simp
      go_wp2_with fail
      refine (hbad.out _ hR).mono ?_
      rintro e w2 ⟨rfl, rfl⟩
      cases hg : s.2 with
      | true =>
        have HG := Lib.hid hg; clear hg
        go_wp2
        go_ret
        rw [← H5.out]
        refine ⟨_, rfl, ?_, hR, hO⟩
        unfold outT
        rw [if_pos HG.out]
        exact HOW.out
      | false =>
        have HG := Lib.hid hg; clear hg
        go_wp2
        go_ret
        rw [← H5.out]
        refine ⟨_, rfl, ?_, hR, hO⟩
        unfold outT
        rw [if_neg (by rw [HG.out]; simp)]
        exact World.ownsRow_nil _ _ _ _
end Go.Proofs.Ytlmplibdfhamjaa
