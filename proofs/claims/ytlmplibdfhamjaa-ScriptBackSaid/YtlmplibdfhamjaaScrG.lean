/- Members and events read of bytes by the code: so many, one behind the other. -/
import Derived.Test.YtlmplibdfhamjaaScrE
attribute [local go_sem ↓] Go.wp_at_zero Go.wp_at_succ
namespace Go.Proofs.Ytlmplibdfhamjaa
open Go.RowKit Go.Mem Go.Num
set_option linter.unusedVariables false
set_option linter.unusedSimpArgs false
theorem el_memb8 : Elem Try.prog 23 82 4 56 := Elem.of (z := .agg #[.string ByteArray.empty, .string ByteArray.empty, .string ByteArray.empty, .bool false]) Try.underlying23 (by kernel_rfl) rfl (by decide)
theorem el_ev8 : Elem Try.prog 27 89 22 304 := Elem.of (z := .agg #[.int .i64 0, .string ByteArray.empty, .string ByteArray.empty, .string ByteArray.empty, .int .i64 0, .int .i64 0, .string ByteArray.empty, .string ByteArray.empty, .string ByteArray.empty, .string ByteArray.empty, .slice none 0 0, .int .i64 0, .int .i64 0, .string ByteArray.empty, .string ByteArray.empty, .string ByteArray.empty, .string ByteArray.empty, .int .i64 0, .string ByteArray.empty, .string ByteArray.empty, .string ByteArray.empty, .bool false]) Try.underlying27 (by kernel_rfl) rfl (by decide)
theorem enter_rMem (args : Array Value) (W : World) : Sem.run Try.prog (callFunc 53 args) W = .ok (.enter 53 args) W := by kernel_rfl
theorem enter_rEv (args : Array Value) (W : World) : Sem.run Try.prog (callFunc 55 args) W = .ok (.enter 55 args) W := by kernel_rfl
def Evs.bare (x : Evs) : Evs := ⟨none, 0, 0, x.l.map Ev.bare⟩
def rdMems (st : St) : List Memb × St := rdSev rdMem 65536 st
def rdEvs (st : St) : Evs × St := (⟨none, 0, 0, (rdSev rdEv 16384 st).1⟩, (rdSev rdEv 16384 st).2)
set_option maxRecDepth 100000 in
set_option maxHeartbeats 4000000 in
theorem rMems_any (b : Nat) (st : St) (w : World) (h : RdO b st w) (hs : st.1.length ≤ 140737488355328) :
    Calls Try.prog 52 #[.pointer (some ⟨b, 0, none⟩), .int .i64 65536, .func (.func 53) #[.agg #[.pointer (some ⟨b, 0, none⟩)]] #[]] w (GivesE 82 4 b RdO (rdMems st).1.length ((rdMems st).1.flatMap fun m : Memb => m.arr.toList) (rdMems st).2 w) := by
  have hbw : b < w.heap.size := h.lt
  have hcf := enter_rMem
  have hta := rCount_any b 65536 st w h hs
  have hlen := rdCount_len 65536 st
  have hra := rdCount_range 65536 st
  unfold rdMems rdSev
  generalize rdCount 65536 st = r at hta hlen hra ⊢
  obtain ⟨n, st'⟩ := r
  simp only at hlen hra hta ⊢
  obtain ⟨n, rfl⟩ := Int.eq_ofNat_of_zero_le hra.1
  rw [Int.toNat_natCast]
  have hn := hra.2.2 (by omega)
  clear hra
  have HTA := Lib.hid hta; clear hta
  generalize hS : sevG rdMem n st' = S
  have HS := Lib.hid hS; clear hS
  go_enter Try.func52, Try.ntmps52
  go_wp2_with fail
  refine HTA.out.mono ?_
  rintro e w1 ⟨rfl, h1, ho1⟩
  go_wp2
  go_loopw [7, 8] (fun o i wr => ∃ (m : Nat) (s : St) (acc : List Memb), m ≤ n ∧ i = .int .i64 m ∧ (acc ++ (sevG rdMem m s).1, (sevG rdMem m s).2) = S ∧ acc.length + m = n ∧ s.1.length ≤ 140737488355328 ∧ wr.ownsRow w.heap.size 82 4 o acc.length (acc.flatMap fun m : Memb => m.arr.toList) ∧ RdO b s wr ∧ Only b w wr) (fun _ i _ => (intOf i).toNat)
  case atStart => exact ⟨n, st', [], Nat.le_refl _, rfl, by simpa using HS.out, by simp, by omega, World.ownsRow_nil _ _ _ _, h1, ho1⟩
  case round =>
    obtain ⟨m, s, acc, hm, rfl, hacc, hal, hsl, hown, hR, hO⟩ := hrel
    obtain ⟨oA, oc, rfl⟩ := own_form hown
    have HA := Lib.hid hacc; have HAL := Lib.hid hal; have HOW := Lib.hid hown; clear hacc hal hown h HS
    have hbad := Lib.hid (fun W (hW : RdO b s W) => rBad_any b s W hW)
    cases m with
    | succ m =>
      have e1 : ((m + 1 : Nat) : Int) = (m : Int) + 1 := by omega
      rw [e1]
      have hd : decide ((0 : Int) < (m : Int) + 1) = true := decide_eq_true (by omega)
      have hm0 : (0 : Int) < (m : Int) + 1 := by omega
      cases hg : s.2 with
      | true =>
        have hst := sevG_step rdMem m s hg
        have HST := Lib.hid hst; have HG := Lib.hid hg; clear hst hg
        have hlen2 := rdMem_len s
        have HTE := Lib.hid (fun W (hW : RdO b s W) => rMem_any b s W hW hsl)
        go_wp2_with fail
        refine (hbad.out _ hR).mono ?_
        rintro e w2 ⟨rfl, rfl⟩
        rw [HG.out]
        go_wp2_with fail
        refine (HTE.out _ hR).mono ?_
        rintro e w3 ⟨rfl, h3, ho3⟩
        have hown3 := own_only HOW.out hbw ho3
        generalize rdMem s = r at hlen2 HST h3
        obtain ⟨⟨nm, rk, zn, up⟩, s'⟩ := r
        simp only [Memb.arr] at hlen2 h3 HST ⊢
        have HL := HAL.out
        have hsz2 := hO.size
        have hsz3 := ho3.size
        have hal1 : acc.length + 1 ≤ 65536 := by omega
        clear HL
        go_wp2_with (at_builtin; refine wpList_app el_memb8 rfl (.tmp 21) (.tmp 24) rfl w.heap.size _ _ _ rfl (hown3.alloc _) (some ⟨w3.heap.size, 0, none⟩) 1 1 [.string nm, .string rk, .string zn, .bool up] rfl rfl (Rd.new w3 #[.string nm, .string rk, .string zn, .bool up] _) (by simp [Value.oneCell']) (by unfold maxLen; omega) (by omega) (by simp; omega) ?_; intro v1 w4 hown4 hbel4 hgr4 hdd4)
        have h4 : RdO b s' w4 := Two.below_at (h3.alloc _) hbel4 hbw
        have hO4 : Only b w w4 := only_below (hO.then_ ho3) hbel4
        go_roundw
        case rel =>
          refine ⟨m, s', acc ++ [⟨nm, rk, zn, up⟩], by omega, by go_num, ?_, by have := HAL.out; rw [List.length_append]; simp; omega, by omega, ?_, h4, hO4⟩
          · rw [← HA.out, HST.out, List.append_assoc]; rfl
          · rw [List.length_append]
            simpa [Memb.arr, Ctx.v, Nums.v] using hown4
        case measure => simp [intOf]
      | false =>
        have hb := sevG_bad rdMem (m + 1) s hg
        have HB := Lib.hid hb; have HG := Lib.hid hg; clear hb hg
        go_wp2_with fail
        refine (hbad.out _ hR).mono ?_
        rintro e w2 ⟨rfl, rfl⟩
        rw [HG.out]
        go_wp2
        go_ret
        have h5 := HA.out
        rw [HB.out] at h5
        simp only [List.append_nil] at h5
        rw [← h5]
        exact ⟨_, rfl, HOW.out, hR, hO⟩
    | zero =>
      have h5 := HA.out
      simp only [sevG, List.append_nil] at h5
      have H5 := Lib.hid h5; clear h5
      have hd : decide ((0 : Int) < ((0 : Nat) : Int)) = false := by simp
      have hd2 : decide ((0 : Nat) < 0) = false := by simp
      go_wp2
      go_ret
      have h5 := H5.out
      rw [← h5]
      exact ⟨_, rfl, HOW.out, hR, hO⟩
set_option maxRecDepth 100000 in
set_option maxHeartbeats 4000000 in
theorem rEvs_any (b : Nat) (st : St) (w : World) (h : RdO b st w) (hs : st.1.length ≤ 140737488355328) :
    Calls Try.prog 54 #[.pointer (some ⟨b, 0, none⟩), .int .i64 16384, .func (.func 55) #[.agg #[.pointer (some ⟨b, 0, none⟩)]] #[]] w (RdS Evs.v Evs.bare Evs.ok RdO b (rdEvs st) w) := by
  have hbw : b < w.heap.size := h.lt
  have hcf := enter_rEv
  have hta := rCount_any b 16384 st w h hs
  have hlen := rdCount_len 16384 st
  have hra := rdCount_range 16384 st
  unfold rdEvs rdSev
  generalize rdCount 16384 st = r at hta hlen hra ⊢
  obtain ⟨n, st'⟩ := r
  simp only at hlen hra hta ⊢
  obtain ⟨n, rfl⟩ := Int.eq_ofNat_of_zero_le hra.1
  rw [Int.toNat_natCast]
  have hn := hra.2.2 (by omega)
  clear hra
  have HTA := Lib.hid hta; clear hta
  generalize hS : sevG rdEv n st' = S
  have HS := Lib.hid hS; clear hS
  go_enter Try.func54, Try.ntmps54
  go_wp2_with fail
  refine HTA.out.mono ?_
  rintro e w1 ⟨rfl, h1, ho1⟩
  go_wp2
  go_loopw [7, 8] (fun o i wr => ∃ (m : Nat) (s : St) (acc : List Ev), m ≤ n ∧ i = .int .i64 m ∧ (acc.map Ev.bare ++ (sevG rdEv m s).1, (sevG rdEv m s).2) = S ∧ acc.length + m = n ∧ s.1.length ≤ 140737488355328 ∧ wr.ownsRow w.heap.size 89 22 o acc.length (acc.flatMap fun m : Ev => m.arr.toList) ∧ (∀ x ∈ acc, ∀ W, AgrBut o.ownBlock w.heap.size wr W → x.ok W) ∧ RdO b s wr ∧ Only b w wr) (fun _ i _ => (intOf i).toNat)
  case atStart => exact ⟨n, st', [], Nat.le_refl _, rfl, by simpa using HS.out, by simp, by omega, World.ownsRow_nil _ _ _ _, fun x hx => by simp at hx, h1, ho1⟩
  case round =>
    obtain ⟨m, s, acc, hm, rfl, hacc, hal, hsl, hown, hok, hR, hO⟩ := hrel
    obtain ⟨oA, oc, rfl⟩ := own_form hown
    have HA := Lib.hid hacc; have HAL := Lib.hid hal; have HOW := Lib.hid hown; clear hacc hal hown h HS
    have HOK := Lib.hid hok; clear hok
    have hbad := Lib.hid (fun W (hW : RdO b s W) => rBad_any b s W hW)
    cases m with
    | succ m =>
      have e1 : ((m + 1 : Nat) : Int) = (m : Int) + 1 := by omega
      rw [e1]
      have hd : decide ((0 : Int) < (m : Int) + 1) = true := decide_eq_true (by omega)
      have hm0 : (0 : Int) < (m : Int) + 1 := by omega
      cases hg : s.2 with
      | true =>
        have hst := sevG_step rdEv m s hg
        have HST := Lib.hid hst; have HG := Lib.hid hg; clear hst hg
        have hlen2 := rdEv_len s
        have HTE := Lib.hid (fun W (hW : RdO b s W) => rEv_any b s W hW hsl)
        go_wp2_with fail
        refine (hbad.out _ hR).mono ?_
        rintro e w2 ⟨rfl, rfl⟩
        rw [HG.out]
        go_wp2_with fail
        refine (HTE.out _ hR).mono ?_
        rintro e w3 ⟨x, rfl, hbare, hlast, h3, ho3⟩
        have hown3 := own_only HOW.out hbw ho3
        have hlt := own_lt HOW.out
        have HLAST := Lib.hid hlast; clear hlast
        generalize rdEv s = r at hlen2 HST h3 hbare
        obtain ⟨x', s'⟩ := r
        simp only at hbare hlen2 h3 HST
        have HBX := Lib.hid hbare; clear hbare
        obtain ⟨kd, nd, to, ln, en, ⟨ck, ct, cb, cy, cv, ⟨cA, cn, cc, cl⟩, ctm⟩, ⟨ak, at_, ab, af, ax, an, ⟨mn, mr, mz, mu⟩⟩⟩ := x
        simp only [Ev.arr, Ctx.v, Nums.v]
        have HL := HAL.out
        have hsz2 := hO.size
        have hsz3 := ho3.size
        have hal1 : acc.length + 1 ≤ 16384 := by omega
        clear HL
        go_wp2_with (at_builtin; refine wpList_app el_ev8 rfl (.tmp 21) (.tmp 24) rfl w.heap.size _ _ _ rfl (hown3.alloc _) (some ⟨w3.heap.size, 0, none⟩) 1 1 [.int .i64 kd, .string nd, .string to, .string ln, .int .i64 en, .int .i64 ck, .string ct, .string cb, .string cy, .string cv, .slice cA cn cc, .int .i64 ctm, .int .i64 ak, .string at_, .string ab, .string af, .string ax, .int .i64 an, .string mn, .string mr, .string mz, .bool mu] rfl rfl (Rd.new w3 #[.int .i64 kd, .string nd, .string to, .string ln, .int .i64 en, .int .i64 ck, .string ct, .string cb, .string cy, .string cv, .slice cA cn cc, .int .i64 ctm, .int .i64 ak, .string at_, .string ab, .string af, .string ax, .int .i64 an, .string mn, .string mr, .string mz, .bool mu] _) (by simp [Value.oneCell']) (by unfold maxLen; omega) (by omega) (by simp; omega) ?_; intro v1 w4 hown4 hbel4 hgr4 hdd4)
        have h4 : RdO b s' w4 := Two.below_at (h3.alloc _) hbel4 hbw
        have hO4 : Only b w w4 := only_below (hO.then_ ho3) hbel4
        have hnew : ∀ y ∈ acc ++ [(⟨kd, nd, to, ln, en, ⟨ck, ct, cb, cy, cv, ⟨cA, cn, cc, cl⟩, ctm⟩, ⟨ak, at_, ab, af, ax, an, ⟨mn, mr, mz, mu⟩⟩⟩ : Ev)], ∀ W, AgrBut v1.ownBlock w.heap.size w4 W → y.ok W := fun y hy W hW => by
          rw [List.mem_append, List.mem_singleton] at hy
          rcases hy with hy | rfl
          · exact HOK.out y hy W (lasts_old ho3 hbw hgr4 hdd4 hW)
          · exact HLAST.out W (lasts_new hsz2 hlt hgr4 hdd4 hW)
        go_roundw
        case rel =>
          refine ⟨m, s', acc ++ [⟨kd, nd, to, ln, en, ⟨ck, ct, cb, cy, cv, ⟨cA, cn, cc, cl⟩, ctm⟩, ⟨ak, at_, ab, af, ax, an, ⟨mn, mr, mz, mu⟩⟩⟩], by omega, by go_num, ?_, by have := HAL.out; rw [List.length_append]; simp; omega, by omega, ?_, hnew, h4, hO4⟩
          · rw [← HA.out, HST.out, List.map_append, List.append_assoc, ← HBX.out]; rfl
          · rw [List.length_append]
            simpa [Ev.arr, Ctx.v, Nums.v] using hown4
        case measure => simp [intOf]
      | false =>
        have hb := sevG_bad rdEv (m + 1) s hg
        have HB := Lib.hid hb; have HG := Lib.hid hg; clear hb hg
        go_wp2_with fail
        refine (hbad.out _ hR).mono ?_
        rintro e w2 ⟨rfl, rfl⟩
        rw [HG.out]
        go_wp2
        go_ret
        have h5 := HA.out
        rw [HB.out] at h5
        simp only [List.append_nil] at h5
        have hown := HOW.out
        refine ⟨⟨oA, acc.length, oc, acc⟩, rfl, ?_, fun W hW => ⟨Rd.of_own (own_agr hown (Nat.le_refl _) hW), rfl, own_maxS hown, fun m hm => HOK.out m hm W (hW.but _)⟩, by rw [← h5]; exact hR, hO⟩
        rw [← h5]
        rfl
    | zero =>
      have h5 := HA.out
      simp only [sevG, List.append_nil] at h5
      have H5 := Lib.hid h5; clear h5
      have hd : decide ((0 : Int) < ((0 : Nat) : Int)) = false := by simp
      have hd2 : decide ((0 : Nat) < 0) = false := by simp
      go_wp2
      go_ret
      have h5 := H5.out
      have hown := HOW.out
      refine ⟨⟨oA, acc.length, oc, acc⟩, rfl, ?_, fun W hW => ⟨Rd.of_own (own_agr hown (Nat.le_refl _) hW), rfl, own_maxS hown, fun m hm => HOK.out m hm W (hW.but _)⟩, by rw [← h5]; exact hR, hO⟩
      rw [← h5]
      rfl
end Go.Proofs.Ytlmplibdfhamjaa
