/- Entries read of bytes: the document's. -/
import Derived.Test.YtlmplibdfhamjaaWireD
import Derived.Test.YtlmplibdfhamjaaOctV
namespace Go.Proofs.Ytlmplibdfhamjaa
open Go.RowKit Go.Mem Go.Num
set_option linter.unusedVariables false
set_option linter.unusedSimpArgs false

set_option maxRecDepth 100000 in
set_option maxHeartbeats 4000000 in
theorem rRead_any (b : Nat) (st : St) (w : World) (h : RdF b st w) (hs : st.1.length ≤ 140737488355328) :
    Calls Try.prog 47 #[.pointer (some ⟨b, 0, none⟩)] w (GivesE 47 4 b RdF (rdAll rdEnt 65536 st).1.length (entc (rdAll rdEnt 65536 st).1) (rdAll rdEnt 65536 st).2 w) := by
  have hbw : b < w.heap.size := h.lt
  have hta := fCount_any b 65536 st w h hs
  have hlen := rdCount_len 65536 st
  have hra := rdCount_range 65536 st
  unfold rdAll
  generalize rdCount 65536 st = r at hta hlen hra ⊢
  obtain ⟨n, st'⟩ := r
  simp only at hlen hra hta ⊢
  obtain ⟨n, rfl⟩ := Int.eq_ofNat_of_zero_le hra.1
  rw [Int.toNat_natCast]
  have hn := hra.2.2 (by omega)
  clear hra
  have HTA := Lib.hid hta; clear hta
  generalize hS : sevG rdEnt n st' = S
  have HS := Lib.hid hS; clear hS
  go_enter Try.func47, Try.ntmps47
  go_wp2_with fail
  refine HTA.out.mono ?_
  rintro e w1 ⟨rfl, h1, ho1⟩
  go_wp2
  go_loopw [4, 5] (fun o i wr => ∃ (k : Nat) (s : St) (acc : List Ent), k ≤ n ∧ i = .int .i64 k ∧ (acc ++ (sevG rdEnt (n - k) s).1, (sevG rdEnt (n - k) s).2) = S ∧ acc.length = k ∧ s.1.length ≤ 140737488355328 ∧ wr.ownsRow w.heap.size 47 4 o acc.length (entc acc) ∧ RdF b s wr ∧ Only b w wr) (fun _ i _ => n - (intOf i).toNat)
  case atStart => exact ⟨0, st', [], Nat.zero_le _, rfl, by simpa using HS.out, rfl, by omega, World.ownsRow_nil _ _ _ _, h1, ho1⟩
  case round =>
    obtain ⟨k, s, acc, hk, rfl, hacc, hal, hsl, hown, hR, hO⟩ := hrel
    have HA := Lib.hid hacc; have HAL := Lib.hid hal; have HOW := Lib.hid hown; clear hacc hal hown h HS
    have c1 := Two.c1 hR
    by_cases hlt : k < n
    · cases hg : s.2 with
      | true =>
        have hst := sevG_step rdEnt (n - k - 1) s hg
        rw [show n - k - 1 + 1 = n - k by omega] at hst
        rw [hg] at c1
        simp only [Bool.not_true] at c1
        have HST := Lib.hid hst; have HG := Lib.hid hg; clear hst hg
        have l1 := (rdText_len s).1
        have l2 := rdNum_len 8 (rdText s).2
        have l3 := (rdText_len (rdNum 8 (rdText s).2).2).1
        have hlen2 := rdEnt_len s
        have t1 := fun W hW => fText_any b s W hW hsl
        have t2 := fun W hW => fInt_any b (rdText s).2 W hW (by omega)
        have t3 := fun W hW => fText_any b (rdNum 8 (rdText s).2).2 W hW (by omega)
        have t4 := fun W hW => fText_any b (rdText (rdNum 8 (rdText s).2).2).2 W hW (by omega)
        have hE : (rdEnt s).2 = (rdText (rdText (rdNum 8 (rdText s).2).2).2).2 := rfl
        have hV : (rdEnt s).1 = ⟨bs (rdText s).1, ⟨(rdNum 8 (rdText s).2).1, bs (rdText (rdNum 8 (rdText s).2).2).1, bs (rdText (rdText (rdNum 8 (rdText s).2).2).2).1⟩⟩ := rfl
        generalize bs (rdText (rdText (rdNum 8 (rdText s).2).2).2).1 = v4 at t4 hV
        generalize (rdText (rdText (rdNum 8 (rdText s).2).2).2).2 = s4 at t4 hE
        generalize bs (rdText (rdNum 8 (rdText s).2).2).1 = v3 at t3 hV
        generalize (rdText (rdNum 8 (rdText s).2).2).2 = s3 at t3 t4
        generalize (rdNum 8 (rdText s).2).1 = v2 at t2 hV
        generalize (rdNum 8 (rdText s).2).2 = s2 at t2 t3
        generalize bs (rdText s).1 = v1 at t1 hV
        generalize (rdText s).2 = s1 at t1 t2
        rw [hE] at hlen2
        rw [hE, hV] at HST
        have T1 := Lib.hid t1; have T2 := Lib.hid t2; have T3 := Lib.hid t3; have T4 := Lib.hid t4
        clear l1 l2 l3 t1 t2 t3 t4 hE hV
        go_wp2_with fail
        refine (T1.out _ hR).mono ?_
        rintro e w2 ⟨rfl, h2, ho2⟩
        go_wp2_with fail
        refine (T2.out _ h2).mono ?_
        rintro e w3 ⟨rfl, h3, ho3⟩
        have ho3 := ho2.then_ ho3
        go_wp2_with fail
        refine (T3.out _ h3).mono ?_
        rintro e w4 ⟨rfl, h4, ho4⟩
        have ho4 := ho3.then_ ho4
        go_wp2_with fail
        refine (T4.out _ h4).mono ?_
        rintro e w5 ⟨rfl, h5, ho5⟩
        have ho5 := ho4.then_ ho5
        have hown5 := own_only HOW.out hbw ho5
        have HL := HAL.out
        have hsz2 := hO.size
        have hsz3 := ho5.size
        have hal1 : acc.length + 1 ≤ 65536 := by omega
        clear HL c1 h2 h3 h4 ho2 ho3 ho4
        go_wp2_with (at_builtin; refine wpList_app el_ent rfl (.tmp 29) (.tmp 37) rfl w.heap.size _ _ _ rfl (hown5.alloc _) (some ⟨w5.heap.size, 0, none⟩) 1 1 [.string v1, .int .i64 v2, .string v3, .string v4] rfl rfl (Rd.new w5 #[.string v1, .int .i64 v2, .string v3, .string v4] _) (by simp [Value.oneCell']) (by unfold maxLen; omega) (by omega) (by simp; omega) ?_; intro v6 w6 hown6 hbel6 hgr6 _)
        have h6 : RdF b s4 w6 := Two.below_at (h5.alloc _) hbel6 hbw
        have hO6 : Only b w w6 := only_below (hO.then_ ho5) hbel6
        go_roundw
        case rel =>
          refine ⟨k + 1, s4, acc ++ [⟨v1, ⟨v2, v3, v4⟩⟩], by omega, by go_num, ?_, by rw [List.length_append, HAL.out]; rfl, by omega, ?_, h6, hO6⟩
          · rw [← HA.out, HST.out, show n - (k + 1) = n - k - 1 by omega, List.append_assoc]; rfl
          · rw [List.length_append]
            simpa [entc, Ent.arr] using hown6
        case measure => simp [intOf]; omega
      | false =>
        have hb := sevG_bad rdEnt (n - k) s hg
        rw [hg] at c1
        simp only [Bool.not_false] at c1
        have HB := Lib.hid hb; have HG := Lib.hid hg; clear hb hg
        go_wp2
        go_ret
        have h5 := HA.out
        rw [HB.out] at h5
        rw [← h5]
        refine ⟨_, rfl, ?_, hR, hO⟩
        unfold outT
        rw [if_neg (by rw [HG.out]; simp)]
        exact World.ownsRow_nil _ _ _ _
    · obtain rfl : k = n := by omega
      have h5 := HA.out
      rw [Nat.sub_self] at h5
      simp only [sevG, List.append_nil] at h5
      have H5 := Lib.hid h5; clear h5
      cases hg : s.2 with
      | true =>
        rw [hg] at c1
        simp only [Bool.not_true] at c1
        have HG := Lib.hid hg; clear hg
        go_wp2
        go_ret
        rw [← H5.out]
        refine ⟨_, rfl, ?_, hR, hO⟩
        unfold outT
        rw [if_pos HG.out]
        exact HOW.out
      | false =>
        rw [hg] at c1
        simp only [Bool.not_false] at c1
        have HG := Lib.hid hg; clear hg
        go_wp2
        go_ret
        rw [← H5.out]
        refine ⟨_, rfl, ?_, hR, hO⟩
        unfold outT
        rw [if_neg (by rw [HG.out]; simp)]
        exact World.ownsRow_nil _ _ _ _
end Go.Proofs.Ytlmplibdfhamjaa
