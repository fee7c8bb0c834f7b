/- A context read of bytes by the document. -/
import Derived.Test.YtlmplibdfhamjaaScrR
import Derived.Test.YtlmplibdfhamjaaOctV
attribute [local go_sem ↓] Go.wp_at_zero Go.wp_at_succ
namespace Go.Proofs.Ytlmplibdfhamjaa
open Go.RowKit Go.Mem Go.Num
set_option linter.unusedVariables false
set_option linter.unusedSimpArgs false

theorem rdf_set {b g : Nat} {st : St} {w : World} (h : RdF b st w) (hg : b ≠ g) (i : Nat) (u : Value) : RdF b st (w.setCell ⟨g, i, none⟩ u) := (Below.heap_setCell w _ u b (fun e => hg (by simpa using e))).trans h
/-- a struct that is read while its list grows: the reader, what has turned, the struct's block, the list's rows -/
structure INX (w3 : World) (b g : Nat) (nd : ByteArray) (ba : Int) (s : St) (vx v : Value) (zs : List Int) (W : World) : Prop where
  rd : RdF b s W
  only : Only b w3 W
  x : W.heap[g]? = some (.cells #[.string nd, .int .i64 ba, vx] 173 (0, 0))
  own : W.ownsRow (g + 1) 3 1 v zs.length (zs.map (Value.int .i64))
section
variable {w3 W W' : World} {b g : Nat} {nd : ByteArray} {ba : Int} {s s' : St} {vx v : Value} {zs : List Int}
theorem INX.drew (h : INX w3 b g nd ba s vx v zs W) : INX w3 b g nd ba s vx v zs W.drew := ⟨h.rd, h.only.drew, h.x, h.own⟩
theorem INX.call (h : INX w3 b g nd ba s vx v zs W) (hb : b < g) (hr : RdF b s' W') (ho : Only b W W') : INX w3 b g nd ba s' vx v zs W' :=
  ⟨hr, h.only.then_ ho, (ho.block _ (Array.getElem?_eq_some_iff.1 h.x).1 (fun e => by injection e; omega)).trans h.x, own_only h.own (by omega) ho⟩
theorem INX.alloc (h : INX w3 b g nd ba s vx v zs W) (o : Obj) : INX w3 b g nd ba s vx v zs (W.alloc o) :=
  ⟨Two.alloc h.rd o, h.only.alloc o, (Below.heap_alloc W o g (Array.getElem?_eq_some_iff.1 h.x).1).trans h.x, h.own.alloc o⟩
theorem INX.app {v1 : Value} {z : Int} (h : INX w3 b g nd ba s vx v zs W) (hb : b < g) (hown : W'.ownsRow (g + 1) 3 1 v1 (zs.length + 1) (zs.map (Value.int .i64) ++ [.int .i64 z])) (hbel : Below (g + 1) W W') (hg : w3.heap.size ≤ g) : INX w3 b g nd ba s vx v1 (zs ++ [z]) W' :=
  ⟨Two.below_at h.rd hbel (by omega), ⟨hbel.os.trans h.only.os, hbel.tape.trans h.only.tape, hbel.output.trans h.only.output, Nat.le_trans h.only.size hbel.size, fun k hk hn => (hbel.block k (by omega)).trans (h.only.block k hk hn)⟩,
    (hbel.block g (by omega)).trans h.x, by simpa using hown⟩
theorem INX.set (h : INX w3 b g nd ba s vx v zs W) (hb : b < g) (hg : w3.heap.size ≤ g) : INX w3 b g nd ba s v v zs (W.setCell ⟨g, 2, none⟩ v) :=
  ⟨rdf_set h.rd (by omega) 2 v, only_new h.only hg 2 v, heap_setCell_same W g 2 _ _ v h.x, own_agr h.own (Nat.le_refl _) (fun k h1 h2 => heap_setCell_other W _ k v (by simp; omega))⟩
theorem INX.cell (h : INX w3 b g nd ba s vx v zs W) : W.cell? ⟨g, 2, none⟩ = some vx := cell_of_row _ _ _ _ _ _ h.x
theorem INX.froz (h : INX w3 b g nd ba s vx v zs W) : W.frozen? ⟨g, 2, none⟩ = false := frozen_of_row _ _ _ _ _ h.x
end
set_option maxRecDepth 100000 in
set_option maxHeartbeats 8000000 in
theorem rCtxF_any (b : Nat) (st : St) (w : World) (h : RdF b st w) (hs : st.1.length ≤ 140737488355328) :
    Calls Try.prog 134 #[.pointer (some ⟨b, 0, none⟩)] w (RdS Ctx.v Ctx.bare Ctx.ok RdF b (rdCtx st) w) := by
  have hbw : b < w.heap.size := h.lt
  have hta := fCount_any b 65536 st w h hs
  have hlen := rdCount_len 65536 st
  have hra := rdCount_range 65536 st
  unfold rdCtx rdAll
  generalize rdCount 65536 st = r at hta hlen hra ⊢
  obtain ⟨n, st'⟩ := r
  simp only at hlen hra hta ⊢
  obtain ⟨n, rfl⟩ := Int.eq_ofNat_of_zero_le hra.1
  rw [Int.toNat_natCast]
  have hn := hra.2.2 (by omega)
  clear hra
  have HTA := Lib.hid hta; clear hta
  generalize hS : sevG rdSeen n st' = S
  have HS := Lib.hid hS; clear hS
  go_enter Try.func134, Try.ntmps134
  go_wp2_with fail
  refine HTA.out.mono ?_
  rintro e w1 ⟨rfl, h1, ho1⟩
  go_wp2
  go_loopw [4, 5] (fun o i wr => ∃ (k : Nat) (s : St) (acc : List Seen), k ≤ n ∧ i = .int .i64 k ∧ Hid ((sevG rdSeen (n - k) s).2 = S.2 ∧ (S.2.2 = true → acc.map Seen.bare ++ (sevG rdSeen (n - k) s).1 = S.1)) ∧ acc.length = k ∧ s.1.length ≤ 140737488355328 ∧ wr.ownsRow w.heap.size 173 3 o acc.length (acc.flatMap fun m : Seen => m.arr.toList) ∧ (∀ x ∈ acc, ∀ W, AgrBut o.ownBlock w.heap.size wr W → x.ok W) ∧ RdF b s wr ∧ Only b w wr) (fun _ i _ => n - (intOf i).toNat)
  case atStart => exact ⟨0, st', [], Nat.zero_le _, rfl, Lib.hid ⟨by rw [Nat.sub_zero, HS.out], fun _ => by simpa using congrArg Prod.fst HS.out⟩, rfl, by omega, World.ownsRow_nil _ _ _ _, fun x hx => by simp at hx, h1, ho1⟩
  case round =>
    obtain ⟨k, s, acc, hk, rfl, HA, hal, hsl, hown, hok, hR, hO⟩ := hrel
    obtain ⟨oA, oc, rfl⟩ := own_form hown
    have HAL := Lib.hid hal; have HOW := Lib.hid hown; have HOK := Lib.hid hok; clear hal hown hok h HS
    have c1 := Two.c1 hR
    by_cases hlt : k < n
    · cases hg : s.2 with
      | true =>
        have hst := sevG_step rdSeen (n - k - 1) s hg
        rw [show n - k - 1 + 1 = n - k by omega] at hst
        rw [hg] at c1
        simp only [Bool.not_true] at c1
        have HST := Lib.hid hst; have HG := Lib.hid hg; clear hst hg
        obtain ⟨v1, s1, e1⟩ : ∃ v s', rdText s = (v, s') := ⟨_, _, rfl⟩
        obtain ⟨v2, s2, e2⟩ : ∃ v s', rdNum 8 s1 = (v, s') := ⟨_, _, rfl⟩
        obtain ⟨v3, s3, e3⟩ : ∃ v s', rdCount 65536 s2 = (v, s') := ⟨_, _, rfl⟩
        have l1 := rdText_len s
        rw [e1] at l1
        have l2 := rdNum_len 8 s1
        rw [e2] at l2
        have l3 := rdCount_len 65536 s2
        rw [e3] at l3
        have hra := rdCount_range 65536 s2
        rw [e3] at hra
        have t1 := fun W hW => fText_any b s W hW hsl
        rw [e1] at t1
        simp only at l1 l2 l3 hra t1
        have t2 := fun W hW => fInt_any b s1 W hW (by omega)
        have hv2 : (Lit.int .i64 (rdNum 8 s1).1).wf = true := numWf _
        rw [e2] at t2 hv2
        have t3 := fun W hW => fCount_any b 65536 s2 W hW (by omega)
        rw [e3] at t3
        simp only at t2 t3 hv2
        have hvs : (bs v1).size ≤ maxLen := by rw [bs_size]; unfold maxLen; omega
        obtain ⟨m, rfl⟩ := Int.eq_ofNat_of_zero_le hra.1
        have hm := hra.2.2 (by omega)
        clear hra
        have hSI : rdSeen s = (⟨bs v1, v2, ⟨none, 0, 0, outT (sevG (rdNum 8) m s3)⟩⟩, (sevG (rdNum 8) m s3).2) := by
          unfold rdSeen rdNums rdAll
          rw [e1]; simp only [e2, e3]; rfl
        have hwf := sevNums_wf m s3
        rw [hSI] at HST
        generalize hQ : sevG (rdNum 8) m s3 = Q at hSI hwf HST
        have HQ := Lib.hid hQ; have HWF := Lib.hid hwf; clear hQ hwf
        generalize bs v1 = u1 at t1 hSI hvs HST
        have HSI := Lib.hid hSI
        have T1 := Lib.hid t1; have T2 := Lib.hid t2; have T3 := Lib.hid t3; have HVS := Lib.hid hvs; have HV2 := Lib.hid hv2
        have hs3 : s3.1.length ≤ 140737488355328 := by omega
        clear t1 t2 t3 e1 e2 e3 l1 l2 l3 hSI hvs hv2
        go_wp2_with fail
        refine (T1.out _ hR).mono ?_
        rintro e w2 ⟨rfl, hr2, ho2⟩
        go_wp2_with fail
        refine (T2.out _ hr2).mono ?_
        rintro e w3 ⟨rfl, hr3, ho3⟩
        have ho3 := ho2.then_ ho3
        have hr4 : RdF b s2 (w3.alloc (.cells #[.string u1, .int .i64 v2, .slice none 0 0] 173)) := Two.alloc hr3 _
        have hx4 : (w3.alloc (.cells #[.string u1, .int .i64 v2, .slice none 0 0] 173)).heap[w3.heap.size]? = some (.cells #[.string u1, .int .i64 v2, .slice none 0 0] 173 (0, 0)) := heap_alloc_new w3 _
        have ho4 : Only b w3 (w3.alloc (.cells #[.string u1, .int .i64 v2, .slice none 0 0] 173)) := Only.rfl_.alloc _
        have HO3 := Lib.hid ho3; have HX4 := Lib.hid hx4; have HO4 := Lib.hid ho4
        have hbg : b < w3.heap.size := hr3.lt
        clear ho2 ho3 hr2 hr3 hx4 ho4 c1
        go_wp2_with fail
        generalize w3.alloc (.cells #[.string u1, .int .i64 v2, .slice none 0 0] 173) = W4 at hr4 HX4 HO4 ⊢
        refine (T3.out _ hr4).mono ?_
        rintro e w5 ⟨rfl, hr5, ho5⟩
        have hin : INX w3 b w3.heap.size u1 v2 s3 (.slice none 0 0) (.slice none 0 0) [] w5 :=
          ⟨hr5, HO4.out.then_ ho5, (ho5.block _ (Array.getElem?_eq_some_iff.1 HX4.out).1 (fun e => by injection e; omega)).trans HX4.out, World.ownsRow_nil _ _ _ _⟩
        clear hr4 hr5 ho5
        go_wp2
        go_loopw [8] (fun i W => ∃ (j : Nat) (sj : St) (zs : List Int) (v : Value), j ≤ m ∧ i = .int .i64 j ∧ Hid ((zs ++ (sevG (rdNum 8) (m - j) sj).1, (sevG (rdNum 8) (m - j) sj).2) = Q) ∧ zs.length = j ∧ sj.1.length ≤ 140737488355328 ∧ INX w3 b w3.heap.size u1 v2 sj v v zs W) (fun i _ => m - (intOf i).toNat)
        case atStart => exact ⟨0, s3, [], .slice none 0 0, Nat.zero_le _, rfl, Lib.hid (by simpa using HQ.out), rfl, hs3, hin⟩
        case round =>
          clear hin
          rename World => W
          obtain ⟨j, sj, zs, v, hj, rfl, HZ, hzl, hsj, hin⟩ := hrel
          have c1 := Two.c1 hin.rd
          by_cases hjm : j < m
          · cases hgj : sj.2 with
            | true =>
              have hst := sevG_step (rdNum 8) (m - j - 1) sj hgj
              rw [show m - j - 1 + 1 = m - j by omega] at hst
              have hlen2 := rdNum_len 8 sj
              have hti := fun W hW => fInt_any b sj W hW hsj
              rw [hgj] at c1
              simp only [Bool.not_true] at c1
              generalize rdNum 8 sj = r at hst hlen2 hti
              obtain ⟨z, s'⟩ := r
              simp only at hst hlen2 hti
              have HTI := Lib.hid hti; have HST2 := Lib.hid hst; have HZL := Lib.hid hzl
              clear hti hst hzl hgj
              go_wp2
              have HN := Lib.hid hin.drew
              clear hin c1
              refine wp_region_held_drew (S := (fun _ => True)) (by kernel_rfl) trivial (fun hHeld => ?_)
              refine wpAnyH_take (i := 0) (oi := _) (v := ?vq1) rfl (by kernel_rfl) (by kernel_rfl) (by kernel_rfl) (fun _ _ _ h => h) (Or.inl ⟨by rfl, ?hq1⟩) (by assumption) ?rq1
              case hq1 => (intro w hSw; go_simp; try with_reducible rfl)
              try dsimp only [Act.put, List.getElem_toArray, List.getElem_cons_zero, List.getElem_cons_succ]; try simp only [List.setIfInBounds_toArray, List.set_cons_zero, List.set_cons_succ]
              refine wpAnyH_take (i := 2) (oi := _) (v := ?vq2) rfl (by kernel_rfl) (by kernel_rfl) (by kernel_rfl) (fun _ _ _ h => h) (Or.inl ⟨by rfl, ?hq2⟩) (by assumption) ?rq2
              case hq2 => (intro w hSw; go_simp; try with_reducible rfl)
              try dsimp only [Act.put, List.getElem_toArray, List.getElem_cons_zero, List.getElem_cons_succ]; try simp only [List.setIfInBounds_toArray, List.set_cons_zero, List.set_cons_succ]
              refine wpAnyH_ready (rs := [1, 3]) (by kernel_rfl) (by simp) ?_
              refine AllReadyH.cons (o := _) rfl (fun K hK => ?_) ?_
              · rw [if_pos (by rfl)]
                have y2 := HN.out.cell
                go_simp
                clear y2
                refine hK.out _ _ trivial (fun hHeld => ?_)
                clear hK K
                try dsimp only [Act.put, List.getElem_toArray, List.getElem_cons_zero, List.getElem_cons_succ]; try simp only [List.setIfInBounds_toArray, List.set_cons_zero, List.set_cons_succ]
                refine wpAnyH_ready (rs := [3]) (by kernel_rfl) (by simp) ?_
                refine AllReadyH.cons (o := _) rfl (fun K hK => ?_) ?_
                · rw [if_pos (by rfl)]
                  go_simp
                  refine (HTI.out _ HN.out.rd).mono ?_
                  rintro e wx ⟨rfl, hrx, hox⟩
                  have HN := Lib.hid (HN.out.call hbg hrx hox)
                  clear hrx hox
                  go_wp2_with fail
                  refine hK.out _ _ trivial (fun hHeld => ?_)
                  clear hK K
                  try dsimp only [Act.put, List.getElem_toArray, List.getElem_cons_zero, List.getElem_cons_succ]; try simp only [List.setIfInBounds_toArray, List.set_cons_zero, List.set_cons_succ]
                  refine wpAnyH_ready (rs := [4]) (by kernel_rfl) (by simp) ?_
                  refine AllReadyH.cons (o := _) rfl (fun K hK => ?_) ?_
                  · rw [if_pos (by rfl)]
                    go_simp
                    have HN := Lib.hid (HN.out.alloc (.cells #[.int .i64 z] 3))
                    have HRD := Lib.hid (Rd.new wx #[.int .i64 z] 3)
                    refine hK.out _ _ trivial (fun hHeld => ?_)
                    clear hK K
                    try dsimp only [Act.put, List.getElem_toArray, List.getElem_cons_zero, List.getElem_cons_succ]; try simp only [List.setIfInBounds_toArray, List.set_cons_zero, List.set_cons_succ]
                    refine wpAnyH_ready (rs := [5]) (by kernel_rfl) (by simp) ?_
                    refine AllReadyH.cons (o := _) rfl (fun K hK => ?_) ?_
                    · refine step_app el_int8 rfl (.tmp 43) (.tmp 46) rfl (w3.heap.size + 1) v zs.length (zs.map (Value.int .i64)) rfl HN.out.own (some ⟨wx.heap.size, 0, none⟩) 1 1 [.int .i64 z] rfl rfl ?rr (by simp [Value.oneCell']) (by have := HZL.out; unfold maxLen; omega) (by have := HZL.out; omega) ?bb ?_
                      case rr => exact HRD.out
                      case bb => have := HN.out.only.size; have := Array.getElem?_eq_some_iff.1 HN.out.x; have := this.1; omega
                      intro v1 w6 hown6 hbel6 hgr6 _
                      obtain ⟨a1, cc1, rfl⟩ := own_form hown6
                      have HN := Lib.hid (HN.out.app hbg hown6 hbel6 (Nat.le_refl _))
                      clear hown6 hbel6 hgr6
                      refine hK.out _ _ trivial (fun hHeld => ?_)
                      clear hK K
                      try dsimp only [Act.put, List.getElem_toArray, List.getElem_cons_zero, List.getElem_cons_succ]; try simp only [List.setIfInBounds_toArray, List.set_cons_zero, List.set_cons_succ]
                      refine wpAnyH_take (i := 6) (oi := _) (v := ?vq3) rfl (by kernel_rfl) (by kernel_rfl) (by kernel_rfl) (fun _ _ _ h => h) (Or.inl ⟨by rfl, ?hq3⟩) (by assumption) ?rq3
                      case hq3 => (intro w hSw; go_simp; try with_reducible rfl)
                      try dsimp only [Act.put, List.getElem_toArray, List.getElem_cons_zero, List.getElem_cons_succ]; try simp only [List.setIfInBounds_toArray, List.set_cons_zero, List.set_cons_succ]
                      refine wpAnyH_ready (rs := [7]) (by kernel_rfl) (by simp) ?_
                      refine AllReadyH.cons (o := _) rfl (fun K hK => ?_) ?_
                      · rw [if_pos (by rfl)]
                        have y2 := HN.out.cell; have f2 := HN.out.froz
                        go_simp
                        clear y2 f2
                        have HN := Lib.hid (HN.out.set hbg (Nat.le_refl _))
                        refine hK.out _ _ trivial (fun hHeld => ?_)
                        clear hK K
                        try dsimp only [Act.put, List.getElem_toArray, List.getElem_cons_zero, List.getElem_cons_succ]; try simp only [List.setIfInBounds_toArray, List.set_cons_zero, List.set_cons_succ]
                        refine wpAnyH_done (by kernel_rfl) ?_ _
                        go_wp2
                        go_roundw
                        case rel => exact ⟨j + 1, s', zs ++ [z], _, by omega, by go_num, Lib.hid (by rw [← HZ.out, HST2.out, show m - (j + 1) = m - j - 1 by omega, List.append_assoc]; rfl), by rw [List.length_append, HZL.out]; rfl, by omega, HN.out⟩
                        case measure => simp [intOf]; omega
                      exact AllReadyH.nil
                    exact AllReadyH.nil
                  exact AllReadyH.nil
                exact AllReadyH.nil
              refine AllReadyH.cons (o := _) rfl (fun K hK => ?_) ?_
              · rw [if_pos (by rfl)]
                go_simp
                refine (HTI.out _ HN.out.rd).mono ?_
                rintro e wx ⟨rfl, hrx, hox⟩
                have HN := Lib.hid (HN.out.call hbg hrx hox)
                clear hrx hox
                go_wp2_with fail
                refine hK.out _ _ trivial (fun hHeld => ?_)
                clear hK K
                try dsimp only [Act.put, List.getElem_toArray, List.getElem_cons_zero, List.getElem_cons_succ]; try simp only [List.setIfInBounds_toArray, List.set_cons_zero, List.set_cons_succ]
                refine wpAnyH_ready (rs := [1, 4]) (by kernel_rfl) (by simp) ?_
                refine AllReadyH.cons (o := _) rfl (fun K hK => ?_) ?_
                · rw [if_pos (by rfl)]
                  have y2 := HN.out.cell
                  go_simp
                  clear y2
                  refine hK.out _ _ trivial (fun hHeld => ?_)
                  clear hK K
                  try dsimp only [Act.put, List.getElem_toArray, List.getElem_cons_zero, List.getElem_cons_succ]; try simp only [List.setIfInBounds_toArray, List.set_cons_zero, List.set_cons_succ]
                  refine wpAnyH_ready (rs := [4]) (by kernel_rfl) (by simp) ?_
                  refine AllReadyH.cons (o := _) rfl (fun K hK => ?_) ?_
                  · rw [if_pos (by rfl)]
                    go_simp
                    have HN := Lib.hid (HN.out.alloc (.cells #[.int .i64 z] 3))
                    have HRD := Lib.hid (Rd.new wx #[.int .i64 z] 3)
                    refine hK.out _ _ trivial (fun hHeld => ?_)
                    clear hK K
                    try dsimp only [Act.put, List.getElem_toArray, List.getElem_cons_zero, List.getElem_cons_succ]; try simp only [List.setIfInBounds_toArray, List.set_cons_zero, List.set_cons_succ]
                    refine wpAnyH_ready (rs := [5]) (by kernel_rfl) (by simp) ?_
                    refine AllReadyH.cons (o := _) rfl (fun K hK => ?_) ?_
                    · refine step_app el_int8 rfl (.tmp 43) (.tmp 46) rfl (w3.heap.size + 1) v zs.length (zs.map (Value.int .i64)) rfl HN.out.own (some ⟨wx.heap.size, 0, none⟩) 1 1 [.int .i64 z] rfl rfl ?rr (by simp [Value.oneCell']) (by have := HZL.out; unfold maxLen; omega) (by have := HZL.out; omega) ?bb ?_
                      case rr => exact HRD.out
                      case bb => have := HN.out.only.size; have := Array.getElem?_eq_some_iff.1 HN.out.x; have := this.1; omega
                      intro v1 w6 hown6 hbel6 hgr6 _
                      obtain ⟨a1, cc1, rfl⟩ := own_form hown6
                      have HN := Lib.hid (HN.out.app hbg hown6 hbel6 (Nat.le_refl _))
                      clear hown6 hbel6 hgr6
                      refine hK.out _ _ trivial (fun hHeld => ?_)
                      clear hK K
                      try dsimp only [Act.put, List.getElem_toArray, List.getElem_cons_zero, List.getElem_cons_succ]; try simp only [List.setIfInBounds_toArray, List.set_cons_zero, List.set_cons_succ]
                      refine wpAnyH_take (i := 6) (oi := _) (v := ?vq4) rfl (by kernel_rfl) (by kernel_rfl) (by kernel_rfl) (fun _ _ _ h => h) (Or.inl ⟨by rfl, ?hq4⟩) (by assumption) ?rq4
                      case hq4 => (intro w hSw; go_simp; try with_reducible rfl)
                      try dsimp only [Act.put, List.getElem_toArray, List.getElem_cons_zero, List.getElem_cons_succ]; try simp only [List.setIfInBounds_toArray, List.set_cons_zero, List.set_cons_succ]
                      refine wpAnyH_ready (rs := [7]) (by kernel_rfl) (by simp) ?_
                      refine AllReadyH.cons (o := _) rfl (fun K hK => ?_) ?_
                      · rw [if_pos (by rfl)]
                        have y2 := HN.out.cell; have f2 := HN.out.froz
                        go_simp
                        clear y2 f2
                        have HN := Lib.hid (HN.out.set hbg (Nat.le_refl _))
                        refine hK.out _ _ trivial (fun hHeld => ?_)
                        clear hK K
                        try dsimp only [Act.put, List.getElem_toArray, List.getElem_cons_zero, List.getElem_cons_succ]; try simp only [List.setIfInBounds_toArray, List.set_cons_zero, List.set_cons_succ]
                        refine wpAnyH_done (by kernel_rfl) ?_ _
                        go_wp2
                        go_roundw
                        case rel => exact ⟨j + 1, s', zs ++ [z], _, by omega, by go_num, Lib.hid (by rw [← HZ.out, HST2.out, show m - (j + 1) = m - j - 1 by omega, List.append_assoc]; rfl), by rw [List.length_append, HZL.out]; rfl, by omega, HN.out⟩
                        case measure => simp [intOf]; omega
                      exact AllReadyH.nil
                    exact AllReadyH.nil
                  exact AllReadyH.nil
                refine AllReadyH.cons (o := _) rfl (fun K hK => ?_) ?_
                · rw [if_pos (by rfl)]
                  go_simp
                  have HN := Lib.hid (HN.out.alloc (.cells #[.int .i64 z] 3))
                  have HRD := Lib.hid (Rd.new wx #[.int .i64 z] 3)
                  refine hK.out _ _ trivial (fun hHeld => ?_)
                  clear hK K
                  try dsimp only [Act.put, List.getElem_toArray, List.getElem_cons_zero, List.getElem_cons_succ]; try simp only [List.setIfInBounds_toArray, List.set_cons_zero, List.set_cons_succ]
                  refine wpAnyH_ready (rs := [1]) (by kernel_rfl) (by simp) ?_
                  refine AllReadyH.cons (o := _) rfl (fun K hK => ?_) ?_
                  · rw [if_pos (by rfl)]
                    have y2 := HN.out.cell
                    go_simp
                    clear y2
                    refine hK.out _ _ trivial (fun hHeld => ?_)
                    clear hK K
                    try dsimp only [Act.put, List.getElem_toArray, List.getElem_cons_zero, List.getElem_cons_succ]; try simp only [List.setIfInBounds_toArray, List.set_cons_zero, List.set_cons_succ]
                    refine wpAnyH_ready (rs := [5]) (by kernel_rfl) (by simp) ?_
                    refine AllReadyH.cons (o := _) rfl (fun K hK => ?_) ?_
                    · refine step_app el_int8 rfl (.tmp 43) (.tmp 46) rfl (w3.heap.size + 1) v zs.length (zs.map (Value.int .i64)) rfl HN.out.own (some ⟨wx.heap.size, 0, none⟩) 1 1 [.int .i64 z] rfl rfl ?rr (by simp [Value.oneCell']) (by have := HZL.out; unfold maxLen; omega) (by have := HZL.out; omega) ?bb ?_
                      case rr => exact HRD.out
                      case bb => have := HN.out.only.size; have := Array.getElem?_eq_some_iff.1 HN.out.x; have := this.1; omega
                      intro v1 w6 hown6 hbel6 hgr6 _
                      obtain ⟨a1, cc1, rfl⟩ := own_form hown6
                      have HN := Lib.hid (HN.out.app hbg hown6 hbel6 (Nat.le_refl _))
                      clear hown6 hbel6 hgr6
                      refine hK.out _ _ trivial (fun hHeld => ?_)
                      clear hK K
                      try dsimp only [Act.put, List.getElem_toArray, List.getElem_cons_zero, List.getElem_cons_succ]; try simp only [List.setIfInBounds_toArray, List.set_cons_zero, List.set_cons_succ]
                      refine wpAnyH_take (i := 6) (oi := _) (v := ?vq5) rfl (by kernel_rfl) (by kernel_rfl) (by kernel_rfl) (fun _ _ _ h => h) (Or.inl ⟨by rfl, ?hq5⟩) (by assumption) ?rq5
                      case hq5 => (intro w hSw; go_simp; try with_reducible rfl)
                      try dsimp only [Act.put, List.getElem_toArray, List.getElem_cons_zero, List.getElem_cons_succ]; try simp only [List.setIfInBounds_toArray, List.set_cons_zero, List.set_cons_succ]
                      refine wpAnyH_ready (rs := [7]) (by kernel_rfl) (by simp) ?_
                      refine AllReadyH.cons (o := _) rfl (fun K hK => ?_) ?_
                      · rw [if_pos (by rfl)]
                        have y2 := HN.out.cell; have f2 := HN.out.froz
                        go_simp
                        clear y2 f2
                        have HN := Lib.hid (HN.out.set hbg (Nat.le_refl _))
                        refine hK.out _ _ trivial (fun hHeld => ?_)
                        clear hK K
                        try dsimp only [Act.put, List.getElem_toArray, List.getElem_cons_zero, List.getElem_cons_succ]; try simp only [List.setIfInBounds_toArray, List.set_cons_zero, List.set_cons_succ]
                        refine wpAnyH_done (by kernel_rfl) ?_ _
                        go_wp2
                        go_roundw
                        case rel => exact ⟨j + 1, s', zs ++ [z], _, by omega, by go_num, Lib.hid (by rw [← HZ.out, HST2.out, show m - (j + 1) = m - j - 1 by omega, List.append_assoc]; rfl), by rw [List.length_append, HZL.out]; rfl, by omega, HN.out⟩
                        case measure => simp [intOf]; omega
                      exact AllReadyH.nil
                    exact AllReadyH.nil
                  exact AllReadyH.nil
                exact AllReadyH.nil
              exact AllReadyH.nil
            | false =>
              have hb := sevG_bad (rdNum 8) (m - j) sj hgj
              rw [hgj] at c1
              simp only [Bool.not_false] at c1
              have HQ2 : Hid (Q = (zs, sj)) := Lib.hid (by rw [← HZ.out, hb]; simp)
              clear hb hgj
              have HZL := Lib.hid hzl; clear hzl
              obtain ⟨zA, zc, rfl⟩ := own_form hin.own
              have y0 : W.cell? ⟨w3.heap.size, 0, none⟩ = some (.string u1) := cell_of_row _ _ _ _ _ _ hin.x
              have y1 : W.cell? ⟨w3.heap.size, 1, none⟩ = some (.int .i64 v2) := cell_of_row _ _ _ _ _ _ hin.x
              have y2 := hin.cell
              have HIN := Lib.hid hin
              have hOW := HO3.out.then_ hin.only
              have hown5 := own_only HOW.out hbw hOW
              have hszw := hO.size
              have hszo := hOW.size
              have HLT := Lib.hid (own_lt HOW.out)
              have HOO := Lib.hid hOW
              have hal1 : acc.length + 1 ≤ 65536 := by have := HAL.out; omega
              clear hin hOW
              go_wp2_with (at_builtin; refine wpList_app el_seen8 rfl (.tmp 49) (.tmp 51) rfl w.heap.size _ _ _ rfl (hown5.alloc _) (some ⟨W.heap.size, 0, none⟩) 1 1 [.string u1, .int .i64 v2, .slice zA zs.length zc] rfl rfl (Rd.new W #[.string u1, .int .i64 v2, .slice zA zs.length zc] _) (by simp [Value.oneCell']) (by unfold maxLen; omega) (by omega) (by simp; omega) ?_; intro v6 w6 hown6 hbel6 hgr6 hdd6)
              have h6 : RdF b sj w6 := Two.below_at (Two.alloc HIN.out.rd _) hbel6 hbw
              have hO6 : Only b w w6 := only_below (hO.then_ HOO.out) hbel6
              have hnew : ∀ y ∈ acc ++ [(⟨u1, v2, ⟨zA, zs.length, zc, zs⟩⟩ : Seen)], ∀ W', AgrBut v6.ownBlock w.heap.size w6 W' → y.ok W' := fun y hy W' hW' => by
                rw [List.mem_append, List.mem_singleton] at hy
                rcases hy with hy | rfl
                · exact HOK.out y hy W' (lasts_old HOO.out hbw hgr6 hdd6 hW')
                · exact ⟨HVS.out, HV2.out, ⟨Rd.of_own (own_agr HIN.out.own (show wr.heap.size ≤ w3.heap.size + 1 by have := HO3.out.size; omega) (lasts_new hszw HLT.out hgr6 hdd6 hW')), rfl, own_maxS HIN.out.own, fun z hz => HWF.out z (by rw [HQ2.out]; exact hz)⟩⟩
              go_roundw
              case rel =>
                have hA1 := HA.out.1
                rw [HST.out, HQ2.out] at hA1
                simp only at hA1
                refine ⟨k + 1, sj, acc ++ [⟨u1, v2, ⟨zA, zs.length, zc, zs⟩⟩], by omega, by go_num, Lib.hid ⟨by rw [show n - (k + 1) = n - k - 1 by omega]; exact hA1, fun hgood => ?_⟩, by rw [List.length_append, HAL.out]; rfl, hsj, ?_, hnew, h6, hO6⟩
                · have hsg : sj.2 = true := by
                    rw [← Bool.not_eq_false]
                    intro hf
                    rw [sevG_bad _ _ _ hf] at hA1
                    simp only at hA1
                    rw [← hA1, hf] at hgood; cases hgood
                  have h5 := HA.out.2 hgood
                  rw [HST.out, HQ2.out] at h5
                  simp only [outT, hsg, if_true] at h5
                  rw [show n - (k + 1) = n - k - 1 by omega, ← h5, List.map_append, List.append_assoc]; rfl
                · rw [List.length_append]
                  simpa [Seen.arr, Nums.v] using hown6
              case measure => simp [intOf]; omega
          · obtain rfl : j = m := by omega
            have HQ2 : Hid (Q = (zs, sj)) := Lib.hid (by rw [← HZ.out, Nat.sub_self]; simp [sevG])
            cases hgj : sj.2
            all_goals
              rw [hgj] at c1
              simp only [Bool.not_false, Bool.not_true] at c1
              have HGJ := Lib.hid hgj; clear hgj
              have HZL := Lib.hid hzl; clear hzl
              obtain ⟨zA, zc, rfl⟩ := own_form hin.own
              have y0 : W.cell? ⟨w3.heap.size, 0, none⟩ = some (.string u1) := cell_of_row _ _ _ _ _ _ hin.x
              have y1 : W.cell? ⟨w3.heap.size, 1, none⟩ = some (.int .i64 v2) := cell_of_row _ _ _ _ _ _ hin.x
              have y2 := hin.cell
              have HIN := Lib.hid hin
              have hOW := HO3.out.then_ hin.only
              have hown5 := own_only HOW.out hbw hOW
              have hszw := hO.size
              have hszo := hOW.size
              have HLT := Lib.hid (own_lt HOW.out)
              have HOO := Lib.hid hOW
              have hal1 : acc.length + 1 ≤ 65536 := by have := HAL.out; omega
              clear hin hOW
              go_wp2_with (at_builtin; refine wpList_app el_seen8 rfl (.tmp 49) (.tmp 51) rfl w.heap.size _ _ _ rfl (hown5.alloc _) (some ⟨W.heap.size, 0, none⟩) 1 1 [.string u1, .int .i64 v2, .slice zA zs.length zc] rfl rfl (Rd.new W #[.string u1, .int .i64 v2, .slice zA zs.length zc] _) (by simp [Value.oneCell']) (by unfold maxLen; omega) (by omega) (by simp; omega) ?_; intro v6 w6 hown6 hbel6 hgr6 hdd6)
              have h6 : RdF b sj w6 := Two.below_at (Two.alloc HIN.out.rd _) hbel6 hbw
              have hO6 : Only b w w6 := only_below (hO.then_ HOO.out) hbel6
              have hnew : ∀ y ∈ acc ++ [(⟨u1, v2, ⟨zA, zs.length, zc, zs⟩⟩ : Seen)], ∀ W', AgrBut v6.ownBlock w.heap.size w6 W' → y.ok W' := fun y hy W' hW' => by
                rw [List.mem_append, List.mem_singleton] at hy
                rcases hy with hy | rfl
                · exact HOK.out y hy W' (lasts_old HOO.out hbw hgr6 hdd6 hW')
                · exact ⟨HVS.out, HV2.out, ⟨Rd.of_own (own_agr HIN.out.own (show wr.heap.size ≤ w3.heap.size + 1 by have := HO3.out.size; omega) (lasts_new hszw HLT.out hgr6 hdd6 hW')), rfl, own_maxS HIN.out.own, fun z hz => HWF.out z (by rw [HQ2.out]; exact hz)⟩⟩
              go_roundw
              case rel =>
                have hA1 := HA.out.1
                rw [HST.out, HQ2.out] at hA1
                simp only at hA1
                refine ⟨k + 1, sj, acc ++ [⟨u1, v2, ⟨zA, zs.length, zc, zs⟩⟩], by omega, by go_num, Lib.hid ⟨by rw [show n - (k + 1) = n - k - 1 by omega]; exact hA1, fun hgood => ?_⟩, by rw [List.length_append, HAL.out]; rfl, hsj, ?_, hnew, h6, hO6⟩
                · have hsg : sj.2 = true := by
                    rw [← Bool.not_eq_false]
                    intro hf
                    rw [sevG_bad _ _ _ hf] at hA1
                    simp only at hA1
                    rw [← hA1, hf] at hgood; cases hgood
                  have h5 := HA.out.2 hgood
                  rw [HST.out, HQ2.out] at h5
                  simp only [outT, hsg, if_true] at h5
                  rw [show n - (k + 1) = n - k - 1 by omega, ← h5, List.map_append, List.append_assoc]; rfl
                · rw [List.length_append]
                  simpa [Seen.arr, Nums.v] using hown6
              case measure => simp [intOf]; omega
      | false =>
        have hb := sevG_bad rdSeen (n - k) s hg
        rw [hg] at c1
        simp only [Bool.not_false] at c1
        have HB := Lib.hid hb; have HG := Lib.hid hg; clear hb hg
        go_wp2
        go_ret
        have h5 := HA.out.1
        rw [HB.out] at h5
        simp only at h5
        refine ⟨⟨none, 0, 0, []⟩, rfl, ?_, fun W hW => ⟨fun j u hj => by simp at hj, rfl, Nat.zero_le _, fun m hm => by simp at hm⟩, by rw [← h5]; exact hR, hO⟩
        simp only [outT]
        rw [if_neg (by rw [← h5, HG.out]; simp)]
        rfl
    · obtain rfl : k = n := by omega
      have h5 := HA.out.1
      have h6 := HA.out.2
      rw [Nat.sub_self] at h5 h6
      simp only [sevG, List.append_nil] at h5 h6
      have H5 := Lib.hid h5; have H6 := Lib.hid h6; clear h5 h6
      cases hg : s.2 with
      | true =>
        rw [hg] at c1
        simp only [Bool.not_true] at c1
        have HG := Lib.hid hg; clear hg
        go_wp2
        go_ret
        have hown := HOW.out
        have h5 := H5.out
        have hgood : S.2.2 = true := by rw [← h5]; exact HG.out
        refine ⟨⟨oA, acc.length, oc, acc⟩, rfl, ?_, fun W hW => ⟨Rd.of_own (own_agr hown (Nat.le_refl _) hW), rfl, own_maxS hown, fun m hm => HOK.out m hm W (hW.but _)⟩, by rw [← h5]; exact hR, hO⟩
        simp only [outT]
        rw [if_pos hgood, ← H6.out hgood]
        rfl
      | false =>
        rw [hg] at c1
        simp only [Bool.not_false] at c1
        have HG := Lib.hid hg; clear hg
        go_wp2
        go_ret
        have h5 := H5.out
        refine ⟨⟨none, 0, 0, []⟩, rfl, ?_, fun W hW => ⟨fun j u hj => by simp at hj, rfl, Nat.zero_le _, fun m hm => by simp at hm⟩, by rw [← h5]; exact hR, hO⟩
        simp only [outT]
        rw [if_neg (by rw [← h5, HG.out]; simp)]
        rfl
end Go.Proofs.Ytlmplibdfhamjaa
