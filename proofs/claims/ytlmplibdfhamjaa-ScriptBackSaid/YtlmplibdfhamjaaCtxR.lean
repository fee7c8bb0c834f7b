/- A context as bytes by the document. -/
import Derived.Test.YtlmplibdfhamjaaCtxW
import Derived.Test.YtlmplibdfhamjaaOctD
import Derived.BigQuiet
attribute [local go_sem ↓] Go.wp_at_zero Go.wp_at_succ
namespace Go.Proofs.Ytlmplibdfhamjaa
open Go.RowKit Go.Mem Go.Num
set_option linter.unusedVariables false
set_option linter.unusedSimpArgs false

theorem seenB_bs (l : List UInt8) (x : Seen) : bs (l ++ (textB x.node ++ be 8 x.base ++ be 4 x.more.l.length)) = bs l ++ bs (textB x.node) ++ bs (be 8 x.base) ++ bs (be 4 x.more.l.length) := by
  simp only [bs_append, List.append_assoc]
theorem seenB_eq (x : Seen) : seenB x = textB x.node ++ be 8 x.base ++ be 4 x.more.l.length ++ x.more.l.flatMap (be 8) := by
  unfold seenB numsB; simp only [List.append_assoc]
set_option maxRecDepth 100000 in
set_option maxHeartbeats 4000000 in
theorem rCtx_any (c : Ctx) (w : World) (hok : c.ok w) (hlen : (ctxB c.l).length + 128 ≤ 140737488355328) :
    Calls Try.prog 153 #[c.v] w (SaysT (ctxB c.l) w) := by
  obtain ⟨A, n, cap, xs⟩ := c
  have hn := hok.len
  simp only [Ctx.v] at hn hlen ⊢
  have hlen2 : 4 + (xs.flatMap seenB).length + 128 ≤ 140737488355328 := by
    unfold ctxB at hlen; rw [List.length_append, be_length] at hlen; omega
  have hnn : n ≤ 140737488355328 := by
    have : ∀ xs : List Seen, xs.length ≤ (xs.flatMap seenB).length := by
      intro xs
      induction xs with
      | nil => simp
      | cons x xs ih => rw [List.flatMap_cons, List.length_append, seenB_length, List.length_cons]; omega
    have := this xs; omega
  have HN := Lib.hid hn; have HLEN := Lib.hid hlen2; have HR := Lib.hid hok.rd
  have HALL := Lib.hid hok.all
  simp only at HR HALL
  clear hn hlen hlen2 hok
  go_enter Try.func153, Try.ntmps153
  go_wp2_with fail
  refine (refCount_any _ _).mono ?_
  rintro e w1 ⟨rfl, hb⟩
  go_wp2
  go_loopw [3, 4, 5] (fun s i j wr => ∃ k : Nat, k ≤ n ∧ i = .int .i64 k ∧ s = .string (bs (be 4 n ++ (xs.take k).flatMap seenB)) ∧ Below w.heap.size w wr) (fun _ i _ _ => n - (intOf i).toNat)
  case atStart => exact ⟨0, Nat.zero_le _, rfl, by simp, hb⟩
  case round =>
    clear hb
    obtain ⟨k, hk, rfl, rfl, hbel⟩ := hrel
    by_cases hlt : k < n
    · have hx : k < xs.length := by have := HN.out; omega
      obtain ⟨b', off, rfl, hrg⟩ := row_seen.at_ (HR.out.below hbel) k hx
      have hmok := (HALL.out xs[k] (List.getElem_mem hx)).below hbel
      have hnx := flat_step seenB xs k hx
      have hle := flat_take_le seenB xs k hx
      generalize xs[k] = t at hrg hnx hle hmok
      have hsb := seenB_bs (be 4 n ++ (xs.take k).flatMap seenB) t
      rw [seenB_length] at hle
      rw [seenB_eq] at hnx
      obtain ⟨nd, bse, ⟨A', m, c', ms⟩⟩ := t
      have hml := hmok.2.2.len
      have HMR := Lib.hid hmok.2.2.rd
      simp only at hrg hnx hle hml hsb HMR
      have hsz : (bs (be 4 n ++ (xs.take k).flatMap seenB)).size + nd.size + 8 * m + 40 ≤ 140737488355328 := by
        have := HLEN.out
        rw [bs_size, List.length_append, be_length, ← hml]; omega
      have HP : Hid (be 4 n ++ (xs.take (k + 1)).flatMap seenB = (be 4 n ++ (xs.take k).flatMap seenB ++ (textB nd ++ be 8 bse ++ be 4 ms.length)) ++ ms.flatMap (be 8)) := Lib.hid (by rw [hnx]; simp only [List.append_assoc])
      have hpl : (be 4 n ++ (xs.take k).flatMap seenB ++ (textB nd ++ be 8 bse ++ be 4 ms.length)).length = (bs (be 4 n ++ (xs.take k).flatMap seenB)).size + nd.size + 16 := by
        rw [bs_size, List.length_append]; simp only [List.length_append, textB_length, be_length]; omega
      generalize be 4 n ++ (xs.take k).flatMap seenB ++ (textB nd ++ be 8 bse ++ be 4 ms.length) = P at HP hsb hpl
      have HPL := Lib.hid hpl
      generalize bs (be 4 n ++ (xs.take k).flatMap seenB) = s at hsz hsb hpl HPL
      rw [hml] at hsb
      have HML := Lib.hid hml
      have h1 := fun W => refText_any nd W (by omega)
      have h2 := fun W => refInt_any bse W
      have h3 := fun W => refCount_any (m : Int) W
      have s1 : (bs (textB nd)).size = 4 + nd.size := by rw [bs_size, textB_length]
      have s2 : (bs (be 8 bse)).size = 8 := by rw [bs_size, be_length]
      have s3 : (bs (be 4 (m : Int))).size = 4 := by rw [bs_size, be_length]
      have HSB := Lib.hid hsb
      clear hsb hnx hle hml hpl hmok
      generalize bs (textB nd) = u1 at h1 s1 HSB
      generalize bs (be 8 bse) = u2 at h2 s2 HSB
      generalize bs (be 4 (m : Int)) = u3 at h3 s3 HSB
      have z : s.size + u1.size + u2.size + u3.size ≤ 140737488355328 := by omega
      have q1 : ¬ 9223372036854775807 < s.size + u1.size := by omega
      have q2 : ¬ 9223372036854775807 < s.size + u1.size + u2.size := by omega
      have q3 : ¬ 9223372036854775807 < s.size + u1.size + u2.size + u3.size := by omega
      have hmm : m ≤ 140737488355328 := by omega
      have H1 := Lib.hid h1; have H2 := Lib.hid h2; have H3 := Lib.hid h3
      have HSZ := Lib.hid hsz
      clear h1 h2 h3 s1 s2 s3 hsz
      have C0 : Hid (wr.cell? ⟨b', off + k * 3, none⟩ = some (.string nd)) := Lib.hid (rangeAt_cell hrg 0 rfl)
      have C1 : Hid (wr.cell? ⟨b', off + k * 3 + 1, none⟩ = some (.int .i64 bse)) := Lib.hid (rangeAt_cell hrg 1 rfl)
      have C2 : Hid (wr.cell? ⟨b', off + k * 3 + 2, none⟩ = some (.slice A' m c')) := Lib.hid (rangeAt_cell hrg 2 rfl)
      clear hrg
      have hki0 : (0 : Int) ≤ (k : Int) := by omega
      have hkin : (k : Int) < (n : Int) := by omega
      have hb : Below wr.heap.size wr wr.drew := (Below.refl _ _).drew
      go_wp2
      refine wp_region_held_drew (S := (fun W => W.cell? ⟨b', off + k * 3, none⟩ = some (.string nd) ∧ W.cell? ⟨b', off + k * 3 + 1, none⟩ = some (.int .i64 bse) ∧ W.cell? ⟨b', off + k * 3 + 2, none⟩ = some (.slice A' m c'))) (by kernel_rfl) ⟨C0.out, C1.out, C2.out⟩ (fun hHeld => ?_)
      refine wpAnyH_take (i := 0) (oi := _) (v := ?vq1) rfl (by kernel_rfl) (by kernel_rfl) (by kernel_rfl) (fun _ _ _ h => h) (Or.inl ⟨by rfl, ?hq1⟩) (by assumption) ?rq1
      case hq1 => (intro w hSw; go_simp; try with_reducible rfl)
      try dsimp only [Act.put, List.getElem_toArray, List.getElem_cons_zero, List.getElem_cons_succ]; try simp only [List.setIfInBounds_toArray, List.set_cons_zero, List.set_cons_succ]
      refine wpAnyH_take (i := 1) (oi := _) (v := ?vq2) rfl (by kernel_rfl) (by kernel_rfl) (by kernel_rfl) (fun _ _ _ h => h) (Or.inl ⟨by rfl, ?hq2⟩) (by assumption) ?rq2
      case hq2 => (intro w hSw; go_simp; try with_reducible rfl)
      try dsimp only [Act.put, List.getElem_toArray, List.getElem_cons_zero, List.getElem_cons_succ]; try simp only [List.setIfInBounds_toArray, List.set_cons_zero, List.set_cons_succ]
      refine wpAnyH_take (i := 2) (oi := _) (v := ?vq3) rfl (by kernel_rfl) (by kernel_rfl) (by kernel_rfl) (fun _ _ _ h => h) (Or.inl ⟨by rfl, ?hq3⟩) (by assumption) ?rq3
      case hq3 => (intro w hSw; go_simp; try with_reducible rfl)
      try dsimp only [Act.put, List.getElem_toArray, List.getElem_cons_zero, List.getElem_cons_succ]; try simp only [List.setIfInBounds_toArray, List.set_cons_zero, List.set_cons_succ]
      refine wpAnyH_take (i := 3) (oi := _) (v := ?vq4) rfl (by kernel_rfl) (by kernel_rfl) (by kernel_rfl) (fun _ _ _ h => h) (Or.inl ⟨by rfl, ?hq4⟩) (by assumption) ?rq4
      case hq4 => (intro w hSw; go_simp; try with_reducible rfl)
      try dsimp only [Act.put, List.getElem_toArray, List.getElem_cons_zero, List.getElem_cons_succ]; try simp only [List.setIfInBounds_toArray, List.set_cons_zero, List.set_cons_succ]
      refine wpAnyH_take (i := 4) (oi := _) (v := ?vq5) rfl (by kernel_rfl) (by kernel_rfl) (by kernel_rfl) (fun _ _ _ h => h) (Or.inl ⟨by rfl, ?hq5⟩) (by assumption) ?rq5
      case hq5 => (intro w hSw; go_simp; try with_reducible rfl)
      try dsimp only [Act.put, List.getElem_toArray, List.getElem_cons_zero, List.getElem_cons_succ]; try simp only [List.setIfInBounds_toArray, List.set_cons_zero, List.set_cons_succ]
      refine wpAnyH_take (i := 5) (oi := _) (v := ?vq6) rfl (by kernel_rfl) (by kernel_rfl) (by kernel_rfl) (fun _ _ _ h => h) (Or.inl ⟨by rfl, ?hq6⟩) (by assumption) ?rq6
      case hq6 => (intro w hSw; go_simp; try with_reducible rfl)
      try dsimp only [Act.put, List.getElem_toArray, List.getElem_cons_zero, List.getElem_cons_succ]; try simp only [List.setIfInBounds_toArray, List.set_cons_zero, List.set_cons_succ]
      refine wpAnyH_take (i := 8) (oi := _) (v := ?vq7) rfl (by kernel_rfl) (by kernel_rfl) (by kernel_rfl) (fun _ _ _ h => h) (Or.inl ⟨by rfl, ?hq7⟩) (by assumption) ?rq7
      case hq7 => (intro w hSw; go_simp; try with_reducible rfl)
      try dsimp only [Act.put, List.getElem_toArray, List.getElem_cons_zero, List.getElem_cons_succ]; try simp only [List.setIfInBounds_toArray, List.set_cons_zero, List.set_cons_succ]
      refine wpAnyH_take (i := 9) (oi := _) (v := ?vq8) rfl (by kernel_rfl) (by kernel_rfl) (by kernel_rfl) (fun _ _ _ h => h) (Or.inl ⟨by rfl, ?hq8⟩) (by assumption) ?rq8
      case hq8 => (intro w hSw; go_simp; try with_reducible rfl)
      try dsimp only [Act.put, List.getElem_toArray, List.getElem_cons_zero, List.getElem_cons_succ]; try simp only [List.setIfInBounds_toArray, List.set_cons_zero, List.set_cons_succ]
      refine wpAnyH_take (i := 10) (oi := _) (v := ?vq9) rfl (by kernel_rfl) (by kernel_rfl) (by kernel_rfl) (fun _ _ _ h => h) (Or.inl ⟨by rfl, ?hq9⟩) (by assumption) ?rq9
      case hq9 => (intro w hSw; go_simp; try with_reducible rfl)
      try dsimp only [Act.put, List.getElem_toArray, List.getElem_cons_zero, List.getElem_cons_succ]; try simp only [List.setIfInBounds_toArray, List.set_cons_zero, List.set_cons_succ]
      refine wpAnyH_take (i := 11) (oi := _) (v := ?vq10) rfl (by kernel_rfl) (by kernel_rfl) (by kernel_rfl) (fun _ _ _ h => h) (Or.inl ⟨by rfl, ?hq10⟩) (by assumption) ?rq10
      case hq10 => (intro w hSw; go_simp; try with_reducible rfl)
      try dsimp only [Act.put, List.getElem_toArray, List.getElem_cons_zero, List.getElem_cons_succ]; try simp only [List.setIfInBounds_toArray, List.set_cons_zero, List.set_cons_succ]
      refine wpAnyH_take (i := 12) (oi := _) (v := ?vq11) rfl (by kernel_rfl) (by kernel_rfl) (by kernel_rfl) (fun _ _ _ h => h) (Or.inl ⟨by rfl, ?hq11⟩) (by assumption) ?rq11
      case hq11 => (intro w hSw; go_simp; try with_reducible rfl)
      try dsimp only [Act.put, List.getElem_toArray, List.getElem_cons_zero, List.getElem_cons_succ]; try simp only [List.setIfInBounds_toArray, List.set_cons_zero, List.set_cons_succ]
      refine wpAnyH_take (i := 15) (oi := _) (v := ?vq12) rfl (by kernel_rfl) (by kernel_rfl) (by kernel_rfl) (fun _ _ _ h => h) (Or.inl ⟨by rfl, ?hq12⟩) (by assumption) ?rq12
      case hq12 => (intro w hSw; go_simp; try with_reducible rfl)
      try dsimp only [Act.put, List.getElem_toArray, List.getElem_cons_zero, List.getElem_cons_succ]; try simp only [List.setIfInBounds_toArray, List.set_cons_zero, List.set_cons_succ]
      refine wpAnyH_take (i := 16) (oi := _) (v := ?vq13) rfl (by kernel_rfl) (by kernel_rfl) (by kernel_rfl) (fun _ _ _ h => h) (Or.inl ⟨by rfl, ?hq13⟩) (by assumption) ?rq13
      case hq13 => (intro w hSw; go_simp; try with_reducible rfl)
      try dsimp only [Act.put, List.getElem_toArray, List.getElem_cons_zero, List.getElem_cons_succ]; try simp only [List.setIfInBounds_toArray, List.set_cons_zero, List.set_cons_succ]
      refine wpAnyH_take (i := 17) (oi := _) (v := ?vq14) rfl (by kernel_rfl) (by kernel_rfl) (by kernel_rfl) (fun _ _ _ h => h) (Or.inl ⟨by rfl, ?hq14⟩) (by assumption) ?rq14
      case hq14 => (intro w hSw; go_simp; try with_reducible rfl)
      try dsimp only [Act.put, List.getElem_toArray, List.getElem_cons_zero, List.getElem_cons_succ]; try simp only [List.setIfInBounds_toArray, List.set_cons_zero, List.set_cons_succ]
      refine wpAnyH_take (i := 18) (oi := _) (v := ?vq15) rfl (by kernel_rfl) (by kernel_rfl) (by kernel_rfl) (fun _ _ _ h => h) (Or.inl ⟨by rfl, ?hq15⟩) (by assumption) ?rq15
      case hq15 => (intro w hSw; go_simp; try with_reducible rfl)
      try dsimp only [Act.put, List.getElem_toArray, List.getElem_cons_zero, List.getElem_cons_succ]; try simp only [List.setIfInBounds_toArray, List.set_cons_zero, List.set_cons_succ]
      refine wpAnyH_take (i := 19) (oi := _) (v := ?vq16) rfl (by kernel_rfl) (by kernel_rfl) (by kernel_rfl) (fun _ _ _ h => h) (Or.inl ⟨by rfl, ?hq16⟩) (by assumption) ?rq16
      case hq16 => (intro w hSw; go_simp; try with_reducible rfl)
      try dsimp only [Act.put, List.getElem_toArray, List.getElem_cons_zero, List.getElem_cons_succ]; try simp only [List.setIfInBounds_toArray, List.set_cons_zero, List.set_cons_succ]
      refine wpAnyH_take (i := 20) (oi := _) (v := ?vq17) rfl (by kernel_rfl) (by kernel_rfl) (by kernel_rfl) (fun _ _ _ h => h) (Or.inl ⟨by rfl, ?hq17⟩) (by assumption) ?rq17
      case hq17 => (intro w hSw; go_simp; try with_reducible rfl)
      try dsimp only [Act.put, List.getElem_toArray, List.getElem_cons_zero, List.getElem_cons_succ]; try simp only [List.setIfInBounds_toArray, List.set_cons_zero, List.set_cons_succ]
      refine wpAnyH_ready (rs := [6]) (by kernel_rfl) (by simp) ?_
      refine AllReadyH.cons (o := _) rfl (fun K hK => ?_) ?_
      · rw [if_pos (by rfl)]
        go_simp
        refine (H1.out _).mono ?_
        rintro e wx ⟨rfl, hbx⟩
        have hb := then_ hb hbx
        clear hbx
        go_wp2_with fail
        refine hK.out _ _ ⟨cell_below hb C0.out, cell_below hb C1.out, cell_below hb C2.out⟩ (fun hHeld => ?_)
        clear hK K
        try dsimp only [Act.put, List.getElem_toArray, List.getElem_cons_zero, List.getElem_cons_succ]; try simp only [List.setIfInBounds_toArray, List.set_cons_zero, List.set_cons_succ]
        refine wpAnyH_take (i := 7) (oi := _) (v := ?vq18) rfl (by kernel_rfl) (by kernel_rfl) (by kernel_rfl) (fun _ _ _ h => h) (Or.inl ⟨by rfl, ?hq18⟩) (by assumption) ?rq18
        case hq18 => (intro w hSw; go_simp; try with_reducible rfl)
        try dsimp only [Act.put, List.getElem_toArray, List.getElem_cons_zero, List.getElem_cons_succ]; try simp only [List.setIfInBounds_toArray, List.set_cons_zero, List.set_cons_succ]
        refine wpAnyH_ready (rs := [13]) (by kernel_rfl) (by simp) ?_
        refine AllReadyH.cons (o := _) rfl (fun K hK => ?_) ?_
        · rw [if_pos (by rfl)]
          go_simp
          refine (H2.out _).mono ?_
          rintro e wx ⟨rfl, hbx⟩
          have hb := then_ hb hbx
          clear hbx
          go_wp2_with fail
          refine hK.out _ _ ⟨cell_below hb C0.out, cell_below hb C1.out, cell_below hb C2.out⟩ (fun hHeld => ?_)
          clear hK K
          try dsimp only [Act.put, List.getElem_toArray, List.getElem_cons_zero, List.getElem_cons_succ]; try simp only [List.setIfInBounds_toArray, List.set_cons_zero, List.set_cons_succ]
          refine wpAnyH_take (i := 14) (oi := _) (v := ?vq19) rfl (by kernel_rfl) (by kernel_rfl) (by kernel_rfl) (fun _ _ _ h => h) (Or.inl ⟨by rfl, ?hq19⟩) (by assumption) ?rq19
          case hq19 => (intro w hSw; go_simp; try with_reducible rfl)
          try dsimp only [Act.put, List.getElem_toArray, List.getElem_cons_zero, List.getElem_cons_succ]; try simp only [List.setIfInBounds_toArray, List.set_cons_zero, List.set_cons_succ]
          refine wpAnyH_ready (rs := [21]) (by kernel_rfl) (by simp) ?_
          refine AllReadyH.cons (o := _) rfl (fun K hK => ?_) ?_
          · rw [if_pos (by rfl)]
            go_simp
            refine (H3.out _).mono ?_
            rintro e wx ⟨rfl, hbx⟩
            have hb := then_ hb hbx
            clear hbx
            go_wp2_with fail
            refine hK.out _ _ ⟨cell_below hb C0.out, cell_below hb C1.out, cell_below hb C2.out⟩ (fun hHeld => ?_)
            clear hK K
            try dsimp only [Act.put, List.getElem_toArray, List.getElem_cons_zero, List.getElem_cons_succ]; try simp only [List.setIfInBounds_toArray, List.set_cons_zero, List.set_cons_succ]
            refine wpAnyH_take (i := 22) (oi := _) (v := ?vq20) rfl (by kernel_rfl) (by kernel_rfl) (by kernel_rfl) (fun _ _ _ h => h) (Or.inl ⟨by rfl, ?hq20⟩) (by assumption) ?rq20
            case hq20 => (intro w hSw; go_simp; try with_reducible rfl)
            try dsimp only [Act.put, List.getElem_toArray, List.getElem_cons_zero, List.getElem_cons_succ]; try simp only [List.setIfInBounds_toArray, List.set_cons_zero, List.set_cons_succ]
            refine wpAnyH_take (i := 23) (oi := _) (v := ?vq21) rfl (by kernel_rfl) (by kernel_rfl) (by kernel_rfl) (fun _ _ _ h => h) (Or.inl ⟨by rfl, ?hq21⟩) (by assumption) ?rq21
            case hq21 => (intro w hSw; go_simp; try with_reducible rfl)
            try dsimp only [Act.put, List.getElem_toArray, List.getElem_cons_zero, List.getElem_cons_succ]; try simp only [List.setIfInBounds_toArray, List.set_cons_zero, List.set_cons_succ]
            refine wpAnyH_done (by kernel_rfl) ?_ _
            have C2 := Lib.hid (cell_below hb C2.out)
            have HMR := Lib.hid (HMR.out.below hb)
            have HB2 := Lib.hid (then_ hbel hb)
            clear hb hbel C0 C1 H1 H2 H3
            rw [← HSB.out]
            clear q1 q2 q3 z HSB hki0 hkin
            rename World => wq
            have hc2 := C2.out
            go_wp2
            go_loopw [3, 5] (fun s j wr => ∃ q : Nat, q ≤ m ∧ j = .int .i64 q ∧ s = .string (bs (P ++ (ms.take q).flatMap (be 8))) ∧ Below wq.heap.size wq wr) (fun _ j _ => m - (intOf j).toNat)
            case atStart => exact ⟨0, Nat.zero_le _, rfl, by simp, Below.refl _ _⟩
            case round =>
              clear hc2
              obtain ⟨q, hq, rfl, rfl, hbq⟩ := hrel
              have hc2 := cell_below hbq C2.out
              have hki0 : (0 : Int) ≤ (k : Int) := by omega
              have hkin : (k : Int) < (n : Int) := by omega
              by_cases hqm : q < m
              · have hx2 : q < ms.length := by have := HML.out; omega
                obtain ⟨b2, off2, rfl, hcell⟩ := (HMR.out.below hbq).at_ q (by simp; exact hx2)
                simp only [List.getElem_map] at hcell
                have hst : bs (P ++ (ms.take (q + 1)).flatMap (be 8)) = bs (P ++ (ms.take q).flatMap (be 8)) ++ bs (be 8 ms[q]) := by
                  rw [flat_step (be 8) ms q hx2, ← List.append_assoc]; simp only [bs_append, List.append_assoc]
                have hs2 : (bs (P ++ (ms.take q).flatMap (be 8))).size + 16 ≤ 140737488355328 := by
                  have := HPL.out; have := HSZ.out
                  rw [bs_size, List.length_append, flat8_length, List.length_take]; omega
                generalize ms[q] = y at hcell hst
                have h8 : (bs (be 8 y)).size = 8 := by rw [bs_size, be_length]
                have H8 := Lib.hid (fun W => refInt_any y W)
                generalize bs (be 8 y) = u8 at h8 hst H8
                generalize bs (P ++ (ms.take q).flatMap (be 8)) = s2 at hs2 hst
                have HST := Lib.hid hst
                have z2 : ¬ 9223372036854775807 < s2.size + u8.size := by omega
                clear hst hs2 h8
                go_wp2_with fail
                refine (H8.out _).mono ?_
                rintro e wy ⟨rfl, hby⟩
                go_wp2
                go_roundw
                case rel => exact ⟨q + 1, by omega, by go_num, by rw [HST.out], then_ hbq hby⟩
                case measure => simp [intOf]; omega
              · obtain rfl : q = m := by omega
                rw [List.take_of_length_le (by have := HML.out; omega)]
                rw [← HP.out]
                go_wp2
                go_roundw
                case rel => exact ⟨k + 1, by omega, by go_num, rfl, then_ HB2.out hbq⟩
                case measure => simp [intOf]; omega
          exact AllReadyH.nil
        exact AllReadyH.nil
      exact AllReadyH.nil
    · obtain rfl : k = n := by omega
      rw [List.take_of_length_le (by have := HN.out; omega)]
      have HF : Hid (be 4 k ++ xs.flatMap seenB = ctxB xs) := by
        unfold ctxB
        rw [HN.out]
        rfl
      generalize be 4 k ++ xs.flatMap seenB = z at HF
      go_wp2
      go_ret
      exact ⟨ret_string (by rw [HF.out]), hbel⟩
end Go.Proofs.Ytlmplibdfhamjaa
