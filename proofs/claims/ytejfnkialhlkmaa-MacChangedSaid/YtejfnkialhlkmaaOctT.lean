/- octet.Reader's lists of texts; the document's reader. -/
import Derived.Test.YtejfnkialhlkmaaOctS
namespace Go.Mem
theorem own_only {w w' : World} {base b : Nat} {e : TypeId} {sz n : Nat} {v : Value} {cs : List Value} (h : w.ownsRow base e sz v n cs) (hb : b < base) (hg : w.grownBy w' (some b)) : w'.ownsRow base e sz v n cs := by
  obtain ⟨h1, h2⟩ := h
  refine ⟨h1, ?_⟩
  rcases h2 with h2 | ⟨g, cap, cur, hv, hg0, hh, r⟩
  · exact .inl h2
  · have hlt : g < w.heap.size := (Array.getElem?_eq_some_iff.1 hh).1
    exact .inr ⟨g, cap, cur, hv, hg0, (hg.block g hlt (fun e => by injection e; omega)).trans hh, r⟩
end Go.Mem
namespace Go.Proofs.Ytejfnkialhlkmaa
open Go.RowKit Go.Mem Go.Num
set_option linter.unusedVariables false
theorem elStr : Elem Try.prog 22 9 1 16 := Elem.of Try.underlying22 (by kernel_rfl : (Try.prog.info? 9).map (fun i => (i.zero, i.size, i.bytes)) = some (some (.string ⟨#[]⟩), 1, 16)) rfl (by omega)
theorem enter_rText (args : Array Value) (W : World) : Sem.run Try.prog (callFunc 34 args) W = .ok (.enter 34 args) W := by kernel_rfl
/-- a slice of texts of its own -/
def txs (l : List (List UInt8)) : List Value := l.map fun t => Value.string (bs t)
theorem one_txs (t : List UInt8) : ∀ u ∈ [Value.string (bs t)], u.oneCell' = true := by intro u hu; simp at hu; subst hu; rfl
theorem sev_step (n : Nat) (st : St) (h : st.2 = true) : sev (n + 1) st = ((rdText st).1 :: (sev n (rdText st).2).1, (sev n (rdText st).2).2) := by simp [sev, h]
theorem sev_bad (n : Nat) (st : St) (h : st.2 = false) : sev n st = ([], st) := by cases n <;> simp [sev, h]
/-- a call that hands back texts of its own, and turns a reader's block alone -/
def GivesR (b : Nat) (R : Nat → St → World → Prop) (ts : List (List UInt8)) (st : St) (w : World) (e : Ending) (w' : World) : Prop := ∃ v, e = .returned v ∧ w'.ownsRow w.heap.size 9 1 v ts.length (txs ts) ∧ R b st w' ∧ Only b w w'

set_option maxRecDepth 100000 in
set_option maxHeartbeats 1000000 in
theorem several_any (b n : Nat) (st : St) (w : World) (h : RdO b st w) (hn : n ≤ 65536) (hs : st.1.length ≤ 140737488355328) :
    Calls Try.prog 61 #[.pointer (some ⟨b, 0, none⟩), .int .i64 n, .func (.func 34) #[.pointer (some ⟨b, 0, none⟩)] #[]] w
      (GivesR b RdO (outT (sev n st)) (sev n st).2 w) := by
  have hbw : b < w.heap.size := h.lt
  have hcf := enter_rText
  generalize hS : sev n st = S
  have HS := Lib.hid hS; clear hS
  go_enter Try.func61, Try.ntmps61
  go_wp2
  go_loopw [7, 8] (fun o i wr => ∃ (k : Nat) (s : St) (acc : List (List UInt8)), k ≤ n ∧ i = .int .i64 k ∧ (acc ++ (sev (n - k) s).1, (sev (n - k) s).2) = S ∧ acc.length = k ∧ s.1.length ≤ 140737488355328 ∧ wr.ownsRow w.heap.size 9 1 o acc.length (txs acc) ∧ RdO b s wr ∧ Only b w wr) (fun _ i _ => n - (intOf i).toNat)
  case atStart => exact ⟨0, st, [], Nat.zero_le _, rfl, by simpa using HS.out, rfl, hs, World.ownsRow_nil _ _ _ _, h, Only.rfl_⟩
  case round =>
    obtain ⟨k, s, acc, hk, rfl, hacc, hal, hsl, hown, hR, hO⟩ := hrel
    have HA := Lib.hid hacc; have HAL := Lib.hid hal; have HOW := Lib.hid hown; clear hacc hal hown h
    have hTA := rText_any b s wr hR hsl
    have hlen := rdText_len s
    by_cases hlt : k < n
    · go_wp2_with fail
      refine (rBad_any b s _ hR).mono ?_
      rintro e w1 ⟨rfl, rfl⟩
      cases hg : s.2 with
      | true =>
        have hst := sev_step (n - k - 1) s hg
        rw [show n - k - 1 + 1 = n - k by omega] at hst
        have HST := Lib.hid hst; have HG := Lib.hid hg; have HTA := Lib.hid hTA; clear hst hg hTA
        go_wp2_with fail
        refine HTA.out.mono ?_
        rintro e w2 ⟨rfl, h2, ho2⟩
        have hown2 := own_only HOW.out hbw ho2
        generalize rdText s = r at hlen HST h2
        obtain ⟨t, s'⟩ := r
        simp only at hlen h2 HST ⊢
        have HL := HAL.out
        have hsz2 := hO.size
        have hsz3 := ho2.size
        have hal1 : acc.length + 1 ≤ 65536 := by omega
        clear HL
        go_wp2_with (at_builtin; refine wpList_app elStr rfl (.tmp 19) (.tmp 22) rfl w.heap.size _ _ _ rfl (hown2.alloc _) (some ⟨w2.heap.size, 0, none⟩) 1 1 [.string (bs t)] rfl rfl (Rd.new w2 #[.string (bs t)] _) (one_txs t) (by unfold maxLen; omega) (by omega) (by simp; omega) ?_; intro v1 w3 hown3 hbel3 hgr3 _)
        have h3 : RdO b s' w3 := Two.below_at (h2.alloc _) hbel3 hbw
        have hO3 : Only b w w3 := by
          have hx := (hO.then_ ho2).alloc (.cells #[.string (bs t)] 9)
          exact ⟨hbel3.os.trans hx.os, hbel3.tape.trans hx.tape, hbel3.output.trans hx.output, Nat.le_trans hx.size hbel3.size, fun i hi hne => (hbel3.block i hi).trans (hx.block i hi hne)⟩
        go_roundw
        case rel =>
          refine ⟨k + 1, s', acc ++ [t], by omega, by go_num, ?_, by rw [List.length_append, HAL.out]; rfl, by omega, ?_, h3, hO3⟩
          · rw [← HA.out, HST.out, show n - (k + 1) = n - k - 1 by omega, List.append_assoc]
            rfl
          · rw [List.length_append]
            simpa [txs] using hown3
        case measure => simp [intOf]; omega
      | false =>
        have hb := sev_bad (n - k) s hg
        have HB := Lib.hid hb; have HG := Lib.hid hg; clear hb hg hTA
        go_wp2_with fail
        refine (rBad_any b s _ hR).mono ?_
        rintro e w1 ⟨rfl, rfl⟩
        rw [HG.out]
        go_wp2
        go_ret
        have h5 := HA.out
        rw [HB.out] at h5
        rw [← h5]
        refine ⟨_, rfl, ?_, hR, hO⟩
        unfold outT
        rw [if_neg (by rw [HG.out]; simp)]
        exact World.ownsRow_nil _ _ _ _
    · obtain rfl : k = n := by omega
      clear hTA
      have h5 := HA.out
      rw [Nat.sub_self] at h5
      simp only [sev, List.append_nil] at h5
      have H5 := Lib.hid h5; clear h5
      go_wp2_with fail
      refine (rBad_any b s _ hR).mono ?_
      rintro e w1 ⟨rfl, rfl⟩
      cases hg : s.2 with
      | true =>
        have HG := Lib.hid hg; clear hg
        go_wp2
        go_ret
        rw [← H5.out]
        refine ⟨_, rfl, ?_, hR, hO⟩
        unfold outT
        rw [if_pos HG.out]
        exact HOW.out
      | false =>
        have HG := Lib.hid hg; clear hg
        go_wp2
        go_ret
        rw [← H5.out]
        refine ⟨_, rfl, ?_, hR, hO⟩
        unfold outT
        rw [if_neg (by rw [HG.out]; simp)]
        exact World.ownsRow_nil _ _ _ _
end Go.Proofs.Ytejfnkialhlkmaa
