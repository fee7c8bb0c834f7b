/- Whether two texts have one sum; all texts that are summed of leaves. -/
import Derived.Test.YtgmafnpkhmlnnaaTriK
attribute [local go_sem ↓] Go.wp_at_zero Go.wp_at_succ
namespace Go.Proofs.Ytgmafnpkhmlnnaa
open Go.RowKit Go.Mem Go.Num Go.Tri
set_option linter.unusedVariables false
set_option linter.unusedSimpArgs false

/-- no two texts that are not the same have one sum -/
def NoColl (ss ts : List ByteArray) : Prop := ∀ s ∈ ss, ∀ t ∈ ts, hH s = hH t → s = t
def CollB (ss ts : List ByteArray) (w : World) (e : Ending) (w' : World) : Prop := ∃ q : Bool, (q = false → NoColl ss ts) ∧ e = .returned (.bool q) ∧ Below w.heap.size w w'
set_option maxRecDepth 100000 in
set_option maxHeartbeats 8000000 in
theorem collide_any (A : Option Addr) (n c : Nat) (ss : List ByteArray) (B : Option Addr) (m d : Nat) (ts : List ByteArray) (w : World) (hr : Rd w A (ss.map Value.string)) (hn : ss.length = n) (hm : n ≤ 1000000) (hz : ∀ s ∈ ss, s.size ≤ 1000000)
    (hr2 : Rd w B (ts.map Value.string)) (hn2 : ts.length = m) (hm2 : m ≤ 1000000) (hz2 : ∀ s ∈ ts, s.size ≤ 1000000) :
    Calls Try.prog 30 #[.slice A n c, .slice B m d] w (CollB ss ts w) := by
  have HR := Lib.hid hr; have HN := Lib.hid hn; have HR2 := Lib.hid hr2; have HN2 := Lib.hid hn2; have HZ := Lib.hid hz; have HZ2 := Lib.hid hz2
  clear hr hn hr2 hn2 hz hz2
  go_enter Try.func30, Try.ntmps30
  go_wp2
  go_loopw [5] (fun i wr => ∃ k : Nat, k ≤ n ∧ i = .int .i64 k ∧ Hid (NoColl (ss.take k) ts) ∧ Below w.heap.size w wr) (fun i _ => n - (intOf i).toNat)
  case atStart => exact ⟨0, Nat.zero_le _, rfl, Lib.hid (fun s hs => absurd hs (by simp)), Below.refl _ _⟩
  case round =>
    obtain ⟨k, hk, rfl, HC, hbel⟩ := hrel
    by_cases hlt : k < n
    · have hx : k < ss.length := by have := HN.out; omega
      have HS := Lib.hid (fun x => mem_take_succ ss k hx x)
      have HCE := Lib.hid (show (ss.map Value.string)[k]? = some (.string ss[k]) by rw [List.getElem?_map, List.getElem?_eq_getElem hx]; rfl)
      have hsz := HZ.out ss[k] (List.getElem_mem hx)
      generalize ss[k] = s at HS HCE hsz
      have HSZ := Lib.hid hsz
      have HB := Lib.hid hbel
      clear hbel hsz
      rename World => wv
      go_wp2
      go_loopw [6] (fun i wr => ∃ j : Nat, j ≤ m ∧ i = .int .i64 j ∧ Hid (∀ t ∈ ts.take j, hH s = hH t → s = t) ∧ Below w.heap.size w wr) (fun i _ => m - (intOf i).toNat)
      case atStart => exact ⟨0, Nat.zero_le _, rfl, Lib.hid (fun s hs => absurd hs (by simp)), HB.out⟩
      case round =>
        obtain ⟨j, hj, rfl, HD, hbel⟩ := hrel
        by_cases hlt2 : j < m
        · have hy : j < ts.length := by have := HN2.out; omega
          have HT := Lib.hid (fun x => mem_take_succ ts j hy x)
          obtain ⟨b1, off, rfl, hc⟩ := (HR.out.below hbel) k _ HCE.out
          obtain ⟨b2, off2, rfl, hd⟩ := (HR2.out.below hbel).at_ j (by simpa using hy)
          simp only [List.getElem_map] at hd
          have htz := HZ2.out ts[j] (List.getElem_mem hy)
          generalize ts[j] = t at HT hd htz
          have HX := Lib.hid (fun W => refSum_any s W (by have := HSZ.out; omega)); have HY := Lib.hid (fun W => refSum_any t W (by omega))
          rw [show bs (Sha.sum s.data.toList) = hH s from rfl] at HX
          rw [show bs (Sha.sum t.data.toList) = hH t from rfl] at HY
          have HBL := Lib.hid hbel
          have hb : Below wr.heap.size wr wr.drew := (Below.refl _ _).drew
          have hc : wr.drew.cell? ⟨b1, off + k, none⟩ = some (.string s) := hc
          have hd : wr.drew.cell? ⟨b2, off2 + j, none⟩ = some (.string t) := hd
          have HCC := Lib.hid (show wr.cell? ⟨b1, off + k, none⟩ = some (.string s) from hc); have HDD := Lib.hid (show wr.cell? ⟨b2, off2 + j, none⟩ = some (.string t) from hd)
          clear hbel htz
          by_cases hst : s = t
          · subst hst
            have hss : (s.toList == s.toList) = true := by simp
            go_wp2_with fail
            refine wp_region_held_drew (S := (fun W => W.cell? ⟨b1, off + k, none⟩ = some (.string s) ∧ W.cell? ⟨b2, off2 + j, none⟩ = some (.string s))) (by kernel_rfl) ⟨hc, hd⟩ (fun hHeld => ?_)
            refine wpAnyH_take (i := 0) (oi := _) (v := ?vq1) rfl (by kernel_rfl) (by kernel_rfl) (by kernel_rfl) (fun _ _ _ h => h) (Or.inl ⟨by rfl, ?hq1⟩) (by assumption) ?rq1
            case hq1 => (intro w hSw; go_simp; try with_reducible rfl)
            try dsimp only [Act.put, List.getElem_toArray, List.getElem_cons_zero, List.getElem_cons_succ]; try simp only [List.setIfInBounds_toArray, List.set_cons_zero, List.set_cons_succ]
            refine wpAnyH_take (i := 1) (oi := _) (v := ?vq2) rfl (by kernel_rfl) (by kernel_rfl) (by kernel_rfl) (fun _ _ _ h => h) (Or.inl ⟨by rfl, ?hq2⟩) (by assumption) ?rq2
            case hq2 => (intro w hSw; go_simp; try with_reducible rfl)
            try dsimp only [Act.put, List.getElem_toArray, List.getElem_cons_zero, List.getElem_cons_succ]; try simp only [List.setIfInBounds_toArray, List.set_cons_zero, List.set_cons_succ]
            refine wpAnyH_take (i := 2) (oi := _) (v := ?vq3) rfl (by kernel_rfl) (by kernel_rfl) (by kernel_rfl) (fun _ _ _ h => h) (Or.inl ⟨by rfl, ?hq3⟩) (by assumption) ?rq3
            case hq3 => (intro w hSw; go_simp; try with_reducible rfl)
            try dsimp only [Act.put, List.getElem_toArray, List.getElem_cons_zero, List.getElem_cons_succ]; try simp only [List.setIfInBounds_toArray, List.set_cons_zero, List.set_cons_succ]
            refine wpAnyH_take (i := 3) (oi := _) (v := ?vq4) rfl (by kernel_rfl) (by kernel_rfl) (by kernel_rfl) (fun _ _ _ h => h) (Or.inl ⟨by rfl, ?hq4⟩) (by assumption) ?rq4
            case hq4 => (intro w hSw; go_simp; try with_reducible rfl)
            try dsimp only [Act.put, List.getElem_toArray, List.getElem_cons_zero, List.getElem_cons_succ]; try simp only [List.setIfInBounds_toArray, List.set_cons_zero, List.set_cons_succ]
            refine wpAnyH_take (i := 4) (oi := _) (v := ?vq5) rfl (by kernel_rfl) (by kernel_rfl) (by kernel_rfl) (fun _ _ _ h => h) (Or.inl ⟨by rfl, ?hq5⟩) (by assumption) ?rq5
            case hq5 => (intro w hSw; go_simp; try with_reducible rfl)
            try dsimp only [Act.put, List.getElem_toArray, List.getElem_cons_zero, List.getElem_cons_succ]; try simp only [List.setIfInBounds_toArray, List.set_cons_zero, List.set_cons_succ]
            refine wpAnyH_take (i := 5) (oi := _) (v := ?vq6) rfl (by kernel_rfl) (by kernel_rfl) (by kernel_rfl) (fun _ _ _ h => h) (Or.inl ⟨by rfl, ?hq6⟩) (by assumption) ?rq6
            case hq6 => (intro w hSw; go_simp; try with_reducible rfl)
            try dsimp only [Act.put, List.getElem_toArray, List.getElem_cons_zero, List.getElem_cons_succ]; try simp only [List.setIfInBounds_toArray, List.set_cons_zero, List.set_cons_succ]
            refine wpAnyH_take (i := 6) (oi := _) (v := ?vq7) rfl (by kernel_rfl) (by kernel_rfl) (by kernel_rfl) (fun _ _ _ h => h) (Or.inl ⟨by rfl, ?hq7⟩) (by assumption) ?rq7
            case hq7 => (intro w hSw; go_simp; try with_reducible rfl)
            try dsimp only [Act.put, List.getElem_toArray, List.getElem_cons_zero, List.getElem_cons_succ]; try simp only [List.setIfInBounds_toArray, List.set_cons_zero, List.set_cons_succ]
            refine wpAnyH_take (i := 7) (oi := _) (v := ?vq8) rfl (by kernel_rfl) (by kernel_rfl) (by kernel_rfl) (fun _ _ _ h => h) (Or.inl ⟨by rfl, ?hq8⟩) (by assumption) ?rq8
            case hq8 => (intro w hSw; go_simp; try with_reducible rfl)
            try dsimp only [Act.put, List.getElem_toArray, List.getElem_cons_zero, List.getElem_cons_succ]; try simp only [List.setIfInBounds_toArray, List.set_cons_zero, List.set_cons_succ]
            refine wpAnyH_take (i := 8) (oi := _) (v := ?vq9) rfl (by kernel_rfl) (by kernel_rfl) (by kernel_rfl) (fun _ _ _ h => h) (Or.inl ⟨by rfl, ?hq9⟩) (by assumption) ?rq9
            case hq9 => (intro w hSw; go_simp; try with_reducible rfl)
            try dsimp only [Act.put, List.getElem_toArray, List.getElem_cons_zero, List.getElem_cons_succ]; try simp only [List.setIfInBounds_toArray, List.set_cons_zero, List.set_cons_succ]
            refine wpAnyH_take (i := 9) (oi := _) (v := ?vq10) rfl (by kernel_rfl) (by kernel_rfl) (by kernel_rfl) (fun _ _ _ h => h) (Or.inl ⟨by rfl, ?hq10⟩) (by assumption) ?rq10
            case hq10 => (intro w hSw; go_simp; try with_reducible rfl)
            try dsimp only [Act.put, List.getElem_toArray, List.getElem_cons_zero, List.getElem_cons_succ]; try simp only [List.setIfInBounds_toArray, List.set_cons_zero, List.set_cons_succ]
            refine wpAnyH_take (i := 10) (oi := _) (v := undef) rfl (by kernel_rfl) (by kernel_rfl) (by kernel_rfl) (fun _ _ _ h => h) (Or.inr ⟨by rfl, rfl⟩) (by assumption) ?_
            try dsimp only [Act.put, List.getElem_toArray, List.getElem_cons_zero, List.getElem_cons_succ]; try simp only [List.setIfInBounds_toArray, List.set_cons_zero, List.set_cons_succ]
            refine wpAnyH_take (i := 11) (oi := _) (v := undef) rfl (by kernel_rfl) (by kernel_rfl) (by kernel_rfl) (fun _ _ _ h => h) (Or.inr ⟨by rfl, rfl⟩) (by assumption) ?_
            try dsimp only [Act.put, List.getElem_toArray, List.getElem_cons_zero, List.getElem_cons_succ]; try simp only [List.setIfInBounds_toArray, List.set_cons_zero, List.set_cons_succ]
            refine wpAnyH_take (i := 12) (oi := _) (v := undef) rfl (by kernel_rfl) (by kernel_rfl) (by kernel_rfl) (fun _ _ _ h => h) (Or.inr ⟨by rfl, rfl⟩) (by assumption) ?_
            try dsimp only [Act.put, List.getElem_toArray, List.getElem_cons_zero, List.getElem_cons_succ]; try simp only [List.setIfInBounds_toArray, List.set_cons_zero, List.set_cons_succ]
            refine wpAnyH_take (i := 13) (oi := _) (v := undef) rfl (by kernel_rfl) (by kernel_rfl) (by kernel_rfl) (fun _ _ _ h => h) (Or.inr ⟨by rfl, rfl⟩) (by assumption) ?_
            try dsimp only [Act.put, List.getElem_toArray, List.getElem_cons_zero, List.getElem_cons_succ]; try simp only [List.setIfInBounds_toArray, List.set_cons_zero, List.set_cons_succ]
            refine wpAnyH_take (i := 14) (oi := _) (v := undef) rfl (by kernel_rfl) (by kernel_rfl) (by kernel_rfl) (fun _ _ _ h => h) (Or.inr ⟨by rfl, rfl⟩) (by assumption) ?_
            try dsimp only [Act.put, List.getElem_toArray, List.getElem_cons_zero, List.getElem_cons_succ]; try simp only [List.setIfInBounds_toArray, List.set_cons_zero, List.set_cons_succ]
            refine wpAnyH_take (i := 15) (oi := _) (v := undef) rfl (by kernel_rfl) (by kernel_rfl) (by kernel_rfl) (fun _ _ _ h => h) (Or.inr ⟨by rfl, rfl⟩) (by assumption) ?_
            try dsimp only [Act.put, List.getElem_toArray, List.getElem_cons_zero, List.getElem_cons_succ]; try simp only [List.setIfInBounds_toArray, List.set_cons_zero, List.set_cons_succ]
            refine wpAnyH_take (i := 16) (oi := _) (v := undef) rfl (by kernel_rfl) (by kernel_rfl) (by kernel_rfl) (fun _ _ _ h => h) (Or.inr ⟨by rfl, rfl⟩) (by assumption) ?_
            try dsimp only [Act.put, List.getElem_toArray, List.getElem_cons_zero, List.getElem_cons_succ]; try simp only [List.setIfInBounds_toArray, List.set_cons_zero, List.set_cons_succ]
            refine wpAnyH_take (i := 17) (oi := _) (v := undef) rfl (by kernel_rfl) (by kernel_rfl) (by kernel_rfl) (fun _ _ _ h => h) (Or.inr ⟨by rfl, rfl⟩) (by assumption) ?_
            try dsimp only [Act.put, List.getElem_toArray, List.getElem_cons_zero, List.getElem_cons_succ]; try simp only [List.setIfInBounds_toArray, List.set_cons_zero, List.set_cons_succ]
            refine wpAnyH_take (i := 18) (oi := _) (v := undef) rfl (by kernel_rfl) (by kernel_rfl) (by kernel_rfl) (fun _ _ _ h => h) (Or.inr ⟨by rfl, rfl⟩) (by assumption) ?_
            try dsimp only [Act.put, List.getElem_toArray, List.getElem_cons_zero, List.getElem_cons_succ]; try simp only [List.setIfInBounds_toArray, List.set_cons_zero, List.set_cons_succ]
            refine wpAnyH_take (i := 19) (oi := _) (v := undef) rfl (by kernel_rfl) (by kernel_rfl) (by kernel_rfl) (fun _ _ _ h => h) (Or.inr ⟨by rfl, rfl⟩) (by assumption) ?_
            try dsimp only [Act.put, List.getElem_toArray, List.getElem_cons_zero, List.getElem_cons_succ]; try simp only [List.setIfInBounds_toArray, List.set_cons_zero, List.set_cons_succ]
            refine wpAnyH_take (i := 20) (oi := _) (v := undef) rfl (by kernel_rfl) (by kernel_rfl) (by kernel_rfl) (fun _ _ _ h => h) (Or.inr ⟨by rfl, rfl⟩) (by assumption) ?_
            try dsimp only [Act.put, List.getElem_toArray, List.getElem_cons_zero, List.getElem_cons_succ]; try simp only [List.setIfInBounds_toArray, List.set_cons_zero, List.set_cons_succ]
            refine wpAnyH_take (i := 21) (oi := _) (v := ?vq22) rfl (by kernel_rfl) (by kernel_rfl) (by kernel_rfl) (fun _ _ _ h => h) (Or.inl ⟨by rfl, ?hq22⟩) (by assumption) ?rq22
            case hq22 => (intro w hSw; go_simp; try with_reducible rfl)
            try dsimp only [Act.put, List.getElem_toArray, List.getElem_cons_zero, List.getElem_cons_succ]; try simp only [List.setIfInBounds_toArray, List.set_cons_zero, List.set_cons_succ]
            refine wpAnyH_done (by kernel_rfl) ?_ _
            go_wp2
            go_roundw
            case rel => exact ⟨j + 1, by omega, by go_num, Lib.hid (fun x hx h => by
              rcases (HT.out x).1 hx with h1 | h1
              · exact HD.out x h1 h
              · exact h1.symm), then_ HBL.out hb⟩
            case measure => simp [intOf]; omega
          · have hq : (s.toList == t.toList) = false := by rw [str_beq]; simp [hst]
            have HQ := Lib.hid (show ((hH s).toList == (hH t).toList) = decide (hH s = hH t) from str_beq _ _)
            generalize hu : hH s = u at HX HQ
            generalize hv : hH t = v at HY HQ
            have HU := Lib.hid hu; have HV := Lib.hid hv
            clear hu hv
            have HST := Lib.hid hst
            clear hst
            go_wp2_with fail
            by_cases huv : u = v
            · have huu : (u.toList == v.toList) = true := by rw [str_beq]; simp [huv]
              refine wp_region_held_drew (S := (fun W => W.cell? ⟨b1, off + k, none⟩ = some (.string s) ∧ W.cell? ⟨b2, off2 + j, none⟩ = some (.string t))) (by kernel_rfl) ⟨hc, hd⟩ (fun hHeld => ?_)
              refine wpAnyH_take (i := 0) (oi := _) (v := ?vq23) rfl (by kernel_rfl) (by kernel_rfl) (by kernel_rfl) (fun _ _ _ h => h) (Or.inl ⟨by rfl, ?hq23⟩) (by assumption) ?rq23
              case hq23 => (intro w hSw; go_simp; try with_reducible rfl)
              try dsimp only [Act.put, List.getElem_toArray, List.getElem_cons_zero, List.getElem_cons_succ]; try simp only [List.setIfInBounds_toArray, List.set_cons_zero, List.set_cons_succ]
              refine wpAnyH_take (i := 1) (oi := _) (v := ?vq24) rfl (by kernel_rfl) (by kernel_rfl) (by kernel_rfl) (fun _ _ _ h => h) (Or.inl ⟨by rfl, ?hq24⟩) (by assumption) ?rq24
              case hq24 => (intro w hSw; go_simp; try with_reducible rfl)
              try dsimp only [Act.put, List.getElem_toArray, List.getElem_cons_zero, List.getElem_cons_succ]; try simp only [List.setIfInBounds_toArray, List.set_cons_zero, List.set_cons_succ]
              refine wpAnyH_take (i := 2) (oi := _) (v := ?vq25) rfl (by kernel_rfl) (by kernel_rfl) (by kernel_rfl) (fun _ _ _ h => h) (Or.inl ⟨by rfl, ?hq25⟩) (by assumption) ?rq25
              case hq25 => (intro w hSw; go_simp; try with_reducible rfl)
              try dsimp only [Act.put, List.getElem_toArray, List.getElem_cons_zero, List.getElem_cons_succ]; try simp only [List.setIfInBounds_toArray, List.set_cons_zero, List.set_cons_succ]
              refine wpAnyH_take (i := 3) (oi := _) (v := ?vq26) rfl (by kernel_rfl) (by kernel_rfl) (by kernel_rfl) (fun _ _ _ h => h) (Or.inl ⟨by rfl, ?hq26⟩) (by assumption) ?rq26
              case hq26 => (intro w hSw; go_simp; try with_reducible rfl)
              try dsimp only [Act.put, List.getElem_toArray, List.getElem_cons_zero, List.getElem_cons_succ]; try simp only [List.setIfInBounds_toArray, List.set_cons_zero, List.set_cons_succ]
              refine wpAnyH_take (i := 4) (oi := _) (v := ?vq27) rfl (by kernel_rfl) (by kernel_rfl) (by kernel_rfl) (fun _ _ _ h => h) (Or.inl ⟨by rfl, ?hq27⟩) (by assumption) ?rq27
              case hq27 => (intro w hSw; go_simp; try with_reducible rfl)
              try dsimp only [Act.put, List.getElem_toArray, List.getElem_cons_zero, List.getElem_cons_succ]; try simp only [List.setIfInBounds_toArray, List.set_cons_zero, List.set_cons_succ]
              refine wpAnyH_take (i := 5) (oi := _) (v := ?vq28) rfl (by kernel_rfl) (by kernel_rfl) (by kernel_rfl) (fun _ _ _ h => h) (Or.inl ⟨by rfl, ?hq28⟩) (by assumption) ?rq28
              case hq28 => (intro w hSw; go_simp; try with_reducible rfl)
              try dsimp only [Act.put, List.getElem_toArray, List.getElem_cons_zero, List.getElem_cons_succ]; try simp only [List.setIfInBounds_toArray, List.set_cons_zero, List.set_cons_succ]
              refine wpAnyH_take (i := 6) (oi := _) (v := ?vq29) rfl (by kernel_rfl) (by kernel_rfl) (by kernel_rfl) (fun _ _ _ h => h) (Or.inl ⟨by rfl, ?hq29⟩) (by assumption) ?rq29
              case hq29 => (intro w hSw; go_simp; try with_reducible rfl)
              try dsimp only [Act.put, List.getElem_toArray, List.getElem_cons_zero, List.getElem_cons_succ]; try simp only [List.setIfInBounds_toArray, List.set_cons_zero, List.set_cons_succ]
              refine wpAnyH_take (i := 7) (oi := _) (v := ?vq30) rfl (by kernel_rfl) (by kernel_rfl) (by kernel_rfl) (fun _ _ _ h => h) (Or.inl ⟨by rfl, ?hq30⟩) (by assumption) ?rq30
              case hq30 => (intro w hSw; go_simp; try with_reducible rfl)
              try dsimp only [Act.put, List.getElem_toArray, List.getElem_cons_zero, List.getElem_cons_succ]; try simp only [List.setIfInBounds_toArray, List.set_cons_zero, List.set_cons_succ]
              refine wpAnyH_take (i := 8) (oi := _) (v := ?vq31) rfl (by kernel_rfl) (by kernel_rfl) (by kernel_rfl) (fun _ _ _ h => h) (Or.inl ⟨by rfl, ?hq31⟩) (by assumption) ?rq31
              case hq31 => (intro w hSw; go_simp; try with_reducible rfl)
              try dsimp only [Act.put, List.getElem_toArray, List.getElem_cons_zero, List.getElem_cons_succ]; try simp only [List.setIfInBounds_toArray, List.set_cons_zero, List.set_cons_succ]
              refine wpAnyH_take (i := 9) (oi := _) (v := ?vq32) rfl (by kernel_rfl) (by kernel_rfl) (by kernel_rfl) (fun _ _ _ h => h) (Or.inl ⟨by rfl, ?hq32⟩) (by assumption) ?rq32
              case hq32 => (intro w hSw; go_simp; try with_reducible rfl)
              try dsimp only [Act.put, List.getElem_toArray, List.getElem_cons_zero, List.getElem_cons_succ]; try simp only [List.setIfInBounds_toArray, List.set_cons_zero, List.set_cons_succ]
              refine wpAnyH_take (i := 10) (oi := _) (v := ?vq33) rfl (by kernel_rfl) (by kernel_rfl) (by kernel_rfl) (fun _ _ _ h => h) (Or.inl ⟨by rfl, ?hq33⟩) (by assumption) ?rq33
              case hq33 => (intro w hSw; go_simp; try with_reducible rfl)
              try dsimp only [Act.put, List.getElem_toArray, List.getElem_cons_zero, List.getElem_cons_succ]; try simp only [List.setIfInBounds_toArray, List.set_cons_zero, List.set_cons_succ]
              refine wpAnyH_take (i := 11) (oi := _) (v := ?vq34) rfl (by kernel_rfl) (by kernel_rfl) (by kernel_rfl) (fun _ _ _ h => h) (Or.inl ⟨by rfl, ?hq34⟩) (by assumption) ?rq34
              case hq34 => (intro w hSw; go_simp; try with_reducible rfl)
              try dsimp only [Act.put, List.getElem_toArray, List.getElem_cons_zero, List.getElem_cons_succ]; try simp only [List.setIfInBounds_toArray, List.set_cons_zero, List.set_cons_succ]
              refine wpAnyH_take (i := 12) (oi := _) (v := ?vq35) rfl (by kernel_rfl) (by kernel_rfl) (by kernel_rfl) (fun _ _ _ h => h) (Or.inl ⟨by rfl, ?hq35⟩) (by assumption) ?rq35
              case hq35 => (intro w hSw; go_simp; try with_reducible rfl)
              try dsimp only [Act.put, List.getElem_toArray, List.getElem_cons_zero, List.getElem_cons_succ]; try simp only [List.setIfInBounds_toArray, List.set_cons_zero, List.set_cons_succ]
              refine wpAnyH_take (i := 13) (oi := _) (v := ?vq36) rfl (by kernel_rfl) (by kernel_rfl) (by kernel_rfl) (fun _ _ _ h => h) (Or.inl ⟨by rfl, ?hq36⟩) (by assumption) ?rq36
              case hq36 => (intro w hSw; go_simp; try with_reducible rfl)
              try dsimp only [Act.put, List.getElem_toArray, List.getElem_cons_zero, List.getElem_cons_succ]; try simp only [List.setIfInBounds_toArray, List.set_cons_zero, List.set_cons_succ]
              refine wpAnyH_take (i := 15) (oi := _) (v := ?vq37) rfl (by kernel_rfl) (by kernel_rfl) (by kernel_rfl) (fun _ _ _ h => h) (Or.inl ⟨by rfl, ?hq37⟩) (by assumption) ?rq37
              case hq37 => (intro w hSw; go_simp; try with_reducible rfl)
              try dsimp only [Act.put, List.getElem_toArray, List.getElem_cons_zero, List.getElem_cons_succ]; try simp only [List.setIfInBounds_toArray, List.set_cons_zero, List.set_cons_succ]
              refine wpAnyH_take (i := 16) (oi := _) (v := ?vq38) rfl (by kernel_rfl) (by kernel_rfl) (by kernel_rfl) (fun _ _ _ h => h) (Or.inl ⟨by rfl, ?hq38⟩) (by assumption) ?rq38
              case hq38 => (intro w hSw; go_simp; try with_reducible rfl)
              try dsimp only [Act.put, List.getElem_toArray, List.getElem_cons_zero, List.getElem_cons_succ]; try simp only [List.setIfInBounds_toArray, List.set_cons_zero, List.set_cons_succ]
              refine wpAnyH_take (i := 17) (oi := _) (v := ?vq39) rfl (by kernel_rfl) (by kernel_rfl) (by kernel_rfl) (fun _ _ _ h => h) (Or.inl ⟨by rfl, ?hq39⟩) (by assumption) ?rq39
              case hq39 => (intro w hSw; go_simp; try with_reducible rfl)
              try dsimp only [Act.put, List.getElem_toArray, List.getElem_cons_zero, List.getElem_cons_succ]; try simp only [List.setIfInBounds_toArray, List.set_cons_zero, List.set_cons_succ]
              refine wpAnyH_take (i := 18) (oi := _) (v := ?vq40) rfl (by kernel_rfl) (by kernel_rfl) (by kernel_rfl) (fun _ _ _ h => h) (Or.inl ⟨by rfl, ?hq40⟩) (by assumption) ?rq40
              case hq40 => (intro w hSw; go_simp; try with_reducible rfl)
              try dsimp only [Act.put, List.getElem_toArray, List.getElem_cons_zero, List.getElem_cons_succ]; try simp only [List.setIfInBounds_toArray, List.set_cons_zero, List.set_cons_succ]
              refine wpAnyH_ready (rs := [14]) (by kernel_rfl) (by simp) ?_
              refine AllReadyH.cons (o := _) rfl (fun K hK => ?_) ?_
              · rw [if_pos (by rfl)]
                go_simp
                refine (HX.out _).mono ?_
                rintro e wx ⟨rfl, hbx⟩
                have hb := then_ hb hbx
                clear hbx
                go_wp2_with fail
                refine hK.out _ _ ⟨cell_below hb HCC.out, cell_below hb HDD.out⟩ (fun hHeld => ?_)
                clear hK K
                try dsimp only [Act.put, List.getElem_toArray, List.getElem_cons_zero, List.getElem_cons_succ]; try simp only [List.setIfInBounds_toArray, List.set_cons_zero, List.set_cons_succ]
                refine wpAnyH_ready (rs := [19]) (by kernel_rfl) (by simp) ?_
                refine AllReadyH.cons (o := _) rfl (fun K hK => ?_) ?_
                · rw [if_pos (by rfl)]
                  go_simp
                  refine (HY.out _).mono ?_
                  rintro e wx ⟨rfl, hbx⟩
                  have hb := then_ hb hbx
                  clear hbx
                  go_wp2_with fail
                  refine hK.out _ _ ⟨cell_below hb HCC.out, cell_below hb HDD.out⟩ (fun hHeld => ?_)
                  clear hK K
                  try dsimp only [Act.put, List.getElem_toArray, List.getElem_cons_zero, List.getElem_cons_succ]; try simp only [List.setIfInBounds_toArray, List.set_cons_zero, List.set_cons_succ]
                  refine wpAnyH_take (i := 20) (oi := _) (v := ?vq41) rfl (by kernel_rfl) (by kernel_rfl) (by kernel_rfl) (fun _ _ _ h => h) (Or.inl ⟨by rfl, ?hq41⟩) (by assumption) ?rq41
                  case hq41 => (intro w hSw; go_simp; try with_reducible rfl)
                  try dsimp only [Act.put, List.getElem_toArray, List.getElem_cons_zero, List.getElem_cons_succ]; try simp only [List.setIfInBounds_toArray, List.set_cons_zero, List.set_cons_succ]
                  refine wpAnyH_take (i := 21) (oi := _) (v := ?vq42) rfl (by kernel_rfl) (by kernel_rfl) (by kernel_rfl) (fun _ _ _ h => h) (Or.inl ⟨by rfl, ?hq42⟩) (by assumption) ?rq42
                  case hq42 => (intro w hSw; go_simp; try with_reducible rfl)
                  try dsimp only [Act.put, List.getElem_toArray, List.getElem_cons_zero, List.getElem_cons_succ]; try simp only [List.setIfInBounds_toArray, List.set_cons_zero, List.set_cons_succ]
                  refine wpAnyH_done (by kernel_rfl) ?_ _
                  go_wp2
                  go_ret
                  exact ⟨true, by simp, rfl, then_ HBL.out hb⟩
                exact AllReadyH.nil
              exact AllReadyH.nil
            · have huu : (u.toList == v.toList) = false := by rw [str_beq]; simp [huv]
              have HUV := Lib.hid huv
              clear huv
              refine wp_region_held_drew (S := (fun W => W.cell? ⟨b1, off + k, none⟩ = some (.string s) ∧ W.cell? ⟨b2, off2 + j, none⟩ = some (.string t))) (by kernel_rfl) ⟨hc, hd⟩ (fun hHeld => ?_)
              refine wpAnyH_take (i := 0) (oi := _) (v := ?vq43) rfl (by kernel_rfl) (by kernel_rfl) (by kernel_rfl) (fun _ _ _ h => h) (Or.inl ⟨by rfl, ?hq43⟩) (by assumption) ?rq43
              case hq43 => (intro w hSw; go_simp; try with_reducible rfl)
              try dsimp only [Act.put, List.getElem_toArray, List.getElem_cons_zero, List.getElem_cons_succ]; try simp only [List.setIfInBounds_toArray, List.set_cons_zero, List.set_cons_succ]
              refine wpAnyH_take (i := 1) (oi := _) (v := ?vq44) rfl (by kernel_rfl) (by kernel_rfl) (by kernel_rfl) (fun _ _ _ h => h) (Or.inl ⟨by rfl, ?hq44⟩) (by assumption) ?rq44
              case hq44 => (intro w hSw; go_simp; try with_reducible rfl)
              try dsimp only [Act.put, List.getElem_toArray, List.getElem_cons_zero, List.getElem_cons_succ]; try simp only [List.setIfInBounds_toArray, List.set_cons_zero, List.set_cons_succ]
              refine wpAnyH_take (i := 2) (oi := _) (v := ?vq45) rfl (by kernel_rfl) (by kernel_rfl) (by kernel_rfl) (fun _ _ _ h => h) (Or.inl ⟨by rfl, ?hq45⟩) (by assumption) ?rq45
              case hq45 => (intro w hSw; go_simp; try with_reducible rfl)
              try dsimp only [Act.put, List.getElem_toArray, List.getElem_cons_zero, List.getElem_cons_succ]; try simp only [List.setIfInBounds_toArray, List.set_cons_zero, List.set_cons_succ]
              refine wpAnyH_take (i := 3) (oi := _) (v := ?vq46) rfl (by kernel_rfl) (by kernel_rfl) (by kernel_rfl) (fun _ _ _ h => h) (Or.inl ⟨by rfl, ?hq46⟩) (by assumption) ?rq46
              case hq46 => (intro w hSw; go_simp; try with_reducible rfl)
              try dsimp only [Act.put, List.getElem_toArray, List.getElem_cons_zero, List.getElem_cons_succ]; try simp only [List.setIfInBounds_toArray, List.set_cons_zero, List.set_cons_succ]
              refine wpAnyH_take (i := 4) (oi := _) (v := ?vq47) rfl (by kernel_rfl) (by kernel_rfl) (by kernel_rfl) (fun _ _ _ h => h) (Or.inl ⟨by rfl, ?hq47⟩) (by assumption) ?rq47
              case hq47 => (intro w hSw; go_simp; try with_reducible rfl)
              try dsimp only [Act.put, List.getElem_toArray, List.getElem_cons_zero, List.getElem_cons_succ]; try simp only [List.setIfInBounds_toArray, List.set_cons_zero, List.set_cons_succ]
              refine wpAnyH_take (i := 5) (oi := _) (v := ?vq48) rfl (by kernel_rfl) (by kernel_rfl) (by kernel_rfl) (fun _ _ _ h => h) (Or.inl ⟨by rfl, ?hq48⟩) (by assumption) ?rq48
              case hq48 => (intro w hSw; go_simp; try with_reducible rfl)
              try dsimp only [Act.put, List.getElem_toArray, List.getElem_cons_zero, List.getElem_cons_succ]; try simp only [List.setIfInBounds_toArray, List.set_cons_zero, List.set_cons_succ]
              refine wpAnyH_take (i := 6) (oi := _) (v := ?vq49) rfl (by kernel_rfl) (by kernel_rfl) (by kernel_rfl) (fun _ _ _ h => h) (Or.inl ⟨by rfl, ?hq49⟩) (by assumption) ?rq49
              case hq49 => (intro w hSw; go_simp; try with_reducible rfl)
              try dsimp only [Act.put, List.getElem_toArray, List.getElem_cons_zero, List.getElem_cons_succ]; try simp only [List.setIfInBounds_toArray, List.set_cons_zero, List.set_cons_succ]
              refine wpAnyH_take (i := 7) (oi := _) (v := ?vq50) rfl (by kernel_rfl) (by kernel_rfl) (by kernel_rfl) (fun _ _ _ h => h) (Or.inl ⟨by rfl, ?hq50⟩) (by assumption) ?rq50
              case hq50 => (intro w hSw; go_simp; try with_reducible rfl)
              try dsimp only [Act.put, List.getElem_toArray, List.getElem_cons_zero, List.getElem_cons_succ]; try simp only [List.setIfInBounds_toArray, List.set_cons_zero, List.set_cons_succ]
              refine wpAnyH_take (i := 8) (oi := _) (v := ?vq51) rfl (by kernel_rfl) (by kernel_rfl) (by kernel_rfl) (fun _ _ _ h => h) (Or.inl ⟨by rfl, ?hq51⟩) (by assumption) ?rq51
              case hq51 => (intro w hSw; go_simp; try with_reducible rfl)
              try dsimp only [Act.put, List.getElem_toArray, List.getElem_cons_zero, List.getElem_cons_succ]; try simp only [List.setIfInBounds_toArray, List.set_cons_zero, List.set_cons_succ]
              refine wpAnyH_take (i := 9) (oi := _) (v := ?vq52) rfl (by kernel_rfl) (by kernel_rfl) (by kernel_rfl) (fun _ _ _ h => h) (Or.inl ⟨by rfl, ?hq52⟩) (by assumption) ?rq52
              case hq52 => (intro w hSw; go_simp; try with_reducible rfl)
              try dsimp only [Act.put, List.getElem_toArray, List.getElem_cons_zero, List.getElem_cons_succ]; try simp only [List.setIfInBounds_toArray, List.set_cons_zero, List.set_cons_succ]
              refine wpAnyH_take (i := 10) (oi := _) (v := ?vq53) rfl (by kernel_rfl) (by kernel_rfl) (by kernel_rfl) (fun _ _ _ h => h) (Or.inl ⟨by rfl, ?hq53⟩) (by assumption) ?rq53
              case hq53 => (intro w hSw; go_simp; try with_reducible rfl)
              try dsimp only [Act.put, List.getElem_toArray, List.getElem_cons_zero, List.getElem_cons_succ]; try simp only [List.setIfInBounds_toArray, List.set_cons_zero, List.set_cons_succ]
              refine wpAnyH_take (i := 11) (oi := _) (v := ?vq54) rfl (by kernel_rfl) (by kernel_rfl) (by kernel_rfl) (fun _ _ _ h => h) (Or.inl ⟨by rfl, ?hq54⟩) (by assumption) ?rq54
              case hq54 => (intro w hSw; go_simp; try with_reducible rfl)
              try dsimp only [Act.put, List.getElem_toArray, List.getElem_cons_zero, List.getElem_cons_succ]; try simp only [List.setIfInBounds_toArray, List.set_cons_zero, List.set_cons_succ]
              refine wpAnyH_take (i := 12) (oi := _) (v := ?vq55) rfl (by kernel_rfl) (by kernel_rfl) (by kernel_rfl) (fun _ _ _ h => h) (Or.inl ⟨by rfl, ?hq55⟩) (by assumption) ?rq55
              case hq55 => (intro w hSw; go_simp; try with_reducible rfl)
              try dsimp only [Act.put, List.getElem_toArray, List.getElem_cons_zero, List.getElem_cons_succ]; try simp only [List.setIfInBounds_toArray, List.set_cons_zero, List.set_cons_succ]
              refine wpAnyH_take (i := 13) (oi := _) (v := ?vq56) rfl (by kernel_rfl) (by kernel_rfl) (by kernel_rfl) (fun _ _ _ h => h) (Or.inl ⟨by rfl, ?hq56⟩) (by assumption) ?rq56
              case hq56 => (intro w hSw; go_simp; try with_reducible rfl)
              try dsimp only [Act.put, List.getElem_toArray, List.getElem_cons_zero, List.getElem_cons_succ]; try simp only [List.setIfInBounds_toArray, List.set_cons_zero, List.set_cons_succ]
              refine wpAnyH_take (i := 15) (oi := _) (v := ?vq57) rfl (by kernel_rfl) (by kernel_rfl) (by kernel_rfl) (fun _ _ _ h => h) (Or.inl ⟨by rfl, ?hq57⟩) (by assumption) ?rq57
              case hq57 => (intro w hSw; go_simp; try with_reducible rfl)
              try dsimp only [Act.put, List.getElem_toArray, List.getElem_cons_zero, List.getElem_cons_succ]; try simp only [List.setIfInBounds_toArray, List.set_cons_zero, List.set_cons_succ]
              refine wpAnyH_take (i := 16) (oi := _) (v := ?vq58) rfl (by kernel_rfl) (by kernel_rfl) (by kernel_rfl) (fun _ _ _ h => h) (Or.inl ⟨by rfl, ?hq58⟩) (by assumption) ?rq58
              case hq58 => (intro w hSw; go_simp; try with_reducible rfl)
              try dsimp only [Act.put, List.getElem_toArray, List.getElem_cons_zero, List.getElem_cons_succ]; try simp only [List.setIfInBounds_toArray, List.set_cons_zero, List.set_cons_succ]
              refine wpAnyH_take (i := 17) (oi := _) (v := ?vq59) rfl (by kernel_rfl) (by kernel_rfl) (by kernel_rfl) (fun _ _ _ h => h) (Or.inl ⟨by rfl, ?hq59⟩) (by assumption) ?rq59
              case hq59 => (intro w hSw; go_simp; try with_reducible rfl)
              try dsimp only [Act.put, List.getElem_toArray, List.getElem_cons_zero, List.getElem_cons_succ]; try simp only [List.setIfInBounds_toArray, List.set_cons_zero, List.set_cons_succ]
              refine wpAnyH_take (i := 18) (oi := _) (v := ?vq60) rfl (by kernel_rfl) (by kernel_rfl) (by kernel_rfl) (fun _ _ _ h => h) (Or.inl ⟨by rfl, ?hq60⟩) (by assumption) ?rq60
              case hq60 => (intro w hSw; go_simp; try with_reducible rfl)
              try dsimp only [Act.put, List.getElem_toArray, List.getElem_cons_zero, List.getElem_cons_succ]; try simp only [List.setIfInBounds_toArray, List.set_cons_zero, List.set_cons_succ]
              refine wpAnyH_ready (rs := [14]) (by kernel_rfl) (by simp) ?_
              refine AllReadyH.cons (o := _) rfl (fun K hK => ?_) ?_
              · rw [if_pos (by rfl)]
                go_simp
                refine (HX.out _).mono ?_
                rintro e wx ⟨rfl, hbx⟩
                have hb := then_ hb hbx
                clear hbx
                go_wp2_with fail
                refine hK.out _ _ ⟨cell_below hb HCC.out, cell_below hb HDD.out⟩ (fun hHeld => ?_)
                clear hK K
                try dsimp only [Act.put, List.getElem_toArray, List.getElem_cons_zero, List.getElem_cons_succ]; try simp only [List.setIfInBounds_toArray, List.set_cons_zero, List.set_cons_succ]
                refine wpAnyH_ready (rs := [19]) (by kernel_rfl) (by simp) ?_
                refine AllReadyH.cons (o := _) rfl (fun K hK => ?_) ?_
                · rw [if_pos (by rfl)]
                  go_simp
                  refine (HY.out _).mono ?_
                  rintro e wx ⟨rfl, hbx⟩
                  have hb := then_ hb hbx
                  clear hbx
                  go_wp2_with fail
                  refine hK.out _ _ ⟨cell_below hb HCC.out, cell_below hb HDD.out⟩ (fun hHeld => ?_)
                  clear hK K
                  try dsimp only [Act.put, List.getElem_toArray, List.getElem_cons_zero, List.getElem_cons_succ]; try simp only [List.setIfInBounds_toArray, List.set_cons_zero, List.set_cons_succ]
                  refine wpAnyH_take (i := 20) (oi := _) (v := ?vq61) rfl (by kernel_rfl) (by kernel_rfl) (by kernel_rfl) (fun _ _ _ h => h) (Or.inl ⟨by rfl, ?hq61⟩) (by assumption) ?rq61
                  case hq61 => (intro w hSw; go_simp; try with_reducible rfl)
                  try dsimp only [Act.put, List.getElem_toArray, List.getElem_cons_zero, List.getElem_cons_succ]; try simp only [List.setIfInBounds_toArray, List.set_cons_zero, List.set_cons_succ]
                  refine wpAnyH_take (i := 21) (oi := _) (v := ?vq62) rfl (by kernel_rfl) (by kernel_rfl) (by kernel_rfl) (fun _ _ _ h => h) (Or.inl ⟨by rfl, ?hq62⟩) (by assumption) ?rq62
                  case hq62 => (intro w hSw; go_simp; try with_reducible rfl)
                  try dsimp only [Act.put, List.getElem_toArray, List.getElem_cons_zero, List.getElem_cons_succ]; try simp only [List.setIfInBounds_toArray, List.set_cons_zero, List.set_cons_succ]
                  refine wpAnyH_done (by kernel_rfl) ?_ _
                  go_wp2
                  go_roundw
                  case rel => exact ⟨j + 1, by omega, by go_num, Lib.hid (fun x hx h => by
                    rcases (HT.out x).1 hx with h1 | h1
                    · exact HD.out x h1 (HU.out.trans h)
                    · rw [h1, HV.out] at h; exact absurd h HUV.out), then_ HBL.out hb⟩
                  case measure => simp [intOf]; omega
                exact AllReadyH.nil
              exact AllReadyH.nil
        · have hjm : (m : Int) ≤ (j : Int) := by omega
          have HF : Hid (∀ t ∈ ts, hH s = hH t → s = t) := Lib.hid (by have := HD.out; rwa [List.take_of_length_le (by rw [HN2.out]; omega)] at this)
          have HB2 := Lib.hid hbel
          clear hbel HD
          go_wp2
          go_roundw
          case rel => exact ⟨k + 1, by omega, by go_num, Lib.hid (fun x hx => by
            rcases (HS.out x).1 hx with h1 | h1
            · exact HC.out x h1
            · rw [h1]; exact HF.out), HB2.out⟩
          case measure => simp [intOf]; omega
    · have hkn : (n : Int) ≤ (k : Int) := by omega
      have HF : Hid (NoColl ss ts) := Lib.hid (by have := HC.out; rwa [List.take_of_length_le (by rw [HN.out]; omega)] at this)
      go_wp2
      go_ret
      exact ⟨false, fun _ => HF.out, rfl, hbel⟩
def sumL (l : List Leaf) (h i : Nat) : ByteArray := sumd tT hH (shareL l) h i
theorem sumL_zero (l : List Leaf) (i : Nat) : sumL l 0 i = tT (shareL l i) := rfl
theorem sumL_succ (l : List Leaf) (h i : Nat) : sumL l (h + 1) i = tT [nodeL l h (2 * i), nodeL l h (2 * i + 1)] := rfl
def tA (l : List Leaf) (k : Nat) : List ByteArray := (List.range k).map (sumL l 0)
def tB (l : List Leaf) (p : Nat) : List ByteArray := (List.range (p - 1)).flatMap fun j => (List.range (2 ^ j)).map (sumL l (6 - j))
/-- the texts that are summed, until the i-th of a level -/
def textsAt (l : List Leaf) (L i : Nat) : List ByteArray := tA l 64 ++ tB l L ++ (List.range i).map (sumL l (7 - L))
def textsF (l : List Leaf) : List ByteArray := textsAt l 7 0
theorem tA_succ (l : List Leaf) (k : Nat) : tA l (k + 1) = tA l k ++ [sumL l 0 k] := by unfold tA; rw [List.range_succ, List.map_append]; rfl
theorem tA_len (l : List Leaf) (k : Nat) : (tA l k).length = k := by unfold tA; simp
theorem textsAt_start (l : List Leaf) : textsAt l 1 0 = tA l 64 := by unfold textsAt tB; simp
theorem textsAt_succ (l : List Leaf) (L i : Nat) : textsAt l L (i + 1) = textsAt l L i ++ [sumL l (7 - L) i] := by unfold textsAt; rw [List.range_succ, List.map_append, ← List.append_assoc]; rfl
theorem textsAt_next (l : List Leaf) (p : Nat) (h : p ≤ 6) : textsAt l (p + 1) (2 ^ p) = textsAt l (p + 1 + 1) 0 := by
  unfold textsAt tB
  rw [show p + 1 + 1 - 1 = p + 1 by omega, List.range_succ, List.flatMap_append, show 7 - (p + 1) = 6 - p by omega]
  simp
theorem tB_len (l : List Leaf) : ∀ L, L ≤ 7 → (tB l L).length ≤ 63 := fun L hL => match L, hL with
  | 0, _ => by have : (tB l 0).length = 0 := rfl; omega
  | 1, _ => by have : (tB l 1).length = 0 := rfl; omega
  | 2, _ => by have : (tB l 2).length = 1 := rfl; omega
  | 3, _ => by have : (tB l 3).length = 3 := rfl; omega
  | 4, _ => by have : (tB l 4).length = 7 := rfl; omega
  | 5, _ => by have : (tB l 5).length = 15 := rfl; omega
  | 6, _ => by have : (tB l 6).length = 31 := rfl; omega
  | 7, _ => by have : (tB l 7).length = 63 := rfl; omega
theorem textsAt_len (l : List Leaf) {L i : Nat} (hL : L ≤ 7) (hi : i ≤ 64) : (textsAt l L i).length ≤ 200 := by
  unfold textsAt; rw [List.length_append, List.length_append, tA_len]; have := tB_len l L hL; simp; omega
theorem text_in (l : List Leaf) {h i : Nat} (hh : h ≤ 6) (hi : i < 2 ^ (6 - h)) : sumL l h i ∈ textsF l := by
  unfold textsF textsAt
  simp only [List.range_zero, List.map_nil, List.append_nil]
  rw [List.mem_append]
  rcases Nat.eq_zero_or_pos h with h0 | hp
  · subst h0; left; exact List.mem_map.2 ⟨i, List.mem_range.2 hi, rfl⟩
  · right
    refine List.mem_flatMap.2 ⟨6 - h, List.mem_range.2 (by omega), List.mem_map.2 ⟨i, List.mem_range.2 hi, ?_⟩⟩
    rw [show 6 - (6 - h) = h by omega]
theorem tT_size (ss : List ByteArray) : (tT ss).size = 4 + (4 * ss.length + sumSize ss) := by unfold tT; rw [bs_size]; unfold textsB; rw [List.length_append, be_length, flat_text_length]
theorem sumL_size (l : List Leaf) (hl : l.length ≤ 1000) (hok : ∀ m ∈ l, smallL m) (h i : Nat) : (sumL l h i).size ≤ 300000 := by
  cases h with
  | zero =>
    rw [sumL_zero, tT_size]
    have h1 := texP_len (bktB i) l; have h2 := texP_size (bktB i) l hok
    unfold shareL; omega
  | succ h => rw [sumL_succ, tT_size]; simp [sumSize, nodeL_size]
theorem textsF_size (l : List Leaf) (hl : l.length ≤ 1000) (hok : ∀ m ∈ l, smallL m) : ∀ s ∈ textsF l, s.size ≤ 1000000 := fun s hs => by
  unfold textsF textsAt tA tB at hs
  simp only [List.range_zero, List.map_nil, List.append_nil, List.mem_append, List.mem_map, List.mem_flatMap] at hs
  rcases hs with ⟨i, _, rfl⟩ | ⟨j, _, i, _, rfl⟩
  · exact Nat.le_trans (sumL_size l hl hok _ _) (by decide)
  · exact Nat.le_trans (sumL_size l hl hok _ _) (by decide)
/-- what a list that grows has turned since a world: its first block alone, and new ones -/
structure Out (W5 W : World) (g0 : Option Nat) (v : Value) : Prop where
  gb : W5.grownBy W g0
  at_ : v.ownBlock = g0 ∨ ∃ b, v.ownBlock = some b ∧ W5.heap.size ≤ b
theorem Out.step {W5 W W' : World} {g0 : Option Nat} {v : Value} (h : Out W5 W g0 v) (k : Below W.heap.size W W') : Out W5 W' g0 v := ⟨only_then h.gb k, h.at_⟩
theorem Out.app {W5 W W' : World} {g0 : Option Nat} {v v' : Value} (h : Out W5 W g0 v) (hg : W.grownBy W' v.ownBlock) (hat : v'.ownBlock = v.ownBlock ∨ v'.ownBlock = some W.heap.size) : Out W5 W' g0 v' := by
  refine ⟨⟨hg.os.trans h.gb.os, hg.tape.trans h.gb.tape, hg.output.trans h.gb.output, Nat.le_trans h.gb.size hg.size, fun i hi hn => (hg.block i (Nat.lt_of_lt_of_le hi h.gb.size) (fun e => ?_)).trans (h.gb.block i hi hn)⟩, ?_⟩
  · rcases h.at_ with h1 | ⟨b, h1, h2⟩
    · exact hn (e.trans h1)
    · rw [h1] at e; injection e with e; omega
  · rcases hat with h1 | h1
    · rw [h1]; exact h.at_
    · exact .inr ⟨_, h1, h.gb.size⟩
/-- the levels by value in a block, apart from a block -/
structure Tx (W5 : World) (l : List Leaf) (lb base : Nat) (vl : Nat → Value) (g0 : Option Nat) : Prop where
  g : ∀ b, g0 = some b → b < base
  l1 : base ≤ lb
  l2 : lb < W5.heap.size
  lc : ∀ j, j < 7 → W5.cell? ⟨lb, j, none⟩ = some (vl j)
  lr : ∀ j, j < 7 → W5.ownsRow base 9 1 (vl j) (levN j) (levV l j)
theorem Tx.get {W5 W : World} {l : List Leaf} {lb base : Nat} {vl : Nat → Value} {g0 : Option Nat} (h : Tx W5 l lb base vl g0) (k : W5.grownBy W g0) {j : Nat} (hj : j < 7) : W.cell? ⟨lb, j, none⟩ = some (vl j) ∧ W.ownsRow base 9 1 (vl j) (levN j) (levV l j) :=
  ⟨(World.cell?_of_block (a := ⟨lb, j, none⟩) (k.block lb h.l2 (fun e => by have := h.g lb e.symm; have := h.l1; omega))).trans (h.lc j hj), (h.lr j hj).kept k (by
    by_cases e : (vl j).ownBlock = none
    · exact .inl e
    · right; intro e2
      cases hv : (vl j).ownBlock with
      | none => exact e hv
      | some b => have h1 := ((h.lr j hj).lt b hv).1; rw [hv] at e2; have := h.g b e2.symm; omega)⟩
set_option maxRecDepth 100000 in
set_option maxHeartbeats 8000000 in
theorem texts_any (A : Option Addr) (n c : Nat) (l : List Leaf) (w : World) (hr : Rd w A (leafc l)) (hn : l.length = n) (hm : n ≤ 1000) (hok : ∀ m ∈ l, smallL m) :
    Calls Try.prog 31 #[.slice A n c] w (MakesS (textsF l) w) := by
  have HSH := Lib.hid (shares_any A n c l w hr hn hm hok)
  have HLE := Lib.hid (fun W (h : Below w.heap.size w W) => levels_any A n c l W (hr.below h) hn hm hok)
  have HNK := Lib.hid (show l.length ≤ 1000 by omega); have HOK := Lib.hid hok
  clear hr hn hok
  go_enter Try.func31, Try.ntmps31
  go_wp2_with fail
  refine HSH.out.mono ?_
  rintro e w2 ⟨cs, rfl, hAg, hb2⟩
  obtain ⟨hcs, vsh, hcv, hown⟩ := hAg
  have H1 := Lib.hid (one_ags hcs hcv hown)
  have H1' := Lib.hid (show ∀ u ∈ cs.toList, u.oneCell' = true by have := H1.out; rw [Array.all_eq_true] at this; intro u hu; obtain ⟨j, hj, rfl⟩ := List.mem_iff_getElem.1 hu; exact this j (by simpa using hj))
  have HI := Lib.hid (show (Try.prog.info? 41).map (·.size) = some cs.size by rw [hcs]; kernel_rfl)
  have HZ := Lib.hid hcs
  have hb3 := (Below.refl w2.heap.size w2).alloc (Nat.le_refl _) (.cells cs 41)
  have HSC : Hid (∀ j, j < 64 → (w2.alloc (.cells cs 41)).cell? ⟨w2.heap.size, j, none⟩ = some (vsh j) ∧ (w2.alloc (.cells cs 41)).ownsRow w.heap.size 9 1 (vsh j) (texBN l j) (texBV l j)) := Lib.hid (fun j hj =>
    ⟨by rw [cell_of_row _ _ _ _ _ _ (heap_alloc_new w2 _)]; exact hcv j hj, own_below (hown j hj) hb3⟩)
  have HB3 := Lib.hid (then_ hb2 hb3)
  clear hb3 hb2 hown hcv hcs HSH H1
  go_wp2_with (refine wpList_store_new (by rfl) (.tmp 4) (.tmp 10) (by rfl) w2 _ _ (by rfl) cs (by rfl) (by rfl) (by rw [HZ.out]; rfl) HI.out H1'.out ?_)
  generalize w2.alloc (.cells cs 41) = W3 at HSC HB3 ⊢
  generalize w2.heap.size = sb at HSC ⊢
  go_loopw [3, 5] (fun v i wr => ∃ k : Nat, k ≤ 64 ∧ i = .int .i64 k ∧ Hid (wr.ownsRow W3.heap.size 9 1 v (tA l k).length ((tA l k).map Value.string)) ∧ Below W3.heap.size W3 wr) (fun _ i _ => 64 - (intOf i).toNat)
  case atStart => exact ⟨0, Nat.zero_le _, rfl, Lib.hid (World.ownsRow_nil _ _ _ _), Below.refl _ _⟩
  case round =>
    obtain ⟨k, hk, rfl, HO, hbel⟩ := hrel
    by_cases hlt : k < 64
    · have hcj := cell_below hbel (HSC.out k hlt).1
      have hownj := own_below (HSC.out k hlt).2 hbel
      obtain ⟨Aj, cj, hvj⟩ := own_form hownj
      rw [hvj] at hcj hownj
      have HX := Lib.hid (refTexts_any Aj (texBN l k) cj (shareL l k) wr (Rd.of_own hownj) rfl (Nat.le_trans (tex_bound (l := l) (bktB k) HNK.out HOK.out) (by decide)))
      rw [show bs (textsB (shareL l k)) = sumL l 0 k from rfl] at HX
      have HS := Lib.hid (tA_succ l k)
      have hll : (tA l k).length ≤ 64 := by rw [tA_len]; exact hk
      generalize sumL l 0 k = s at HX HS
      generalize texBN l k = nj at HX hcj
      generalize tA l k = u at HO hll HS
      have HB := Lib.hid hbel
      have hk64 : (k : Int) < 64 := by omega
      clear hownj hvj hbel
      go_wp2_with fail
      refine HX.out.mono ?_
      rintro e w4 ⟨rfl, hb4⟩
      have HO1 := Lib.hid (own_below HO.out hb4); have HB1 := Lib.hid (then_ HB.out hb4)
      have HZ1 := Lib.hid HB1.out.size
      clear hb4 HO HB HX
      go_wp2_with (at_builtin; refine wpList_app elStr (by rfl) (.tmp 15) (.tmp 20) (by rfl) W3.heap.size _ u.length _ (by rfl) (HO1.out.alloc _) (some ⟨w4.heap.size, 0, none⟩) 1 1 [.string s] rfl rfl (Rd.new w4 #[.string s] _) (by intro u hu; simp at hu; subst hu; rfl) (by unfold maxLen; omega) (by omega) (by have := HZ1.out; simp; omega) ?_; intro v1 w5 hown1 hbel1 _ _)
      go_roundw
      case rel => exact ⟨k + 1, by omega, by go_num, Lib.hid (by rw [HS.out, List.map_append, List.length_append]; exact hown1), (HB1.out.alloc HZ1.out _).trans hbel1⟩
      case measure => simp [intOf]; omega
    · have hkk : k = 64 := by omega
      have HO2 : Hid (wr.ownsRow W3.heap.size 9 1 _ (textsAt l 1 0).length ((textsAt l 1 0).map Value.string)) := Lib.hid (by rw [textsAt_start, ← hkk]; exact HO.out)
      have hk1 : (64 : Int) ≤ (k : Int) := by omega
      have HBW := Lib.hid (then_ HB3.out hbel)
      have HB := Lib.hid hbel
      clear hkk HO hbel hlt HSC HI H1' HZ
      rename World => wq
      go_wp2_with fail
      refine (HLE.out wq HBW.out).mono ?_
      rintro e w5 ⟨cs7, rfl, hAg, hb5⟩
      obtain ⟨hcs, vl, hcv, hown⟩ := hAg
      have H1 := Lib.hid (one_ags hcs hcv hown)
      have H1' := Lib.hid (show ∀ u ∈ cs7.toList, u.oneCell' = true by have := H1.out; rw [Array.all_eq_true] at this; intro u hu; obtain ⟨j, hj, rfl⟩ := List.mem_iff_getElem.1 hu; exact this j (by simpa using hj))
      have HI := Lib.hid (show (Try.prog.info? 44).map (·.size) = some cs7.size by rw [hcs]; kernel_rfl)
      have HZ := Lib.hid hcs
      have hb6 := (Below.refl w5.heap.size w5).alloc (Nat.le_refl _) (.cells cs7 44)
      have HTX := Lib.hid (show Tx (w5.alloc (.cells cs7 44)) l w5.heap.size wq.heap.size vl _ from ⟨fun b e => (HO2.out.lt b e).2, hb5.size, by simp, fun j hj => by rw [cell_of_row _ _ _ _ _ _ (heap_alloc_new w5 _)]; exact hcv j hj, fun j hj => own_below (hown j hj) hb6⟩)
      have HO5 := Lib.hid (own_below HO2.out (then_ hb5 hb6))
      have HB5 := Lib.hid (then_ HB.out (then_ hb5 hb6))
      clear hb6 hb5 hown hcv hcs H1 HO2 HB HLE
      go_wp2_with (refine wpList_store_new (by rfl) (.tmp 6) (.tmp 23) (by rfl) w5 _ _ (by rfl) cs7 (by rfl) (by rfl) (by rw [HZ.out]; rfl) HI.out H1'.out ?_)
      generalize w5.alloc (.cells cs7 44) = W5 at HTX HO5 HB5 ⊢
      generalize w5.heap.size = lb at HTX ⊢
      clear HI H1' HZ
      generalize hg0 : u3.ownBlock = g0 at HTX
      have HOUT : Hid (Out W5 W5 g0 u3) := Lib.hid ⟨only_of (Below.refl _ _) _, .inl hg0⟩
      clear hg0
      go_loopw [3, 7] (fun v i wr => ∃ (p L : Nat), Hid (L = p + 1) ∧ p ≤ 6 ∧ i = .int .i64 L ∧ Hid (wr.ownsRow W3.heap.size 9 1 v (textsAt l (p + 1) 0).length ((textsAt l (p + 1) 0).map Value.string)) ∧ Hid (Out W5 wr g0 v) ∧ Below W3.heap.size W3 wr) (fun _ i _ => 7 - (intOf i).toNat)
      case atStart => exact ⟨0, 1, Lib.hid rfl, by decide, rfl, HO5, HOUT, HB5.out⟩
      case round =>
        obtain ⟨p, L, HL, hp6, rfl, HO, HOU, hbel⟩ := hrel
        by_cases hlt : L < 7
        · have hp5 : p < 6 := by have := HL.out; omega
          obtain ⟨q, hq, hq2, hq1, hq32⟩ := two_pow p hp5
          obtain ⟨q2, hqq⟩ : ∃ q2, q2 = 2 * q := ⟨_, rfl⟩
          rw [← hqq] at hq2
          have HQQ := Lib.hid hqq; have HQ := Lib.hid hq; have HQ2 := Lib.hid hq2
          have HB := Lib.hid hbel; have HOV := Lib.hid HOU.out; have HOO := Lib.hid HO.out
          have hL7 : (L : Int) < 7 := by omega
          clear hq hq2 hqq hbel
          rename World => wv
          go_wp2
          go_loopw [3, 8] (fun v i wr => ∃ (h e : Nat), h ≤ q ∧ i = .int .i64 (e : Int) ∧ Hid (e = 2 * h) ∧ Hid (wr.ownsRow W3.heap.size 9 1 v (textsAt l (p + 1) h).length ((textsAt l (p + 1) h).map Value.string)) ∧ Hid (Out W5 wr g0 v) ∧ Below W3.heap.size W3 wr) (fun _ i _ => q2 - (intOf i).toNat)
          case atStart => exact ⟨0, 0, Nat.zero_le _, rfl, Lib.hid rfl, HOO, HOV, HB.out⟩
          case round =>
            obtain ⟨h, e, hh, rfl, HE, HO, HOU, hbel⟩ := hrel
            obtain ⟨hcp, hrow⟩ := HTX.out.get HOU.out.gb hlt
            obtain ⟨Am, cm, hvm⟩ := own_form hrow
            rw [show levN L = q2 by rw [HL.out]; exact HQ2.out] at hvm hrow
            rw [hvm] at hcp hrow
            have HVM := Lib.hid hvm
            by_cases hlt2 : h < q
            · have hrd := Rd.of_own hrow
              have hl1 : (levV l L)[e]? = some (.string (nodeL l (6 - (p + 1)) e)) := by rw [HL.out]; unfold levV; rw [List.getElem?_map]; unfold levL; rw [levK_at l (p + 1) (by rw [HQ2.out, HQQ.out]; have := HE.out; omega)]; rfl
              have hl2 : (levV l L)[e + 1]? = some (.string (nodeL l (6 - (p + 1)) (e + 1))) := by rw [HL.out]; unfold levV; rw [List.getElem?_map]; unfold levL; rw [levK_at l (p + 1) (by rw [HQ2.out, HQQ.out]; have := HE.out; omega)]; rfl
              obtain ⟨b, off, rfl, hc1⟩ := hrd e _ hl1
              have hc2 := rd_cell hrd hl2
              have HKC : Hid (∀ W : World, W5.grownBy W g0 → W.cell? ⟨b, off + e, none⟩ = some (.string (nodeL l (6 - (p + 1)) e)) ∧ W.cell? ⟨b, off + (e + 1), none⟩ = some (.string (nodeL l (6 - (p + 1)) (e + 1))) ∧ W.cell? ⟨lb, L, none⟩ = some (.slice (some ⟨b, off, none⟩) q2 cm)) := Lib.hid (fun W hW => by
                obtain ⟨h1, h2⟩ := HTX.out.get hW hlt
                rw [HVM.out] at h1 h2
                rw [show levN L = q2 by rw [HL.out]; exact HQ2.out] at h2
                have hW2 := Rd.of_own h2
                exact ⟨rd_cell hW2 hl1, rd_cell hW2 hl2, h1⟩)
              have HG := Lib.hid (textsAt_succ l (p + 1) h)
              rw [show 7 - (p + 1) = 6 - (p + 1) + 1 by omega, sumL_succ, ← HE.out] at HG
              have hz1 := nodeL_size l (6 - (p + 1)) e; have hz2 := nodeL_size l (6 - (p + 1)) (e + 1)
              generalize nodeL l (6 - (p + 1)) e = s at hz1 hc1 HG HKC
              generalize nodeL l (6 - (p + 1)) (e + 1) = t at hz2 hc2 HG HKC
              have HX := Lib.hid (fun (g : Nat) W (hrd : Rd W (some ⟨g, 0, none⟩) [.string s, .string t]) => refTexts_any (some ⟨g, 0, none⟩) 2 2 [s, t] W hrd rfl (by simp [sumSize]; omega))
              rw [show bs (textsB [s, t]) = tT [s, t] from rfl] at HX
              generalize tT [s, t] = st at HX HG
              have hll := textsAt_len l (L := p + 1) (i := h) (by omega) (by omega)
              generalize textsAt l (p + 1) h = u at HO HG hll
              have hcp : wr.drew.cell? ⟨lb, L, none⟩ = some (.slice (some ⟨b, off, none⟩) q2 cm) := hcp
              have hc1 : wr.drew.cell? ⟨b, off + e, none⟩ = some (.string s) := hc1
              have hc2 : wr.drew.cell? ⟨b, off + (e + 1), none⟩ = some (.string t) := hc2
              have hb : Below wr.heap.size wr wr.drew := (Below.refl _ _).drew
              have HBL := Lib.hid hbel
              have hh1 : (e : Int) < (q2 : Int) := by have := HE.out; have := HQQ.out; omega
              have hh2 : (e : Int) + 1 < (q2 : Int) := by have := HE.out; have := HQQ.out; omega
              have hem : e < 64 := by have := HE.out; omega
              have hez : (0 : Int) ≤ (e : Int) + 1 := by omega
              have hwr : IntKind.i64.wrap ((e : Int) + 1) = (e : Int) + 1 := IntWalk.i64_in _ (by omega)
              have htn : ((e : Int) + 1).toNat = e + 1 := by omega
              clear hrow hrd hl1 hl2 hz1 hz2 hvm hbel
              have hcp0 : wr.cell? ⟨lb, L, none⟩ = some (.slice (some ⟨b, off, none⟩) q2 cm) := hcp
              go_wp2_with fail
              clear hcp0
              refine wp_region_held_drew (S := (fun W => W.cell? ⟨b, off + e, none⟩ = some (.string s) ∧ W.cell? ⟨b, off + (e + 1), none⟩ = some (.string t) ∧ W.cell? ⟨lb, L, none⟩ = some (.slice (some ⟨b, off, none⟩) q2 cm))) (by kernel_rfl) ⟨hc1, hc2, hcp⟩ (fun hHeld => ?_)
              refine wpAnyH_take (i := 0) (oi := _) (v := ?vq63) rfl (by kernel_rfl) (by kernel_rfl) (by kernel_rfl) (fun _ _ _ h => h) (Or.inl ⟨by rfl, ?hq63⟩) (by assumption) ?rq63
              case hq63 => (intro w hSw; go_simp; try with_reducible rfl)
              try dsimp only [Act.put, List.getElem_toArray, List.getElem_cons_zero, List.getElem_cons_succ]; try simp only [List.setIfInBounds_toArray, List.set_cons_zero, List.set_cons_succ]
              refine wpAnyH_take (i := 1) (oi := _) (v := ?vq64) rfl (by kernel_rfl) (by kernel_rfl) (by kernel_rfl) (fun _ _ _ h => h) (Or.inl ⟨by rfl, ?hq64⟩) (by assumption) ?rq64
              case hq64 => (intro w hSw; go_simp; try with_reducible rfl)
              try dsimp only [Act.put, List.getElem_toArray, List.getElem_cons_zero, List.getElem_cons_succ]; try simp only [List.setIfInBounds_toArray, List.set_cons_zero, List.set_cons_succ]
              refine wpAnyH_take (i := 2) (oi := _) (v := ?vq65) rfl (by kernel_rfl) (by kernel_rfl) (by kernel_rfl) (fun _ _ _ h => h) (Or.inl ⟨by rfl, ?hq65⟩) (by assumption) ?rq65
              case hq65 => (intro w hSw; go_simp; try with_reducible rfl)
              try dsimp only [Act.put, List.getElem_toArray, List.getElem_cons_zero, List.getElem_cons_succ]; try simp only [List.setIfInBounds_toArray, List.set_cons_zero, List.set_cons_succ]
              refine wpAnyH_take (i := 3) (oi := _) (v := ?vq66) rfl (by kernel_rfl) (by kernel_rfl) (by kernel_rfl) (fun _ _ _ h => h) (Or.inl ⟨by rfl, ?hq66⟩) (by assumption) ?rq66
              case hq66 => (intro w hSw; go_simp; try with_reducible rfl)
              try dsimp only [Act.put, List.getElem_toArray, List.getElem_cons_zero, List.getElem_cons_succ]; try simp only [List.setIfInBounds_toArray, List.set_cons_zero, List.set_cons_succ]
              refine wpAnyH_take (i := 4) (oi := _) (v := ?vq67) rfl (by kernel_rfl) (by kernel_rfl) (by kernel_rfl) (fun _ _ _ h => h) (Or.inl ⟨by rfl, ?hq67⟩) (by assumption) ?rq67
              case hq67 => (intro w hSw; go_simp; try with_reducible rfl)
              try dsimp only [Act.put, List.getElem_toArray, List.getElem_cons_zero, List.getElem_cons_succ]; try simp only [List.setIfInBounds_toArray, List.set_cons_zero, List.set_cons_succ]
              refine wpAnyH_take (i := 5) (oi := _) (v := ?vq68) rfl (by kernel_rfl) (by kernel_rfl) (by kernel_rfl) (fun _ _ _ h => h) (Or.inl ⟨by rfl, ?hq68⟩) (by assumption) ?rq68
              case hq68 => (intro w hSw; go_simp; try with_reducible rfl)
              try dsimp only [Act.put, List.getElem_toArray, List.getElem_cons_zero, List.getElem_cons_succ]; try simp only [List.setIfInBounds_toArray, List.set_cons_zero, List.set_cons_succ]
              refine wpAnyH_take (i := 6) (oi := _) (v := ?vq69) rfl (by kernel_rfl) (by kernel_rfl) (by kernel_rfl) (fun _ _ _ h => h) (Or.inl ⟨by rfl, ?hq69⟩) (by assumption) ?rq69
              case hq69 => (intro w hSw; go_simp; try with_reducible rfl)
              try dsimp only [Act.put, List.getElem_toArray, List.getElem_cons_zero, List.getElem_cons_succ]; try simp only [List.setIfInBounds_toArray, List.set_cons_zero, List.set_cons_succ]
              refine wpAnyH_take (i := 7) (oi := _) (v := ?vq70) rfl (by kernel_rfl) (by kernel_rfl) (by kernel_rfl) (fun _ _ _ h => h) (Or.inl ⟨by rfl, ?hq70⟩) (by assumption) ?rq70
              case hq70 => (intro w hSw; go_simp; try with_reducible rfl)
              try dsimp only [Act.put, List.getElem_toArray, List.getElem_cons_zero, List.getElem_cons_succ]; try simp only [List.setIfInBounds_toArray, List.set_cons_zero, List.set_cons_succ]
              refine wpAnyH_take (i := 8) (oi := _) (v := ?vq71) rfl (by kernel_rfl) (by kernel_rfl) (by kernel_rfl) (fun _ _ _ h => h) (Or.inl ⟨by rfl, ?hq71⟩) (by assumption) ?rq71
              case hq71 => (intro w hSw; go_simp; try with_reducible rfl)
              try dsimp only [Act.put, List.getElem_toArray, List.getElem_cons_zero, List.getElem_cons_succ]; try simp only [List.setIfInBounds_toArray, List.set_cons_zero, List.set_cons_succ]
              refine wpAnyH_take (i := 9) (oi := _) (v := ?vq72) rfl (by kernel_rfl) (by kernel_rfl) (by kernel_rfl) (fun _ _ _ h => h) (Or.inl ⟨by rfl, ?hq72⟩) (by assumption) ?rq72
              case hq72 => (intro w hSw; go_simp; try with_reducible rfl)
              try dsimp only [Act.put, List.getElem_toArray, List.getElem_cons_zero, List.getElem_cons_succ]; try simp only [List.setIfInBounds_toArray, List.set_cons_zero, List.set_cons_succ]
              refine wpAnyH_take (i := 10) (oi := _) (v := ?vq73) rfl (by kernel_rfl) (by kernel_rfl) (by kernel_rfl) (fun _ _ _ h => h) (Or.inl ⟨by rfl, ?hq73⟩) (by assumption) ?rq73
              case hq73 => (intro w hSw; go_simp; try with_reducible rfl)
              try dsimp only [Act.put, List.getElem_toArray, List.getElem_cons_zero, List.getElem_cons_succ]; try simp only [List.setIfInBounds_toArray, List.set_cons_zero, List.set_cons_succ]
              refine wpAnyH_take (i := 11) (oi := _) (v := ?vq74) rfl (by kernel_rfl) (by kernel_rfl) (by kernel_rfl) (fun _ _ _ h => h) (Or.inl ⟨by rfl, ?hq74⟩) (by assumption) ?rq74
              case hq74 => (intro w hSw; go_simp; try with_reducible rfl)
              try dsimp only [Act.put, List.getElem_toArray, List.getElem_cons_zero, List.getElem_cons_succ]; try simp only [List.setIfInBounds_toArray, List.set_cons_zero, List.set_cons_succ]
              refine wpAnyH_take (i := 12) (oi := _) (v := ?vq75) rfl (by kernel_rfl) (by kernel_rfl) (by kernel_rfl) (fun _ _ _ h => h) (Or.inl ⟨by rfl, ?hq75⟩) (by assumption) ?rq75
              case hq75 => (intro w hSw; go_simp; try with_reducible rfl)
              try dsimp only [Act.put, List.getElem_toArray, List.getElem_cons_zero, List.getElem_cons_succ]; try simp only [List.setIfInBounds_toArray, List.set_cons_zero, List.set_cons_succ]
              refine wpAnyH_take (i := 13) (oi := _) (v := ?vq76) rfl (by kernel_rfl) (by kernel_rfl) (by kernel_rfl) (fun _ _ _ h => h) (Or.inl ⟨by rfl, ?hq76⟩) (by assumption) ?rq76
              case hq76 => (intro w hSw; go_simp; try with_reducible rfl)
              try dsimp only [Act.put, List.getElem_toArray, List.getElem_cons_zero, List.getElem_cons_succ]; try simp only [List.setIfInBounds_toArray, List.set_cons_zero, List.set_cons_succ]
              refine wpAnyH_ready (rs := [14]) (by kernel_rfl) (by simp) ?_
              refine AllReadyH.cons (o := _) rfl (fun K hK => ?_) ?_
              · rw [if_pos (by rfl)]
                go_simp
                have hA := (Below.refl wr.drew.heap.size wr.drew).alloc (Nat.le_refl _) (.cells #[.string s, .string t] 9)
                have HRD := Lib.hid (Rd.new wr.drew #[.string s, .string t] 9)
                have hc1 : ((wr.alloc (.cells #[.string s, .string t] 9)).drew).cell? ⟨b, off + e, none⟩ = some (.string s) := cell_below hA hc1
                have hc2 : ((wr.alloc (.cells #[.string s, .string t] 9)).drew).cell? ⟨b, off + (e + 1), none⟩ = some (.string t) := cell_below hA hc2
                have hcp : ((wr.alloc (.cells #[.string s, .string t] 9)).drew).cell? ⟨lb, L, none⟩ = some (.slice (some ⟨b, off, none⟩) q2 cm) := cell_below hA hcp
                have hb : Below wr.heap.size wr ((wr.alloc (.cells #[.string s, .string t] 9)).drew) := then_ hb hA
                clear hA
                refine hK.out _ _ ⟨hc1, hc2, hcp⟩ (fun hHeld => ?_)
                clear hK K
                try dsimp only [Act.put, List.getElem_toArray, List.getElem_cons_zero, List.getElem_cons_succ]; try simp only [List.setIfInBounds_toArray, List.set_cons_zero, List.set_cons_succ]
                refine wpAnyH_ready (rs := [15]) (by kernel_rfl) (by simp) ?_
                refine AllReadyH.cons (o := _) rfl (fun K hK => ?_) ?_
                · rw [if_pos (by rfl)]
                  go_simp
                  refine (HX.out _ _ (by exact HRD.out)).mono ?_
                  rintro e9 wx ⟨rfl, hbx⟩
                  have hc1 := cell_below hbx hc1
                  have hc2 := cell_below hbx hc2
                  have hcp := cell_below hbx hcp
                  have hb := then_ hb hbx
                  clear hbx
                  go_wp2_with fail
                  refine hK.out _ _ ⟨hc1, hc2, hcp⟩ (fun hHeld => ?_)
                  clear hK K
                  try dsimp only [Act.put, List.getElem_toArray, List.getElem_cons_zero, List.getElem_cons_succ]; try simp only [List.setIfInBounds_toArray, List.set_cons_zero, List.set_cons_succ]
                  refine wpAnyH_ready (rs := [16]) (by kernel_rfl) (by simp) ?_
                  refine AllReadyH.cons (o := _) rfl (fun K hK => ?_) ?_
                  · rw [if_pos (by rfl)]
                    go_simp
                    have hA := (Below.refl wx.heap.size wx).alloc (Nat.le_refl _) (.cells #[.string st] 9)
                    have hc1 := cell_below hA hc1
                    have hc2 := cell_below hA hc2
                    have hcp := cell_below hA hcp
                    have hb := then_ hb hA
                    clear hA
                    refine hK.out _ _ ⟨hc1, hc2, hcp⟩ (fun hHeld => ?_)
                    clear hK K
                    try dsimp only [Act.put, List.getElem_toArray, List.getElem_cons_zero, List.getElem_cons_succ]; try simp only [List.setIfInBounds_toArray, List.set_cons_zero, List.set_cons_succ]
                    refine wpAnyH_ready (rs := [17]) (by kernel_rfl) (by simp) ?_
                    refine AllReadyH.cons (o := _) rfl (fun K hK => ?_) ?_
                    · refine step_app elStr (by rfl) (.tmp 37) (.tmp 53) (by rfl) W3.heap.size u3 u.length (u.map Value.string) (by rfl) (own_below HO.out hb) (some ⟨wx.heap.size, 0, none⟩) 1 1 [.string st] (by rfl) rfl (Rd.new wx #[.string st] _) (by intro u hu; simp at hu; subst hu; rfl) (by unfold maxLen; omega) (by omega) (by have h8 := HBL.out.size; have h9 := hb.size; simp at h9 ⊢; omega) ?_
                      intro v2 w6 hown2 hbel2 hgrow2 hat2
                      have HOF := Lib.hid ((HOU.out.step hb).app hgrow2 hat2)
                      have HBF := Lib.hid ((then_ HBL.out hb).trans hbel2)
                      have HWF := Lib.hid hown2
                      obtain ⟨hc1, hc2, hcp⟩ := HKC.out w6 HOF.out.gb
                      clear hown2 hbel2 hgrow2 hat2
                      refine hK.out _ _ ⟨hc1, hc2, hcp⟩ (fun hHeld => ?_)
                      clear hK K
                      try dsimp only [Act.put, List.getElem_toArray, List.getElem_cons_zero, List.getElem_cons_succ]; try simp only [List.setIfInBounds_toArray, List.set_cons_zero, List.set_cons_succ]
                      refine wpAnyH_take (i := 18) (oi := _) (v := ?vq77) rfl (by kernel_rfl) (by kernel_rfl) (by kernel_rfl) (fun _ _ _ h => h) (Or.inl ⟨by rfl, ?hq77⟩) (by assumption) ?rq77
                      case hq77 => (intro w hSw; go_simp; try with_reducible rfl)
                      try dsimp only [Act.put, List.getElem_toArray, List.getElem_cons_zero, List.getElem_cons_succ]; try simp only [List.setIfInBounds_toArray, List.set_cons_zero, List.set_cons_succ]
                      refine wpAnyH_done (by kernel_rfl) ?_ _
                      go_wp2
                      go_roundw
                      case rel => exact ⟨h + 1, e + 2, by omega, by go_num, Lib.hid (by have := HE.out; omega), Lib.hid (by rw [HG.out, List.length_append, List.map_append]; exact HWF.out), HOF, HBF.out⟩
                      case measure => simp [intOf]; omega
                    exact AllReadyH.nil
                  exact AllReadyH.nil
                exact AllReadyH.nil
              exact AllReadyH.nil
            · obtain rfl : h = q := by omega
              have hee : ¬ (e : Int) + 1 < (q2 : Int) := by have := HE.out; have := HQQ.out; omega
              have hem : e ≤ 64 := by have := HE.out; omega
              have HO2 : Hid (wr.ownsRow W3.heap.size 9 1 _ (textsAt l (p + 1 + 1) 0).length ((textsAt l (p + 1 + 1) 0).map Value.string)) := Lib.hid (by rw [← textsAt_next l p hp6, HQ.out]; exact HO.out)
              have HB2 := Lib.hid hbel; have HOU2 := Lib.hid HOU.out
              clear hrow hbel hvm HO HOU
              go_wp2
              go_roundw
              case rel => exact ⟨p + 1, L + 1, Lib.hid (by have := HL.out; omega), by omega, by go_num, HO2, HOU2, HB2.out⟩
              case measure => simp [intOf] <;> omega
        · have hpe : p = 6 := by have := HL.out; omega
          have HF : Hid (MakesS (textsF l) w (.returned _) wr) := Lib.hid ⟨_, rfl, by have := HO.out; rw [hpe] at this; exact own_mono this HB3.out.size, HB3.out.trans (hbel.mono HB3.out.size)⟩
          have hL7 : (7 : Int) ≤ (L : Int) := by omega
          clear HO HOU hbel hpe
          go_wp2
          go_ret
          exact HF.out
end Go.Proofs.Ytgmafnpkhmlnnaa
