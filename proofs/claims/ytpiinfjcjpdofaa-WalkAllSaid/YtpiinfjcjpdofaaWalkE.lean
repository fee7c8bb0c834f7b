/- walk: what must come, and the walk of WalkIs. -/
import Derived.Test.YtpiinfjcjpdofaaWalkD
import Derived.Test.YtpiinfjcjpdofaaOpen
namespace Go.Proofs.Ytpiinfjcjpdofaa
open Go.RowKit Go.Mem
set_option linter.unusedVariables false
abbrev wa : ByteArray := ⟨#[97]⟩
abbrev wb : ByteArray := ⟨#[98]⟩
abbrev wc : ByteArray := ⟨#[99]⟩
theorem nats_ints (l : List Nat) : nats l = ints (l.map fun (n : Nat) => (n : Int)) := by simp [nats, ints]
theorem sameNats_any (A : Option Addr) (n c : Nat) (ss : List Nat) (B : Option Addr) (m d : Nat) (ts : List Nat) (w : World) (hr : Rd w A (nats ss)) (hn : ss.length = n) (hm : n ≤ 1000000)
    (hr' : Rd w B (nats ts)) (hn' : ts.length = m) (hm' : m ≤ 1000000) (hst : ss = ts) :
    Calls Try.prog 14 #[.slice A n c, .slice B m d] w fun e w' => e = .returned (.bool true) ∧ Below w.heap.size w w' := by
  subst hst
  have := sameInts_any A n c _ B m d _ w (nats_ints ss ▸ hr) (by simpa using hn) hm (nats_ints ss ▸ hr') (by simpa using hn') hm'
  rwa [decide_eq_true rfl] at this
set_option maxRecDepth 100000 in
set_option maxHeartbeats 2000000 in
theorem awake15_any (w : World) : Calls Try.prog 13 #[] w fun e w' => e = .returned (.bool true) ∧ Below w.heap.size w w' := by
  have ho : WalkL.order (names [⟨wa, ⟨#[]⟩, ⟨#[]⟩, false⟩, ⟨wb, ⟨#[]⟩, ⟨#[]⟩, false⟩, ⟨wc, ⟨#[]⟩, ⟨#[]⟩, false⟩]) [wa, wb, wa] ByteArray.empty 4 = [1, 0, 2] := by decide +kernel
  have HO := Lib.hid ho; clear ho
  go_enter Try.func13, Try.ntmps13
  go_wp2_with fail
  refine (order_any _ 3 3 [wa, wb, wa] _ 3 3 [⟨wa, ⟨#[]⟩, ⟨#[]⟩, false⟩, ⟨wb, ⟨#[]⟩, ⟨#[]⟩, false⟩, ⟨wc, ⟨#[]⟩, ⟨#[]⟩, false⟩] 4 _ (by exact rd_new_ _ _ _ _ (by simp) rfl) rfl (by omega) (by exact (rd_new_ _ _ _ _ rfl rfl).alloc _) rfl (by omega) (by decide) (by decide) (by decide)).mono ?_
  rintro e w1 ⟨v1, rfl, ho1, hb1⟩
  rw [HO.out] at ho1
  obtain ⟨G1, c1, rfl⟩ := own_form ho1
  have hbw1 := ba (ba hb1)
  have hr1 := Rd.of_own ho1
  clear hb1 ho1
  go_wp2_with fail
  refine (sameNats_any _ _ _ [1, 0, 2] _ 3 3 [1, 0, 2] _ (by exact hr1.alloc _) rfl (by simp) (by exact rd_new_ _ _ _ _ rfl rfl) rfl (by omega) rfl).mono ?_
  rintro e w2 ⟨rfl, hb2⟩
  have hbw2 := then_ hbw1 (ba hb2)
  clear hb2 hr1 hbw1
  go_wp2_with fail
  refine (from_any (-1) 3 _ (by decide) (by omega)).mono ?_
  rintro e w3 ⟨rfl, rfl⟩
  rw [show WalkL.fromN (-1) 3 = 2 by decide]
  go_wp2_with fail
  refine (from_any 5 0 _ (by decide) (by omega)).mono ?_
  rintro e w3 ⟨rfl, rfl⟩
  rw [show WalkL.fromN 5 0 = 0 by decide]
  go_wp2
  go_ret
  exact ⟨rfl, hbw2⟩
theorem order_len {ns owners : List ByteArray} {d : ByteArray} {part : Int} : (WalkL.order ns owners d part).length = ns.length := (WalkL.order_perm _ _ _ _).2.2
set_option maxRecDepth 100000 in
set_option maxHeartbeats 2000000 in
theorem walkIs_walk (A : Option Addr) (n c : Nat) (ss : List ByteArray) (B : Option Addr) (m d : Nat) (ms : List Mb) (part : Int) (w : World) (hr : Rd w A (ss.map Value.string)) (hn : ss.length = n) (hn' : n ≤ maxLen) (hr' : Rd w B (ms.flatMap Mb.cells)) (hm : ms.length = m) (hm' : m ≤ maxLen) (hok : ∀ x ∈ ms, True) (hp : (Lit.int .i64 part).wf = true) :
    Calls Try.prog 3 #[.slice A n c, .slice B m d, .int .i64 part] w fun e w' => e = .returned (.bool true) ∧ Below w.heap.size w w' := by
  have HN := Lib.hid hn; have HM := Lib.hid hm; clear hn hm hok
  go_enter Try.func3, Try.ntmps3
  go_wp2_with fail
  refine (few15_any A n c ss _ hr HN.out hn').mono ?_
  rintro e w1 ⟨b1, hb1, rfl, rfl⟩
  have HF1 := Lib.hid hb1; clear hb1
  cases b1
  · go_wp2_with fail
    refine (awake15_any _).mono ?_
    rintro e w1 ⟨rfl, hb1⟩
    go_wp2
    go_ret
    exact ⟨rfl, hb1⟩
  have HG1 := Lib.hid (HF1.out rfl); clear HF1
  go_wp2_with fail
  refine (few13_any B m d ms 40 _ hr' HM.out hm' (by omega)).mono ?_
  rintro e w1 ⟨b1, hb1, rfl, rfl⟩
  have HF2 := Lib.hid hb1; clear hb1
  cases b1
  · go_wp2_with fail
    refine (awake15_any _).mono ?_
    rintro e w1 ⟨rfl, hb1⟩
    go_wp2
    go_ret
    exact ⟨rfl, hb1⟩
  have HG2 := Lib.hid (HF2.out rfl); clear HF2
  have hn40 := HG1.out.1
  have hm40 := HG2.out.1
  go_wp2_with fail
  refine (order_any A n c ss B m d ms part _ hr HN.out (by omega) hr' HM.out (by omega) hp (fun s hs => by have := HG1.out.2 s hs; unfold maxLen; omega) (fun x hx => by have := (HG2.out.2 x hx).1; unfold maxLen; omega)).mono ?_
  rintro e w1 ⟨v1, rfl, ho1, hb1⟩
  obtain ⟨G1, c1, rfl⟩ := own_form ho1
  have hr1 := Rd.of_own ho1
  clear ho1
  go_wp2_with fail
  refine (rorder_any A n c ss B m d ms part _ (hr.below hb1) HN.out (by omega) (hr'.below hb1) HM.out (by omega) hp).mono ?_
  rintro e w2 ⟨v2, rfl, ho2, hb2⟩
  obtain ⟨G2, c2, rfl⟩ := own_form ho2
  have hr2 := Rd.of_own ho2
  have hr1 := hr1.below hb2
  have hbw := then_ hb1 hb2
  have hol : (WalkL.order (names ms) ss ByteArray.empty part).length ≤ 40 := by rw [order_len]; simp [names]; have := HM.out; omega
  generalize WalkL.order (names ms) ss ByteArray.empty part = o at *
  clear ho2 hb1 hb2
  go_wp2_with fail
  refine (sameNats_any G1 _ c1 o G2 _ c2 o _ hr1 rfl (by omega) hr2 rfl (by omega) rfl).mono ?_
  rintro e w3 ⟨rfl, hb3⟩
  have hbw := then_ hbw hb3
  clear hb3 hr1 hr2
  go_wp2_with fail
  refine (from_any part n _ hp (by omega)).mono ?_
  rintro e w4 ⟨rfl, rfl⟩
  generalize hF : WalkL.fromN part n = F
  have HF := Lib.hid hF; clear hF
  go_wp2_with fail
  refine (rfrom_any part n _ hp (by omega)).mono ?_
  rintro e w4 ⟨rfl, rfl⟩
  rw [HF.out]
  have hFF : ((F : Int) == (F : Int)) = true := by simp
  go_wp2_with fail
  refine (awake15_any _).mono ?_
  rintro e w5 ⟨rfl, hb5⟩
  go_wp2
  go_ret
  exact ⟨rfl, then_ hbw hb5⟩
theorem cells_member : Try.prog.cellsOf 34 = 4 := by kernel_rfl
theorem cells_string : Try.prog.cellsOf 9 = 1 := by kernel_rfl
theorem cells_bool : Try.prog.cellsOf 4 = 1 := by kernel_rfl
theorem is_member {H : Type} {enc : TypeId × Value → H} {w : World} {cs : List Value} (h : Is enc Try.prog w 34 cs) : ∃ m : Mb, cs = m.cells ∧ True := by
  obtain ⟨hl, hf⟩ := is_struct Try.underlying34 h
  rw [cells_member] at hl
  obtain ⟨c0, r0, rfl, hl0⟩ := cons_of hl
  obtain ⟨c1, r1, rfl, hl1⟩ := cons_of hl0
  obtain ⟨c2, r2, rfl, hl2⟩ := cons_of hl1
  obtain ⟨c3, r3, rfl, hl3⟩ := cons_of hl2
  obtain rfl := nil_of hl3
  obtain ⟨s0, h0, _⟩ := is_string Try.underlying9 (hf 0 _ rfl)
  obtain ⟨s1, h1, _⟩ := is_string Try.underlying9 (hf 1 _ rfl)
  obtain ⟨s2, h2, _⟩ := is_string Try.underlying9 (hf 2 _ rfl)
  obtain ⟨s3, h3⟩ := is_bool Try.underlying4 (hf 3 _ rfl)
  simp [cells_string, cells_bool] at h0 h1 h2 h3
  subst h0 h1 h2 h3
  exact ⟨⟨s0, s1, s2, s3⟩, rfl, trivial⟩
end Go.Proofs.Ytpiinfjcjpdofaa
