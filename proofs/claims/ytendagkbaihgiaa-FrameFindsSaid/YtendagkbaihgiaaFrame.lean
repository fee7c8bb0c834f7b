/- frame: what each function computes. -/
import Derived.Test.YtendagkbaihgiaaFrameP
import Derived.Test.YtendagkbaihgiaaOctX
import Derived.Test.YtendagkbaihgiaaCrcWalk
import Derived.Test.YtendagkbaihgiaaJoin
import Derived.Test.YtendagkbaihgiaaTail
import Derived.Deep.DrawnRows
attribute [local go_sem ↓] Go.wp_at_zero Go.wp_at_succ
namespace Go.Proofs.Ytendagkbaihgiaa
open Go.RowKit Go.Mem Go.Num
set_option linter.unusedVariables false
theorem join_flat (xs : List (List UInt8)) : Lib.join xs [] = xs.flatten := by
  induction xs with
  | nil => rfl
  | cons x r ih =>
    cases r with
    | nil => simp [Lib.join]
    | cons y r => simp [Lib.join] at ih ⊢; exact ih
set_option maxRecDepth 100000 in
theorem join_any (A : Option Addr) (n c : Nat) (ss : List ByteArray) (w : World) (hr : Rd w A (ss.map Value.string)) (hn : ss.length = n) (hc : n ≤ c) (hz : (ss.map (·.data.toList)).flatten.length ≤ 140737488355328) (hN : n ≤ 140737488355328) :
    Calls Try.prog 29 #[.slice A n c] w fun e w' => e = .returned (.string (bs (ss.map (·.data.toList)).flatten)) ∧ Below w.heap.size w w' := by
  go_enter Try.func29, Try.ntmps29
  cases ss with
  | nil =>
    subst hn
    go_wp2_with fail
    refine (Try.strings_Join_none A c ⟨#[]⟩ _).mono ?_
    rintro e w1 ⟨rfl, rfl⟩
    go_wp2
    go_ret
    exact ⟨rfl, Below.refl _ _⟩
  | cons x r =>
    obtain ⟨b, off, rfl, h0⟩ := hr.at_ 0 (by simp)
    have hlt := World.block_lt_of_cell? w _ h0
    have hcells : ∀ (j : Nat) y, (x :: r)[j]? = some y → w.cell? ⟨b, off + j, none⟩ = some (.string y) := fun j y hj => by
      obtain ⟨b', off', e, h⟩ := hr j (.string y) (by rw [List.getElem?_map, hj]; rfl)
      injection e with e
      injection e with e1 e2
      subst e1 e2
      exact h
    have hj := Try.strings_Join b off c (x :: r) ⟨#[]⟩ w hcells hlt (by omega) (by omega) (by
      rw [show (⟨#[]⟩ : ByteArray).data.toList = [] from rfl, join_flat]; exact hz)
    rw [show (⟨#[]⟩ : ByteArray).data.toList = [] from rfl, join_flat, hn] at hj
    have HJ := Lib.hid hj
    clear hj hcells h0 hr hn
    go_wp2_with fail
    refine HJ.out.mono ?_
    rintro e w1 ⟨rfl, hb⟩
    go_wp2
    go_ret
    exact ⟨rfl, hb⟩
set_option maxRecDepth 100000 in
theorem fcount_any (n : Int) (w : World) : Calls Try.prog 30 #[.int .i64 n] w fun e w' => e = .returned (.string (bs (be 4 n))) ∧ Below w.heap.size w w' := by
  have hW := Wr.new w
  have hb0 : Below w.heap.size w (w.alloc (.cells #[.pointer none, .slice none 0 0] 61)) := (Below.refl _ _).alloc (Nat.le_refl _) _
  go_enter Try.func30, Try.ntmps30
  go_wp2_with fail
  refine (wCount_any w.heap.size w.heap.size [] n _ hW (by simp) hb0.size).mono ?_
  rintro e w1 ⟨rfl, hW1, hb1⟩
  have hb1 := hb0.trans hb1
  rw [List.nil_append] at hW1
  go_wp2_with fail
  refine (wBytes_any w.heap.size w.heap.size _ _ hW1.holds hb1.size).mono ?_
  rintro e w2 ⟨rfl, hb2, _, _⟩
  go_wp2
  go_ret
  exact ⟨rfl, hb1.trans hb2⟩
theorem be_size (n : Int) : (bs (be 4 n)).size = 4 := by rw [bs_size, be_length]
set_option maxRecDepth 100000 in
theorem fsum_any (s : ByteArray) (w : World) (hs : s.size ≤ 1099511627776) : Calls Try.prog 31 #[.string s] w fun e w' => e = .returned (.int .i64 (Frame.crcOf s.data.toList : Nat)) ∧ Below w.heap.size w w' := by
  have hsl : s.data.toList.length = s.size := by simp
  have hcrc : Crc.sum (Crc.sum 0 (be 4 (s.size : Int)) : Nat) s.data.toList = Frame.crcOf s.data.toList := by rw [Crc.sum_append]; unfold Frame.crcOf; rw [hsl]
  have HCRC := Lib.hid hcrc; clear hcrc hsl
  go_enter Try.func31, Try.ntmps31
  go_wp2_with fail
  refine (fcount_any _ _).mono ?_
  rintro e w1 ⟨rfl, hb1⟩
  have hz := be_size (s.size : Int)
  have hd : (bs (be 4 (s.size : Int))).data.toList = be 4 (s.size : Int) := bs_toList _
  generalize bs (be 4 (s.size : Int)) = t at *
  go_wp2_with fail
  refine (sum_any t (by unfold maxLen; omega) _).mono ?_
  rintro e w2 ⟨rfl, hb2⟩
  have hb2 := then_ hb1 hb2
  rw [hd]
  go_wp2_with fail
  refine (more_any _ s (by unfold maxLen; omega) _).mono ?_
  rintro e w3 ⟨rfl, hb3⟩
  rw [HCRC.out]
  go_wp2
  go_ret
  exact ⟨rfl, then_ hb2 hb3⟩
set_option maxRecDepth 100000 in
set_option maxHeartbeats 1000000 in
theorem fPut_any (s : ByteArray) (w : World) (hs : s.size ≤ 1099511627776) : Calls Try.prog 20 #[.string s] w fun e w' => e = .returned (.string (bs (Frame.put s.data.toList))) ∧ Below w.heap.size w w' := by
  have hsl : s.data.toList.length = s.size := by simp
  have hput : Frame.put s.data.toList = be 4 (s.size : Int) ++ (be 4 (Frame.crcOf s.data.toList : Nat) ++ s.data.toList) := by unfold Frame.put; rw [hsl]
  have HPUT := Lib.hid hput; have HSL := Lib.hid hsl; clear hput hsl
  go_enter Try.func20, Try.ntmps20
  go_wp2_with fail
  refine (fcount_any _ _).mono ?_
  rintro e w1 ⟨rfl, hb1⟩
  go_wp2_with fail
  refine (fsum_any s _ hs).mono ?_
  rintro e w2 ⟨rfl, hb2⟩
  have hb2 := then_ hb1 hb2
  go_wp2_with fail
  refine (fcount_any _ _).mono ?_
  rintro e w3 ⟨rfl, hb3⟩
  have hb3 := then_ hb2 hb3
  have hd1 : (bs (be 4 (s.size : Int))).data.toList = be 4 (s.size : Int) := bs_toList _
  have hd2 : (bs (be 4 ((Frame.crcOf s.data.toList : Nat) : Int))).data.toList = be 4 ((Frame.crcOf s.data.toList : Nat) : Int) := bs_toList _
  generalize bs (be 4 (s.size : Int)) = t1 at *
  generalize bs (be 4 ((Frame.crcOf s.data.toList : Nat) : Int)) = t2 at *
  have hfl : (List.map (fun x : ByteArray => x.data.toList) [t1, t2, s]).flatten = Frame.put s.data.toList := by
    rw [HPUT.out]
    simp only [List.map_cons, List.map_nil, List.flatten_cons, List.flatten_nil, List.append_nil, hd1, hd2]
  have hfz : (List.map (fun x : ByteArray => x.data.toList) [t1, t2, s]).flatten.length ≤ 140737488355328 := by rw [hfl, Frame.put_length, HSL.out]; omega
  have hrd : Rd (w3.alloc (.cells #[.string t1, .string t2, .string s] 9)) (some ⟨w3.heap.size, 0, none⟩) ([t1, t2, s].map Value.string) := Rd.new w3 #[.string t1, .string t2, .string s] _
  have HFL := Lib.hid hfl; have HFZ := Lib.hid hfz; have HRD := Lib.hid hrd; clear hfl hfz hrd hd1 hd2
  go_wp2_with fail
  refine (join_any _ 3 3 [t1, t2, s] _ HRD.out rfl (Nat.le_refl _) HFZ.out (by decide)).mono ?_
  rintro e w4 ⟨rfl, hb4⟩
  rw [HFL.out]
  go_wp2
  go_ret
  exact ⟨rfl, then_ (hb3.alloc hb3.size _) hb4⟩
end Go.Proofs.Ytendagkbaihgiaa
