/- pantlerlaw34.awake: true, whatever the arguments are. -/
import Derived.Test.YtebfmacbdjnhbaaQuorumF
namespace Go.Proofs.Ytebfmacbdjnhbaa
open Go.RowKit Go.Mem
set_option linter.unusedVariables false

def tA : ByteArray := ⟨#[97]⟩
def tB : ByteArray := ⟨#[98]⟩
def tC : ByteArray := ⟨#[99]⟩
def tZ : ByteArray := ⟨#[122]⟩
def chL : List Ch := [⟨⟨#[97]⟩, true⟩, ⟨⟨#[98]⟩, true⟩, ⟨⟨#[99]⟩, false⟩]
def prL : Pr := ⟨3, 2, 2, 0, 1, false, true, false⟩
theorem ok_texts {g n c : Nat} {w : World} {e : TypeId} (ss : List ByteArray) (arr : Array Value) (hg : g = w.heap.size) (h : arr.toList = ss.map Value.string) (hn : ss.length = n) (hm : n ≤ 1000000) : Sl.ok (w.alloc (.cells arr e)) ⟨some ⟨g, 0, none⟩, n, c, ss⟩ := by
  subst hg
  exact ⟨by rw [← h]; exact Rd.new w arr e, hn, hm⟩
theorem ok_nil {w : World} {A : Option Addr} {c : Nat} : Sl.ok w ⟨A, 0, c, []⟩ := ⟨Rd.nil, rfl, Nat.zero_le _⟩

set_option maxRecDepth 100000 in
set_option maxHeartbeats 4000000 in
theorem awake34_any (w : World) :
    Calls Try.prog 40 #[] w fun e w' => e = .returned (.bool true) ∧ Below w.heap.size w w' := by
  have hpx : ∀ W : World, Below ((w.alloc (.cells #[.string ⟨#[97]⟩, .bool true, .string ⟨#[98]⟩, .bool true, .string ⟨#[99]⟩, .bool false] 71)).alloc (.cells #[.int .i64 3, .int .i64 2, .int .i64 2, .int .i64 0, .int .i64 1, .bool false, .bool true, .bool false] 58)).heap.size ((w.alloc (.cells #[.string ⟨#[97]⟩, .bool true, .string ⟨#[98]⟩, .bool true, .string ⟨#[99]⟩, .bool false] 71)).alloc (.cells #[.int .i64 3, .int .i64 2, .int .i64 2, .int .i64 0, .int .i64 1, .bool false, .bool true, .bool false] 58)) W →
      (W.cell? ⟨w.heap.size + 1, 0, none⟩ = some (.int .i64 3) ∧ W.cell? ⟨w.heap.size + 1, 1, none⟩ = some (.int .i64 2) ∧ W.cell? ⟨w.heap.size + 1, 2, none⟩ = some (.int .i64 2) ∧ W.cell? ⟨w.heap.size + 1, 3, none⟩ = some (.int .i64 0) ∧ W.cell? ⟨w.heap.size + 1, 4, none⟩ = some (.int .i64 1) ∧ W.cell? ⟨w.heap.size + 1, 5, none⟩ = some (.bool false) ∧ W.cell? ⟨w.heap.size + 1, 6, none⟩ = some (.bool true) ∧ W.cell? ⟨w.heap.size + 1, 7, none⟩ = some (.bool false)) ∧ Rd W (some ⟨w.heap.size, 0, none⟩) (chL.flatMap Ch.cells) ∧ Below w.heap.size w W := by
    intro W hb
    refine ⟨⟨(hb.cell (by simp)).trans (by simp), (hb.cell (by simp)).trans (by simp), (hb.cell (by simp)).trans (by simp), (hb.cell (by simp)).trans (by simp), (hb.cell (by simp)).trans (by simp), (hb.cell (by simp)).trans (by simp), (hb.cell (by simp)).trans (by simp), (hb.cell (by simp)).trans (by simp)⟩, ?_, ?_⟩
    · exact ((Rd.new w #[.string ⟨#[97]⟩, .bool true, .string ⟨#[98]⟩, .bool true, .string ⟨#[99]⟩, .bool false] _).alloc _).below hb
    · exact then_ (((Below.refl _ _).alloc (Nat.le_refl _) _).alloc (by simp) _) hb
  have HPX := Lib.hid hpx; clear hpx
  generalize hW2 : (w.alloc (.cells #[.string ⟨#[97]⟩, .bool true, .string ⟨#[98]⟩, .bool true, .string ⟨#[99]⟩, .bool false] 71)).alloc (.cells #[.int .i64 3, .int .i64 2, .int .i64 2, .int .i64 0, .int .i64 1, .bool false, .bool true, .bool false] 58) = W2 at HPX
  have hsz : W2.heap.size = w.heap.size + 1 + 1 := by rw [← hW2]; simp
  have HW2 := Lib.hid hW2; have HSZ := Lib.hid hsz; clear hW2 hsz
  go_enter Try.func40, Try.ntmps40
  go_wp2_with fail
  rw [HW2.out]
  refine (qcount_any _ 3 3 chL ⟨some ⟨w.heap.size + 1 + 1, 0, none⟩, 3, 3, [⟨#[97]⟩, ⟨#[99]⟩, ⟨#[122]⟩]⟩ _ (by exact (HPX.out _ (Below.refl _ _)).2.1.alloc _) rfl (by omega) (ok_texts _ _ HSZ.out.symm rfl rfl (by omega))).mono ?_
  rintro e w1 ⟨rfl, hb1⟩
  have hq1 := ba hb1
  have hv1 : cnt (fun s => mem s [⟨#[97]⟩, ⟨#[99]⟩, ⟨#[122]⟩]) chL = 2 := by decide +kernel
  have hv2 : cntP (fun s => mem s [⟨#[97]⟩, ⟨#[99]⟩, ⟨#[122]⟩]) chL = 1 := by decide +kernel
  simp only
  rw [hv1, hv2]
  clear hv1 hv2 hb1
  obtain ⟨⟨c0, c1, c2, c3, c4, c5, c6, c7⟩, hl1, hbw1⟩ := HPX.out w1 hq1
  go_wp2_with fail
  refine (qwrite_any prL _ 3 3 chL ⟨some ⟨w1.heap.size, 0, none⟩, 1, 1, [⟨#[97]⟩]⟩ ⟨none, 0, 0, []⟩ _ (by exact hl1.alloc _) rfl (by omega) (ok_texts _ _ rfl rfl rfl (by omega)) ok_nil).mono ?_
  rintro e w2 ⟨rfl, hb2⟩
  have hq2 := then_ hq1 (ba hb2)
  have hv : writeL prL chL [⟨#[97]⟩] [] = 0 := by decide +kernel
  simp only
  rw [hv]
  clear hv hb2 c0 c1 c2 c3 c4 c5 c6 c7
  obtain ⟨⟨c0, c1, c2, c3, c4, c5, c6, c7⟩, hl2, hbw2⟩ := HPX.out w2 hq2
  go_wp2_with fail
  refine (qwrite_any prL _ 3 3 chL ⟨some ⟨w2.heap.size, 0, none⟩, 2, 2, [⟨#[97]⟩, ⟨#[99]⟩]⟩ ⟨none, 0, 0, []⟩ _ (by exact hl2.alloc _) rfl (by omega) (ok_texts _ _ rfl rfl rfl (by omega)) ok_nil).mono ?_
  rintro e w3 ⟨rfl, hb3⟩
  have hq3 := then_ hq2 (ba hb3)
  have hv : writeL prL chL [⟨#[97]⟩, ⟨#[99]⟩] [] = 1 := by decide +kernel
  simp only
  rw [hv]
  clear hv hb3 c0 c1 c2 c3 c4 c5 c6 c7
  obtain ⟨⟨c0, c1, c2, c3, c4, c5, c6, c7⟩, hl3, hbw3⟩ := HPX.out w3 hq3
  go_wp2_with fail
  refine (qwrite_any prL _ 3 3 chL ⟨none, 0, 0, []⟩ ⟨some ⟨w3.heap.size, 0, none⟩, 2, 2, [⟨#[97]⟩, ⟨#[98]⟩]⟩ _ (by exact hl3.alloc _) rfl (by omega) ok_nil (ok_texts _ _ rfl rfl rfl (by omega))).mono ?_
  rintro e w4 ⟨rfl, hb4⟩
  have hq4 := then_ hq3 (ba hb4)
  have hv : writeL prL chL [] [⟨#[97]⟩, ⟨#[98]⟩] = 2 := by decide +kernel
  simp only
  rw [hv]
  clear hv hb4 c0 c1 c2 c3 c4 c5 c6 c7
  obtain ⟨⟨c0, c1, c2, c3, c4, c5, c6, c7⟩, hl4, hbw4⟩ := HPX.out w4 hq4
  go_wp2_with fail
  refine (qread_any prL _ 3 3 chL ⟨none, 0, 0, []⟩ ⟨some ⟨w4.heap.size, 0, none⟩, 2, 2, [⟨#[97]⟩, ⟨#[98]⟩]⟩ ⟨none, 0, 0, []⟩ _ (by exact hl4.alloc _) rfl (by omega) ok_nil (ok_texts _ _ rfl rfl rfl (by omega)) ok_nil).mono ?_
  rintro e w5 ⟨rfl, hb5⟩
  have hq5 := then_ hq4 (ba hb5)
  have hv : readL prL chL [] [⟨#[97]⟩, ⟨#[98]⟩] [] = 3 := by decide +kernel
  simp only
  rw [hv]
  clear hv hb5 c0 c1 c2 c3 c4 c5 c6 c7
  obtain ⟨⟨c0, c1, c2, c3, c4, c5, c6, c7⟩, hl5, hbw5⟩ := HPX.out w5 hq5
  go_wp2_with fail
  refine (qread_any prL _ 3 3 chL ⟨some ⟨w5.heap.size, 0, none⟩, 1, 1, [⟨#[97]⟩]⟩ ⟨some ⟨w5.heap.size + 1, 0, none⟩, 1, 1, [⟨#[98]⟩]⟩ ⟨none, 0, 0, []⟩ _ (by exact (hl5.alloc _).alloc _) rfl (by omega) (Sl.ok.below (ok_texts _ _ rfl rfl rfl (by omega)) ((Below.refl _ _).alloc (Nat.le_refl _) _)) (ok_texts _ _ (by simp) rfl rfl (by omega)) ok_nil).mono ?_
  rintro e w6 ⟨rfl, hb6⟩
  have hq6 := then_ hq5 (ba (ba hb6))
  have hv : readL prL chL [⟨#[97]⟩] [⟨#[98]⟩] [] = 1 := by decide +kernel
  simp only
  rw [hv]
  clear hv hb6 c0 c1 c2 c3 c4 c5 c6 c7
  obtain ⟨_, _, hbw6⟩ := HPX.out w6 hq6
  go_wp2
  go_ret
  exact ⟨rfl, hbw6⟩
end Go.Proofs.Ytebfmacbdjnhbaa
