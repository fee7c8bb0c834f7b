/- octet.Reader.Texts; a reader that nobody made; the document's reader. -/
import Derived.Test.YtendagkbaihgiaaOctT
namespace Go.Proofs.Ytendagkbaihgiaa
open Go.RowKit Go.Mem Go.Num
set_option linter.unusedVariables false

theorem take_none (n : Int) (w : World) : Calls Try.prog 48 #[.pointer none, .int .i64 n] w fun e w' => e = .returned (.string ⟨#[]⟩) ∧ w = w' := by
  go_enter Try.func48, Try.ntmps48
  go_wp2_with fail
  refine (spoil_none _).mono ?_
  rintro e w1 ⟨rfl, rfl⟩
  go_wp2
  go_ret
  exact ⟨rfl, rfl⟩
set_option maxRecDepth 100000 in
theorem number_none (k : Int) (w : World) : Calls Try.prog 41 #[.pointer none, .int .i64 k] w fun e w' => e = .returned (.int .i64 0) ∧ Below w.heap.size w w' := by
  go_enter Try.func41, Try.ntmps41
  go_wp2_with fail
  refine (take_none _ _).mono ?_
  rintro e w1 ⟨rfl, rfl⟩
  obtain ⟨cap, w2, hcv, hrd, hb2⟩ := run_bytes (P := Try.prog) w 9 29 5 ⟨#[]⟩ Try.underlying9 Try.underlying29 Try.underlying5
  have hcv' : (convert 9 29 (.string ⟨#[]⟩)).run Try.prog w = .ok (.slice (some ⟨w.heap.size, 0, none⟩) 0 cap) w2 := hcv
  clear hcv
  go_wp2
  clear hcv'
  go_loop [5, 13] (fun a i => i = .int .i64 0 ∧ a = .int .i64 0) (fun _ i => 0)
  case atStart => exact ⟨rfl, rfl⟩
  case round =>
    obtain ⟨rfl, rfl⟩ := hrel
    go_wp2
    go_ret
    exact ⟨rfl, hb2⟩
set_option maxRecDepth 100000 in
theorem rCount_none (most : Int) (w : World) : Calls Try.prog 33 #[.pointer none, .int .i64 most] w fun e w' => e = .returned (.int .i64 0) ∧ Below w.heap.size w w' := by
  go_enter Try.func33, Try.ntmps33
  go_wp2_with fail
  refine (number_none 4 _).mono ?_
  rintro e w1 ⟨rfl, hb⟩
  by_cases hm : most < 0
  · go_wp2_with fail
    refine (spoil_none _).mono ?_
    rintro e w2 ⟨rfl, rfl⟩
    go_wp2
    go_ret
    exact ⟨rfl, hb⟩
  · go_wp2
    go_ret
    exact ⟨rfl, hb⟩
theorem rBad_none (w : World) : Calls Try.prog 34 #[.pointer none] w fun e w' => e = .returned (.bool true) ∧ w = w' := by
  go_enter Try.func34, Try.ntmps34
  go_wp2
  go_ret
  exact ⟨rfl, rfl⟩
end Go.Proofs.Ytendagkbaihgiaa
