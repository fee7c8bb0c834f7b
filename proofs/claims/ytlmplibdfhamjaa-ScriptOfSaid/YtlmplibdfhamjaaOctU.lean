/- octet.Reader.Texts; a reader that nobody made; the document's reader. -/
import Derived.Test.YtlmplibdfhamjaaOctT
namespace Go.Proofs.Ytlmplibdfhamjaa
open Go.RowKit Go.Mem Go.Num
set_option linter.unusedVariables false

theorem take_none (n : Int) (w : World) : Calls Try.prog 132 #[.pointer none, .int .i64 n] w fun e w' => e = .returned (.string ⟨#[]⟩) ∧ w = w' := by
  go_enter Try.func132, Try.ntmps132
  go_wp2_with fail
  refine (spoil_none _).mono ?_
  rintro e w1 ⟨rfl, rfl⟩
  go_wp2
  go_ret
  exact ⟨rfl, rfl⟩
set_option maxRecDepth 100000 in
theorem number_none (k : Int) (w : World) : Calls Try.prog 127 #[.pointer none, .int .i64 k] w fun e w' => e = .returned (.int .i64 0) ∧ Below w.heap.size w w' := by
  go_enter Try.func127, Try.ntmps127
  go_wp2_with fail
  refine (take_none _ _).mono ?_
  rintro e w1 ⟨rfl, rfl⟩
  obtain ⟨cap, w2, hcv, hrd, hb2⟩ := run_bytes (P := Try.prog) w 9 61 5 ⟨#[]⟩ Try.underlying9 Try.underlying61 Try.underlying5
  have hcv' : (convert 9 61 (.string ⟨#[]⟩)).run Try.prog w = .ok (.slice (some ⟨w.heap.size, 0, none⟩) 0 cap) w2 := hcv
  clear hcv
  go_wp2
  clear hcv'
  go_loop [5, 13] (fun a i => i = .int .i64 0 ∧ a = .int .i64 0) (fun _ i => 0)
  case atStart => exact ⟨rfl, rfl⟩
  case round =>
    obtain ⟨rfl, rfl⟩ := hrel
    go_wp2
    go_ret
    exact ⟨rfl, hb2⟩
theorem rByte_none (w : World) : Calls Try.prog 96 #[.pointer none] w fun e w' => e = .returned (.int .i64 0) ∧ Below w.heap.size w w' := by
  go_enter Try.func96, Try.ntmps96
  go_wp2_with fail
  refine (number_none 1 _).mono ?_
  rintro e w1 ⟨rfl, hb⟩
  go_wp2
  go_ret
  exact ⟨rfl, hb⟩
theorem rInt_none (w : World) : Calls Try.prog 97 #[.pointer none] w fun e w' => e = .returned (.int .i64 0) ∧ Below w.heap.size w w' := by
  go_enter Try.func97, Try.ntmps97
  go_wp2_with fail
  refine (number_none 8 _).mono ?_
  rintro e w1 ⟨rfl, hb⟩
  go_wp2
  go_ret
  exact ⟨rfl, hb⟩
set_option maxRecDepth 100000 in
theorem rCount_none (most : Int) (w : World) : Calls Try.prog 90 #[.pointer none, .int .i64 most] w fun e w' => e = .returned (.int .i64 0) ∧ Below w.heap.size w w' := by
  go_enter Try.func90, Try.ntmps90
  go_wp2_with fail
  refine (number_none 4 _).mono ?_
  rintro e w1 ⟨rfl, hb⟩
  by_cases hm : most < 0
  · go_wp2_with fail
    refine (spoil_none _).mono ?_
    rintro e w2 ⟨rfl, rfl⟩
    go_wp2
    go_ret
    exact ⟨rfl, hb⟩
  · go_wp2
    go_ret
    exact ⟨rfl, hb⟩
theorem rText_none (w : World) : Calls Try.prog 95 #[.pointer none] w fun e w' => e = .returned (.string ⟨#[]⟩) ∧ Below w.heap.size w w' := by
  go_enter Try.func95, Try.ntmps95
  go_wp2_with fail
  refine (rCount_none _ _).mono ?_
  rintro e w1 ⟨rfl, hb⟩
  go_wp2_with fail
  refine (take_none _ _).mono ?_
  rintro e w2 ⟨rfl, rfl⟩
  go_wp2
  go_ret
  exact ⟨rfl, hb⟩
theorem rBad_none (w : World) : Calls Try.prog 48 #[.pointer none] w fun e w' => e = .returned (.bool true) ∧ w = w' := by
  go_enter Try.func48, Try.ntmps48
  go_wp2
  go_ret
  exact ⟨rfl, rfl⟩
theorem rDone_none (w : World) : Calls Try.prog 49 #[.pointer none] w fun e w' => e = .returned (.bool false) ∧ w = w' := by
  go_enter Try.func49, Try.ntmps49
  go_wp2_with fail
  refine (rBad_none _).mono ?_
  rintro e w2 ⟨rfl, rfl⟩
  go_wp2
  go_ret
  exact ⟨rfl, rfl⟩
end Go.Proofs.Ytlmplibdfhamjaa
