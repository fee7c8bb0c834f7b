/-
  No cell of these rows narrows 'for every input' (looked for: loops, veiled, ifaces, maps, wideKeys, modest, calm, conditions, laid).
  DERIVED. THE GIVEN ROWS OF THIS SEAT. 10 by the template 'for every input the law returns true; each argument reads behind the call as it read before'; 0 by the template 'total and deterministic' (their statements: YtlmplibdfhamjaaTotals.lean).
  GIVEN WITH THE SEED: the statements are not yours to turn. If you find one false, say at which input.
  Laid BY PROGRAM, IN A SANDBOX (cutbox-rows.mjs): the forced cells as the released guide's own fill.sh prints them over the translation 9de4f0d34e48f712… (all of the seat's roots in one cut). By AI agents, Wed Nov 11 2026. No macro, syntax, notation, axiom, sorry.
-/
import Derived.Test.YtlmplibdfhamjaaChecked
import GoSem.Claim
import GoSem.ClaimJoined
import GoSem.ClaimMapViews
import Derived.JoinedTies
import Derived.KernelRfl
namespace Go.Proofs.Ytlmplibdfhamjaa
/- THE CELL 'sum', in the pinned program and in every row, IS THE sha256 OF THE DUMP (.gsa) THAT YtlmplibdfhamjaaProg.lean LOADS. Nothing in Lean hashes anything: it is a label: what it is worth is what the hold of that sum in a sandbox is worth. -/
noncomputable def Try.pinned : Pinned := { name := "ytlmplibdfhamjaa", sum := "9de4f0d34e48f712147debd047cefda0dcb4dc6a0c8ae1dcda6d8aa08654dc27", checked := Try.checked }
namespace Rows
def none {H : Type} : Left H := { results := [], args := [] }

/-- 'pantlerlaw47.ScriptOf': WHATEVER THE INPUT: true; the input reads as it did. -/
def scriptOfSpec : ChangeSpec := { name := "scriptOf", fn := fun _ => fun
  | [d] => { results := [.lit (.bool true)], args := [d] }
  | _ => none }
def scriptOfRow : OpenClaim := { program := "ytlmplibdfhamjaa", sum := "9de4f0d34e48f712147debd047cefda0dcb4dc6a0c8ae1dcda6d8aa08654dc27", func := "pantler/pantlerlaw47.ScriptOf", spec := "scriptOf", inPlace := ["internal/abi.NoEscape"], unfollowed := true, recurses := true, apart := false }
def ScriptOfSaid : Prop := scriptOfRow.holds Try.pinned (OpenSpec.ofChange scriptOfSpec)

/-- ITS FALSE NEIGHBOUR: 'it returns false'. Refute it at one input. -/
def scriptOfWrong : ChangeSpec := { name := "scriptOf", fn := fun _ => fun
  | [d] => { results := [.lit (.bool false)], args := [d] }
  | _ => none }
def ScriptOfWrongFalsely : Prop := scriptOfRow.holds Try.pinned (OpenSpec.ofChange scriptOfWrong)

/-- 'pantlerlaw47.ScriptBack': WHATEVER THE INPUT: true; the input reads as it did. -/
def scriptBackSpec : ChangeSpec := { name := "scriptBack", fn := fun _ => fun
  | [d1, d2, d3] => { results := [.lit (.bool true)], args := [d1, d2, d3] }
  | _ => none }
def scriptBackRow : OpenClaim := { program := "ytlmplibdfhamjaa", sum := "9de4f0d34e48f712147debd047cefda0dcb4dc6a0c8ae1dcda6d8aa08654dc27", func := "pantler/pantlerlaw47.ScriptBack", spec := "scriptBack", inPlace := ["internal/abi.NoEscape"], unfollowed := true, recurses := true, apart := false }
def ScriptBackSaid : Prop := scriptBackRow.holds Try.pinned (OpenSpec.ofChange scriptBackSpec)

/-- ITS FALSE NEIGHBOUR: 'it returns false'. Refute it at one input. -/
def scriptBackWrong : ChangeSpec := { name := "scriptBack", fn := fun _ => fun
  | [d1, d2, d3] => { results := [.lit (.bool false)], args := [d1, d2, d3] }
  | _ => none }
def ScriptBackWrongFalsely : Prop := scriptBackRow.holds Try.pinned (OpenSpec.ofChange scriptBackWrong)

/-- 'pantlerlaw22.AccessOf': WHATEVER THE INPUT: true; the input reads as it did. -/
def accessOfSpec : ChangeSpec := { name := "accessOf", fn := fun _ => fun
  | [d1, d2] => { results := [.lit (.bool true)], args := [d1, d2] }
  | _ => none }
def accessOfRow : OpenClaim := { program := "ytlmplibdfhamjaa", sum := "9de4f0d34e48f712147debd047cefda0dcb4dc6a0c8ae1dcda6d8aa08654dc27", func := "pantler/pantlerlaw22.AccessOf", spec := "accessOf", inPlace := ["internal/abi.NoEscape", "internal/bytealg.MakeNoZero"], unfollowed := true, recurses := true, apart := false }
def AccessOfSaid : Prop := accessOfRow.holds Try.pinned (OpenSpec.ofChange accessOfSpec)

/-- ITS FALSE NEIGHBOUR: 'it returns false'. Refute it at one input. -/
def accessOfWrong : ChangeSpec := { name := "accessOf", fn := fun _ => fun
  | [d1, d2] => { results := [.lit (.bool false)], args := [d1, d2] }
  | _ => none }
def AccessOfWrongFalsely : Prop := accessOfRow.holds Try.pinned (OpenSpec.ofChange accessOfWrong)

/-- 'pantlerlaw22.AccessSet': WHATEVER THE INPUT: true; the input reads as it did. -/
def accessSetSpec : ChangeSpec := { name := "accessSet", fn := fun _ => fun
  | [d1, d2, d3] => { results := [.lit (.bool true)], args := [d1, d2, d3] }
  | _ => none }
def accessSetRow : OpenClaim := { program := "ytlmplibdfhamjaa", sum := "9de4f0d34e48f712147debd047cefda0dcb4dc6a0c8ae1dcda6d8aa08654dc27", func := "pantler/pantlerlaw22.AccessSet", spec := "accessSet", inPlace := ["internal/abi.NoEscape", "internal/bytealg.MakeNoZero"], unfollowed := true, recurses := true, apart := false }
def AccessSetSaid : Prop := accessSetRow.holds Try.pinned (OpenSpec.ofChange accessSetSpec)

/-- ITS FALSE NEIGHBOUR: 'it returns false'. Refute it at one input. -/
def accessSetWrong : ChangeSpec := { name := "accessSet", fn := fun _ => fun
  | [d1, d2, d3] => { results := [.lit (.bool false)], args := [d1, d2, d3] }
  | _ => none }
def AccessSetWrongFalsely : Prop := accessSetRow.holds Try.pinned (OpenSpec.ofChange accessSetWrong)

/-- 'pantlerlaw22.AccessLetters': WHATEVER THE INPUT: true; the input reads as it did. -/
def accessLettersSpec : ChangeSpec := { name := "accessLetters", fn := fun _ => fun
  | [d1, d2] => { results := [.lit (.bool true)], args := [d1, d2] }
  | _ => none }
def accessLettersRow : OpenClaim := { program := "ytlmplibdfhamjaa", sum := "9de4f0d34e48f712147debd047cefda0dcb4dc6a0c8ae1dcda6d8aa08654dc27", func := "pantler/pantlerlaw22.AccessLetters", spec := "accessLetters", inPlace := ["internal/abi.NoEscape", "internal/bytealg.MakeNoZero"], unfollowed := true, recurses := true, apart := false }
def AccessLettersSaid : Prop := accessLettersRow.holds Try.pinned (OpenSpec.ofChange accessLettersSpec)

/-- ITS FALSE NEIGHBOUR: 'it returns false'. Refute it at one input. -/
def accessLettersWrong : ChangeSpec := { name := "accessLetters", fn := fun _ => fun
  | [d1, d2] => { results := [.lit (.bool false)], args := [d1, d2] }
  | _ => none }
def AccessLettersWrongFalsely : Prop := accessLettersRow.holds Try.pinned (OpenSpec.ofChange accessLettersWrong)

/-- 'pantlerlaw22.AccessOwn': WHATEVER THE INPUT: true; the input reads as it did. -/
def accessOwnSpec : ChangeSpec := { name := "accessOwn", fn := fun _ => fun
  | [d1, d2, d3] => { results := [.lit (.bool true)], args := [d1, d2, d3] }
  | _ => none }
def accessOwnRow : OpenClaim := { program := "ytlmplibdfhamjaa", sum := "9de4f0d34e48f712147debd047cefda0dcb4dc6a0c8ae1dcda6d8aa08654dc27", func := "pantler/pantlerlaw22.AccessOwn", spec := "accessOwn", inPlace := ["internal/abi.NoEscape", "internal/bytealg.MakeNoZero"], unfollowed := true, recurses := true, apart := false }
def AccessOwnSaid : Prop := accessOwnRow.holds Try.pinned (OpenSpec.ofChange accessOwnSpec)

/-- ITS FALSE NEIGHBOUR: 'it returns false'. Refute it at one input. -/
def accessOwnWrong : ChangeSpec := { name := "accessOwn", fn := fun _ => fun
  | [d1, d2, d3] => { results := [.lit (.bool false)], args := [d1, d2, d3] }
  | _ => none }
def AccessOwnWrongFalsely : Prop := accessOwnRow.holds Try.pinned (OpenSpec.ofChange accessOwnWrong)

/-- 'pantlerlaw12.RegwireWrites': WHATEVER THE INPUT: true; the input reads as it did. -/
def regwireWritesSpec : ChangeSpec := { name := "regwireWrites", fn := fun _ => fun
  | [d] => { results := [.lit (.bool true)], args := [d] }
  | _ => none }
def regwireWritesRow : OpenClaim := { program := "ytlmplibdfhamjaa", sum := "9de4f0d34e48f712147debd047cefda0dcb4dc6a0c8ae1dcda6d8aa08654dc27", func := "pantler/pantlerlaw12.RegwireWrites", spec := "regwireWrites", inPlace := ["internal/abi.NoEscape"], unfollowed := true, recurses := true, apart := false }
def RegwireWritesSaid : Prop := regwireWritesRow.holds Try.pinned (OpenSpec.ofChange regwireWritesSpec)

/-- ITS FALSE NEIGHBOUR: 'it returns false'. Refute it at one input. -/
def regwireWritesWrong : ChangeSpec := { name := "regwireWrites", fn := fun _ => fun
  | [d] => { results := [.lit (.bool false)], args := [d] }
  | _ => none }
def RegwireWritesWrongFalsely : Prop := regwireWritesRow.holds Try.pinned (OpenSpec.ofChange regwireWritesWrong)

/-- 'pantlerlaw12.RegwireReads': WHATEVER THE INPUT: true; the input reads as it did. -/
def regwireReadsSpec : ChangeSpec := { name := "regwireReads", fn := fun _ => fun
  | [d] => { results := [.lit (.bool true)], args := [d] }
  | _ => none }
def regwireReadsRow : OpenClaim := { program := "ytlmplibdfhamjaa", sum := "9de4f0d34e48f712147debd047cefda0dcb4dc6a0c8ae1dcda6d8aa08654dc27", func := "pantler/pantlerlaw12.RegwireReads", spec := "regwireReads", inPlace := ["internal/abi.NoEscape"], unfollowed := true, recurses := true, apart := false }
def RegwireReadsSaid : Prop := regwireReadsRow.holds Try.pinned (OpenSpec.ofChange regwireReadsSpec)

/-- ITS FALSE NEIGHBOUR: 'it returns false'. Refute it at one input. -/
def regwireReadsWrong : ChangeSpec := { name := "regwireReads", fn := fun _ => fun
  | [d] => { results := [.lit (.bool false)], args := [d] }
  | _ => none }
def RegwireReadsWrongFalsely : Prop := regwireReadsRow.holds Try.pinned (OpenSpec.ofChange regwireReadsWrong)

/-- 'pantlerlaw12.RegwireBack': WHATEVER THE INPUT: true; the input reads as it did. -/
def regwireBackSpec : ChangeSpec := { name := "regwireBack", fn := fun _ => fun
  | [d1, d2, d3] => { results := [.lit (.bool true)], args := [d1, d2, d3] }
  | _ => none }
def regwireBackRow : OpenClaim := { program := "ytlmplibdfhamjaa", sum := "9de4f0d34e48f712147debd047cefda0dcb4dc6a0c8ae1dcda6d8aa08654dc27", func := "pantler/pantlerlaw12.RegwireBack", spec := "regwireBack", inPlace := ["internal/abi.NoEscape"], unfollowed := true, recurses := true, apart := false }
def RegwireBackSaid : Prop := regwireBackRow.holds Try.pinned (OpenSpec.ofChange regwireBackSpec)

/-- ITS FALSE NEIGHBOUR: 'it returns false'. Refute it at one input. -/
def regwireBackWrong : ChangeSpec := { name := "regwireBack", fn := fun _ => fun
  | [d1, d2, d3] => { results := [.lit (.bool false)], args := [d1, d2, d3] }
  | _ => none }
def RegwireBackWrongFalsely : Prop := regwireBackRow.holds Try.pinned (OpenSpec.ofChange regwireBackWrong)

/-- 'pantlerlaw47.ScriptBytes': WHATEVER THE INPUT: true; the input reads as it did. -/
def scriptBytesSpec : ChangeSpec := { name := "scriptBytes", fn := fun _ => fun
  | [d1, d2] => { results := [.lit (.bool true)], args := [d1, d2] }
  | _ => none }
def scriptBytesRow : OpenClaim := { program := "ytlmplibdfhamjaa", sum := "9de4f0d34e48f712147debd047cefda0dcb4dc6a0c8ae1dcda6d8aa08654dc27", func := "pantler/pantlerlaw47.ScriptBytes", spec := "scriptBytes", inPlace := ["internal/abi.NoEscape"], unfollowed := true, recurses := true, apart := false }
def ScriptBytesSaid : Prop := scriptBytesRow.holds Try.pinned (OpenSpec.ofChange scriptBytesSpec)

/-- ITS FALSE NEIGHBOUR: 'it returns false'. Refute it at one input. -/
def scriptBytesWrong : ChangeSpec := { name := "scriptBytes", fn := fun _ => fun
  | [d1, d2] => { results := [.lit (.bool false)], args := [d1, d2] }
  | _ => none }
def ScriptBytesWrongFalsely : Prop := scriptBytesRow.holds Try.pinned (OpenSpec.ofChange scriptBytesWrong)

/- THE SECOND FORM. 'bulk': how many values and letters a reading holds, each counted each time it is reached (what is shared counts as often as it is met; a slice's spare places count too). A statement '..UptoSaid' is the law's where the arguments, and the package variables that the reading takes, are together of bulk at most 1048576: NARROWER than '..Said'. Prove '..Said' where nothing that the law and all that it calls make is longer than what came in: it says more and counts as full. Else prove '..UptoSaid'. A law counts once. -/
mutual
def uptoBulk {H : Type} : DataW H → Nat
  | .lit (.string bytes) => bytes.length + 1
  | .lit _ => 1
  | .nil => 1
  | .ptr d => uptoBulk d + 1
  | .slice elems spare => uptoBulkAll elems + uptoBulkAll spare + 1
  | .agg parts => uptoBulkAll parts + 1
  | .iface _ d => uptoBulk d + 1
  | .map entries => uptoBulkEntries entries + 1
  | .held _ => 1
def uptoBulkAll {H : Type} : List (DataW H) → Nat
  | [] => 0
  | d :: r => uptoBulk d + uptoBulkAll r
def uptoBulkEntries {H : Type} : List (Lit × DataW H) → Nat
  | [] => 0
  | x :: r => uptoBulkEntry x + uptoBulkEntries r
def uptoBulkEntry {H : Type} : Lit × DataW H → Nat
  | (.string bytes, d) => bytes.length + uptoBulk d + 1
  | (_, d) => uptoBulk d + 1
 end
def uptoSmall : (H : Type) → List (DataW H) → Bool := fun _ ds => decide (uptoBulkAll ds ≤ 1048576)
def OpenSpec.upto (s : _root_.Go.ChangeSpec) : _root_.Go.OpenSpec := { _root_.Go.OpenSpec.ofChange s with cond := some uptoSmall }

/-- 'pantlerlaw47.ScriptOf', WHERE WHAT IT READS IS OF BULK AT MOST 1048576: true; the input reads as it did. -/
def scriptOfUptoRow : OpenClaim := { program := "ytlmplibdfhamjaa", sum := "9de4f0d34e48f712147debd047cefda0dcb4dc6a0c8ae1dcda6d8aa08654dc27", func := "pantler/pantlerlaw47.ScriptOf", spec := "scriptOf", inPlace := ["internal/abi.NoEscape"], unfollowed := true, recurses := true, apart := false, narrowed := true }
def ScriptOfUptoSaid : Prop := scriptOfUptoRow.holds Try.pinned (OpenSpec.upto scriptOfSpec)

/-- 'pantlerlaw47.ScriptBack', WHERE WHAT IT READS IS OF BULK AT MOST 1048576: true; the input reads as it did. -/
def scriptBackUptoRow : OpenClaim := { program := "ytlmplibdfhamjaa", sum := "9de4f0d34e48f712147debd047cefda0dcb4dc6a0c8ae1dcda6d8aa08654dc27", func := "pantler/pantlerlaw47.ScriptBack", spec := "scriptBack", inPlace := ["internal/abi.NoEscape"], unfollowed := true, recurses := true, apart := false, narrowed := true }
def ScriptBackUptoSaid : Prop := scriptBackUptoRow.holds Try.pinned (OpenSpec.upto scriptBackSpec)

/-- 'pantlerlaw22.AccessOf', WHERE WHAT IT READS IS OF BULK AT MOST 1048576: true; the input reads as it did. -/
def accessOfUptoRow : OpenClaim := { program := "ytlmplibdfhamjaa", sum := "9de4f0d34e48f712147debd047cefda0dcb4dc6a0c8ae1dcda6d8aa08654dc27", func := "pantler/pantlerlaw22.AccessOf", spec := "accessOf", inPlace := ["internal/abi.NoEscape", "internal/bytealg.MakeNoZero"], unfollowed := true, recurses := true, apart := false, narrowed := true }
def AccessOfUptoSaid : Prop := accessOfUptoRow.holds Try.pinned (OpenSpec.upto accessOfSpec)

/-- 'pantlerlaw22.AccessSet', WHERE WHAT IT READS IS OF BULK AT MOST 1048576: true; the input reads as it did. -/
def accessSetUptoRow : OpenClaim := { program := "ytlmplibdfhamjaa", sum := "9de4f0d34e48f712147debd047cefda0dcb4dc6a0c8ae1dcda6d8aa08654dc27", func := "pantler/pantlerlaw22.AccessSet", spec := "accessSet", inPlace := ["internal/abi.NoEscape", "internal/bytealg.MakeNoZero"], unfollowed := true, recurses := true, apart := false, narrowed := true }
def AccessSetUptoSaid : Prop := accessSetUptoRow.holds Try.pinned (OpenSpec.upto accessSetSpec)

/-- 'pantlerlaw22.AccessLetters', WHERE WHAT IT READS IS OF BULK AT MOST 1048576: true; the input reads as it did. -/
def accessLettersUptoRow : OpenClaim := { program := "ytlmplibdfhamjaa", sum := "9de4f0d34e48f712147debd047cefda0dcb4dc6a0c8ae1dcda6d8aa08654dc27", func := "pantler/pantlerlaw22.AccessLetters", spec := "accessLetters", inPlace := ["internal/abi.NoEscape", "internal/bytealg.MakeNoZero"], unfollowed := true, recurses := true, apart := false, narrowed := true }
def AccessLettersUptoSaid : Prop := accessLettersUptoRow.holds Try.pinned (OpenSpec.upto accessLettersSpec)

/-- 'pantlerlaw22.AccessOwn', WHERE WHAT IT READS IS OF BULK AT MOST 1048576: true; the input reads as it did. -/
def accessOwnUptoRow : OpenClaim := { program := "ytlmplibdfhamjaa", sum := "9de4f0d34e48f712147debd047cefda0dcb4dc6a0c8ae1dcda6d8aa08654dc27", func := "pantler/pantlerlaw22.AccessOwn", spec := "accessOwn", inPlace := ["internal/abi.NoEscape", "internal/bytealg.MakeNoZero"], unfollowed := true, recurses := true, apart := false, narrowed := true }
def AccessOwnUptoSaid : Prop := accessOwnUptoRow.holds Try.pinned (OpenSpec.upto accessOwnSpec)

/-- 'pantlerlaw12.RegwireWrites', WHERE WHAT IT READS IS OF BULK AT MOST 1048576: true; the input reads as it did. -/
def regwireWritesUptoRow : OpenClaim := { program := "ytlmplibdfhamjaa", sum := "9de4f0d34e48f712147debd047cefda0dcb4dc6a0c8ae1dcda6d8aa08654dc27", func := "pantler/pantlerlaw12.RegwireWrites", spec := "regwireWrites", inPlace := ["internal/abi.NoEscape"], unfollowed := true, recurses := true, apart := false, narrowed := true }
def RegwireWritesUptoSaid : Prop := regwireWritesUptoRow.holds Try.pinned (OpenSpec.upto regwireWritesSpec)

/-- 'pantlerlaw12.RegwireReads', WHERE WHAT IT READS IS OF BULK AT MOST 1048576: true; the input reads as it did. -/
def regwireReadsUptoRow : OpenClaim := { program := "ytlmplibdfhamjaa", sum := "9de4f0d34e48f712147debd047cefda0dcb4dc6a0c8ae1dcda6d8aa08654dc27", func := "pantler/pantlerlaw12.RegwireReads", spec := "regwireReads", inPlace := ["internal/abi.NoEscape"], unfollowed := true, recurses := true, apart := false, narrowed := true }
def RegwireReadsUptoSaid : Prop := regwireReadsUptoRow.holds Try.pinned (OpenSpec.upto regwireReadsSpec)

/-- 'pantlerlaw12.RegwireBack', WHERE WHAT IT READS IS OF BULK AT MOST 1048576: true; the input reads as it did. -/
def regwireBackUptoRow : OpenClaim := { program := "ytlmplibdfhamjaa", sum := "9de4f0d34e48f712147debd047cefda0dcb4dc6a0c8ae1dcda6d8aa08654dc27", func := "pantler/pantlerlaw12.RegwireBack", spec := "regwireBack", inPlace := ["internal/abi.NoEscape"], unfollowed := true, recurses := true, apart := false, narrowed := true }
def RegwireBackUptoSaid : Prop := regwireBackUptoRow.holds Try.pinned (OpenSpec.upto regwireBackSpec)

/-- 'pantlerlaw47.ScriptBytes', WHERE WHAT IT READS IS OF BULK AT MOST 1048576: true; the input reads as it did. -/
def scriptBytesUptoRow : OpenClaim := { program := "ytlmplibdfhamjaa", sum := "9de4f0d34e48f712147debd047cefda0dcb4dc6a0c8ae1dcda6d8aa08654dc27", func := "pantler/pantlerlaw47.ScriptBytes", spec := "scriptBytes", inPlace := ["internal/abi.NoEscape"], unfollowed := true, recurses := true, apart := false, narrowed := true }
def ScriptBytesUptoSaid : Prop := scriptBytesUptoRow.holds Try.pinned (OpenSpec.upto scriptBytesSpec)

end Rows
end Go.Proofs.Ytlmplibdfhamjaa
