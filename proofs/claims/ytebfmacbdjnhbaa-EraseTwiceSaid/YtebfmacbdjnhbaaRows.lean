/-
  No cell of these rows narrows 'for every input' (looked for: loops, veiled, ifaces, maps, wideKeys, modest, calm, conditions, laid).
  DERIVED. THE GIVEN ROWS OF THIS SEAT. 12 by the template 'for every input the law returns true; each argument reads behind the call as it read before'; 0 by the template 'total and deterministic' (their statements: YtebfmacbdjnhbaaTotals.lean).
  GIVEN WITH THE SEED: the statements are not yours to turn. If you find one false, say at which input.
  Laid BY PROGRAM, IN A SANDBOX (cutbox-rows.mjs): the forced cells as the released guide's own fill.sh prints them over the translation 14a5e304cd7ccf59… (all of the seat's roots in one cut). By AI agents, Wed Nov 11 2026. No macro, syntax, notation, axiom, sorry.
-/
import Derived.Test.YtebfmacbdjnhbaaChecked
import GoSem.Claim
import GoSem.ClaimJoined
import GoSem.ClaimMapViews
import Derived.JoinedTies
import Derived.KernelRfl
namespace Go.Proofs.Ytebfmacbdjnhbaa
/- THE CELL 'sum', in the pinned program and in every row, IS THE sha256 OF THE DUMP (.gsa) THAT YtebfmacbdjnhbaaProg.lean LOADS. Nothing in Lean hashes anything: it is a label: what it is worth is what the hold of that sum in a sandbox is worth. -/
noncomputable def Try.pinned : Pinned := { name := "ytebfmacbdjnhbaa", sum := "14a5e304cd7ccf59a50bdf0aa2ff021f2a2ff9449990a4e83dc42fd6d36b16bf", checked := Try.checked }
namespace Rows
def none {H : Type} : Left H := { results := [], args := [] }

/-- 'pantlerlaw45.EraseIs': WHATEVER THE INPUT: true; the input reads as it did. -/
def eraseIsSpec : ChangeSpec := { name := "eraseIs", fn := fun _ => fun
  | [d1, d2] => { results := [.lit (.bool true)], args := [d1, d2] }
  | _ => none }
def eraseIsRow : OpenClaim := { program := "ytebfmacbdjnhbaa", sum := "14a5e304cd7ccf59a50bdf0aa2ff021f2a2ff9449990a4e83dc42fd6d36b16bf", func := "pantler/pantlerlaw45.EraseIs", spec := "eraseIs", unfollowed := true, recurses := true, apart := false }
def EraseIsSaid : Prop := eraseIsRow.holds Try.pinned (OpenSpec.ofChange eraseIsSpec)

/-- ITS FALSE NEIGHBOUR: 'it returns false'. Refute it at one input. -/
def eraseIsWrong : ChangeSpec := { name := "eraseIs", fn := fun _ => fun
  | [d1, d2] => { results := [.lit (.bool false)], args := [d1, d2] }
  | _ => none }
def EraseIsWrongFalsely : Prop := eraseIsRow.holds Try.pinned (OpenSpec.ofChange eraseIsWrong)

/-- 'pantlerlaw45.EraseTwice': WHATEVER THE INPUT: true; the input reads as it did. -/
def eraseTwiceSpec : ChangeSpec := { name := "eraseTwice", fn := fun _ => fun
  | [d1, d2, d3] => { results := [.lit (.bool true)], args := [d1, d2, d3] }
  | _ => none }
def eraseTwiceRow : OpenClaim := { program := "ytebfmacbdjnhbaa", sum := "14a5e304cd7ccf59a50bdf0aa2ff021f2a2ff9449990a4e83dc42fd6d36b16bf", func := "pantler/pantlerlaw45.EraseTwice", spec := "eraseTwice", unfollowed := true, recurses := true, apart := false }
def EraseTwiceSaid : Prop := eraseTwiceRow.holds Try.pinned (OpenSpec.ofChange eraseTwiceSpec)

/-- ITS FALSE NEIGHBOUR: 'it returns false'. Refute it at one input. -/
def eraseTwiceWrong : ChangeSpec := { name := "eraseTwice", fn := fun _ => fun
  | [d1, d2, d3] => { results := [.lit (.bool false)], args := [d1, d2, d3] }
  | _ => none }
def EraseTwiceWrongFalsely : Prop := eraseTwiceRow.holds Try.pinned (OpenSpec.ofChange eraseTwiceWrong)

/-- 'pantlerlaw20.MoveIs': WHATEVER THE INPUT: true; the input reads as it did. -/
def moveIsSpec : ChangeSpec := { name := "moveIs", fn := fun _ => fun
  | [d1, d2, d3] => { results := [.lit (.bool true)], args := [d1, d2, d3] }
  | _ => none }
def moveIsRow : OpenClaim := { program := "ytebfmacbdjnhbaa", sum := "14a5e304cd7ccf59a50bdf0aa2ff021f2a2ff9449990a4e83dc42fd6d36b16bf", func := "pantler/pantlerlaw20.MoveIs", spec := "moveIs", unfollowed := true, recurses := true, apart := false }
def MoveIsSaid : Prop := moveIsRow.holds Try.pinned (OpenSpec.ofChange moveIsSpec)

/-- ITS FALSE NEIGHBOUR: 'it returns false'. Refute it at one input. -/
def moveIsWrong : ChangeSpec := { name := "moveIs", fn := fun _ => fun
  | [d1, d2, d3] => { results := [.lit (.bool false)], args := [d1, d2, d3] }
  | _ => none }
def MoveIsWrongFalsely : Prop := moveIsRow.holds Try.pinned (OpenSpec.ofChange moveIsWrong)

/-- 'pantlerlaw20.MoveLeads': WHATEVER THE INPUT: true; the input reads as it did. -/
def moveLeadsSpec : ChangeSpec := { name := "moveLeads", fn := fun _ => fun
  | [d1, d2] => { results := [.lit (.bool true)], args := [d1, d2] }
  | _ => none }
def moveLeadsRow : OpenClaim := { program := "ytebfmacbdjnhbaa", sum := "14a5e304cd7ccf59a50bdf0aa2ff021f2a2ff9449990a4e83dc42fd6d36b16bf", func := "pantler/pantlerlaw20.MoveLeads", spec := "moveLeads", unfollowed := true, recurses := true, apart := false }
def MoveLeadsSaid : Prop := moveLeadsRow.holds Try.pinned (OpenSpec.ofChange moveLeadsSpec)

/-- ITS FALSE NEIGHBOUR: 'it returns false'. Refute it at one input. -/
def moveLeadsWrong : ChangeSpec := { name := "moveLeads", fn := fun _ => fun
  | [d1, d2] => { results := [.lit (.bool false)], args := [d1, d2] }
  | _ => none }
def MoveLeadsWrongFalsely : Prop := moveLeadsRow.holds Try.pinned (OpenSpec.ofChange moveLeadsWrong)

/-- 'pantlerlaw20.MoveParts': WHATEVER THE INPUT: true; the input reads as it did. -/
def movePartsSpec : ChangeSpec := { name := "moveParts", fn := fun _ => fun
  | [d1, d2] => { results := [.lit (.bool true)], args := [d1, d2] }
  | _ => none }
def movePartsRow : OpenClaim := { program := "ytebfmacbdjnhbaa", sum := "14a5e304cd7ccf59a50bdf0aa2ff021f2a2ff9449990a4e83dc42fd6d36b16bf", func := "pantler/pantlerlaw20.MoveParts", spec := "moveParts", unfollowed := true, recurses := true, apart := false }
def MovePartsSaid : Prop := movePartsRow.holds Try.pinned (OpenSpec.ofChange movePartsSpec)

/-- ITS FALSE NEIGHBOUR: 'it returns false'. Refute it at one input. -/
def movePartsWrong : ChangeSpec := { name := "moveParts", fn := fun _ => fun
  | [d1, d2] => { results := [.lit (.bool false)], args := [d1, d2] }
  | _ => none }
def MovePartsWrongFalsely : Prop := movePartsRow.holds Try.pinned (OpenSpec.ofChange movePartsWrong)

/-- 'pantlerlaw34.QuorumIs': WHATEVER THE INPUT: true; the input reads as it did. -/
def quorumIsSpec : ChangeSpec := { name := "quorumIs", fn := fun _ => fun
  | [d1, d2, d3] => { results := [.lit (.bool true)], args := [d1, d2, d3] }
  | _ => none }
def quorumIsRow : OpenClaim := { program := "ytebfmacbdjnhbaa", sum := "14a5e304cd7ccf59a50bdf0aa2ff021f2a2ff9449990a4e83dc42fd6d36b16bf", func := "pantler/pantlerlaw34.QuorumIs", spec := "quorumIs", unfollowed := true, recurses := true, apart := false }
def QuorumIsSaid : Prop := quorumIsRow.holds Try.pinned (OpenSpec.ofChange quorumIsSpec)

/-- ITS FALSE NEIGHBOUR: 'it returns false'. Refute it at one input. -/
def quorumIsWrong : ChangeSpec := { name := "quorumIs", fn := fun _ => fun
  | [d1, d2, d3] => { results := [.lit (.bool false)], args := [d1, d2, d3] }
  | _ => none }
def QuorumIsWrongFalsely : Prop := quorumIsRow.holds Try.pinned (OpenSpec.ofChange quorumIsWrong)

/-- 'pantlerlaw34.QuorumMeets': WHATEVER THE INPUT: true; the input reads as it did. -/
def quorumMeetsSpec : ChangeSpec := { name := "quorumMeets", fn := fun _ => fun
  | [d1, d2, d3] => { results := [.lit (.bool true)], args := [d1, d2, d3] }
  | _ => none }
def quorumMeetsRow : OpenClaim := { program := "ytebfmacbdjnhbaa", sum := "14a5e304cd7ccf59a50bdf0aa2ff021f2a2ff9449990a4e83dc42fd6d36b16bf", func := "pantler/pantlerlaw34.QuorumMeets", spec := "quorumMeets", unfollowed := true, recurses := true, apart := false }
def QuorumMeetsSaid : Prop := quorumMeetsRow.holds Try.pinned (OpenSpec.ofChange quorumMeetsSpec)

/-- ITS FALSE NEIGHBOUR: 'it returns false'. Refute it at one input. -/
def quorumMeetsWrong : ChangeSpec := { name := "quorumMeets", fn := fun _ => fun
  | [d1, d2, d3] => { results := [.lit (.bool false)], args := [d1, d2, d3] }
  | _ => none }
def QuorumMeetsWrongFalsely : Prop := quorumMeetsRow.holds Try.pinned (OpenSpec.ofChange quorumMeetsWrong)

/-- 'pantlerlaw50.PlanIs': WHATEVER THE INPUT: true; the input reads as it did. -/
def planIsSpec : ChangeSpec := { name := "planIs", fn := fun _ => fun
  | [d1, d2, d3] => { results := [.lit (.bool true)], args := [d1, d2, d3] }
  | _ => none }
def planIsRow : OpenClaim := { program := "ytebfmacbdjnhbaa", sum := "14a5e304cd7ccf59a50bdf0aa2ff021f2a2ff9449990a4e83dc42fd6d36b16bf", func := "pantler/pantlerlaw50.PlanIs", spec := "planIs", unfollowed := true, recurses := true, apart := false }
def PlanIsSaid : Prop := planIsRow.holds Try.pinned (OpenSpec.ofChange planIsSpec)

/-- ITS FALSE NEIGHBOUR: 'it returns false'. Refute it at one input. -/
def planIsWrong : ChangeSpec := { name := "planIs", fn := fun _ => fun
  | [d1, d2, d3] => { results := [.lit (.bool false)], args := [d1, d2, d3] }
  | _ => none }
def PlanIsWrongFalsely : Prop := planIsRow.holds Try.pinned (OpenSpec.ofChange planIsWrong)

/-- 'pantlerlaw50.PlanLeads': WHATEVER THE INPUT: true; the input reads as it did. -/
def planLeadsSpec : ChangeSpec := { name := "planLeads", fn := fun _ => fun
  | [d1, d2] => { results := [.lit (.bool true)], args := [d1, d2] }
  | _ => none }
def planLeadsRow : OpenClaim := { program := "ytebfmacbdjnhbaa", sum := "14a5e304cd7ccf59a50bdf0aa2ff021f2a2ff9449990a4e83dc42fd6d36b16bf", func := "pantler/pantlerlaw50.PlanLeads", spec := "planLeads", unfollowed := true, recurses := true, apart := false }
def PlanLeadsSaid : Prop := planLeadsRow.holds Try.pinned (OpenSpec.ofChange planLeadsSpec)

/-- ITS FALSE NEIGHBOUR: 'it returns false'. Refute it at one input. -/
def planLeadsWrong : ChangeSpec := { name := "planLeads", fn := fun _ => fun
  | [d1, d2] => { results := [.lit (.bool false)], args := [d1, d2] }
  | _ => none }
def PlanLeadsWrongFalsely : Prop := planLeadsRow.holds Try.pinned (OpenSpec.ofChange planLeadsWrong)

/-- 'pantlerlaw37.WriterPlays': WHATEVER THE INPUT: true; the input reads as it did. -/
def writerPlaysSpec : ChangeSpec := { name := "writerPlays", fn := fun _ => fun
  | [d1, d2, d3] => { results := [.lit (.bool true)], args := [d1, d2, d3] }
  | _ => none }
def writerPlaysRow : OpenClaim := { program := "ytebfmacbdjnhbaa", sum := "14a5e304cd7ccf59a50bdf0aa2ff021f2a2ff9449990a4e83dc42fd6d36b16bf", func := "pantler/pantlerlaw37.WriterPlays", spec := "writerPlays", unfollowed := true, recurses := true, apart := false }
def WriterPlaysSaid : Prop := writerPlaysRow.holds Try.pinned (OpenSpec.ofChange writerPlaysSpec)

/-- ITS FALSE NEIGHBOUR: 'it returns false'. Refute it at one input. -/
def writerPlaysWrong : ChangeSpec := { name := "writerPlays", fn := fun _ => fun
  | [d1, d2, d3] => { results := [.lit (.bool false)], args := [d1, d2, d3] }
  | _ => none }
def WriterPlaysWrongFalsely : Prop := writerPlaysRow.holds Try.pinned (OpenSpec.ofChange writerPlaysWrong)

/-- 'pantlerlaw37.WriterMet': WHATEVER THE INPUT: true; the input reads as it did. -/
def writerMetSpec : ChangeSpec := { name := "writerMet", fn := fun _ => fun
  | [d1, d2, d3] => { results := [.lit (.bool true)], args := [d1, d2, d3] }
  | _ => none }
def writerMetRow : OpenClaim := { program := "ytebfmacbdjnhbaa", sum := "14a5e304cd7ccf59a50bdf0aa2ff021f2a2ff9449990a4e83dc42fd6d36b16bf", func := "pantler/pantlerlaw37.WriterMet", spec := "writerMet", unfollowed := true, recurses := true, apart := false }
def WriterMetSaid : Prop := writerMetRow.holds Try.pinned (OpenSpec.ofChange writerMetSpec)

/-- ITS FALSE NEIGHBOUR: 'it returns false'. Refute it at one input. -/
def writerMetWrong : ChangeSpec := { name := "writerMet", fn := fun _ => fun
  | [d1, d2, d3] => { results := [.lit (.bool false)], args := [d1, d2, d3] }
  | _ => none }
def WriterMetWrongFalsely : Prop := writerMetRow.holds Try.pinned (OpenSpec.ofChange writerMetWrong)

/-- 'pantlerlaw37.WriterNobody': WHATEVER THE INPUT: true; the input reads as it did. -/
def writerNobodySpec : ChangeSpec := { name := "writerNobody", fn := fun _ => fun
  | [d] => { results := [.lit (.bool true)], args := [d] }
  | _ => none }
def writerNobodyRow : OpenClaim := { program := "ytebfmacbdjnhbaa", sum := "14a5e304cd7ccf59a50bdf0aa2ff021f2a2ff9449990a4e83dc42fd6d36b16bf", func := "pantler/pantlerlaw37.WriterNobody", spec := "writerNobody", unfollowed := true, recurses := true, apart := false }
def WriterNobodySaid : Prop := writerNobodyRow.holds Try.pinned (OpenSpec.ofChange writerNobodySpec)

/-- ITS FALSE NEIGHBOUR: 'it returns false'. Refute it at one input. -/
def writerNobodyWrong : ChangeSpec := { name := "writerNobody", fn := fun _ => fun
  | [d] => { results := [.lit (.bool false)], args := [d] }
  | _ => none }
def WriterNobodyWrongFalsely : Prop := writerNobodyRow.holds Try.pinned (OpenSpec.ofChange writerNobodyWrong)

/- THE SECOND FORM. 'bulk': how many values and letters a reading holds, each counted each time it is reached (what is shared counts as often as it is met; a slice's spare places count too). A statement '..UptoSaid' is the law's where the arguments, and the package variables that the reading takes, are together of bulk at most 1048576: NARROWER than '..Said'. Prove '..Said' where nothing that the law and all that it calls make is longer than what came in: it says more and counts as full. Else prove '..UptoSaid'. A law counts once. -/
mutual
def uptoBulk {H : Type} : DataW H → Nat
  | .lit (.string bytes) => bytes.length + 1
  | .lit _ => 1
  | .nil => 1
  | .ptr d => uptoBulk d + 1
  | .slice elems spare => uptoBulkAll elems + uptoBulkAll spare + 1
  | .agg parts => uptoBulkAll parts + 1
  | .iface _ d => uptoBulk d + 1
  | .map entries => uptoBulkEntries entries + 1
  | .held _ => 1
def uptoBulkAll {H : Type} : List (DataW H) → Nat
  | [] => 0
  | d :: r => uptoBulk d + uptoBulkAll r
def uptoBulkEntries {H : Type} : List (Lit × DataW H) → Nat
  | [] => 0
  | x :: r => uptoBulkEntry x + uptoBulkEntries r
def uptoBulkEntry {H : Type} : Lit × DataW H → Nat
  | (.string bytes, d) => bytes.length + uptoBulk d + 1
  | (_, d) => uptoBulk d + 1
 end
def uptoSmall : (H : Type) → List (DataW H) → Bool := fun _ ds => decide (uptoBulkAll ds ≤ 1048576)
def OpenSpec.upto (s : _root_.Go.ChangeSpec) : _root_.Go.OpenSpec := { _root_.Go.OpenSpec.ofChange s with cond := some uptoSmall }

/-- 'pantlerlaw45.EraseIs', WHERE WHAT IT READS IS OF BULK AT MOST 1048576: true; the input reads as it did. -/
def eraseIsUptoRow : OpenClaim := { program := "ytebfmacbdjnhbaa", sum := "14a5e304cd7ccf59a50bdf0aa2ff021f2a2ff9449990a4e83dc42fd6d36b16bf", func := "pantler/pantlerlaw45.EraseIs", spec := "eraseIs", unfollowed := true, recurses := true, apart := false, narrowed := true }
def EraseIsUptoSaid : Prop := eraseIsUptoRow.holds Try.pinned (OpenSpec.upto eraseIsSpec)

/-- 'pantlerlaw45.EraseTwice', WHERE WHAT IT READS IS OF BULK AT MOST 1048576: true; the input reads as it did. -/
def eraseTwiceUptoRow : OpenClaim := { program := "ytebfmacbdjnhbaa", sum := "14a5e304cd7ccf59a50bdf0aa2ff021f2a2ff9449990a4e83dc42fd6d36b16bf", func := "pantler/pantlerlaw45.EraseTwice", spec := "eraseTwice", unfollowed := true, recurses := true, apart := false, narrowed := true }
def EraseTwiceUptoSaid : Prop := eraseTwiceUptoRow.holds Try.pinned (OpenSpec.upto eraseTwiceSpec)

/-- 'pantlerlaw20.MoveIs', WHERE WHAT IT READS IS OF BULK AT MOST 1048576: true; the input reads as it did. -/
def moveIsUptoRow : OpenClaim := { program := "ytebfmacbdjnhbaa", sum := "14a5e304cd7ccf59a50bdf0aa2ff021f2a2ff9449990a4e83dc42fd6d36b16bf", func := "pantler/pantlerlaw20.MoveIs", spec := "moveIs", unfollowed := true, recurses := true, apart := false, narrowed := true }
def MoveIsUptoSaid : Prop := moveIsUptoRow.holds Try.pinned (OpenSpec.upto moveIsSpec)

/-- 'pantlerlaw20.MoveLeads', WHERE WHAT IT READS IS OF BULK AT MOST 1048576: true; the input reads as it did. -/
def moveLeadsUptoRow : OpenClaim := { program := "ytebfmacbdjnhbaa", sum := "14a5e304cd7ccf59a50bdf0aa2ff021f2a2ff9449990a4e83dc42fd6d36b16bf", func := "pantler/pantlerlaw20.MoveLeads", spec := "moveLeads", unfollowed := true, recurses := true, apart := false, narrowed := true }
def MoveLeadsUptoSaid : Prop := moveLeadsUptoRow.holds Try.pinned (OpenSpec.upto moveLeadsSpec)

/-- 'pantlerlaw20.MoveParts', WHERE WHAT IT READS IS OF BULK AT MOST 1048576: true; the input reads as it did. -/
def movePartsUptoRow : OpenClaim := { program := "ytebfmacbdjnhbaa", sum := "14a5e304cd7ccf59a50bdf0aa2ff021f2a2ff9449990a4e83dc42fd6d36b16bf", func := "pantler/pantlerlaw20.MoveParts", spec := "moveParts", unfollowed := true, recurses := true, apart := false, narrowed := true }
def MovePartsUptoSaid : Prop := movePartsUptoRow.holds Try.pinned (OpenSpec.upto movePartsSpec)

/-- 'pantlerlaw34.QuorumIs', WHERE WHAT IT READS IS OF BULK AT MOST 1048576: true; the input reads as it did. -/
def quorumIsUptoRow : OpenClaim := { program := "ytebfmacbdjnhbaa", sum := "14a5e304cd7ccf59a50bdf0aa2ff021f2a2ff9449990a4e83dc42fd6d36b16bf", func := "pantler/pantlerlaw34.QuorumIs", spec := "quorumIs", unfollowed := true, recurses := true, apart := false, narrowed := true }
def QuorumIsUptoSaid : Prop := quorumIsUptoRow.holds Try.pinned (OpenSpec.upto quorumIsSpec)

/-- 'pantlerlaw34.QuorumMeets', WHERE WHAT IT READS IS OF BULK AT MOST 1048576: true; the input reads as it did. -/
def quorumMeetsUptoRow : OpenClaim := { program := "ytebfmacbdjnhbaa", sum := "14a5e304cd7ccf59a50bdf0aa2ff021f2a2ff9449990a4e83dc42fd6d36b16bf", func := "pantler/pantlerlaw34.QuorumMeets", spec := "quorumMeets", unfollowed := true, recurses := true, apart := false, narrowed := true }
def QuorumMeetsUptoSaid : Prop := quorumMeetsUptoRow.holds Try.pinned (OpenSpec.upto quorumMeetsSpec)

/-- 'pantlerlaw50.PlanIs', WHERE WHAT IT READS IS OF BULK AT MOST 1048576: true; the input reads as it did. -/
def planIsUptoRow : OpenClaim := { program := "ytebfmacbdjnhbaa", sum := "14a5e304cd7ccf59a50bdf0aa2ff021f2a2ff9449990a4e83dc42fd6d36b16bf", func := "pantler/pantlerlaw50.PlanIs", spec := "planIs", unfollowed := true, recurses := true, apart := false, narrowed := true }
def PlanIsUptoSaid : Prop := planIsUptoRow.holds Try.pinned (OpenSpec.upto planIsSpec)

/-- 'pantlerlaw50.PlanLeads', WHERE WHAT IT READS IS OF BULK AT MOST 1048576: true; the input reads as it did. -/
def planLeadsUptoRow : OpenClaim := { program := "ytebfmacbdjnhbaa", sum := "14a5e304cd7ccf59a50bdf0aa2ff021f2a2ff9449990a4e83dc42fd6d36b16bf", func := "pantler/pantlerlaw50.PlanLeads", spec := "planLeads", unfollowed := true, recurses := true, apart := false, narrowed := true }
def PlanLeadsUptoSaid : Prop := planLeadsUptoRow.holds Try.pinned (OpenSpec.upto planLeadsSpec)

/-- 'pantlerlaw37.WriterPlays', WHERE WHAT IT READS IS OF BULK AT MOST 1048576: true; the input reads as it did. -/
def writerPlaysUptoRow : OpenClaim := { program := "ytebfmacbdjnhbaa", sum := "14a5e304cd7ccf59a50bdf0aa2ff021f2a2ff9449990a4e83dc42fd6d36b16bf", func := "pantler/pantlerlaw37.WriterPlays", spec := "writerPlays", unfollowed := true, recurses := true, apart := false, narrowed := true }
def WriterPlaysUptoSaid : Prop := writerPlaysUptoRow.holds Try.pinned (OpenSpec.upto writerPlaysSpec)

/-- 'pantlerlaw37.WriterMet', WHERE WHAT IT READS IS OF BULK AT MOST 1048576: true; the input reads as it did. -/
def writerMetUptoRow : OpenClaim := { program := "ytebfmacbdjnhbaa", sum := "14a5e304cd7ccf59a50bdf0aa2ff021f2a2ff9449990a4e83dc42fd6d36b16bf", func := "pantler/pantlerlaw37.WriterMet", spec := "writerMet", unfollowed := true, recurses := true, apart := false, narrowed := true }
def WriterMetUptoSaid : Prop := writerMetUptoRow.holds Try.pinned (OpenSpec.upto writerMetSpec)

/-- 'pantlerlaw37.WriterNobody', WHERE WHAT IT READS IS OF BULK AT MOST 1048576: true; the input reads as it did. -/
def writerNobodyUptoRow : OpenClaim := { program := "ytebfmacbdjnhbaa", sum := "14a5e304cd7ccf59a50bdf0aa2ff021f2a2ff9449990a4e83dc42fd6d36b16bf", func := "pantler/pantlerlaw37.WriterNobody", spec := "writerNobody", unfollowed := true, recurses := true, apart := false, narrowed := true }
def WriterNobodyUptoSaid : Prop := writerNobodyUptoRow.holds Try.pinned (OpenSpec.upto writerNobodySpec)

end Rows
end Go.Proofs.Ytebfmacbdjnhbaa
