/-
  No cell of these rows narrows 'for every input' (looked for: loops, veiled, ifaces, maps, wideKeys, modest, calm, conditions, laid).
  DERIVED. THE GIVEN ROWS OF THIS SEAT. 8 by the template 'for every input the law returns true; each argument reads behind the call as it read before'; 0 by the template 'total and deterministic' (their statements: YtpiinfjcjpdofaaTotals.lean).
  GIVEN WITH THE SEED: the statements are not yours to turn. If you find one false, say at which input.
  Laid BY PROGRAM, IN A SANDBOX (cutbox-rows.mjs): the forced cells as the released guide's own fill.sh prints them over the translation d049d57435295281… (all of the seat's roots in one cut). By AI agents, Wed Nov 11 2026. No macro, syntax, notation, axiom, sorry.
-/
import Derived.Test.YtpiinfjcjpdofaaChecked
import GoSem.Claim
import GoSem.ClaimJoined
import GoSem.ClaimMapViews
import Derived.JoinedTies
import Derived.KernelRfl
namespace Go.Proofs.Ytpiinfjcjpdofaa
/- THE CELL 'sum', in the pinned program and in every row, IS THE sha256 OF THE DUMP (.gsa) THAT YtpiinfjcjpdofaaProg.lean LOADS. Nothing in Lean hashes anything: it is a label: what it is worth is what the hold of that sum in a sandbox is worth. -/
noncomputable def Try.pinned : Pinned := { name := "ytpiinfjcjpdofaa", sum := "d049d5743529528164479f92f118cde8688fc8c632c09d758514c0be78757ccd", checked := Try.checked }
namespace Rows
def none {H : Type} : Left H := { results := [], args := [] }

/-- 'pantlerlaw15.WalkIs': WHATEVER THE INPUT: true; the input reads as it did. -/
def walkIsSpec : ChangeSpec := { name := "walkIs", fn := fun _ => fun
  | [d1, d2, d3] => { results := [.lit (.bool true)], args := [d1, d2, d3] }
  | _ => none }
def walkIsRow : OpenClaim := { program := "ytpiinfjcjpdofaa", sum := "d049d5743529528164479f92f118cde8688fc8c632c09d758514c0be78757ccd", func := "pantler/pantlerlaw15.WalkIs", spec := "walkIs", unfollowed := true, recurses := true, apart := false }
def WalkIsSaid : Prop := walkIsRow.holds Try.pinned (OpenSpec.ofChange walkIsSpec)

/-- ITS FALSE NEIGHBOUR: 'it returns false'. Refute it at one input. -/
def walkIsWrong : ChangeSpec := { name := "walkIs", fn := fun _ => fun
  | [d1, d2, d3] => { results := [.lit (.bool false)], args := [d1, d2, d3] }
  | _ => none }
def WalkIsWrongFalsely : Prop := walkIsRow.holds Try.pinned (OpenSpec.ofChange walkIsWrong)

/-- 'pantlerlaw15.WalkAll': WHATEVER THE INPUT: true; the input reads as it did. -/
def walkAllSpec : ChangeSpec := { name := "walkAll", fn := fun _ => fun
  | [d1, d2, d3] => { results := [.lit (.bool true)], args := [d1, d2, d3] }
  | _ => none }
def walkAllRow : OpenClaim := { program := "ytpiinfjcjpdofaa", sum := "d049d5743529528164479f92f118cde8688fc8c632c09d758514c0be78757ccd", func := "pantler/pantlerlaw15.WalkAll", spec := "walkAll", unfollowed := true, recurses := true, apart := false }
def WalkAllSaid : Prop := walkAllRow.holds Try.pinned (OpenSpec.ofChange walkAllSpec)

/-- ITS FALSE NEIGHBOUR: 'it returns false'. Refute it at one input. -/
def walkAllWrong : ChangeSpec := { name := "walkAll", fn := fun _ => fun
  | [d1, d2, d3] => { results := [.lit (.bool false)], args := [d1, d2, d3] }
  | _ => none }
def WalkAllWrongFalsely : Prop := walkAllRow.holds Try.pinned (OpenSpec.ofChange walkAllWrong)

/-- 'pantlerlaw17.CoverTries': WHATEVER THE INPUT: true; the input reads as it did. -/
def coverTriesSpec : ChangeSpec := { name := "coverTries", fn := fun _ => fun
  | [d1, d2] => { results := [.lit (.bool true)], args := [d1, d2] }
  | _ => none }
def coverTriesRow : OpenClaim := { program := "ytpiinfjcjpdofaa", sum := "d049d5743529528164479f92f118cde8688fc8c632c09d758514c0be78757ccd", func := "pantler/pantlerlaw17.CoverTries", spec := "coverTries", unfollowed := true, recurses := true, apart := false }
def CoverTriesSaid : Prop := coverTriesRow.holds Try.pinned (OpenSpec.ofChange coverTriesSpec)

/-- ITS FALSE NEIGHBOUR: 'it returns false'. Refute it at one input. -/
def coverTriesWrong : ChangeSpec := { name := "coverTries", fn := fun _ => fun
  | [d1, d2] => { results := [.lit (.bool false)], args := [d1, d2] }
  | _ => none }
def CoverTriesWrongFalsely : Prop := coverTriesRow.holds Try.pinned (OpenSpec.ofChange coverTriesWrong)

/-- 'pantlerlaw17.CoverMost': WHATEVER THE INPUT: true; the input reads as it did. -/
def coverMostSpec : ChangeSpec := { name := "coverMost", fn := fun _ => fun
  | [d1, d2] => { results := [.lit (.bool true)], args := [d1, d2] }
  | _ => none }
def coverMostRow : OpenClaim := { program := "ytpiinfjcjpdofaa", sum := "d049d5743529528164479f92f118cde8688fc8c632c09d758514c0be78757ccd", func := "pantler/pantlerlaw17.CoverMost", spec := "coverMost", unfollowed := true, recurses := true, apart := false }
def CoverMostSaid : Prop := coverMostRow.holds Try.pinned (OpenSpec.ofChange coverMostSpec)

/-- ITS FALSE NEIGHBOUR: 'it returns false'. Refute it at one input. -/
def coverMostWrong : ChangeSpec := { name := "coverMost", fn := fun _ => fun
  | [d1, d2] => { results := [.lit (.bool false)], args := [d1, d2] }
  | _ => none }
def CoverMostWrongFalsely : Prop := coverMostRow.holds Try.pinned (OpenSpec.ofChange coverMostWrong)

/-- 'pantlerlaw17.CoverLess': WHATEVER THE INPUT: true; the input reads as it did. -/
def coverLessSpec : ChangeSpec := { name := "coverLess", fn := fun _ => fun
  | [d1, d2] => { results := [.lit (.bool true)], args := [d1, d2] }
  | _ => none }
def coverLessRow : OpenClaim := { program := "ytpiinfjcjpdofaa", sum := "d049d5743529528164479f92f118cde8688fc8c632c09d758514c0be78757ccd", func := "pantler/pantlerlaw17.CoverLess", spec := "coverLess", unfollowed := true, recurses := true, apart := false }
def CoverLessSaid : Prop := coverLessRow.holds Try.pinned (OpenSpec.ofChange coverLessSpec)

/-- ITS FALSE NEIGHBOUR: 'it returns false'. Refute it at one input. -/
def coverLessWrong : ChangeSpec := { name := "coverLess", fn := fun _ => fun
  | [d1, d2] => { results := [.lit (.bool false)], args := [d1, d2] }
  | _ => none }
def CoverLessWrongFalsely : Prop := coverLessRow.holds Try.pinned (OpenSpec.ofChange coverLessWrong)

/-- 'pantlerlaw18.PreferIs': WHATEVER THE INPUT: true; the input reads as it did. -/
def preferIsSpec : ChangeSpec := { name := "preferIs", fn := fun _ => fun
  | [d1, d2, d3] => { results := [.lit (.bool true)], args := [d1, d2, d3] }
  | _ => none }
def preferIsRow : OpenClaim := { program := "ytpiinfjcjpdofaa", sum := "d049d5743529528164479f92f118cde8688fc8c632c09d758514c0be78757ccd", func := "pantler/pantlerlaw18.PreferIs", spec := "preferIs", unfollowed := true, recurses := true, apart := false }
def PreferIsSaid : Prop := preferIsRow.holds Try.pinned (OpenSpec.ofChange preferIsSpec)

/-- ITS FALSE NEIGHBOUR: 'it returns false'. Refute it at one input. -/
def preferIsWrong : ChangeSpec := { name := "preferIs", fn := fun _ => fun
  | [d1, d2, d3] => { results := [.lit (.bool false)], args := [d1, d2, d3] }
  | _ => none }
def PreferIsWrongFalsely : Prop := preferIsRow.holds Try.pinned (OpenSpec.ofChange preferIsWrong)

/-- 'pantlerlaw18.PreferPlaces': WHATEVER THE INPUT: true; the input reads as it did. -/
def preferPlacesSpec : ChangeSpec := { name := "preferPlaces", fn := fun _ => fun
  | [d1, d2, d3] => { results := [.lit (.bool true)], args := [d1, d2, d3] }
  | _ => none }
def preferPlacesRow : OpenClaim := { program := "ytpiinfjcjpdofaa", sum := "d049d5743529528164479f92f118cde8688fc8c632c09d758514c0be78757ccd", func := "pantler/pantlerlaw18.PreferPlaces", spec := "preferPlaces", unfollowed := true, recurses := true, apart := false }
def PreferPlacesSaid : Prop := preferPlacesRow.holds Try.pinned (OpenSpec.ofChange preferPlacesSpec)

/-- ITS FALSE NEIGHBOUR: 'it returns false'. Refute it at one input. -/
def preferPlacesWrong : ChangeSpec := { name := "preferPlaces", fn := fun _ => fun
  | [d1, d2, d3] => { results := [.lit (.bool false)], args := [d1, d2, d3] }
  | _ => none }
def PreferPlacesWrongFalsely : Prop := preferPlacesRow.holds Try.pinned (OpenSpec.ofChange preferPlacesWrong)

/-- 'pantlerlaw18.PreferClaims': WHATEVER THE INPUT: true; the input reads as it did. -/
def preferClaimsSpec : ChangeSpec := { name := "preferClaims", fn := fun _ => fun
  | [d1, d2, d3] => { results := [.lit (.bool true)], args := [d1, d2, d3] }
  | _ => none }
def preferClaimsRow : OpenClaim := { program := "ytpiinfjcjpdofaa", sum := "d049d5743529528164479f92f118cde8688fc8c632c09d758514c0be78757ccd", func := "pantler/pantlerlaw18.PreferClaims", spec := "preferClaims", unfollowed := true, recurses := true, apart := false }
def PreferClaimsSaid : Prop := preferClaimsRow.holds Try.pinned (OpenSpec.ofChange preferClaimsSpec)

/-- ITS FALSE NEIGHBOUR: 'it returns false'. Refute it at one input. -/
def preferClaimsWrong : ChangeSpec := { name := "preferClaims", fn := fun _ => fun
  | [d1, d2, d3] => { results := [.lit (.bool false)], args := [d1, d2, d3] }
  | _ => none }
def PreferClaimsWrongFalsely : Prop := preferClaimsRow.holds Try.pinned (OpenSpec.ofChange preferClaimsWrong)

/- THE SECOND FORM. 'bulk': how many values and letters a reading holds, each counted each time it is reached (what is shared counts as often as it is met; a slice's spare places count too). A statement '..UptoSaid' is the law's where the arguments, and the package variables that the reading takes, are together of bulk at most 1048576: NARROWER than '..Said'. Prove '..Said' where nothing that the law and all that it calls make is longer than what came in: it says more and counts as full. Else prove '..UptoSaid'. A law counts once. -/
mutual
def uptoBulk {H : Type} : DataW H → Nat
  | .lit (.string bytes) => bytes.length + 1
  | .lit _ => 1
  | .nil => 1
  | .ptr d => uptoBulk d + 1
  | .slice elems spare => uptoBulkAll elems + uptoBulkAll spare + 1
  | .agg parts => uptoBulkAll parts + 1
  | .iface _ d => uptoBulk d + 1
  | .map entries => uptoBulkEntries entries + 1
  | .held _ => 1
def uptoBulkAll {H : Type} : List (DataW H) → Nat
  | [] => 0
  | d :: r => uptoBulk d + uptoBulkAll r
def uptoBulkEntries {H : Type} : List (Lit × DataW H) → Nat
  | [] => 0
  | x :: r => uptoBulkEntry x + uptoBulkEntries r
def uptoBulkEntry {H : Type} : Lit × DataW H → Nat
  | (.string bytes, d) => bytes.length + uptoBulk d + 1
  | (_, d) => uptoBulk d + 1
 end
def uptoSmall : (H : Type) → List (DataW H) → Bool := fun _ ds => decide (uptoBulkAll ds ≤ 1048576)
def OpenSpec.upto (s : _root_.Go.ChangeSpec) : _root_.Go.OpenSpec := { _root_.Go.OpenSpec.ofChange s with cond := some uptoSmall }

/-- 'pantlerlaw15.WalkIs', WHERE WHAT IT READS IS OF BULK AT MOST 1048576: true; the input reads as it did. -/
def walkIsUptoRow : OpenClaim := { program := "ytpiinfjcjpdofaa", sum := "d049d5743529528164479f92f118cde8688fc8c632c09d758514c0be78757ccd", func := "pantler/pantlerlaw15.WalkIs", spec := "walkIs", unfollowed := true, recurses := true, apart := false, narrowed := true }
def WalkIsUptoSaid : Prop := walkIsUptoRow.holds Try.pinned (OpenSpec.upto walkIsSpec)

/-- 'pantlerlaw15.WalkAll', WHERE WHAT IT READS IS OF BULK AT MOST 1048576: true; the input reads as it did. -/
def walkAllUptoRow : OpenClaim := { program := "ytpiinfjcjpdofaa", sum := "d049d5743529528164479f92f118cde8688fc8c632c09d758514c0be78757ccd", func := "pantler/pantlerlaw15.WalkAll", spec := "walkAll", unfollowed := true, recurses := true, apart := false, narrowed := true }
def WalkAllUptoSaid : Prop := walkAllUptoRow.holds Try.pinned (OpenSpec.upto walkAllSpec)

/-- 'pantlerlaw17.CoverTries', WHERE WHAT IT READS IS OF BULK AT MOST 1048576: true; the input reads as it did. -/
def coverTriesUptoRow : OpenClaim := { program := "ytpiinfjcjpdofaa", sum := "d049d5743529528164479f92f118cde8688fc8c632c09d758514c0be78757ccd", func := "pantler/pantlerlaw17.CoverTries", spec := "coverTries", unfollowed := true, recurses := true, apart := false, narrowed := true }
def CoverTriesUptoSaid : Prop := coverTriesUptoRow.holds Try.pinned (OpenSpec.upto coverTriesSpec)

/-- 'pantlerlaw17.CoverMost', WHERE WHAT IT READS IS OF BULK AT MOST 1048576: true; the input reads as it did. -/
def coverMostUptoRow : OpenClaim := { program := "ytpiinfjcjpdofaa", sum := "d049d5743529528164479f92f118cde8688fc8c632c09d758514c0be78757ccd", func := "pantler/pantlerlaw17.CoverMost", spec := "coverMost", unfollowed := true, recurses := true, apart := false, narrowed := true }
def CoverMostUptoSaid : Prop := coverMostUptoRow.holds Try.pinned (OpenSpec.upto coverMostSpec)

/-- 'pantlerlaw17.CoverLess', WHERE WHAT IT READS IS OF BULK AT MOST 1048576: true; the input reads as it did. -/
def coverLessUptoRow : OpenClaim := { program := "ytpiinfjcjpdofaa", sum := "d049d5743529528164479f92f118cde8688fc8c632c09d758514c0be78757ccd", func := "pantler/pantlerlaw17.CoverLess", spec := "coverLess", unfollowed := true, recurses := true, apart := false, narrowed := true }
def CoverLessUptoSaid : Prop := coverLessUptoRow.holds Try.pinned (OpenSpec.upto coverLessSpec)

/-- 'pantlerlaw18.PreferIs', WHERE WHAT IT READS IS OF BULK AT MOST 1048576: true; the input reads as it did. -/
def preferIsUptoRow : OpenClaim := { program := "ytpiinfjcjpdofaa", sum := "d049d5743529528164479f92f118cde8688fc8c632c09d758514c0be78757ccd", func := "pantler/pantlerlaw18.PreferIs", spec := "preferIs", unfollowed := true, recurses := true, apart := false, narrowed := true }
def PreferIsUptoSaid : Prop := preferIsUptoRow.holds Try.pinned (OpenSpec.upto preferIsSpec)

/-- 'pantlerlaw18.PreferPlaces', WHERE WHAT IT READS IS OF BULK AT MOST 1048576: true; the input reads as it did. -/
def preferPlacesUptoRow : OpenClaim := { program := "ytpiinfjcjpdofaa", sum := "d049d5743529528164479f92f118cde8688fc8c632c09d758514c0be78757ccd", func := "pantler/pantlerlaw18.PreferPlaces", spec := "preferPlaces", unfollowed := true, recurses := true, apart := false, narrowed := true }
def PreferPlacesUptoSaid : Prop := preferPlacesUptoRow.holds Try.pinned (OpenSpec.upto preferPlacesSpec)

/-- 'pantlerlaw18.PreferClaims', WHERE WHAT IT READS IS OF BULK AT MOST 1048576: true; the input reads as it did. -/
def preferClaimsUptoRow : OpenClaim := { program := "ytpiinfjcjpdofaa", sum := "d049d5743529528164479f92f118cde8688fc8c632c09d758514c0be78757ccd", func := "pantler/pantlerlaw18.PreferClaims", spec := "preferClaims", unfollowed := true, recurses := true, apart := false, narrowed := true }
def PreferClaimsUptoSaid : Prop := preferClaimsUptoRow.holds Try.pinned (OpenSpec.upto preferClaimsSpec)

end Rows
end Go.Proofs.Ytpiinfjcjpdofaa
