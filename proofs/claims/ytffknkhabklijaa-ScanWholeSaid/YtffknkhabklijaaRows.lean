/-
  No cell of these rows narrows 'for every input' (looked for: loops, veiled, ifaces, maps, wideKeys, modest, calm, conditions, laid).
  DERIVED. THE GIVEN ROWS OF THIS SEAT. 10 by the template 'for every input the law returns true; each argument reads behind the call as it read before'; 0 by the template 'total and deterministic' (their statements: YtffknkhabklijaaTotals.lean).
  GIVEN WITH THE SEED: the statements are not yours to turn. If you find one false, say at which input.
  Laid BY PROGRAM, IN A SANDBOX (cutbox-rows.mjs): the forced cells as the released guide's own fill.sh prints them over the translation e838c65ced2333a0… (all of the seat's roots in one cut). By AI agents, Wed Nov 11 2026. No macro, syntax, notation, axiom, sorry.
-/
import Derived.Test.YtffknkhabklijaaChecked
import GoSem.Claim
import GoSem.ClaimJoined
import GoSem.ClaimMapViews
import Derived.JoinedTies
import Derived.KernelRfl
namespace Go.Proofs.Ytffknkhabklijaa
/- THE CELL 'sum', in the pinned program and in every row, IS THE sha256 OF THE DUMP (.gsa) THAT YtffknkhabklijaaProg.lean LOADS. Nothing in Lean hashes anything: it is a label: what it is worth is what the hold of that sum in a sandbox is worth. -/
noncomputable def Try.pinned : Pinned := { name := "ytffknkhabklijaa", sum := "e838c65ced2333a0d2e3594721878adebb126635fca21d8916c54262d3585733", checked := Try.checked }
namespace Rows
def none {H : Type} : Left H := { results := [], args := [] }

/-- 'cromlechlaw12.ViewPlaces': WHATEVER THE INPUT: true; the input reads as it did. -/
def viewPlacesSpec : ChangeSpec := { name := "viewPlaces", fn := fun _ => fun
  | [d1, d2, d3] => { results := [.lit (.bool true)], args := [d1, d2, d3] }
  | _ => none }
def viewPlacesRow : OpenClaim := { program := "ytffknkhabklijaa", sum := "e838c65ced2333a0d2e3594721878adebb126635fca21d8916c54262d3585733", func := "cromlech/cromlechlaw12.ViewPlaces", spec := "viewPlaces", unfollowed := true, recurses := true, leaving := true, apart := false }
def ViewPlacesSaid : Prop := viewPlacesRow.holds Try.pinned (OpenSpec.ofChange viewPlacesSpec)

/-- ITS FALSE NEIGHBOUR: 'it returns false'. Refute it at one input. -/
def viewPlacesWrong : ChangeSpec := { name := "viewPlaces", fn := fun _ => fun
  | [d1, d2, d3] => { results := [.lit (.bool false)], args := [d1, d2, d3] }
  | _ => none }
def ViewPlacesWrongFalsely : Prop := viewPlacesRow.holds Try.pinned (OpenSpec.ofChange viewPlacesWrong)

/-- 'cromlechlaw12.ViewLive': WHATEVER THE INPUT: true; the input reads as it did. -/
def viewLiveSpec : ChangeSpec := { name := "viewLive", fn := fun _ => fun
  | [d] => { results := [.lit (.bool true)], args := [d] }
  | _ => none }
def viewLiveRow : OpenClaim := { program := "ytffknkhabklijaa", sum := "e838c65ced2333a0d2e3594721878adebb126635fca21d8916c54262d3585733", func := "cromlech/cromlechlaw12.ViewLive", spec := "viewLive", unfollowed := true, recurses := true, leaving := true, apart := false }
def ViewLiveSaid : Prop := viewLiveRow.holds Try.pinned (OpenSpec.ofChange viewLiveSpec)

/-- ITS FALSE NEIGHBOUR: 'it returns false'. Refute it at one input. -/
def viewLiveWrong : ChangeSpec := { name := "viewLive", fn := fun _ => fun
  | [d] => { results := [.lit (.bool false)], args := [d] }
  | _ => none }
def ViewLiveWrongFalsely : Prop := viewLiveRow.holds Try.pinned (OpenSpec.ofChange viewLiveWrong)

/-- 'cromlechlaw12.ViewRest': WHATEVER THE INPUT: true; the input reads as it did. -/
def viewRestSpec : ChangeSpec := { name := "viewRest", fn := fun _ => fun
  | [d1, d2, d3, d4, d5] => { results := [.lit (.bool true)], args := [d1, d2, d3, d4, d5] }
  | _ => none }
def viewRestRow : OpenClaim := { program := "ytffknkhabklijaa", sum := "e838c65ced2333a0d2e3594721878adebb126635fca21d8916c54262d3585733", func := "cromlech/cromlechlaw12.ViewRest", spec := "viewRest", unfollowed := true, recurses := true, leaving := true, apart := false }
def ViewRestSaid : Prop := viewRestRow.holds Try.pinned (OpenSpec.ofChange viewRestSpec)

/-- ITS FALSE NEIGHBOUR: 'it returns false'. Refute it at one input. -/
def viewRestWrong : ChangeSpec := { name := "viewRest", fn := fun _ => fun
  | [d1, d2, d3, d4, d5] => { results := [.lit (.bool false)], args := [d1, d2, d3, d4, d5] }
  | _ => none }
def ViewRestWrongFalsely : Prop := viewRestRow.holds Try.pinned (OpenSpec.ofChange viewRestWrong)

/-- 'cromlechlaw12.ViewScalars': WHATEVER THE INPUT: true; the input reads as it did. -/
def viewScalarsSpec : ChangeSpec := { name := "viewScalars", fn := fun _ => fun
  | [d1, d2, d3, d4] => { results := [.lit (.bool true)], args := [d1, d2, d3, d4] }
  | _ => none }
def viewScalarsRow : OpenClaim := { program := "ytffknkhabklijaa", sum := "e838c65ced2333a0d2e3594721878adebb126635fca21d8916c54262d3585733", func := "cromlech/cromlechlaw12.ViewScalars", spec := "viewScalars", unfollowed := true, recurses := true, leaving := true, apart := false }
def ViewScalarsSaid : Prop := viewScalarsRow.holds Try.pinned (OpenSpec.ofChange viewScalarsSpec)

/-- ITS FALSE NEIGHBOUR: 'it returns false'. Refute it at one input. -/
def viewScalarsWrong : ChangeSpec := { name := "viewScalars", fn := fun _ => fun
  | [d1, d2, d3, d4] => { results := [.lit (.bool false)], args := [d1, d2, d3, d4] }
  | _ => none }
def ViewScalarsWrongFalsely : Prop := viewScalarsRow.holds Try.pinned (OpenSpec.ofChange viewScalarsWrong)

/-- 'cromlechlaw12.ViewAssign': WHATEVER THE INPUT: true; the input reads as it did. -/
def viewAssignSpec : ChangeSpec := { name := "viewAssign", fn := fun _ => fun
  | [d1, d2, d3] => { results := [.lit (.bool true)], args := [d1, d2, d3] }
  | _ => none }
def viewAssignRow : OpenClaim := { program := "ytffknkhabklijaa", sum := "e838c65ced2333a0d2e3594721878adebb126635fca21d8916c54262d3585733", func := "cromlech/cromlechlaw12.ViewAssign", spec := "viewAssign", unfollowed := true, recurses := true, leaving := true, apart := false }
def ViewAssignSaid : Prop := viewAssignRow.holds Try.pinned (OpenSpec.ofChange viewAssignSpec)

/-- ITS FALSE NEIGHBOUR: 'it returns false'. Refute it at one input. -/
def viewAssignWrong : ChangeSpec := { name := "viewAssign", fn := fun _ => fun
  | [d1, d2, d3] => { results := [.lit (.bool false)], args := [d1, d2, d3] }
  | _ => none }
def ViewAssignWrongFalsely : Prop := viewAssignRow.holds Try.pinned (OpenSpec.ofChange viewAssignWrong)

/-- 'cromlechlaw13.ForwardAll': WHATEVER THE INPUT: true; the input reads as it did. -/
def forwardAllSpec : ChangeSpec := { name := "forwardAll", fn := fun _ => fun
  | [d1, d2] => { results := [.lit (.bool true)], args := [d1, d2] }
  | _ => none }
def forwardAllRow : OpenClaim := { program := "ytffknkhabklijaa", sum := "e838c65ced2333a0d2e3594721878adebb126635fca21d8916c54262d3585733", func := "cromlech/cromlechlaw13.ForwardAll", spec := "forwardAll", unfollowed := true, recurses := true, leaving := true, apart := false }
def ForwardAllSaid : Prop := forwardAllRow.holds Try.pinned (OpenSpec.ofChange forwardAllSpec)

/-- ITS FALSE NEIGHBOUR: 'it returns false'. Refute it at one input. -/
def forwardAllWrong : ChangeSpec := { name := "forwardAll", fn := fun _ => fun
  | [d1, d2] => { results := [.lit (.bool false)], args := [d1, d2] }
  | _ => none }
def ForwardAllWrongFalsely : Prop := forwardAllRow.holds Try.pinned (OpenSpec.ofChange forwardAllWrong)

/-- 'cromlechlaw14.FlipKeeps': WHATEVER THE INPUT: true; the input reads as it did. -/
def flipKeepsSpec : ChangeSpec := { name := "flipKeeps", fn := fun _ => fun
  | [d] => { results := [.lit (.bool true)], args := [d] }
  | _ => none }
def flipKeepsRow : OpenClaim := { program := "ytffknkhabklijaa", sum := "e838c65ced2333a0d2e3594721878adebb126635fca21d8916c54262d3585733", func := "cromlech/cromlechlaw14.FlipKeeps", spec := "flipKeeps", unfollowed := true, recurses := true, leaving := true, apart := false }
def FlipKeepsSaid : Prop := flipKeepsRow.holds Try.pinned (OpenSpec.ofChange flipKeepsSpec)

/-- ITS FALSE NEIGHBOUR: 'it returns false'. Refute it at one input. -/
def flipKeepsWrong : ChangeSpec := { name := "flipKeeps", fn := fun _ => fun
  | [d] => { results := [.lit (.bool false)], args := [d] }
  | _ => none }
def FlipKeepsWrongFalsely : Prop := flipKeepsRow.holds Try.pinned (OpenSpec.ofChange flipKeepsWrong)

/-- 'cromlechlaw15.ScanKeeps': WHATEVER THE INPUT: true; the input reads as it did. -/
def scanKeepsSpec : ChangeSpec := { name := "scanKeeps", fn := fun _ => fun
  | [d1, d2] => { results := [.lit (.bool true)], args := [d1, d2] }
  | _ => none }
def scanKeepsRow : OpenClaim := { program := "ytffknkhabklijaa", sum := "e838c65ced2333a0d2e3594721878adebb126635fca21d8916c54262d3585733", func := "cromlech/cromlechlaw15.ScanKeeps", spec := "scanKeeps", unfollowed := true, recurses := true, leaving := true, apart := false }
def ScanKeepsSaid : Prop := scanKeepsRow.holds Try.pinned (OpenSpec.ofChange scanKeepsSpec)

/-- ITS FALSE NEIGHBOUR: 'it returns false'. Refute it at one input. -/
def scanKeepsWrong : ChangeSpec := { name := "scanKeeps", fn := fun _ => fun
  | [d1, d2] => { results := [.lit (.bool false)], args := [d1, d2] }
  | _ => none }
def ScanKeepsWrongFalsely : Prop := scanKeepsRow.holds Try.pinned (OpenSpec.ofChange scanKeepsWrong)

/-- 'cromlechlaw15.ScanEnds': WHATEVER THE INPUT: true; the input reads as it did. -/
def scanEndsSpec : ChangeSpec := { name := "scanEnds", fn := fun _ => fun
  | [d1, d2] => { results := [.lit (.bool true)], args := [d1, d2] }
  | _ => none }
def scanEndsRow : OpenClaim := { program := "ytffknkhabklijaa", sum := "e838c65ced2333a0d2e3594721878adebb126635fca21d8916c54262d3585733", func := "cromlech/cromlechlaw15.ScanEnds", spec := "scanEnds", unfollowed := true, recurses := true, leaving := true, apart := false }
def ScanEndsSaid : Prop := scanEndsRow.holds Try.pinned (OpenSpec.ofChange scanEndsSpec)

/-- ITS FALSE NEIGHBOUR: 'it returns false'. Refute it at one input. -/
def scanEndsWrong : ChangeSpec := { name := "scanEnds", fn := fun _ => fun
  | [d1, d2] => { results := [.lit (.bool false)], args := [d1, d2] }
  | _ => none }
def ScanEndsWrongFalsely : Prop := scanEndsRow.holds Try.pinned (OpenSpec.ofChange scanEndsWrong)

/-- 'cromlechlaw15.ScanWhole': WHATEVER THE INPUT: true; the input reads as it did. -/
def scanWholeSpec : ChangeSpec := { name := "scanWhole", fn := fun _ => fun
  | [d] => { results := [.lit (.bool true)], args := [d] }
  | _ => none }
def scanWholeRow : OpenClaim := { program := "ytffknkhabklijaa", sum := "e838c65ced2333a0d2e3594721878adebb126635fca21d8916c54262d3585733", func := "cromlech/cromlechlaw15.ScanWhole", spec := "scanWhole", unfollowed := true, recurses := true, leaving := true, apart := false }
def ScanWholeSaid : Prop := scanWholeRow.holds Try.pinned (OpenSpec.ofChange scanWholeSpec)

/-- ITS FALSE NEIGHBOUR: 'it returns false'. Refute it at one input. -/
def scanWholeWrong : ChangeSpec := { name := "scanWhole", fn := fun _ => fun
  | [d] => { results := [.lit (.bool false)], args := [d] }
  | _ => none }
def ScanWholeWrongFalsely : Prop := scanWholeRow.holds Try.pinned (OpenSpec.ofChange scanWholeWrong)

/- THE SECOND FORM. 'bulk': how many values and letters a reading holds, each counted each time it is reached (what is shared counts as often as it is met; a slice's spare places count too). A statement '..UptoSaid' is the law's where the arguments, and the package variables that the reading takes, are together of bulk at most 1048576: NARROWER than '..Said'. Prove '..Said' where nothing that the law and all that it calls make is longer than what came in: it says more and counts as full. Else prove '..UptoSaid'. A law counts once. -/
mutual
def uptoBulk {H : Type} : DataW H → Nat
  | .lit (.string bytes) => bytes.length + 1
  | .lit _ => 1
  | .nil => 1
  | .ptr d => uptoBulk d + 1
  | .slice elems spare => uptoBulkAll elems + uptoBulkAll spare + 1
  | .agg parts => uptoBulkAll parts + 1
  | .iface _ d => uptoBulk d + 1
  | .map entries => uptoBulkEntries entries + 1
  | .held _ => 1
def uptoBulkAll {H : Type} : List (DataW H) → Nat
  | [] => 0
  | d :: r => uptoBulk d + uptoBulkAll r
def uptoBulkEntries {H : Type} : List (Lit × DataW H) → Nat
  | [] => 0
  | x :: r => uptoBulkEntry x + uptoBulkEntries r
def uptoBulkEntry {H : Type} : Lit × DataW H → Nat
  | (.string bytes, d) => bytes.length + uptoBulk d + 1
  | (_, d) => uptoBulk d + 1
 end
def uptoSmall : (H : Type) → List (DataW H) → Bool := fun _ ds => decide (uptoBulkAll ds ≤ 1048576)
def OpenSpec.upto (s : _root_.Go.ChangeSpec) : _root_.Go.OpenSpec := { _root_.Go.OpenSpec.ofChange s with cond := some uptoSmall }

/-- 'cromlechlaw12.ViewPlaces', WHERE WHAT IT READS IS OF BULK AT MOST 1048576: true; the input reads as it did. -/
def viewPlacesUptoRow : OpenClaim := { program := "ytffknkhabklijaa", sum := "e838c65ced2333a0d2e3594721878adebb126635fca21d8916c54262d3585733", func := "cromlech/cromlechlaw12.ViewPlaces", spec := "viewPlaces", unfollowed := true, recurses := true, leaving := true, apart := false, narrowed := true }
def ViewPlacesUptoSaid : Prop := viewPlacesUptoRow.holds Try.pinned (OpenSpec.upto viewPlacesSpec)

/-- 'cromlechlaw12.ViewLive', WHERE WHAT IT READS IS OF BULK AT MOST 1048576: true; the input reads as it did. -/
def viewLiveUptoRow : OpenClaim := { program := "ytffknkhabklijaa", sum := "e838c65ced2333a0d2e3594721878adebb126635fca21d8916c54262d3585733", func := "cromlech/cromlechlaw12.ViewLive", spec := "viewLive", unfollowed := true, recurses := true, leaving := true, apart := false, narrowed := true }
def ViewLiveUptoSaid : Prop := viewLiveUptoRow.holds Try.pinned (OpenSpec.upto viewLiveSpec)

/-- 'cromlechlaw12.ViewRest', WHERE WHAT IT READS IS OF BULK AT MOST 1048576: true; the input reads as it did. -/
def viewRestUptoRow : OpenClaim := { program := "ytffknkhabklijaa", sum := "e838c65ced2333a0d2e3594721878adebb126635fca21d8916c54262d3585733", func := "cromlech/cromlechlaw12.ViewRest", spec := "viewRest", unfollowed := true, recurses := true, leaving := true, apart := false, narrowed := true }
def ViewRestUptoSaid : Prop := viewRestUptoRow.holds Try.pinned (OpenSpec.upto viewRestSpec)

/-- 'cromlechlaw12.ViewScalars', WHERE WHAT IT READS IS OF BULK AT MOST 1048576: true; the input reads as it did. -/
def viewScalarsUptoRow : OpenClaim := { program := "ytffknkhabklijaa", sum := "e838c65ced2333a0d2e3594721878adebb126635fca21d8916c54262d3585733", func := "cromlech/cromlechlaw12.ViewScalars", spec := "viewScalars", unfollowed := true, recurses := true, leaving := true, apart := false, narrowed := true }
def ViewScalarsUptoSaid : Prop := viewScalarsUptoRow.holds Try.pinned (OpenSpec.upto viewScalarsSpec)

/-- 'cromlechlaw12.ViewAssign', WHERE WHAT IT READS IS OF BULK AT MOST 1048576: true; the input reads as it did. -/
def viewAssignUptoRow : OpenClaim := { program := "ytffknkhabklijaa", sum := "e838c65ced2333a0d2e3594721878adebb126635fca21d8916c54262d3585733", func := "cromlech/cromlechlaw12.ViewAssign", spec := "viewAssign", unfollowed := true, recurses := true, leaving := true, apart := false, narrowed := true }
def ViewAssignUptoSaid : Prop := viewAssignUptoRow.holds Try.pinned (OpenSpec.upto viewAssignSpec)

/-- 'cromlechlaw13.ForwardAll', WHERE WHAT IT READS IS OF BULK AT MOST 1048576: true; the input reads as it did. -/
def forwardAllUptoRow : OpenClaim := { program := "ytffknkhabklijaa", sum := "e838c65ced2333a0d2e3594721878adebb126635fca21d8916c54262d3585733", func := "cromlech/cromlechlaw13.ForwardAll", spec := "forwardAll", unfollowed := true, recurses := true, leaving := true, apart := false, narrowed := true }
def ForwardAllUptoSaid : Prop := forwardAllUptoRow.holds Try.pinned (OpenSpec.upto forwardAllSpec)

/-- 'cromlechlaw14.FlipKeeps', WHERE WHAT IT READS IS OF BULK AT MOST 1048576: true; the input reads as it did. -/
def flipKeepsUptoRow : OpenClaim := { program := "ytffknkhabklijaa", sum := "e838c65ced2333a0d2e3594721878adebb126635fca21d8916c54262d3585733", func := "cromlech/cromlechlaw14.FlipKeeps", spec := "flipKeeps", unfollowed := true, recurses := true, leaving := true, apart := false, narrowed := true }
def FlipKeepsUptoSaid : Prop := flipKeepsUptoRow.holds Try.pinned (OpenSpec.upto flipKeepsSpec)

/-- 'cromlechlaw15.ScanKeeps', WHERE WHAT IT READS IS OF BULK AT MOST 1048576: true; the input reads as it did. -/
def scanKeepsUptoRow : OpenClaim := { program := "ytffknkhabklijaa", sum := "e838c65ced2333a0d2e3594721878adebb126635fca21d8916c54262d3585733", func := "cromlech/cromlechlaw15.ScanKeeps", spec := "scanKeeps", unfollowed := true, recurses := true, leaving := true, apart := false, narrowed := true }
def ScanKeepsUptoSaid : Prop := scanKeepsUptoRow.holds Try.pinned (OpenSpec.upto scanKeepsSpec)

/-- 'cromlechlaw15.ScanEnds', WHERE WHAT IT READS IS OF BULK AT MOST 1048576: true; the input reads as it did. -/
def scanEndsUptoRow : OpenClaim := { program := "ytffknkhabklijaa", sum := "e838c65ced2333a0d2e3594721878adebb126635fca21d8916c54262d3585733", func := "cromlech/cromlechlaw15.ScanEnds", spec := "scanEnds", unfollowed := true, recurses := true, leaving := true, apart := false, narrowed := true }
def ScanEndsUptoSaid : Prop := scanEndsUptoRow.holds Try.pinned (OpenSpec.upto scanEndsSpec)

/-- 'cromlechlaw15.ScanWhole', WHERE WHAT IT READS IS OF BULK AT MOST 1048576: true; the input reads as it did. -/
def scanWholeUptoRow : OpenClaim := { program := "ytffknkhabklijaa", sum := "e838c65ced2333a0d2e3594721878adebb126635fca21d8916c54262d3585733", func := "cromlech/cromlechlaw15.ScanWhole", spec := "scanWhole", unfollowed := true, recurses := true, leaving := true, apart := false, narrowed := true }
def ScanWholeUptoSaid : Prop := scanWholeUptoRow.holds Try.pinned (OpenSpec.upto scanWholeSpec)

end Rows
end Go.Proofs.Ytffknkhabklijaa
