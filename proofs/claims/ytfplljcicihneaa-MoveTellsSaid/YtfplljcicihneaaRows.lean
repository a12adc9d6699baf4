/-
  No cell of these rows narrows 'for every input' (looked for: loops, veiled, ifaces, maps, wideKeys, modest, calm, conditions, laid).
  DERIVED. THE GIVEN ROWS OF THIS SEAT. 12 by the template 'for every input the law returns true; each argument reads behind the call as it read before'; 0 by the template 'total and deterministic' (their statements: YtfplljcicihneaaTotals.lean).
  GIVEN WITH THE SEED: the statements are not yours to turn. If you find one false, say at which input.
  Laid BY PROGRAM, IN A SANDBOX (cutbox-rows.mjs): the forced cells as the released guide's own fill.sh prints them over the translation 397e8d4fbec48a47… (all of the seat's roots in one cut). By AI agents, Wed Nov 11 2026. No macro, syntax, notation, axiom, sorry.
-/
import Derived.Test.YtfplljcicihneaaChecked
import GoSem.Claim
import GoSem.ClaimJoined
import GoSem.ClaimMapViews
import Derived.JoinedTies
import Derived.KernelRfl
namespace Go.Proofs.Ytfplljcicihneaa
/- THE CELL 'sum', in the pinned program and in every row, IS THE sha256 OF THE DUMP (.gsa) THAT YtfplljcicihneaaProg.lean LOADS. Nothing in Lean hashes anything: it is a label: what it is worth is what the hold of that sum in a sandbox is worth. -/
noncomputable def Try.pinned : Pinned := { name := "ytfplljcicihneaa", sum := "397e8d4fbec48a473a6aa3a8d9e69b0abf67575b0f449585a4d847d760834dcd", checked := Try.checked }
namespace Rows
def none {H : Type} : Left H := { results := [], args := [] }

/-- 'cromlechlaw13.ForwardTells': WHATEVER THE INPUT: true; the input reads as it did. -/
def forwardTellsSpec : ChangeSpec := { name := "forwardTells", fn := fun _ => fun
  | [d1, d2, d3, d4, d5, d6, d7, d8] => { results := [.lit (.bool true)], args := [d1, d2, d3, d4, d5, d6, d7, d8] }
  | _ => none }
def forwardTellsRow : OpenClaim := { program := "ytfplljcicihneaa", sum := "397e8d4fbec48a473a6aa3a8d9e69b0abf67575b0f449585a4d847d760834dcd", func := "cromlech/cromlechlaw13.ForwardTells", spec := "forwardTells", apart := false }
def ForwardTellsSaid : Prop := forwardTellsRow.holds Try.pinned (OpenSpec.ofChange forwardTellsSpec)

/-- ITS FALSE NEIGHBOUR: 'it returns false'. Refute it at one input. -/
def forwardTellsWrong : ChangeSpec := { name := "forwardTells", fn := fun _ => fun
  | [d1, d2, d3, d4, d5, d6, d7, d8] => { results := [.lit (.bool false)], args := [d1, d2, d3, d4, d5, d6, d7, d8] }
  | _ => none }
def ForwardTellsWrongFalsely : Prop := forwardTellsRow.holds Try.pinned (OpenSpec.ofChange forwardTellsWrong)

/-- 'cromlechlaw13.ForwardAgain': WHATEVER THE INPUT: true; the input reads as it did. -/
def forwardAgainSpec : ChangeSpec := { name := "forwardAgain", fn := fun _ => fun
  | [d1, d2, d3, d4] => { results := [.lit (.bool true)], args := [d1, d2, d3, d4] }
  | _ => none }
def forwardAgainRow : OpenClaim := { program := "ytfplljcicihneaa", sum := "397e8d4fbec48a473a6aa3a8d9e69b0abf67575b0f449585a4d847d760834dcd", func := "cromlech/cromlechlaw13.ForwardAgain", spec := "forwardAgain", apart := false }
def ForwardAgainSaid : Prop := forwardAgainRow.holds Try.pinned (OpenSpec.ofChange forwardAgainSpec)

/-- ITS FALSE NEIGHBOUR: 'it returns false'. Refute it at one input. -/
def forwardAgainWrong : ChangeSpec := { name := "forwardAgain", fn := fun _ => fun
  | [d1, d2, d3, d4] => { results := [.lit (.bool false)], args := [d1, d2, d3, d4] }
  | _ => none }
def ForwardAgainWrongFalsely : Prop := forwardAgainRow.holds Try.pinned (OpenSpec.ofChange forwardAgainWrong)

/-- 'cromlechlaw11.CheckTells': WHATEVER THE INPUT: true; the input reads as it did. -/
def checkTellsSpec : ChangeSpec := { name := "checkTells", fn := fun _ => fun
  | [d1, d2, d3, d4, d5, d6, d7] => { results := [.lit (.bool true)], args := [d1, d2, d3, d4, d5, d6, d7] }
  | _ => none }
def checkTellsRow : OpenClaim := { program := "ytfplljcicihneaa", sum := "397e8d4fbec48a473a6aa3a8d9e69b0abf67575b0f449585a4d847d760834dcd", func := "cromlech/cromlechlaw11.CheckTells", spec := "checkTells", unfollowed := true, recurses := true, apart := false }
def CheckTellsSaid : Prop := checkTellsRow.holds Try.pinned (OpenSpec.ofChange checkTellsSpec)

/-- ITS FALSE NEIGHBOUR: 'it returns false'. Refute it at one input. -/
def checkTellsWrong : ChangeSpec := { name := "checkTells", fn := fun _ => fun
  | [d1, d2, d3, d4, d5, d6, d7] => { results := [.lit (.bool false)], args := [d1, d2, d3, d4, d5, d6, d7] }
  | _ => none }
def CheckTellsWrongFalsely : Prop := checkTellsRow.holds Try.pinned (OpenSpec.ofChange checkTellsWrong)

/-- 'cromlechlaw11.CheckScalars': WHATEVER THE INPUT: true; the input reads as it did. -/
def checkScalarsSpec : ChangeSpec := { name := "checkScalars", fn := fun _ => fun
  | [d1, d2, d3, d4] => { results := [.lit (.bool true)], args := [d1, d2, d3, d4] }
  | _ => none }
def checkScalarsRow : OpenClaim := { program := "ytfplljcicihneaa", sum := "397e8d4fbec48a473a6aa3a8d9e69b0abf67575b0f449585a4d847d760834dcd", func := "cromlech/cromlechlaw11.CheckScalars", spec := "checkScalars", unfollowed := true, recurses := true, apart := false }
def CheckScalarsSaid : Prop := checkScalarsRow.holds Try.pinned (OpenSpec.ofChange checkScalarsSpec)

/-- ITS FALSE NEIGHBOUR: 'it returns false'. Refute it at one input. -/
def checkScalarsWrong : ChangeSpec := { name := "checkScalars", fn := fun _ => fun
  | [d1, d2, d3, d4] => { results := [.lit (.bool false)], args := [d1, d2, d3, d4] }
  | _ => none }
def CheckScalarsWrongFalsely : Prop := checkScalarsRow.holds Try.pinned (OpenSpec.ofChange checkScalarsWrong)

/-- 'cromlechlaw11.CheckNot': WHATEVER THE INPUT: true; the input reads as it did. -/
def checkNotSpec : ChangeSpec := { name := "checkNot", fn := fun _ => fun
  | [d1, d2] => { results := [.lit (.bool true)], args := [d1, d2] }
  | _ => none }
def checkNotRow : OpenClaim := { program := "ytfplljcicihneaa", sum := "397e8d4fbec48a473a6aa3a8d9e69b0abf67575b0f449585a4d847d760834dcd", func := "cromlech/cromlechlaw11.CheckNot", spec := "checkNot", unfollowed := true, recurses := true, apart := false }
def CheckNotSaid : Prop := checkNotRow.holds Try.pinned (OpenSpec.ofChange checkNotSpec)

/-- ITS FALSE NEIGHBOUR: 'it returns false'. Refute it at one input. -/
def checkNotWrong : ChangeSpec := { name := "checkNot", fn := fun _ => fun
  | [d1, d2] => { results := [.lit (.bool false)], args := [d1, d2] }
  | _ => none }
def CheckNotWrongFalsely : Prop := checkNotRow.holds Try.pinned (OpenSpec.ofChange checkNotWrong)

/-- 'cromlechlaw11.CheckParts': WHATEVER THE INPUT: true; the input reads as it did. -/
def checkPartsSpec : ChangeSpec := { name := "checkParts", fn := fun _ => fun
  | [d] => { results := [.lit (.bool true)], args := [d] }
  | _ => none }
def checkPartsRow : OpenClaim := { program := "ytfplljcicihneaa", sum := "397e8d4fbec48a473a6aa3a8d9e69b0abf67575b0f449585a4d847d760834dcd", func := "cromlech/cromlechlaw11.CheckParts", spec := "checkParts", unfollowed := true, recurses := true, apart := false }
def CheckPartsSaid : Prop := checkPartsRow.holds Try.pinned (OpenSpec.ofChange checkPartsSpec)

/-- ITS FALSE NEIGHBOUR: 'it returns false'. Refute it at one input. -/
def checkPartsWrong : ChangeSpec := { name := "checkParts", fn := fun _ => fun
  | [d] => { results := [.lit (.bool false)], args := [d] }
  | _ => none }
def CheckPartsWrongFalsely : Prop := checkPartsRow.holds Try.pinned (OpenSpec.ofChange checkPartsWrong)

/-- 'cromlechlaw11.CheckRoots': WHATEVER THE INPUT: true; the input reads as it did. -/
def checkRootsSpec : ChangeSpec := { name := "checkRoots", fn := fun _ => fun
  | [d1, d2, d3] => { results := [.lit (.bool true)], args := [d1, d2, d3] }
  | _ => none }
def checkRootsRow : OpenClaim := { program := "ytfplljcicihneaa", sum := "397e8d4fbec48a473a6aa3a8d9e69b0abf67575b0f449585a4d847d760834dcd", func := "cromlech/cromlechlaw11.CheckRoots", spec := "checkRoots", unfollowed := true, recurses := true, apart := false }
def CheckRootsSaid : Prop := checkRootsRow.holds Try.pinned (OpenSpec.ofChange checkRootsSpec)

/-- ITS FALSE NEIGHBOUR: 'it returns false'. Refute it at one input. -/
def checkRootsWrong : ChangeSpec := { name := "checkRoots", fn := fun _ => fun
  | [d1, d2, d3] => { results := [.lit (.bool false)], args := [d1, d2, d3] }
  | _ => none }
def CheckRootsWrongFalsely : Prop := checkRootsRow.holds Try.pinned (OpenSpec.ofChange checkRootsWrong)

/-- 'cromlechlaw11.CheckMade': WHATEVER THE INPUT: true; the input reads as it did. -/
def checkMadeSpec : ChangeSpec := { name := "checkMade", fn := fun _ => fun
  | [d1, d2, d3, d4] => { results := [.lit (.bool true)], args := [d1, d2, d3, d4] }
  | _ => none }
def checkMadeRow : OpenClaim := { program := "ytfplljcicihneaa", sum := "397e8d4fbec48a473a6aa3a8d9e69b0abf67575b0f449585a4d847d760834dcd", func := "cromlech/cromlechlaw11.CheckMade", spec := "checkMade", unfollowed := true, recurses := true, apart := false }
def CheckMadeSaid : Prop := checkMadeRow.holds Try.pinned (OpenSpec.ofChange checkMadeSpec)

/-- ITS FALSE NEIGHBOUR: 'it returns false'. Refute it at one input. -/
def checkMadeWrong : ChangeSpec := { name := "checkMade", fn := fun _ => fun
  | [d1, d2, d3, d4] => { results := [.lit (.bool false)], args := [d1, d2, d3, d4] }
  | _ => none }
def CheckMadeWrongFalsely : Prop := checkMadeRow.holds Try.pinned (OpenSpec.ofChange checkMadeWrong)

/-- 'cromlechlaw13.ForwardCopies': WHATEVER THE INPUT: true; the input reads as it did. -/
def forwardCopiesSpec : ChangeSpec := { name := "forwardCopies", fn := fun _ => fun
  | [d1, d2, d3] => { results := [.lit (.bool true)], args := [d1, d2, d3] }
  | _ => none }
def forwardCopiesRow : OpenClaim := { program := "ytfplljcicihneaa", sum := "397e8d4fbec48a473a6aa3a8d9e69b0abf67575b0f449585a4d847d760834dcd", func := "cromlech/cromlechlaw13.ForwardCopies", spec := "forwardCopies", unfollowed := true, recurses := true, apart := false }
def ForwardCopiesSaid : Prop := forwardCopiesRow.holds Try.pinned (OpenSpec.ofChange forwardCopiesSpec)

/-- ITS FALSE NEIGHBOUR: 'it returns false'. Refute it at one input. -/
def forwardCopiesWrong : ChangeSpec := { name := "forwardCopies", fn := fun _ => fun
  | [d1, d2, d3] => { results := [.lit (.bool false)], args := [d1, d2, d3] }
  | _ => none }
def ForwardCopiesWrongFalsely : Prop := forwardCopiesRow.holds Try.pinned (OpenSpec.ofChange forwardCopiesWrong)

/-- 'cromlechlaw20.MoveTells': WHATEVER THE INPUT: true; the input reads as it did. -/
def moveTellsSpec : ChangeSpec := { name := "moveTells", fn := fun _ => fun
  | [d1, d2, d3, d4, d5, d6, d7, d8, d9] => { results := [.lit (.bool true)], args := [d1, d2, d3, d4, d5, d6, d7, d8, d9] }
  | _ => none }
def moveTellsRow : OpenClaim := { program := "ytfplljcicihneaa", sum := "397e8d4fbec48a473a6aa3a8d9e69b0abf67575b0f449585a4d847d760834dcd", func := "cromlech/cromlechlaw20.MoveTells", spec := "moveTells", unfollowed := true, recurses := true, apart := false }
def MoveTellsSaid : Prop := moveTellsRow.holds Try.pinned (OpenSpec.ofChange moveTellsSpec)

/-- ITS FALSE NEIGHBOUR: 'it returns false'. Refute it at one input. -/
def moveTellsWrong : ChangeSpec := { name := "moveTells", fn := fun _ => fun
  | [d1, d2, d3, d4, d5, d6, d7, d8, d9] => { results := [.lit (.bool false)], args := [d1, d2, d3, d4, d5, d6, d7, d8, d9] }
  | _ => none }
def MoveTellsWrongFalsely : Prop := moveTellsRow.holds Try.pinned (OpenSpec.ofChange moveTellsWrong)

/-- 'cromlechlaw20.MoveBack': WHATEVER THE INPUT: true; the input reads as it did. -/
def moveBackSpec : ChangeSpec := { name := "moveBack", fn := fun _ => fun
  | [d1, d2, d3, d4, d5] => { results := [.lit (.bool true)], args := [d1, d2, d3, d4, d5] }
  | _ => none }
def moveBackRow : OpenClaim := { program := "ytfplljcicihneaa", sum := "397e8d4fbec48a473a6aa3a8d9e69b0abf67575b0f449585a4d847d760834dcd", func := "cromlech/cromlechlaw20.MoveBack", spec := "moveBack", unfollowed := true, recurses := true, apart := false }
def MoveBackSaid : Prop := moveBackRow.holds Try.pinned (OpenSpec.ofChange moveBackSpec)

/-- ITS FALSE NEIGHBOUR: 'it returns false'. Refute it at one input. -/
def moveBackWrong : ChangeSpec := { name := "moveBack", fn := fun _ => fun
  | [d1, d2, d3, d4, d5] => { results := [.lit (.bool false)], args := [d1, d2, d3, d4, d5] }
  | _ => none }
def MoveBackWrongFalsely : Prop := moveBackRow.holds Try.pinned (OpenSpec.ofChange moveBackWrong)

/-- 'cromlechlaw20.MoveWords': WHATEVER THE INPUT: true; the input reads as it did. -/
def moveWordsSpec : ChangeSpec := { name := "moveWords", fn := fun _ => fun
  | [d1, d2, d3] => { results := [.lit (.bool true)], args := [d1, d2, d3] }
  | _ => none }
def moveWordsRow : OpenClaim := { program := "ytfplljcicihneaa", sum := "397e8d4fbec48a473a6aa3a8d9e69b0abf67575b0f449585a4d847d760834dcd", func := "cromlech/cromlechlaw20.MoveWords", spec := "moveWords", unfollowed := true, recurses := true, apart := false }
def MoveWordsSaid : Prop := moveWordsRow.holds Try.pinned (OpenSpec.ofChange moveWordsSpec)

/-- ITS FALSE NEIGHBOUR: 'it returns false'. Refute it at one input. -/
def moveWordsWrong : ChangeSpec := { name := "moveWords", fn := fun _ => fun
  | [d1, d2, d3] => { results := [.lit (.bool false)], args := [d1, d2, d3] }
  | _ => none }
def MoveWordsWrongFalsely : Prop := moveWordsRow.holds Try.pinned (OpenSpec.ofChange moveWordsWrong)

/- THE SECOND FORM. 'bulk': how many values and letters a reading holds, each counted each time it is reached (what is shared counts as often as it is met; a slice's spare places count too). A statement '..UptoSaid' is the law's where the arguments, and the package variables that the reading takes, are together of bulk at most 1048576: NARROWER than '..Said'. Prove '..Said' where nothing that the law and all that it calls make is longer than what came in: it says more and counts as full. Else prove '..UptoSaid'. A law counts once. -/
mutual
def uptoBulk {H : Type} : DataW H → Nat
  | .lit (.string bytes) => bytes.length + 1
  | .lit _ => 1
  | .nil => 1
  | .ptr d => uptoBulk d + 1
  | .slice elems spare => uptoBulkAll elems + uptoBulkAll spare + 1
  | .agg parts => uptoBulkAll parts + 1
  | .iface _ d => uptoBulk d + 1
  | .map entries => uptoBulkEntries entries + 1
  | .held _ => 1
def uptoBulkAll {H : Type} : List (DataW H) → Nat
  | [] => 0
  | d :: r => uptoBulk d + uptoBulkAll r
def uptoBulkEntries {H : Type} : List (Lit × DataW H) → Nat
  | [] => 0
  | x :: r => uptoBulkEntry x + uptoBulkEntries r
def uptoBulkEntry {H : Type} : Lit × DataW H → Nat
  | (.string bytes, d) => bytes.length + uptoBulk d + 1
  | (_, d) => uptoBulk d + 1
 end
def uptoSmall : (H : Type) → List (DataW H) → Bool := fun _ ds => decide (uptoBulkAll ds ≤ 1048576)
def OpenSpec.upto (s : _root_.Go.ChangeSpec) : _root_.Go.OpenSpec := { _root_.Go.OpenSpec.ofChange s with cond := some uptoSmall }

/-- 'cromlechlaw13.ForwardTells', WHERE WHAT IT READS IS OF BULK AT MOST 1048576: true; the input reads as it did. -/
def forwardTellsUptoRow : OpenClaim := { program := "ytfplljcicihneaa", sum := "397e8d4fbec48a473a6aa3a8d9e69b0abf67575b0f449585a4d847d760834dcd", func := "cromlech/cromlechlaw13.ForwardTells", spec := "forwardTells", apart := false, narrowed := true }
def ForwardTellsUptoSaid : Prop := forwardTellsUptoRow.holds Try.pinned (OpenSpec.upto forwardTellsSpec)

/-- 'cromlechlaw13.ForwardAgain', WHERE WHAT IT READS IS OF BULK AT MOST 1048576: true; the input reads as it did. -/
def forwardAgainUptoRow : OpenClaim := { program := "ytfplljcicihneaa", sum := "397e8d4fbec48a473a6aa3a8d9e69b0abf67575b0f449585a4d847d760834dcd", func := "cromlech/cromlechlaw13.ForwardAgain", spec := "forwardAgain", apart := false, narrowed := true }
def ForwardAgainUptoSaid : Prop := forwardAgainUptoRow.holds Try.pinned (OpenSpec.upto forwardAgainSpec)

/-- 'cromlechlaw11.CheckTells', WHERE WHAT IT READS IS OF BULK AT MOST 1048576: true; the input reads as it did. -/
def checkTellsUptoRow : OpenClaim := { program := "ytfplljcicihneaa", sum := "397e8d4fbec48a473a6aa3a8d9e69b0abf67575b0f449585a4d847d760834dcd", func := "cromlech/cromlechlaw11.CheckTells", spec := "checkTells", unfollowed := true, recurses := true, apart := false, narrowed := true }
def CheckTellsUptoSaid : Prop := checkTellsUptoRow.holds Try.pinned (OpenSpec.upto checkTellsSpec)

/-- 'cromlechlaw11.CheckScalars', WHERE WHAT IT READS IS OF BULK AT MOST 1048576: true; the input reads as it did. -/
def checkScalarsUptoRow : OpenClaim := { program := "ytfplljcicihneaa", sum := "397e8d4fbec48a473a6aa3a8d9e69b0abf67575b0f449585a4d847d760834dcd", func := "cromlech/cromlechlaw11.CheckScalars", spec := "checkScalars", unfollowed := true, recurses := true, apart := false, narrowed := true }
def CheckScalarsUptoSaid : Prop := checkScalarsUptoRow.holds Try.pinned (OpenSpec.upto checkScalarsSpec)

/-- 'cromlechlaw11.CheckNot', WHERE WHAT IT READS IS OF BULK AT MOST 1048576: true; the input reads as it did. -/
def checkNotUptoRow : OpenClaim := { program := "ytfplljcicihneaa", sum := "397e8d4fbec48a473a6aa3a8d9e69b0abf67575b0f449585a4d847d760834dcd", func := "cromlech/cromlechlaw11.CheckNot", spec := "checkNot", unfollowed := true, recurses := true, apart := false, narrowed := true }
def CheckNotUptoSaid : Prop := checkNotUptoRow.holds Try.pinned (OpenSpec.upto checkNotSpec)

/-- 'cromlechlaw11.CheckParts', WHERE WHAT IT READS IS OF BULK AT MOST 1048576: true; the input reads as it did. -/
def checkPartsUptoRow : OpenClaim := { program := "ytfplljcicihneaa", sum := "397e8d4fbec48a473a6aa3a8d9e69b0abf67575b0f449585a4d847d760834dcd", func := "cromlech/cromlechlaw11.CheckParts", spec := "checkParts", unfollowed := true, recurses := true, apart := false, narrowed := true }
def CheckPartsUptoSaid : Prop := checkPartsUptoRow.holds Try.pinned (OpenSpec.upto checkPartsSpec)

/-- 'cromlechlaw11.CheckRoots', WHERE WHAT IT READS IS OF BULK AT MOST 1048576: true; the input reads as it did. -/
def checkRootsUptoRow : OpenClaim := { program := "ytfplljcicihneaa", sum := "397e8d4fbec48a473a6aa3a8d9e69b0abf67575b0f449585a4d847d760834dcd", func := "cromlech/cromlechlaw11.CheckRoots", spec := "checkRoots", unfollowed := true, recurses := true, apart := false, narrowed := true }
def CheckRootsUptoSaid : Prop := checkRootsUptoRow.holds Try.pinned (OpenSpec.upto checkRootsSpec)

/-- 'cromlechlaw11.CheckMade', WHERE WHAT IT READS IS OF BULK AT MOST 1048576: true; the input reads as it did. -/
def checkMadeUptoRow : OpenClaim := { program := "ytfplljcicihneaa", sum := "397e8d4fbec48a473a6aa3a8d9e69b0abf67575b0f449585a4d847d760834dcd", func := "cromlech/cromlechlaw11.CheckMade", spec := "checkMade", unfollowed := true, recurses := true, apart := false, narrowed := true }
def CheckMadeUptoSaid : Prop := checkMadeUptoRow.holds Try.pinned (OpenSpec.upto checkMadeSpec)

/-- 'cromlechlaw13.ForwardCopies', WHERE WHAT IT READS IS OF BULK AT MOST 1048576: true; the input reads as it did. -/
def forwardCopiesUptoRow : OpenClaim := { program := "ytfplljcicihneaa", sum := "397e8d4fbec48a473a6aa3a8d9e69b0abf67575b0f449585a4d847d760834dcd", func := "cromlech/cromlechlaw13.ForwardCopies", spec := "forwardCopies", unfollowed := true, recurses := true, apart := false, narrowed := true }
def ForwardCopiesUptoSaid : Prop := forwardCopiesUptoRow.holds Try.pinned (OpenSpec.upto forwardCopiesSpec)

/-- 'cromlechlaw20.MoveTells', WHERE WHAT IT READS IS OF BULK AT MOST 1048576: true; the input reads as it did. -/
def moveTellsUptoRow : OpenClaim := { program := "ytfplljcicihneaa", sum := "397e8d4fbec48a473a6aa3a8d9e69b0abf67575b0f449585a4d847d760834dcd", func := "cromlech/cromlechlaw20.MoveTells", spec := "moveTells", unfollowed := true, recurses := true, apart := false, narrowed := true }
def MoveTellsUptoSaid : Prop := moveTellsUptoRow.holds Try.pinned (OpenSpec.upto moveTellsSpec)

/-- 'cromlechlaw20.MoveBack', WHERE WHAT IT READS IS OF BULK AT MOST 1048576: true; the input reads as it did. -/
def moveBackUptoRow : OpenClaim := { program := "ytfplljcicihneaa", sum := "397e8d4fbec48a473a6aa3a8d9e69b0abf67575b0f449585a4d847d760834dcd", func := "cromlech/cromlechlaw20.MoveBack", spec := "moveBack", unfollowed := true, recurses := true, apart := false, narrowed := true }
def MoveBackUptoSaid : Prop := moveBackUptoRow.holds Try.pinned (OpenSpec.upto moveBackSpec)

/-- 'cromlechlaw20.MoveWords', WHERE WHAT IT READS IS OF BULK AT MOST 1048576: true; the input reads as it did. -/
def moveWordsUptoRow : OpenClaim := { program := "ytfplljcicihneaa", sum := "397e8d4fbec48a473a6aa3a8d9e69b0abf67575b0f449585a4d847d760834dcd", func := "cromlech/cromlechlaw20.MoveWords", spec := "moveWords", unfollowed := true, recurses := true, apart := false, narrowed := true }
def MoveWordsUptoSaid : Prop := moveWordsUptoRow.holds Try.pinned (OpenSpec.upto moveWordsSpec)

end Rows
end Go.Proofs.Ytfplljcicihneaa
