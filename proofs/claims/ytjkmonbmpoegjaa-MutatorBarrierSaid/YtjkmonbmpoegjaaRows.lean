/-
  No cell of these rows narrows 'for every input' (looked for: loops, veiled, ifaces, maps, wideKeys, modest, calm, conditions, laid).
  DERIVED. THE GIVEN ROWS OF THIS SEAT. 8 by the template 'for every input the law returns true; each argument reads behind the call as it read before'; 0 by the template 'total and deterministic' (their statements: YtjkmonbmpoegjaaTotals.lean).
  GIVEN WITH THE SEED: the statements are not yours to turn. If you find one false, say at which input.
  Laid BY PROGRAM, IN A SANDBOX (cutbox-rows.mjs): the forced cells as the released guide's own fill.sh prints them over the translation 96f1b6c780c5123e… (all of the seat's roots in one cut). By AI agents, Wed Nov 11 2026. No macro, syntax, notation, axiom, sorry.
-/
import Derived.Test.YtjkmonbmpoegjaaChecked
import GoSem.Claim
import GoSem.ClaimJoined
import GoSem.ClaimMapViews
import Derived.JoinedTies
import Derived.KernelRfl
namespace Go.Proofs.Ytjkmonbmpoegjaa
/- THE CELL 'sum', in the pinned program and in every row, IS THE sha256 OF THE DUMP (.gsa) THAT YtjkmonbmpoegjaaProg.lean LOADS. Nothing in Lean hashes anything: it is a label: what it is worth is what the hold of that sum in a sandbox is worth. -/
noncomputable def Try.pinned : Pinned := { name := "ytjkmonbmpoegjaa", sum := "96f1b6c780c5123e193633e571b0e7e38f53e788d369921b899994e628322b8b", checked := Try.checked }
namespace Rows
def none {H : Type} : Left H := { results := [], args := [] }

/-- 'cromlechlaw14.FlipTells': WHATEVER THE INPUT: true; the input reads as it did. -/
def flipTellsSpec : ChangeSpec := { name := "flipTells", fn := fun _ => fun
  | [d1, d2, d3, d4, d5] => { results := [.lit (.bool true)], args := [d1, d2, d3, d4, d5] }
  | _ => none }
def flipTellsRow : OpenClaim := { program := "ytjkmonbmpoegjaa", sum := "96f1b6c780c5123e193633e571b0e7e38f53e788d369921b899994e628322b8b", func := "cromlech/cromlechlaw14.FlipTells", spec := "flipTells", unfollowed := true, recurses := true, apart := false }
def FlipTellsSaid : Prop := flipTellsRow.holds Try.pinned (OpenSpec.ofChange flipTellsSpec)

/-- ITS FALSE NEIGHBOUR: 'it returns false'. Refute it at one input. -/
def flipTellsWrong : ChangeSpec := { name := "flipTells", fn := fun _ => fun
  | [d1, d2, d3, d4, d5] => { results := [.lit (.bool false)], args := [d1, d2, d3, d4, d5] }
  | _ => none }
def FlipTellsWrongFalsely : Prop := flipTellsRow.holds Try.pinned (OpenSpec.ofChange flipTellsWrong)

/-- 'cromlechlaw14.FlipRoots': WHATEVER THE INPUT: true; the input reads as it did. -/
def flipRootsSpec : ChangeSpec := { name := "flipRoots", fn := fun _ => fun
  | [d] => { results := [.lit (.bool true)], args := [d] }
  | _ => none }
def flipRootsRow : OpenClaim := { program := "ytjkmonbmpoegjaa", sum := "96f1b6c780c5123e193633e571b0e7e38f53e788d369921b899994e628322b8b", func := "cromlech/cromlechlaw14.FlipRoots", spec := "flipRoots", unfollowed := true, recurses := true, apart := false }
def FlipRootsSaid : Prop := flipRootsRow.holds Try.pinned (OpenSpec.ofChange flipRootsSpec)

/-- ITS FALSE NEIGHBOUR: 'it returns false'. Refute it at one input. -/
def flipRootsWrong : ChangeSpec := { name := "flipRoots", fn := fun _ => fun
  | [d] => { results := [.lit (.bool false)], args := [d] }
  | _ => none }
def FlipRootsWrongFalsely : Prop := flipRootsRow.holds Try.pinned (OpenSpec.ofChange flipRootsWrong)

/-- 'cromlechlaw14.FlipNone': WHATEVER THE INPUT: true; the input reads as it did. -/
def flipNoneSpec : ChangeSpec := { name := "flipNone", fn := fun _ => fun
  | [d] => { results := [.lit (.bool true)], args := [d] }
  | _ => none }
def flipNoneRow : OpenClaim := { program := "ytjkmonbmpoegjaa", sum := "96f1b6c780c5123e193633e571b0e7e38f53e788d369921b899994e628322b8b", func := "cromlech/cromlechlaw14.FlipNone", spec := "flipNone", unfollowed := true, recurses := true, apart := false }
def FlipNoneSaid : Prop := flipNoneRow.holds Try.pinned (OpenSpec.ofChange flipNoneSpec)

/-- ITS FALSE NEIGHBOUR: 'it returns false'. Refute it at one input. -/
def flipNoneWrong : ChangeSpec := { name := "flipNone", fn := fun _ => fun
  | [d] => { results := [.lit (.bool false)], args := [d] }
  | _ => none }
def FlipNoneWrongFalsely : Prop := flipNoneRow.holds Try.pinned (OpenSpec.ofChange flipNoneWrong)

/-- 'cromlechlaw14.FlipRoom': WHATEVER THE INPUT: true; the input reads as it did. -/
def flipRoomSpec : ChangeSpec := { name := "flipRoom", fn := fun _ => fun
  | [d] => { results := [.lit (.bool true)], args := [d] }
  | _ => none }
def flipRoomRow : OpenClaim := { program := "ytjkmonbmpoegjaa", sum := "96f1b6c780c5123e193633e571b0e7e38f53e788d369921b899994e628322b8b", func := "cromlech/cromlechlaw14.FlipRoom", spec := "flipRoom", unfollowed := true, recurses := true, apart := false }
def FlipRoomSaid : Prop := flipRoomRow.holds Try.pinned (OpenSpec.ofChange flipRoomSpec)

/-- ITS FALSE NEIGHBOUR: 'it returns false'. Refute it at one input. -/
def flipRoomWrong : ChangeSpec := { name := "flipRoom", fn := fun _ => fun
  | [d] => { results := [.lit (.bool false)], args := [d] }
  | _ => none }
def FlipRoomWrongFalsely : Prop := flipRoomRow.holds Try.pinned (OpenSpec.ofChange flipRoomWrong)

/-- 'cromlechlaw15.ScanParts': WHATEVER THE INPUT: true; the input reads as it did. -/
def scanPartsSpec : ChangeSpec := { name := "scanParts", fn := fun _ => fun
  | [d1, d2, d3] => { results := [.lit (.bool true)], args := [d1, d2, d3] }
  | _ => none }
def scanPartsRow : OpenClaim := { program := "ytjkmonbmpoegjaa", sum := "96f1b6c780c5123e193633e571b0e7e38f53e788d369921b899994e628322b8b", func := "cromlech/cromlechlaw15.ScanParts", spec := "scanParts", unfollowed := true, recurses := true, apart := false }
def ScanPartsSaid : Prop := scanPartsRow.holds Try.pinned (OpenSpec.ofChange scanPartsSpec)

/-- ITS FALSE NEIGHBOUR: 'it returns false'. Refute it at one input. -/
def scanPartsWrong : ChangeSpec := { name := "scanParts", fn := fun _ => fun
  | [d1, d2, d3] => { results := [.lit (.bool false)], args := [d1, d2, d3] }
  | _ => none }
def ScanPartsWrongFalsely : Prop := scanPartsRow.holds Try.pinned (OpenSpec.ofChange scanPartsWrong)

/-- 'cromlechlaw15.ScanOnce': WHATEVER THE INPUT: true; the input reads as it did. -/
def scanOnceSpec : ChangeSpec := { name := "scanOnce", fn := fun _ => fun
  | [d1, d2, d3] => { results := [.lit (.bool true)], args := [d1, d2, d3] }
  | _ => none }
def scanOnceRow : OpenClaim := { program := "ytjkmonbmpoegjaa", sum := "96f1b6c780c5123e193633e571b0e7e38f53e788d369921b899994e628322b8b", func := "cromlech/cromlechlaw15.ScanOnce", spec := "scanOnce", unfollowed := true, recurses := true, apart := false }
def ScanOnceSaid : Prop := scanOnceRow.holds Try.pinned (OpenSpec.ofChange scanOnceSpec)

/-- ITS FALSE NEIGHBOUR: 'it returns false'. Refute it at one input. -/
def scanOnceWrong : ChangeSpec := { name := "scanOnce", fn := fun _ => fun
  | [d1, d2, d3] => { results := [.lit (.bool false)], args := [d1, d2, d3] }
  | _ => none }
def ScanOnceWrongFalsely : Prop := scanOnceRow.holds Try.pinned (OpenSpec.ofChange scanOnceWrong)

/-- 'cromlechlaw16.MutatorScans': WHATEVER THE INPUT: true; the input reads as it did. -/
def mutatorScansSpec : ChangeSpec := { name := "mutatorScans", fn := fun _ => fun
  | [d1, d2, d3] => { results := [.lit (.bool true)], args := [d1, d2, d3] }
  | _ => none }
def mutatorScansRow : OpenClaim := { program := "ytjkmonbmpoegjaa", sum := "96f1b6c780c5123e193633e571b0e7e38f53e788d369921b899994e628322b8b", func := "cromlech/cromlechlaw16.MutatorScans", spec := "mutatorScans", unfollowed := true, recurses := true, apart := false }
def MutatorScansSaid : Prop := mutatorScansRow.holds Try.pinned (OpenSpec.ofChange mutatorScansSpec)

/-- ITS FALSE NEIGHBOUR: 'it returns false'. Refute it at one input. -/
def mutatorScansWrong : ChangeSpec := { name := "mutatorScans", fn := fun _ => fun
  | [d1, d2, d3] => { results := [.lit (.bool false)], args := [d1, d2, d3] }
  | _ => none }
def MutatorScansWrongFalsely : Prop := mutatorScansRow.holds Try.pinned (OpenSpec.ofChange mutatorScansWrong)

/-- 'cromlechlaw16.MutatorBarrier': WHATEVER THE INPUT: true; the input reads as it did. -/
def mutatorBarrierSpec : ChangeSpec := { name := "mutatorBarrier", fn := fun _ => fun
  | [d1, d2, d3, d4] => { results := [.lit (.bool true)], args := [d1, d2, d3, d4] }
  | _ => none }
def mutatorBarrierRow : OpenClaim := { program := "ytjkmonbmpoegjaa", sum := "96f1b6c780c5123e193633e571b0e7e38f53e788d369921b899994e628322b8b", func := "cromlech/cromlechlaw16.MutatorBarrier", spec := "mutatorBarrier", unfollowed := true, recurses := true, apart := false }
def MutatorBarrierSaid : Prop := mutatorBarrierRow.holds Try.pinned (OpenSpec.ofChange mutatorBarrierSpec)

/-- ITS FALSE NEIGHBOUR: 'it returns false'. Refute it at one input. -/
def mutatorBarrierWrong : ChangeSpec := { name := "mutatorBarrier", fn := fun _ => fun
  | [d1, d2, d3, d4] => { results := [.lit (.bool false)], args := [d1, d2, d3, d4] }
  | _ => none }
def MutatorBarrierWrongFalsely : Prop := mutatorBarrierRow.holds Try.pinned (OpenSpec.ofChange mutatorBarrierWrong)

/- THE SECOND FORM. 'bulk': how many values and letters a reading holds, each counted each time it is reached (what is shared counts as often as it is met; a slice's spare places count too). A statement '..UptoSaid' is the law's where the arguments, and the package variables that the reading takes, are together of bulk at most 1048576: NARROWER than '..Said'. Prove '..Said' where nothing that the law and all that it calls make is longer than what came in: it says more and counts as full. Else prove '..UptoSaid'. A law counts once. -/
mutual
def uptoBulk {H : Type} : DataW H → Nat
  | .lit (.string bytes) => bytes.length + 1
  | .lit _ => 1
  | .nil => 1
  | .ptr d => uptoBulk d + 1
  | .slice elems spare => uptoBulkAll elems + uptoBulkAll spare + 1
  | .agg parts => uptoBulkAll parts + 1
  | .iface _ d => uptoBulk d + 1
  | .map entries => uptoBulkEntries entries + 1
  | .held _ => 1
def uptoBulkAll {H : Type} : List (DataW H) → Nat
  | [] => 0
  | d :: r => uptoBulk d + uptoBulkAll r
def uptoBulkEntries {H : Type} : List (Lit × DataW H) → Nat
  | [] => 0
  | x :: r => uptoBulkEntry x + uptoBulkEntries r
def uptoBulkEntry {H : Type} : Lit × DataW H → Nat
  | (.string bytes, d) => bytes.length + uptoBulk d + 1
  | (_, d) => uptoBulk d + 1
 end
def uptoSmall : (H : Type) → List (DataW H) → Bool := fun _ ds => decide (uptoBulkAll ds ≤ 1048576)
def OpenSpec.upto (s : _root_.Go.ChangeSpec) : _root_.Go.OpenSpec := { _root_.Go.OpenSpec.ofChange s with cond := some uptoSmall }

/-- 'cromlechlaw14.FlipTells', WHERE WHAT IT READS IS OF BULK AT MOST 1048576: true; the input reads as it did. -/
def flipTellsUptoRow : OpenClaim := { program := "ytjkmonbmpoegjaa", sum := "96f1b6c780c5123e193633e571b0e7e38f53e788d369921b899994e628322b8b", func := "cromlech/cromlechlaw14.FlipTells", spec := "flipTells", unfollowed := true, recurses := true, apart := false, narrowed := true }
def FlipTellsUptoSaid : Prop := flipTellsUptoRow.holds Try.pinned (OpenSpec.upto flipTellsSpec)

/-- 'cromlechlaw14.FlipRoots', WHERE WHAT IT READS IS OF BULK AT MOST 1048576: true; the input reads as it did. -/
def flipRootsUptoRow : OpenClaim := { program := "ytjkmonbmpoegjaa", sum := "96f1b6c780c5123e193633e571b0e7e38f53e788d369921b899994e628322b8b", func := "cromlech/cromlechlaw14.FlipRoots", spec := "flipRoots", unfollowed := true, recurses := true, apart := false, narrowed := true }
def FlipRootsUptoSaid : Prop := flipRootsUptoRow.holds Try.pinned (OpenSpec.upto flipRootsSpec)

/-- 'cromlechlaw14.FlipNone', WHERE WHAT IT READS IS OF BULK AT MOST 1048576: true; the input reads as it did. -/
def flipNoneUptoRow : OpenClaim := { program := "ytjkmonbmpoegjaa", sum := "96f1b6c780c5123e193633e571b0e7e38f53e788d369921b899994e628322b8b", func := "cromlech/cromlechlaw14.FlipNone", spec := "flipNone", unfollowed := true, recurses := true, apart := false, narrowed := true }
def FlipNoneUptoSaid : Prop := flipNoneUptoRow.holds Try.pinned (OpenSpec.upto flipNoneSpec)

/-- 'cromlechlaw14.FlipRoom', WHERE WHAT IT READS IS OF BULK AT MOST 1048576: true; the input reads as it did. -/
def flipRoomUptoRow : OpenClaim := { program := "ytjkmonbmpoegjaa", sum := "96f1b6c780c5123e193633e571b0e7e38f53e788d369921b899994e628322b8b", func := "cromlech/cromlechlaw14.FlipRoom", spec := "flipRoom", unfollowed := true, recurses := true, apart := false, narrowed := true }
def FlipRoomUptoSaid : Prop := flipRoomUptoRow.holds Try.pinned (OpenSpec.upto flipRoomSpec)

/-- 'cromlechlaw15.ScanParts', WHERE WHAT IT READS IS OF BULK AT MOST 1048576: true; the input reads as it did. -/
def scanPartsUptoRow : OpenClaim := { program := "ytjkmonbmpoegjaa", sum := "96f1b6c780c5123e193633e571b0e7e38f53e788d369921b899994e628322b8b", func := "cromlech/cromlechlaw15.ScanParts", spec := "scanParts", unfollowed := true, recurses := true, apart := false, narrowed := true }
def ScanPartsUptoSaid : Prop := scanPartsUptoRow.holds Try.pinned (OpenSpec.upto scanPartsSpec)

/-- 'cromlechlaw15.ScanOnce', WHERE WHAT IT READS IS OF BULK AT MOST 1048576: true; the input reads as it did. -/
def scanOnceUptoRow : OpenClaim := { program := "ytjkmonbmpoegjaa", sum := "96f1b6c780c5123e193633e571b0e7e38f53e788d369921b899994e628322b8b", func := "cromlech/cromlechlaw15.ScanOnce", spec := "scanOnce", unfollowed := true, recurses := true, apart := false, narrowed := true }
def ScanOnceUptoSaid : Prop := scanOnceUptoRow.holds Try.pinned (OpenSpec.upto scanOnceSpec)

/-- 'cromlechlaw16.MutatorScans', WHERE WHAT IT READS IS OF BULK AT MOST 1048576: true; the input reads as it did. -/
def mutatorScansUptoRow : OpenClaim := { program := "ytjkmonbmpoegjaa", sum := "96f1b6c780c5123e193633e571b0e7e38f53e788d369921b899994e628322b8b", func := "cromlech/cromlechlaw16.MutatorScans", spec := "mutatorScans", unfollowed := true, recurses := true, apart := false, narrowed := true }
def MutatorScansUptoSaid : Prop := mutatorScansUptoRow.holds Try.pinned (OpenSpec.upto mutatorScansSpec)

/-- 'cromlechlaw16.MutatorBarrier', WHERE WHAT IT READS IS OF BULK AT MOST 1048576: true; the input reads as it did. -/
def mutatorBarrierUptoRow : OpenClaim := { program := "ytjkmonbmpoegjaa", sum := "96f1b6c780c5123e193633e571b0e7e38f53e788d369921b899994e628322b8b", func := "cromlech/cromlechlaw16.MutatorBarrier", spec := "mutatorBarrier", unfollowed := true, recurses := true, apart := false, narrowed := true }
def MutatorBarrierUptoSaid : Prop := mutatorBarrierUptoRow.holds Try.pinned (OpenSpec.upto mutatorBarrierSpec)

end Rows
end Go.Proofs.Ytjkmonbmpoegjaa
