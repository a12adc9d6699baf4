/-
  No cell of these rows narrows 'for every input' (looked for: loops, veiled, ifaces, maps, wideKeys, modest, calm, conditions, laid).
  DERIVED. THE GIVEN ROWS OF THIS SEAT. 12 by the template 'for every input the law returns true; each argument reads behind the call as it read before'; 0 by the template 'total and deterministic' (their statements: YtbmgnmjghhakhaaTotals.lean).
  GIVEN WITH THE SEED: the statements are not yours to turn. If you find one false, say at which input.
  Laid BY PROGRAM, IN A SANDBOX (cutbox-rows.mjs): the forced cells as the released guide's own fill.sh prints them over the translation 598aae2c15e7cad0… (all of the seat's roots in one cut). By AI agents, Wed Nov 11 2026. No macro, syntax, notation, axiom, sorry.
-/
import Derived.Test.YtbmgnmjghhakhaaChecked
import GoSem.Claim
import GoSem.ClaimJoined
import GoSem.ClaimMapViews
import Derived.JoinedTies
import Derived.KernelRfl
namespace Go.Proofs.Ytbmgnmjghhakhaa
/- THE CELL 'sum', in the pinned program and in every row, IS THE sha256 OF THE DUMP (.gsa) THAT YtbmgnmjghhakhaaProg.lean LOADS. Nothing in Lean hashes anything: it is a label: what it is worth is what the hold of that sum in a sandbox is worth. -/
noncomputable def Try.pinned : Pinned := { name := "ytbmgnmjghhakhaa", sum := "598aae2c15e7cad00885f15ec8f8bc7266d745422e483911a02c2122f61c8201", checked := Try.checked }
namespace Rows
def none {H : Type} : Left H := { results := [], args := [] }

/-- 'cromlechlaw09.CanonTells': WHATEVER THE INPUT: true; the input reads as it did. -/
def canonTellsSpec : ChangeSpec := { name := "canonTells", fn := fun _ => fun
  | [d1, d2, d3, d4, d5, d6] => { results := [.lit (.bool true)], args := [d1, d2, d3, d4, d5, d6] }
  | _ => none }
def canonTellsRow : OpenClaim := { program := "ytbmgnmjghhakhaa", sum := "598aae2c15e7cad00885f15ec8f8bc7266d745422e483911a02c2122f61c8201", func := "cromlech/cromlechlaw09.CanonTells", spec := "canonTells", unfollowed := true, recurses := true, apart := false }
def CanonTellsSaid : Prop := canonTellsRow.holds Try.pinned (OpenSpec.ofChange canonTellsSpec)

/-- ITS FALSE NEIGHBOUR: 'it returns false'. Refute it at one input. -/
def canonTellsWrong : ChangeSpec := { name := "canonTells", fn := fun _ => fun
  | [d1, d2, d3, d4, d5, d6] => { results := [.lit (.bool false)], args := [d1, d2, d3, d4, d5, d6] }
  | _ => none }
def CanonTellsWrongFalsely : Prop := canonTellsRow.holds Try.pinned (OpenSpec.ofChange canonTellsWrong)

/-- 'cromlechlaw09.CanonAlike': WHATEVER THE INPUT: true; the input reads as it did. -/
def canonAlikeSpec : ChangeSpec := { name := "canonAlike", fn := fun _ => fun
  | [d1, d2, d3, d4, d5] => { results := [.lit (.bool true)], args := [d1, d2, d3, d4, d5] }
  | _ => none }
def canonAlikeRow : OpenClaim := { program := "ytbmgnmjghhakhaa", sum := "598aae2c15e7cad00885f15ec8f8bc7266d745422e483911a02c2122f61c8201", func := "cromlech/cromlechlaw09.CanonAlike", spec := "canonAlike", unfollowed := true, recurses := true, apart := false }
def CanonAlikeSaid : Prop := canonAlikeRow.holds Try.pinned (OpenSpec.ofChange canonAlikeSpec)

/-- ITS FALSE NEIGHBOUR: 'it returns false'. Refute it at one input. -/
def canonAlikeWrong : ChangeSpec := { name := "canonAlike", fn := fun _ => fun
  | [d1, d2, d3, d4, d5] => { results := [.lit (.bool false)], args := [d1, d2, d3, d4, d5] }
  | _ => none }
def CanonAlikeWrongFalsely : Prop := canonAlikeRow.holds Try.pinned (OpenSpec.ofChange canonAlikeWrong)

/-- 'cromlechlaw09.CanonOrder': WHATEVER THE INPUT: true; the input reads as it did. -/
def canonOrderSpec : ChangeSpec := { name := "canonOrder", fn := fun _ => fun
  | [d1, d2] => { results := [.lit (.bool true)], args := [d1, d2] }
  | _ => none }
def canonOrderRow : OpenClaim := { program := "ytbmgnmjghhakhaa", sum := "598aae2c15e7cad00885f15ec8f8bc7266d745422e483911a02c2122f61c8201", func := "cromlech/cromlechlaw09.CanonOrder", spec := "canonOrder", unfollowed := true, recurses := true, apart := false }
def CanonOrderSaid : Prop := canonOrderRow.holds Try.pinned (OpenSpec.ofChange canonOrderSpec)

/-- ITS FALSE NEIGHBOUR: 'it returns false'. Refute it at one input. -/
def canonOrderWrong : ChangeSpec := { name := "canonOrder", fn := fun _ => fun
  | [d1, d2] => { results := [.lit (.bool false)], args := [d1, d2] }
  | _ => none }
def CanonOrderWrongFalsely : Prop := canonOrderRow.holds Try.pinned (OpenSpec.ofChange canonOrderWrong)

/-- 'cromlechlaw09.CanonLive': WHATEVER THE INPUT: true; the input reads as it did. -/
def canonLiveSpec : ChangeSpec := { name := "canonLive", fn := fun _ => fun
  | [d1, d2, d3] => { results := [.lit (.bool true)], args := [d1, d2, d3] }
  | _ => none }
def canonLiveRow : OpenClaim := { program := "ytbmgnmjghhakhaa", sum := "598aae2c15e7cad00885f15ec8f8bc7266d745422e483911a02c2122f61c8201", func := "cromlech/cromlechlaw09.CanonLive", spec := "canonLive", unfollowed := true, recurses := true, apart := false }
def CanonLiveSaid : Prop := canonLiveRow.holds Try.pinned (OpenSpec.ofChange canonLiveSpec)

/-- ITS FALSE NEIGHBOUR: 'it returns false'. Refute it at one input. -/
def canonLiveWrong : ChangeSpec := { name := "canonLive", fn := fun _ => fun
  | [d1, d2, d3] => { results := [.lit (.bool false)], args := [d1, d2, d3] }
  | _ => none }
def CanonLiveWrongFalsely : Prop := canonLiveRow.holds Try.pinned (OpenSpec.ofChange canonLiveWrong)

/-- 'cromlechlaw08.GraphTells': WHATEVER THE INPUT: true; the input reads as it did. -/
def graphTellsSpec : ChangeSpec := { name := "graphTells", fn := fun _ => fun
  | [d1, d2, d3, d4, d5, d6] => { results := [.lit (.bool true)], args := [d1, d2, d3, d4, d5, d6] }
  | _ => none }
def graphTellsRow : OpenClaim := { program := "ytbmgnmjghhakhaa", sum := "598aae2c15e7cad00885f15ec8f8bc7266d745422e483911a02c2122f61c8201", func := "cromlech/cromlechlaw08.GraphTells", spec := "graphTells", unfollowed := true, recurses := true, apart := false }
def GraphTellsSaid : Prop := graphTellsRow.holds Try.pinned (OpenSpec.ofChange graphTellsSpec)

/-- ITS FALSE NEIGHBOUR: 'it returns false'. Refute it at one input. -/
def graphTellsWrong : ChangeSpec := { name := "graphTells", fn := fun _ => fun
  | [d1, d2, d3, d4, d5, d6] => { results := [.lit (.bool false)], args := [d1, d2, d3, d4, d5, d6] }
  | _ => none }
def GraphTellsWrongFalsely : Prop := graphTellsRow.holds Try.pinned (OpenSpec.ofChange graphTellsWrong)

/-- 'cromlechlaw08.GraphSlots': WHATEVER THE INPUT: true; the input reads as it did. -/
def graphSlotsSpec : ChangeSpec := { name := "graphSlots", fn := fun _ => fun
  | [d1, d2, d3, d4, d5, d6] => { results := [.lit (.bool true)], args := [d1, d2, d3, d4, d5, d6] }
  | _ => none }
def graphSlotsRow : OpenClaim := { program := "ytbmgnmjghhakhaa", sum := "598aae2c15e7cad00885f15ec8f8bc7266d745422e483911a02c2122f61c8201", func := "cromlech/cromlechlaw08.GraphSlots", spec := "graphSlots", unfollowed := true, recurses := true, apart := false }
def GraphSlotsSaid : Prop := graphSlotsRow.holds Try.pinned (OpenSpec.ofChange graphSlotsSpec)

/-- ITS FALSE NEIGHBOUR: 'it returns false'. Refute it at one input. -/
def graphSlotsWrong : ChangeSpec := { name := "graphSlots", fn := fun _ => fun
  | [d1, d2, d3, d4, d5, d6] => { results := [.lit (.bool false)], args := [d1, d2, d3, d4, d5, d6] }
  | _ => none }
def GraphSlotsWrongFalsely : Prop := graphSlotsRow.holds Try.pinned (OpenSpec.ofChange graphSlotsWrong)

/-- 'cromlechlaw08.GraphKeeps': WHATEVER THE INPUT: true; the input reads as it did. -/
def graphKeepsSpec : ChangeSpec := { name := "graphKeeps", fn := fun _ => fun
  | [d1, d2, d3, d4] => { results := [.lit (.bool true)], args := [d1, d2, d3, d4] }
  | _ => none }
def graphKeepsRow : OpenClaim := { program := "ytbmgnmjghhakhaa", sum := "598aae2c15e7cad00885f15ec8f8bc7266d745422e483911a02c2122f61c8201", func := "cromlech/cromlechlaw08.GraphKeeps", spec := "graphKeeps", unfollowed := true, recurses := true, apart := false }
def GraphKeepsSaid : Prop := graphKeepsRow.holds Try.pinned (OpenSpec.ofChange graphKeepsSpec)

/-- ITS FALSE NEIGHBOUR: 'it returns false'. Refute it at one input. -/
def graphKeepsWrong : ChangeSpec := { name := "graphKeeps", fn := fun _ => fun
  | [d1, d2, d3, d4] => { results := [.lit (.bool false)], args := [d1, d2, d3, d4] }
  | _ => none }
def GraphKeepsWrongFalsely : Prop := graphKeepsRow.holds Try.pinned (OpenSpec.ofChange graphKeepsWrong)

/-- 'cromlechlaw08.GraphRoots': WHATEVER THE INPUT: true; the input reads as it did. -/
def graphRootsSpec : ChangeSpec := { name := "graphRoots", fn := fun _ => fun
  | [d1, d2, d3, d4, d5, d6] => { results := [.lit (.bool true)], args := [d1, d2, d3, d4, d5, d6] }
  | _ => none }
def graphRootsRow : OpenClaim := { program := "ytbmgnmjghhakhaa", sum := "598aae2c15e7cad00885f15ec8f8bc7266d745422e483911a02c2122f61c8201", func := "cromlech/cromlechlaw08.GraphRoots", spec := "graphRoots", unfollowed := true, recurses := true, apart := false }
def GraphRootsSaid : Prop := graphRootsRow.holds Try.pinned (OpenSpec.ofChange graphRootsSpec)

/-- ITS FALSE NEIGHBOUR: 'it returns false'. Refute it at one input. -/
def graphRootsWrong : ChangeSpec := { name := "graphRoots", fn := fun _ => fun
  | [d1, d2, d3, d4, d5, d6] => { results := [.lit (.bool false)], args := [d1, d2, d3, d4, d5, d6] }
  | _ => none }
def GraphRootsWrongFalsely : Prop := graphRootsRow.holds Try.pinned (OpenSpec.ofChange graphRootsWrong)

/-- 'cromlechlaw08.GraphRuns': WHATEVER THE INPUT: true; the input reads as it did. -/
def graphRunsSpec : ChangeSpec := { name := "graphRuns", fn := fun _ => fun
  | [d1, d2, d3, d4, d5, d6] => { results := [.lit (.bool true)], args := [d1, d2, d3, d4, d5, d6] }
  | _ => none }
def graphRunsRow : OpenClaim := { program := "ytbmgnmjghhakhaa", sum := "598aae2c15e7cad00885f15ec8f8bc7266d745422e483911a02c2122f61c8201", func := "cromlech/cromlechlaw08.GraphRuns", spec := "graphRuns", unfollowed := true, recurses := true, apart := false }
def GraphRunsSaid : Prop := graphRunsRow.holds Try.pinned (OpenSpec.ofChange graphRunsSpec)

/-- ITS FALSE NEIGHBOUR: 'it returns false'. Refute it at one input. -/
def graphRunsWrong : ChangeSpec := { name := "graphRuns", fn := fun _ => fun
  | [d1, d2, d3, d4, d5, d6] => { results := [.lit (.bool false)], args := [d1, d2, d3, d4, d5, d6] }
  | _ => none }
def GraphRunsWrongFalsely : Prop := graphRunsRow.holds Try.pinned (OpenSpec.ofChange graphRunsWrong)

/-- 'cromlechlaw08.GraphShape': WHATEVER THE INPUT: true; the input reads as it did. -/
def graphShapeSpec : ChangeSpec := { name := "graphShape", fn := fun _ => fun
  | [d1, d2, d3, d4, d5] => { results := [.lit (.bool true)], args := [d1, d2, d3, d4, d5] }
  | _ => none }
def graphShapeRow : OpenClaim := { program := "ytbmgnmjghhakhaa", sum := "598aae2c15e7cad00885f15ec8f8bc7266d745422e483911a02c2122f61c8201", func := "cromlech/cromlechlaw08.GraphShape", spec := "graphShape", unfollowed := true, recurses := true, apart := false }
def GraphShapeSaid : Prop := graphShapeRow.holds Try.pinned (OpenSpec.ofChange graphShapeSpec)

/-- ITS FALSE NEIGHBOUR: 'it returns false'. Refute it at one input. -/
def graphShapeWrong : ChangeSpec := { name := "graphShape", fn := fun _ => fun
  | [d1, d2, d3, d4, d5] => { results := [.lit (.bool false)], args := [d1, d2, d3, d4, d5] }
  | _ => none }
def GraphShapeWrongFalsely : Prop := graphShapeRow.holds Try.pinned (OpenSpec.ofChange graphShapeWrong)

/-- 'cromlechlaw09.CanonActs': WHATEVER THE INPUT: true; the input reads as it did. -/
def canonActsSpec : ChangeSpec := { name := "canonActs", fn := fun _ => fun
  | [d1, d2, d3, d4, d5] => { results := [.lit (.bool true)], args := [d1, d2, d3, d4, d5] }
  | _ => none }
def canonActsRow : OpenClaim := { program := "ytbmgnmjghhakhaa", sum := "598aae2c15e7cad00885f15ec8f8bc7266d745422e483911a02c2122f61c8201", func := "cromlech/cromlechlaw09.CanonActs", spec := "canonActs", unfollowed := true, recurses := true, apart := false }
def CanonActsSaid : Prop := canonActsRow.holds Try.pinned (OpenSpec.ofChange canonActsSpec)

/-- ITS FALSE NEIGHBOUR: 'it returns false'. Refute it at one input. -/
def canonActsWrong : ChangeSpec := { name := "canonActs", fn := fun _ => fun
  | [d1, d2, d3, d4, d5] => { results := [.lit (.bool false)], args := [d1, d2, d3, d4, d5] }
  | _ => none }
def CanonActsWrongFalsely : Prop := canonActsRow.holds Try.pinned (OpenSpec.ofChange canonActsWrong)

/-- 'cromlechlaw09.CanonUnlike': WHATEVER THE INPUT: true; the input reads as it did. -/
def canonUnlikeSpec : ChangeSpec := { name := "canonUnlike", fn := fun _ => fun
  | [d1, d2, d3, d4, d5] => { results := [.lit (.bool true)], args := [d1, d2, d3, d4, d5] }
  | _ => none }
def canonUnlikeRow : OpenClaim := { program := "ytbmgnmjghhakhaa", sum := "598aae2c15e7cad00885f15ec8f8bc7266d745422e483911a02c2122f61c8201", func := "cromlech/cromlechlaw09.CanonUnlike", spec := "canonUnlike", unfollowed := true, recurses := true, apart := false }
def CanonUnlikeSaid : Prop := canonUnlikeRow.holds Try.pinned (OpenSpec.ofChange canonUnlikeSpec)

/-- ITS FALSE NEIGHBOUR: 'it returns false'. Refute it at one input. -/
def canonUnlikeWrong : ChangeSpec := { name := "canonUnlike", fn := fun _ => fun
  | [d1, d2, d3, d4, d5] => { results := [.lit (.bool false)], args := [d1, d2, d3, d4, d5] }
  | _ => none }
def CanonUnlikeWrongFalsely : Prop := canonUnlikeRow.holds Try.pinned (OpenSpec.ofChange canonUnlikeWrong)

/- THE SECOND FORM. 'bulk': how many values and letters a reading holds, each counted each time it is reached (what is shared counts as often as it is met; a slice's spare places count too). A statement '..UptoSaid' is the law's where the arguments, and the package variables that the reading takes, are together of bulk at most 1048576: NARROWER than '..Said'. Prove '..Said' where nothing that the law and all that it calls make is longer than what came in: it says more and counts as full. Else prove '..UptoSaid'. A law counts once. -/
mutual
def uptoBulk {H : Type} : DataW H → Nat
  | .lit (.string bytes) => bytes.length + 1
  | .lit _ => 1
  | .nil => 1
  | .ptr d => uptoBulk d + 1
  | .slice elems spare => uptoBulkAll elems + uptoBulkAll spare + 1
  | .agg parts => uptoBulkAll parts + 1
  | .iface _ d => uptoBulk d + 1
  | .map entries => uptoBulkEntries entries + 1
  | .held _ => 1
def uptoBulkAll {H : Type} : List (DataW H) → Nat
  | [] => 0
  | d :: r => uptoBulk d + uptoBulkAll r
def uptoBulkEntries {H : Type} : List (Lit × DataW H) → Nat
  | [] => 0
  | x :: r => uptoBulkEntry x + uptoBulkEntries r
def uptoBulkEntry {H : Type} : Lit × DataW H → Nat
  | (.string bytes, d) => bytes.length + uptoBulk d + 1
  | (_, d) => uptoBulk d + 1
 end
def uptoSmall : (H : Type) → List (DataW H) → Bool := fun _ ds => decide (uptoBulkAll ds ≤ 1048576)
def OpenSpec.upto (s : _root_.Go.ChangeSpec) : _root_.Go.OpenSpec := { _root_.Go.OpenSpec.ofChange s with cond := some uptoSmall }

/-- 'cromlechlaw09.CanonTells', WHERE WHAT IT READS IS OF BULK AT MOST 1048576: true; the input reads as it did. -/
def canonTellsUptoRow : OpenClaim := { program := "ytbmgnmjghhakhaa", sum := "598aae2c15e7cad00885f15ec8f8bc7266d745422e483911a02c2122f61c8201", func := "cromlech/cromlechlaw09.CanonTells", spec := "canonTells", unfollowed := true, recurses := true, apart := false, narrowed := true }
def CanonTellsUptoSaid : Prop := canonTellsUptoRow.holds Try.pinned (OpenSpec.upto canonTellsSpec)

/-- 'cromlechlaw09.CanonAlike', WHERE WHAT IT READS IS OF BULK AT MOST 1048576: true; the input reads as it did. -/
def canonAlikeUptoRow : OpenClaim := { program := "ytbmgnmjghhakhaa", sum := "598aae2c15e7cad00885f15ec8f8bc7266d745422e483911a02c2122f61c8201", func := "cromlech/cromlechlaw09.CanonAlike", spec := "canonAlike", unfollowed := true, recurses := true, apart := false, narrowed := true }
def CanonAlikeUptoSaid : Prop := canonAlikeUptoRow.holds Try.pinned (OpenSpec.upto canonAlikeSpec)

/-- 'cromlechlaw09.CanonOrder', WHERE WHAT IT READS IS OF BULK AT MOST 1048576: true; the input reads as it did. -/
def canonOrderUptoRow : OpenClaim := { program := "ytbmgnmjghhakhaa", sum := "598aae2c15e7cad00885f15ec8f8bc7266d745422e483911a02c2122f61c8201", func := "cromlech/cromlechlaw09.CanonOrder", spec := "canonOrder", unfollowed := true, recurses := true, apart := false, narrowed := true }
def CanonOrderUptoSaid : Prop := canonOrderUptoRow.holds Try.pinned (OpenSpec.upto canonOrderSpec)

/-- 'cromlechlaw09.CanonLive', WHERE WHAT IT READS IS OF BULK AT MOST 1048576: true; the input reads as it did. -/
def canonLiveUptoRow : OpenClaim := { program := "ytbmgnmjghhakhaa", sum := "598aae2c15e7cad00885f15ec8f8bc7266d745422e483911a02c2122f61c8201", func := "cromlech/cromlechlaw09.CanonLive", spec := "canonLive", unfollowed := true, recurses := true, apart := false, narrowed := true }
def CanonLiveUptoSaid : Prop := canonLiveUptoRow.holds Try.pinned (OpenSpec.upto canonLiveSpec)

/-- 'cromlechlaw08.GraphTells', WHERE WHAT IT READS IS OF BULK AT MOST 1048576: true; the input reads as it did. -/
def graphTellsUptoRow : OpenClaim := { program := "ytbmgnmjghhakhaa", sum := "598aae2c15e7cad00885f15ec8f8bc7266d745422e483911a02c2122f61c8201", func := "cromlech/cromlechlaw08.GraphTells", spec := "graphTells", unfollowed := true, recurses := true, apart := false, narrowed := true }
def GraphTellsUptoSaid : Prop := graphTellsUptoRow.holds Try.pinned (OpenSpec.upto graphTellsSpec)

/-- 'cromlechlaw08.GraphSlots', WHERE WHAT IT READS IS OF BULK AT MOST 1048576: true; the input reads as it did. -/
def graphSlotsUptoRow : OpenClaim := { program := "ytbmgnmjghhakhaa", sum := "598aae2c15e7cad00885f15ec8f8bc7266d745422e483911a02c2122f61c8201", func := "cromlech/cromlechlaw08.GraphSlots", spec := "graphSlots", unfollowed := true, recurses := true, apart := false, narrowed := true }
def GraphSlotsUptoSaid : Prop := graphSlotsUptoRow.holds Try.pinned (OpenSpec.upto graphSlotsSpec)

/-- 'cromlechlaw08.GraphKeeps', WHERE WHAT IT READS IS OF BULK AT MOST 1048576: true; the input reads as it did. -/
def graphKeepsUptoRow : OpenClaim := { program := "ytbmgnmjghhakhaa", sum := "598aae2c15e7cad00885f15ec8f8bc7266d745422e483911a02c2122f61c8201", func := "cromlech/cromlechlaw08.GraphKeeps", spec := "graphKeeps", unfollowed := true, recurses := true, apart := false, narrowed := true }
def GraphKeepsUptoSaid : Prop := graphKeepsUptoRow.holds Try.pinned (OpenSpec.upto graphKeepsSpec)

/-- 'cromlechlaw08.GraphRoots', WHERE WHAT IT READS IS OF BULK AT MOST 1048576: true; the input reads as it did. -/
def graphRootsUptoRow : OpenClaim := { program := "ytbmgnmjghhakhaa", sum := "598aae2c15e7cad00885f15ec8f8bc7266d745422e483911a02c2122f61c8201", func := "cromlech/cromlechlaw08.GraphRoots", spec := "graphRoots", unfollowed := true, recurses := true, apart := false, narrowed := true }
def GraphRootsUptoSaid : Prop := graphRootsUptoRow.holds Try.pinned (OpenSpec.upto graphRootsSpec)

/-- 'cromlechlaw08.GraphRuns', WHERE WHAT IT READS IS OF BULK AT MOST 1048576: true; the input reads as it did. -/
def graphRunsUptoRow : OpenClaim := { program := "ytbmgnmjghhakhaa", sum := "598aae2c15e7cad00885f15ec8f8bc7266d745422e483911a02c2122f61c8201", func := "cromlech/cromlechlaw08.GraphRuns", spec := "graphRuns", unfollowed := true, recurses := true, apart := false, narrowed := true }
def GraphRunsUptoSaid : Prop := graphRunsUptoRow.holds Try.pinned (OpenSpec.upto graphRunsSpec)

/-- 'cromlechlaw08.GraphShape', WHERE WHAT IT READS IS OF BULK AT MOST 1048576: true; the input reads as it did. -/
def graphShapeUptoRow : OpenClaim := { program := "ytbmgnmjghhakhaa", sum := "598aae2c15e7cad00885f15ec8f8bc7266d745422e483911a02c2122f61c8201", func := "cromlech/cromlechlaw08.GraphShape", spec := "graphShape", unfollowed := true, recurses := true, apart := false, narrowed := true }
def GraphShapeUptoSaid : Prop := graphShapeUptoRow.holds Try.pinned (OpenSpec.upto graphShapeSpec)

/-- 'cromlechlaw09.CanonActs', WHERE WHAT IT READS IS OF BULK AT MOST 1048576: true; the input reads as it did. -/
def canonActsUptoRow : OpenClaim := { program := "ytbmgnmjghhakhaa", sum := "598aae2c15e7cad00885f15ec8f8bc7266d745422e483911a02c2122f61c8201", func := "cromlech/cromlechlaw09.CanonActs", spec := "canonActs", unfollowed := true, recurses := true, apart := false, narrowed := true }
def CanonActsUptoSaid : Prop := canonActsUptoRow.holds Try.pinned (OpenSpec.upto canonActsSpec)

/-- 'cromlechlaw09.CanonUnlike', WHERE WHAT IT READS IS OF BULK AT MOST 1048576: true; the input reads as it did. -/
def canonUnlikeUptoRow : OpenClaim := { program := "ytbmgnmjghhakhaa", sum := "598aae2c15e7cad00885f15ec8f8bc7266d745422e483911a02c2122f61c8201", func := "cromlech/cromlechlaw09.CanonUnlike", spec := "canonUnlike", unfollowed := true, recurses := true, apart := false, narrowed := true }
def CanonUnlikeUptoSaid : Prop := canonUnlikeUptoRow.holds Try.pinned (OpenSpec.upto canonUnlikeSpec)

end Rows
end Go.Proofs.Ytbmgnmjghhakhaa
