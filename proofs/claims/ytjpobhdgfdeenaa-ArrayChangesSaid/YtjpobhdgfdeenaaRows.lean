/-
  No cell of these rows narrows 'for every input' (looked for: loops, veiled, ifaces, maps, wideKeys, modest, calm, conditions, laid).
  DERIVED. THE GIVEN ROWS OF THIS SEAT. 6 by the template 'for every input the law returns true; each argument reads behind the call as it read before'; 0 by the template 'total and deterministic' (their statements: YtjpobhdgfdeenaaTotals.lean).
  GIVEN WITH THE SEED: the statements are not yours to turn. If you find one false, say at which input.
  Laid BY PROGRAM, IN A SANDBOX (cutbox-rows.mjs): the forced cells as the released guide's own fill.sh prints them over the translation 6d97169f67302f0a… (all of the seat's roots in one cut). By AI agents, Wed Nov 11 2026. No macro, syntax, notation, axiom, sorry.
-/
import Derived.Test.YtjpobhdgfdeenaaChecked
import GoSem.Claim
import GoSem.ClaimJoined
import GoSem.ClaimMapViews
import Derived.JoinedTies
import Derived.KernelRfl
namespace Go.Proofs.Ytjpobhdgfdeenaa
/- THE CELL 'sum', in the pinned program and in every row, IS THE sha256 OF THE DUMP (.gsa) THAT YtjpobhdgfdeenaaProg.lean LOADS. Nothing in Lean hashes anything: it is a label: what it is worth is what the hold of that sum in a sandbox is worth. -/
noncomputable def Try.pinned : Pinned := { name := "ytjpobhdgfdeenaa", sum := "6d97169f67302f0a2642e9e9451ace3b9b8fad2a1f35419920064f984e8128da", checked := Try.checked }
namespace Rows
def none {H : Type} : Left H := { results := [], args := [] }

/-- 'ringworklaw10.ArrayMakes': WHATEVER THE INPUT: true; the input reads as it did. -/
def arrayMakesSpec : ChangeSpec := { name := "arrayMakes", fn := fun _ => fun
  | [d1, d2] => { results := [.lit (.bool true)], args := [d1, d2] }
  | _ => none }
def arrayMakesRow : OpenClaim := { program := "ytjpobhdgfdeenaa", sum := "6d97169f67302f0a2642e9e9451ace3b9b8fad2a1f35419920064f984e8128da", func := "ringwork/ringworklaw10.ArrayMakes", spec := "arrayMakes", inPlace := ["slices.overlaps[int]", "slices.overlaps[[]int]"], unfollowed := true, recurses := true, apart := false }
def ArrayMakesSaid : Prop := arrayMakesRow.holds Try.pinned (OpenSpec.ofChange arrayMakesSpec)

/-- ITS FALSE NEIGHBOUR: 'it returns false'. Refute it at one input. -/
def arrayMakesWrong : ChangeSpec := { name := "arrayMakes", fn := fun _ => fun
  | [d1, d2] => { results := [.lit (.bool false)], args := [d1, d2] }
  | _ => none }
def ArrayMakesWrongFalsely : Prop := arrayMakesRow.holds Try.pinned (OpenSpec.ofChange arrayMakesWrong)

/-- 'ringworklaw10.ArrayWrong': WHATEVER THE INPUT: true; the input reads as it did. -/
def arrayWrongSpec : ChangeSpec := { name := "arrayWrong", fn := fun _ => fun
  | [d1, d2] => { results := [.lit (.bool true)], args := [d1, d2] }
  | _ => none }
def arrayWrongRow : OpenClaim := { program := "ytjpobhdgfdeenaa", sum := "6d97169f67302f0a2642e9e9451ace3b9b8fad2a1f35419920064f984e8128da", func := "ringwork/ringworklaw10.ArrayWrong", spec := "arrayWrong", inPlace := ["slices.overlaps[int]", "slices.overlaps[[]int]"], unfollowed := true, recurses := true, apart := false }
def ArrayWrongSaid : Prop := arrayWrongRow.holds Try.pinned (OpenSpec.ofChange arrayWrongSpec)

/-- ITS FALSE NEIGHBOUR: 'it returns false'. Refute it at one input. -/
def arrayWrongWrong : ChangeSpec := { name := "arrayWrong", fn := fun _ => fun
  | [d1, d2] => { results := [.lit (.bool false)], args := [d1, d2] }
  | _ => none }
def ArrayWrongWrongFalsely : Prop := arrayWrongRow.holds Try.pinned (OpenSpec.ofChange arrayWrongWrong)

/-- 'ringworklaw10.ArrayFinds': WHATEVER THE INPUT: true; the input reads as it did. -/
def arrayFindsSpec : ChangeSpec := { name := "arrayFinds", fn := fun _ => fun
  | [d1, d2, d3, d4] => { results := [.lit (.bool true)], args := [d1, d2, d3, d4] }
  | _ => none }
def arrayFindsRow : OpenClaim := { program := "ytjpobhdgfdeenaa", sum := "6d97169f67302f0a2642e9e9451ace3b9b8fad2a1f35419920064f984e8128da", func := "ringwork/ringworklaw10.ArrayFinds", spec := "arrayFinds", inPlace := ["slices.overlaps[int]", "slices.overlaps[[]int]"], unfollowed := true, recurses := true, apart := false }
def ArrayFindsSaid : Prop := arrayFindsRow.holds Try.pinned (OpenSpec.ofChange arrayFindsSpec)

/-- ITS FALSE NEIGHBOUR: 'it returns false'. Refute it at one input. -/
def arrayFindsWrong : ChangeSpec := { name := "arrayFinds", fn := fun _ => fun
  | [d1, d2, d3, d4] => { results := [.lit (.bool false)], args := [d1, d2, d3, d4] }
  | _ => none }
def ArrayFindsWrongFalsely : Prop := arrayFindsRow.holds Try.pinned (OpenSpec.ofChange arrayFindsWrong)

/-- 'ringworklaw10.ArrayPacks': WHATEVER THE INPUT: true; the input reads as it did. -/
def arrayPacksSpec : ChangeSpec := { name := "arrayPacks", fn := fun _ => fun
  | [d1, d2, d3, d4] => { results := [.lit (.bool true)], args := [d1, d2, d3, d4] }
  | _ => none }
def arrayPacksRow : OpenClaim := { program := "ytjpobhdgfdeenaa", sum := "6d97169f67302f0a2642e9e9451ace3b9b8fad2a1f35419920064f984e8128da", func := "ringwork/ringworklaw10.ArrayPacks", spec := "arrayPacks", inPlace := ["slices.overlaps[int]", "slices.overlaps[[]int]"], unfollowed := true, recurses := true, apart := false }
def ArrayPacksSaid : Prop := arrayPacksRow.holds Try.pinned (OpenSpec.ofChange arrayPacksSpec)

/-- ITS FALSE NEIGHBOUR: 'it returns false'. Refute it at one input. -/
def arrayPacksWrong : ChangeSpec := { name := "arrayPacks", fn := fun _ => fun
  | [d1, d2, d3, d4] => { results := [.lit (.bool false)], args := [d1, d2, d3, d4] }
  | _ => none }
def ArrayPacksWrongFalsely : Prop := arrayPacksRow.holds Try.pinned (OpenSpec.ofChange arrayPacksWrong)

/-- 'ringworklaw10.ArrayHalf': WHATEVER THE INPUT: true; the input reads as it did. -/
def arrayHalfSpec : ChangeSpec := { name := "arrayHalf", fn := fun _ => fun
  | [d1, d2, d3] => { results := [.lit (.bool true)], args := [d1, d2, d3] }
  | _ => none }
def arrayHalfRow : OpenClaim := { program := "ytjpobhdgfdeenaa", sum := "6d97169f67302f0a2642e9e9451ace3b9b8fad2a1f35419920064f984e8128da", func := "ringwork/ringworklaw10.ArrayHalf", spec := "arrayHalf", inPlace := ["slices.overlaps[int]", "slices.overlaps[[]int]"], unfollowed := true, recurses := true, apart := false }
def ArrayHalfSaid : Prop := arrayHalfRow.holds Try.pinned (OpenSpec.ofChange arrayHalfSpec)

/-- ITS FALSE NEIGHBOUR: 'it returns false'. Refute it at one input. -/
def arrayHalfWrong : ChangeSpec := { name := "arrayHalf", fn := fun _ => fun
  | [d1, d2, d3] => { results := [.lit (.bool false)], args := [d1, d2, d3] }
  | _ => none }
def ArrayHalfWrongFalsely : Prop := arrayHalfRow.holds Try.pinned (OpenSpec.ofChange arrayHalfWrong)

/-- 'ringworklaw10.ArrayChanges': WHATEVER THE INPUT: true; the input reads as it did. -/
def arrayChangesSpec : ChangeSpec := { name := "arrayChanges", fn := fun _ => fun
  | [d1, d2, d3, d4, d5] => { results := [.lit (.bool true)], args := [d1, d2, d3, d4, d5] }
  | _ => none }
def arrayChangesRow : OpenClaim := { program := "ytjpobhdgfdeenaa", sum := "6d97169f67302f0a2642e9e9451ace3b9b8fad2a1f35419920064f984e8128da", func := "ringwork/ringworklaw10.ArrayChanges", spec := "arrayChanges", inPlace := ["slices.overlaps[int]", "slices.overlaps[[]int]"], unfollowed := true, recurses := true, apart := false }
def ArrayChangesSaid : Prop := arrayChangesRow.holds Try.pinned (OpenSpec.ofChange arrayChangesSpec)

/-- ITS FALSE NEIGHBOUR: 'it returns false'. Refute it at one input. -/
def arrayChangesWrong : ChangeSpec := { name := "arrayChanges", fn := fun _ => fun
  | [d1, d2, d3, d4, d5] => { results := [.lit (.bool false)], args := [d1, d2, d3, d4, d5] }
  | _ => none }
def ArrayChangesWrongFalsely : Prop := arrayChangesRow.holds Try.pinned (OpenSpec.ofChange arrayChangesWrong)

/- THE SECOND FORM. 'bulk': how many values and letters a reading holds, each counted each time it is reached (what is shared counts as often as it is met; a slice's spare places count too). A statement '..UptoSaid' is the law's where the arguments, and the package variables that the reading takes, are together of bulk at most 1048576: NARROWER than '..Said'. Prove '..Said' where nothing that the law and all that it calls make is longer than what came in: it says more and counts as full. Else prove '..UptoSaid'. A law counts once. -/
mutual
def uptoBulk {H : Type} : DataW H → Nat
  | .lit (.string bytes) => bytes.length + 1
  | .lit _ => 1
  | .nil => 1
  | .ptr d => uptoBulk d + 1
  | .slice elems spare => uptoBulkAll elems + uptoBulkAll spare + 1
  | .agg parts => uptoBulkAll parts + 1
  | .iface _ d => uptoBulk d + 1
  | .map entries => uptoBulkEntries entries + 1
  | .held _ => 1
def uptoBulkAll {H : Type} : List (DataW H) → Nat
  | [] => 0
  | d :: r => uptoBulk d + uptoBulkAll r
def uptoBulkEntries {H : Type} : List (Lit × DataW H) → Nat
  | [] => 0
  | x :: r => uptoBulkEntry x + uptoBulkEntries r
def uptoBulkEntry {H : Type} : Lit × DataW H → Nat
  | (.string bytes, d) => bytes.length + uptoBulk d + 1
  | (_, d) => uptoBulk d + 1
 end
def uptoSmall : (H : Type) → List (DataW H) → Bool := fun _ ds => decide (uptoBulkAll ds ≤ 1048576)
def OpenSpec.upto (s : _root_.Go.ChangeSpec) : _root_.Go.OpenSpec := { _root_.Go.OpenSpec.ofChange s with cond := some uptoSmall }

/-- 'ringworklaw10.ArrayMakes', WHERE WHAT IT READS IS OF BULK AT MOST 1048576: true; the input reads as it did. -/
def arrayMakesUptoRow : OpenClaim := { program := "ytjpobhdgfdeenaa", sum := "6d97169f67302f0a2642e9e9451ace3b9b8fad2a1f35419920064f984e8128da", func := "ringwork/ringworklaw10.ArrayMakes", spec := "arrayMakes", inPlace := ["slices.overlaps[int]", "slices.overlaps[[]int]"], unfollowed := true, recurses := true, apart := false, narrowed := true }
def ArrayMakesUptoSaid : Prop := arrayMakesUptoRow.holds Try.pinned (OpenSpec.upto arrayMakesSpec)

/-- 'ringworklaw10.ArrayWrong', WHERE WHAT IT READS IS OF BULK AT MOST 1048576: true; the input reads as it did. -/
def arrayWrongUptoRow : OpenClaim := { program := "ytjpobhdgfdeenaa", sum := "6d97169f67302f0a2642e9e9451ace3b9b8fad2a1f35419920064f984e8128da", func := "ringwork/ringworklaw10.ArrayWrong", spec := "arrayWrong", inPlace := ["slices.overlaps[int]", "slices.overlaps[[]int]"], unfollowed := true, recurses := true, apart := false, narrowed := true }
def ArrayWrongUptoSaid : Prop := arrayWrongUptoRow.holds Try.pinned (OpenSpec.upto arrayWrongSpec)

/-- 'ringworklaw10.ArrayFinds', WHERE WHAT IT READS IS OF BULK AT MOST 1048576: true; the input reads as it did. -/
def arrayFindsUptoRow : OpenClaim := { program := "ytjpobhdgfdeenaa", sum := "6d97169f67302f0a2642e9e9451ace3b9b8fad2a1f35419920064f984e8128da", func := "ringwork/ringworklaw10.ArrayFinds", spec := "arrayFinds", inPlace := ["slices.overlaps[int]", "slices.overlaps[[]int]"], unfollowed := true, recurses := true, apart := false, narrowed := true }
def ArrayFindsUptoSaid : Prop := arrayFindsUptoRow.holds Try.pinned (OpenSpec.upto arrayFindsSpec)

/-- 'ringworklaw10.ArrayPacks', WHERE WHAT IT READS IS OF BULK AT MOST 1048576: true; the input reads as it did. -/
def arrayPacksUptoRow : OpenClaim := { program := "ytjpobhdgfdeenaa", sum := "6d97169f67302f0a2642e9e9451ace3b9b8fad2a1f35419920064f984e8128da", func := "ringwork/ringworklaw10.ArrayPacks", spec := "arrayPacks", inPlace := ["slices.overlaps[int]", "slices.overlaps[[]int]"], unfollowed := true, recurses := true, apart := false, narrowed := true }
def ArrayPacksUptoSaid : Prop := arrayPacksUptoRow.holds Try.pinned (OpenSpec.upto arrayPacksSpec)

/-- 'ringworklaw10.ArrayHalf', WHERE WHAT IT READS IS OF BULK AT MOST 1048576: true; the input reads as it did. -/
def arrayHalfUptoRow : OpenClaim := { program := "ytjpobhdgfdeenaa", sum := "6d97169f67302f0a2642e9e9451ace3b9b8fad2a1f35419920064f984e8128da", func := "ringwork/ringworklaw10.ArrayHalf", spec := "arrayHalf", inPlace := ["slices.overlaps[int]", "slices.overlaps[[]int]"], unfollowed := true, recurses := true, apart := false, narrowed := true }
def ArrayHalfUptoSaid : Prop := arrayHalfUptoRow.holds Try.pinned (OpenSpec.upto arrayHalfSpec)

/-- 'ringworklaw10.ArrayChanges', WHERE WHAT IT READS IS OF BULK AT MOST 1048576: true; the input reads as it did. -/
def arrayChangesUptoRow : OpenClaim := { program := "ytjpobhdgfdeenaa", sum := "6d97169f67302f0a2642e9e9451ace3b9b8fad2a1f35419920064f984e8128da", func := "ringwork/ringworklaw10.ArrayChanges", spec := "arrayChanges", inPlace := ["slices.overlaps[int]", "slices.overlaps[[]int]"], unfollowed := true, recurses := true, apart := false, narrowed := true }
def ArrayChangesUptoSaid : Prop := arrayChangesUptoRow.holds Try.pinned (OpenSpec.upto arrayChangesSpec)

end Rows
end Go.Proofs.Ytjpobhdgfdeenaa
