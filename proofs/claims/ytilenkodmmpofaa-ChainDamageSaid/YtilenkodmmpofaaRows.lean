/-
  No cell of these rows narrows 'for every input' (looked for: loops, veiled, ifaces, maps, wideKeys, modest, calm, conditions, laid).
  DERIVED. THE GIVEN ROWS OF THIS SEAT. 6 by the template 'for every input the law returns true; each argument reads behind the call as it read before'; 0 by the template 'total and deterministic' (their statements: YtilenkodmmpofaaTotals.lean).
  GIVEN WITH THE SEED: the statements are not yours to turn. If you find one false, say at which input.
  Laid BY PROGRAM, IN A SANDBOX (cutbox-rows.mjs): the forced cells as the released guide's own fill.sh prints them over the translation 1a4114e4754c172e… (all of the seat's roots in one cut). By AI agents, Wed Nov 11 2026. No macro, syntax, notation, axiom, sorry.
-/
import Derived.Test.YtilenkodmmpofaaChecked
import GoSem.Claim
import GoSem.ClaimJoined
import GoSem.ClaimMapViews
import Derived.JoinedTies
import Derived.KernelRfl
namespace Go.Proofs.Ytilenkodmmpofaa
/- THE CELL 'sum', in the pinned program and in every row, IS THE sha256 OF THE DUMP (.gsa) THAT YtilenkodmmpofaaProg.lean LOADS. Nothing in Lean hashes anything: it is a label: what it is worth is what the hold of that sum in a sandbox is worth. -/
noncomputable def Try.pinned : Pinned := { name := "ytilenkodmmpofaa", sum := "1a4114e4754c172ed7b6011899271119411609cf9139b8ff03df64ad9229d527", checked := Try.checked }
namespace Rows
def none {H : Type} : Left H := { results := [], args := [] }

/-- 'ringworklaw09.ChainDamage': WHATEVER THE INPUT: true; the input reads as it did. -/
def chainDamageSpec : ChangeSpec := { name := "chainDamage", fn := fun _ => fun
  | [d1, d2, d3, d4, d5] => { results := [.lit (.bool true)], args := [d1, d2, d3, d4, d5] }
  | _ => none }
def chainDamageRow : OpenClaim := { program := "ytilenkodmmpofaa", sum := "1a4114e4754c172ed7b6011899271119411609cf9139b8ff03df64ad9229d527", func := "ringwork/ringworklaw09.ChainDamage", spec := "chainDamage", unfollowed := true, recurses := true, plainKeys := false, apart := false }
def ChainDamageSaid : Prop := chainDamageRow.holds Try.pinned (OpenSpec.ofChange chainDamageSpec)

/-- ITS FALSE NEIGHBOUR: 'it returns false'. Refute it at one input. -/
def chainDamageWrong : ChangeSpec := { name := "chainDamage", fn := fun _ => fun
  | [d1, d2, d3, d4, d5] => { results := [.lit (.bool false)], args := [d1, d2, d3, d4, d5] }
  | _ => none }
def ChainDamageWrongFalsely : Prop := chainDamageRow.holds Try.pinned (OpenSpec.ofChange chainDamageWrong)

/-- 'ringworklaw09.ChainMakes': WHATEVER THE INPUT: true; the input reads as it did. -/
def chainMakesSpec : ChangeSpec := { name := "chainMakes", fn := fun _ => fun
  | [d1, d2] => { results := [.lit (.bool true)], args := [d1, d2] }
  | _ => none }
def chainMakesRow : OpenClaim := { program := "ytilenkodmmpofaa", sum := "1a4114e4754c172ed7b6011899271119411609cf9139b8ff03df64ad9229d527", func := "ringwork/ringworklaw09.ChainMakes", spec := "chainMakes", unfollowed := true, recurses := true, plainKeys := false, apart := false }
def ChainMakesSaid : Prop := chainMakesRow.holds Try.pinned (OpenSpec.ofChange chainMakesSpec)

/-- ITS FALSE NEIGHBOUR: 'it returns false'. Refute it at one input. -/
def chainMakesWrong : ChangeSpec := { name := "chainMakes", fn := fun _ => fun
  | [d1, d2] => { results := [.lit (.bool false)], args := [d1, d2] }
  | _ => none }
def ChainMakesWrongFalsely : Prop := chainMakesRow.holds Try.pinned (OpenSpec.ofChange chainMakesWrong)

/-- 'ringworklaw09.ChainWrong': WHATEVER THE INPUT: true; the input reads as it did. -/
def chainWrongSpec : ChangeSpec := { name := "chainWrong", fn := fun _ => fun
  | [d] => { results := [.lit (.bool true)], args := [d] }
  | _ => none }
def chainWrongRow : OpenClaim := { program := "ytilenkodmmpofaa", sum := "1a4114e4754c172ed7b6011899271119411609cf9139b8ff03df64ad9229d527", func := "ringwork/ringworklaw09.ChainWrong", spec := "chainWrong", unfollowed := true, recurses := true, plainKeys := false, apart := false }
def ChainWrongSaid : Prop := chainWrongRow.holds Try.pinned (OpenSpec.ofChange chainWrongSpec)

/-- ITS FALSE NEIGHBOUR: 'it returns false'. Refute it at one input. -/
def chainWrongWrong : ChangeSpec := { name := "chainWrong", fn := fun _ => fun
  | [d] => { results := [.lit (.bool false)], args := [d] }
  | _ => none }
def ChainWrongWrongFalsely : Prop := chainWrongRow.holds Try.pinned (OpenSpec.ofChange chainWrongWrong)

/-- 'ringworklaw09.ChainSteps': WHATEVER THE INPUT: true; the input reads as it did. -/
def chainStepsSpec : ChangeSpec := { name := "chainSteps", fn := fun _ => fun
  | [d1, d2, d3, d4] => { results := [.lit (.bool true)], args := [d1, d2, d3, d4] }
  | _ => none }
def chainStepsRow : OpenClaim := { program := "ytilenkodmmpofaa", sum := "1a4114e4754c172ed7b6011899271119411609cf9139b8ff03df64ad9229d527", func := "ringwork/ringworklaw09.ChainSteps", spec := "chainSteps", unfollowed := true, recurses := true, plainKeys := false, apart := false }
def ChainStepsSaid : Prop := chainStepsRow.holds Try.pinned (OpenSpec.ofChange chainStepsSpec)

/-- ITS FALSE NEIGHBOUR: 'it returns false'. Refute it at one input. -/
def chainStepsWrong : ChangeSpec := { name := "chainSteps", fn := fun _ => fun
  | [d1, d2, d3, d4] => { results := [.lit (.bool false)], args := [d1, d2, d3, d4] }
  | _ => none }
def ChainStepsWrongFalsely : Prop := chainStepsRow.holds Try.pinned (OpenSpec.ofChange chainStepsWrong)

/-- 'ringworklaw09.ChainChanges': WHATEVER THE INPUT: true; the input reads as it did. -/
def chainChangesSpec : ChangeSpec := { name := "chainChanges", fn := fun _ => fun
  | [d1, d2, d3, d4] => { results := [.lit (.bool true)], args := [d1, d2, d3, d4] }
  | _ => none }
def chainChangesRow : OpenClaim := { program := "ytilenkodmmpofaa", sum := "1a4114e4754c172ed7b6011899271119411609cf9139b8ff03df64ad9229d527", func := "ringwork/ringworklaw09.ChainChanges", spec := "chainChanges", inPlace := ["slices.overlaps[int]"], unfollowed := true, recurses := true, plainKeys := false, apart := false }
def ChainChangesSaid : Prop := chainChangesRow.holds Try.pinned (OpenSpec.ofChange chainChangesSpec)

/-- ITS FALSE NEIGHBOUR: 'it returns false'. Refute it at one input. -/
def chainChangesWrong : ChangeSpec := { name := "chainChanges", fn := fun _ => fun
  | [d1, d2, d3, d4] => { results := [.lit (.bool false)], args := [d1, d2, d3, d4] }
  | _ => none }
def ChainChangesWrongFalsely : Prop := chainChangesRow.holds Try.pinned (OpenSpec.ofChange chainChangesWrong)

/-- 'ringworklaw09.ChainMoves': WHATEVER THE INPUT: true; the input reads as it did. -/
def chainMovesSpec : ChangeSpec := { name := "chainMoves", fn := fun _ => fun
  | [d1, d2, d3, d4, d5, d6] => { results := [.lit (.bool true)], args := [d1, d2, d3, d4, d5, d6] }
  | _ => none }
def chainMovesRow : OpenClaim := { program := "ytilenkodmmpofaa", sum := "1a4114e4754c172ed7b6011899271119411609cf9139b8ff03df64ad9229d527", func := "ringwork/ringworklaw09.ChainMoves", spec := "chainMoves", inPlace := ["slices.overlaps[int]"], unfollowed := true, recurses := true, plainKeys := false, apart := false }
def ChainMovesSaid : Prop := chainMovesRow.holds Try.pinned (OpenSpec.ofChange chainMovesSpec)

/-- ITS FALSE NEIGHBOUR: 'it returns false'. Refute it at one input. -/
def chainMovesWrong : ChangeSpec := { name := "chainMoves", fn := fun _ => fun
  | [d1, d2, d3, d4, d5, d6] => { results := [.lit (.bool false)], args := [d1, d2, d3, d4, d5, d6] }
  | _ => none }
def ChainMovesWrongFalsely : Prop := chainMovesRow.holds Try.pinned (OpenSpec.ofChange chainMovesWrong)

/- THE SECOND FORM. 'bulk': how many values and letters a reading holds, each counted each time it is reached (what is shared counts as often as it is met; a slice's spare places count too). A statement '..UptoSaid' is the law's where the arguments, and the package variables that the reading takes, are together of bulk at most 1048576: NARROWER than '..Said'. Prove '..Said' where nothing that the law and all that it calls make is longer than what came in: it says more and counts as full. Else prove '..UptoSaid'. A law counts once. -/
mutual
def uptoBulk {H : Type} : DataW H → Nat
  | .lit (.string bytes) => bytes.length + 1
  | .lit _ => 1
  | .nil => 1
  | .ptr d => uptoBulk d + 1
  | .slice elems spare => uptoBulkAll elems + uptoBulkAll spare + 1
  | .agg parts => uptoBulkAll parts + 1
  | .iface _ d => uptoBulk d + 1
  | .map entries => uptoBulkEntries entries + 1
  | .held _ => 1
def uptoBulkAll {H : Type} : List (DataW H) → Nat
  | [] => 0
  | d :: r => uptoBulk d + uptoBulkAll r
def uptoBulkEntries {H : Type} : List (Lit × DataW H) → Nat
  | [] => 0
  | x :: r => uptoBulkEntry x + uptoBulkEntries r
def uptoBulkEntry {H : Type} : Lit × DataW H → Nat
  | (.string bytes, d) => bytes.length + uptoBulk d + 1
  | (_, d) => uptoBulk d + 1
 end
def uptoSmall : (H : Type) → List (DataW H) → Bool := fun _ ds => decide (uptoBulkAll ds ≤ 1048576)
def OpenSpec.upto (s : _root_.Go.ChangeSpec) : _root_.Go.OpenSpec := { _root_.Go.OpenSpec.ofChange s with cond := some uptoSmall }

/-- 'ringworklaw09.ChainDamage', WHERE WHAT IT READS IS OF BULK AT MOST 1048576: true; the input reads as it did. -/
def chainDamageUptoRow : OpenClaim := { program := "ytilenkodmmpofaa", sum := "1a4114e4754c172ed7b6011899271119411609cf9139b8ff03df64ad9229d527", func := "ringwork/ringworklaw09.ChainDamage", spec := "chainDamage", unfollowed := true, recurses := true, plainKeys := false, apart := false, narrowed := true }
def ChainDamageUptoSaid : Prop := chainDamageUptoRow.holds Try.pinned (OpenSpec.upto chainDamageSpec)

/-- 'ringworklaw09.ChainMakes', WHERE WHAT IT READS IS OF BULK AT MOST 1048576: true; the input reads as it did. -/
def chainMakesUptoRow : OpenClaim := { program := "ytilenkodmmpofaa", sum := "1a4114e4754c172ed7b6011899271119411609cf9139b8ff03df64ad9229d527", func := "ringwork/ringworklaw09.ChainMakes", spec := "chainMakes", unfollowed := true, recurses := true, plainKeys := false, apart := false, narrowed := true }
def ChainMakesUptoSaid : Prop := chainMakesUptoRow.holds Try.pinned (OpenSpec.upto chainMakesSpec)

/-- 'ringworklaw09.ChainWrong', WHERE WHAT IT READS IS OF BULK AT MOST 1048576: true; the input reads as it did. -/
def chainWrongUptoRow : OpenClaim := { program := "ytilenkodmmpofaa", sum := "1a4114e4754c172ed7b6011899271119411609cf9139b8ff03df64ad9229d527", func := "ringwork/ringworklaw09.ChainWrong", spec := "chainWrong", unfollowed := true, recurses := true, plainKeys := false, apart := false, narrowed := true }
def ChainWrongUptoSaid : Prop := chainWrongUptoRow.holds Try.pinned (OpenSpec.upto chainWrongSpec)

/-- 'ringworklaw09.ChainSteps', WHERE WHAT IT READS IS OF BULK AT MOST 1048576: true; the input reads as it did. -/
def chainStepsUptoRow : OpenClaim := { program := "ytilenkodmmpofaa", sum := "1a4114e4754c172ed7b6011899271119411609cf9139b8ff03df64ad9229d527", func := "ringwork/ringworklaw09.ChainSteps", spec := "chainSteps", unfollowed := true, recurses := true, plainKeys := false, apart := false, narrowed := true }
def ChainStepsUptoSaid : Prop := chainStepsUptoRow.holds Try.pinned (OpenSpec.upto chainStepsSpec)

/-- 'ringworklaw09.ChainChanges', WHERE WHAT IT READS IS OF BULK AT MOST 1048576: true; the input reads as it did. -/
def chainChangesUptoRow : OpenClaim := { program := "ytilenkodmmpofaa", sum := "1a4114e4754c172ed7b6011899271119411609cf9139b8ff03df64ad9229d527", func := "ringwork/ringworklaw09.ChainChanges", spec := "chainChanges", inPlace := ["slices.overlaps[int]"], unfollowed := true, recurses := true, plainKeys := false, apart := false, narrowed := true }
def ChainChangesUptoSaid : Prop := chainChangesUptoRow.holds Try.pinned (OpenSpec.upto chainChangesSpec)

/-- 'ringworklaw09.ChainMoves', WHERE WHAT IT READS IS OF BULK AT MOST 1048576: true; the input reads as it did. -/
def chainMovesUptoRow : OpenClaim := { program := "ytilenkodmmpofaa", sum := "1a4114e4754c172ed7b6011899271119411609cf9139b8ff03df64ad9229d527", func := "ringwork/ringworklaw09.ChainMoves", spec := "chainMoves", inPlace := ["slices.overlaps[int]"], unfollowed := true, recurses := true, plainKeys := false, apart := false, narrowed := true }
def ChainMovesUptoSaid : Prop := chainMovesUptoRow.holds Try.pinned (OpenSpec.upto chainMovesSpec)

end Rows
end Go.Proofs.Ytilenkodmmpofaa
