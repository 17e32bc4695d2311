/- A map from whole numbers to bools that the call has made and that holds true at each key that it has: which keys, in which number. -/
import Derived.Test.YtjpobhdgfdeenaaProg
import Derived.Below
import Derived.Deep.Draws
import Derived.Deep.AppendLies
import Derived.Maps.AppendAt
import Derived.Maps.OwnSet
import Derived.OwnWalk
import Derived.Laws.BytesArg
import Derived.Laws.MakeOwn
import Derived.Laws.OwnMore
import Derived.Deep.OwnRows
import Derived.Tactics
import Derived.Laws.Slices
import Derived.WalkKit
import Derived.KernelRfl
import Derived.RowKit3
import Derived.Deep.LoopGhost
import Derived.Deep.QuietTactic
import Derived.BigQuiet
import Derived.WideLaws
import Derived.Deep.DeepCutAuto
import Derived.Deep.CutBlock
import Derived.Deep.RegionHeld3
import Derived.Laws.Rows
import Derived.ArgAppend
import Derived.Laws.IdiomCopy
import Derived.OrdersHeld
import Derived.Laws.BitsLemmas
import Derived.Outline
import Derived.WalkSpells
import Derived.Lib.Hide
import Derived.RowKit
import Derived.Test.YtjpobhdgfdeenaaWWords
namespace Go.Proofs.Ytjpobhdgfdeenaa.A
open Go.RowKit Go.Proofs.YtjpobhdgfdeenaaW.PrintWords Go.Maps

theorem law3 : Keyed Try.prog 3 := int_keyed Try.underlying3
theorem zero4 (w : World) : (zeroValue 4).run Try.prog w = .ok (.bool false) w := by kernel_rfl
def wfi (x : Int) : Prop := -9223372036854775808 ≤ x ∧ x ≤ 9223372036854775807
theorem wfi_wf {x : Int} (h : wfi x) : (Lit.int .i64 x).wf = true := WalkArith.wf_i64 h
theorem plainElem_bool_inv {e : TypeId} (he : Try.prog.underlying e = some .bool) {v : Value} {z : DataW Unit × List MemPlace} (h : plainElem Try.prog e v = some z) : ∃ a, v = .bool a ∧ z = (.lit (.bool a), []) := by
  unfold plainElem at h
  rw [he] at h
  cases v <;> simp at h
  exact ⟨_, rfl, h.symm⟩
/-- Block b is a map whose keys are S, each with true. -/
def Met (w : World) (b : Nat) (S : List Int) : Prop :=
  ∃ D : DataW Unit, w.ownsMap Try.prog 3 (plainElem Try.prog 4) b S.length D ∧ Maps.size D = S.length ∧ ∀ x, wfi x → D.atKey (.int .i64 x) (.lit (.bool false)) = .lit (.bool (decide (x ∈ S))) ∧ Maps.has D (.int .i64 x) = decide (x ∈ S)
theorem met_made (w : World) : Met (w.alloc (.map #[] 0)) w.heap.size [] :=
  ⟨.map [], World.ownsMap_made _ _ _ _, rfl, fun x _ => by simp [DataW.atKey, Maps.has]⟩
theorem Met.lt {w : World} {b : Nat} {S : List Int} (h : Met w b S) : b < w.heap.size := by
  obtain ⟨D, h1, _⟩ := h
  exact h1.lt
theorem Met.kept {w w' : World} {b : Nat} {S : List Int} {row : Option Nat} (h : Met w b S) (hg : w.grownBy w' row) (hne : some b ≠ row) : Met w' b S := by
  obtain ⟨D, h1, h2⟩ := h
  exact ⟨D, h1.kept hg hne, h2⟩
theorem Met.below {w w' : World} {b : Nat} {S : List Int} (h : Met w b S) (hb : Below w.heap.size w w') : Met w' b S := h.kept (grown_of_below hb none) (by simp)
theorem Met.look {w : World} {b : Nat} {S : List Int} (h : Met w b S) {x : Int} (hx : wfi x) : (Instr.lookup 52 (.map (some b)) (.int .i64 x) false).run Try.prog w = .ok (.bool (decide (x ∈ S))) w := by
  obtain ⟨D, h1, h2, h3⟩ := h
  obtain ⟨v, ps, hrun, hv⟩ := h1.lookup law3 Try.underlying52 (zero4 w) (plainElem_bool Try.underlying4 false) (keyOf_int_mk Try.underlying3 (wfi_wf hx))
  rw [(h3 x hx).1] at hv
  obtain ⟨a, rfl, ha⟩ := plainElem_bool_inv Try.underlying4 hv
  injection ha with ha
  injection ha with ha
  injection ha with ha
  rw [hrun, ha]
theorem Met.len {w : World} {b : Nat} {S : List Int} (h : Met w b S) (ty : TypeId) : (Builtin.len_ #[52] ty #[.map (some b)]).run Try.prog w = .ok (.int .i64 (S.length : Int)) w := by
  obtain ⟨D, h1, h2, h3⟩ := h
  rw [h1.len Try.underlying52 ty, h2]
theorem Met.put {w : World} {b : Nat} {S : List Int} (h : Met w b S) {x : Int} (hx : wfi x) (hn : x ∉ S) (hm : S.length < maxLen) :
    ∃ w', (Instr.mapUpdate 52 (.map (some b)) (.int .i64 x) (.bool true)).run Try.prog w = .ok () w' ∧ Met w' b (S ++ [x]) ∧ w.grownBy w' (some b) := by
  obtain ⟨D, h1, h2, h3⟩ := h
  obtain ⟨w', hr, hw, hg⟩ := h1.update law3 Try.underlying52 hm (keyOf_int_mk Try.underlying3 (wfi_wf hx)) (plainElem_bool Try.underlying4 true)
  have hk : WideAt.IsKeyLit (.int .i64 x) := trivial
  refine ⟨w', hr, ⟨_, by simpa using hw, ?_, fun y hy => ?_⟩, hg⟩
  · rw [size_put (h1.tidy law3), (h3 x hx).2, h2]
    simp [hn]
  · by_cases e : y = x
    · subst e
      rw [atKey_put_same h1.isMap hk, has_put_same h1.isMap hk]
      simp
    · have e' : Lit.int .i64 y ≠ Lit.int .i64 x := fun h => e (by injection h)
      rw [atKey_put_other e', has_put_other e', (h3 y hy).1, (h3 y hy).2]
      simp [e]
end Go.Proofs.Ytjpobhdgfdeenaa.A
