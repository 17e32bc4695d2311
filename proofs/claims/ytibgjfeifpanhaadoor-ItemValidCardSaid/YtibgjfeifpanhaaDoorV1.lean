/- A map from texts to bools that the call has made and that holds true at each key that it has. -/
import Derived.Test.YtibgjfeifpanhaaDoorProg
import Derived.Below
import Derived.Deep.Draws
import Derived.Deep.AppendLies
import Derived.Maps.AppendAt
import Derived.Maps.OwnSet
import Derived.OwnWalk
import Derived.Laws.BytesArg
import Derived.Laws.MakeOwn
import Derived.Laws.OwnMore
import Derived.Deep.OwnRows
import Derived.Tactics
import Derived.Laws.Slices
import Derived.WalkKit
import Derived.KernelRfl
import Derived.RowKit3
import Derived.Deep.LoopGhost
import Derived.Deep.QuietTactic
import Derived.BigQuiet
import Derived.WideLaws
import Derived.Deep.DeepCutAuto
import Derived.Deep.CutBlock
import Derived.Deep.RegionHeld3
import Derived.Laws.Rows
import Derived.ArgAppend
import Derived.Laws.IdiomCopy
import Derived.OrdersHeld
import Derived.Laws.BitsLemmas
import Derived.Outline
import Derived.WalkSpells
import Derived.Lib.Hide
import Derived.RowKit
import Derived.Deep.DeepMust
import Derived.Laws.EntriesVeiled
import Derived.StringKeys
import Derived.Test.YtibgjfeifpanhaaDoorP5
set_option linter.unusedVariables false
set_option linter.unusedSimpArgs false
namespace Go.Proofs.YtibgjfeifpanhaaDoor.B
open Go.RowKit Go.Proofs.YtibgjfeifpanhaaDoorW.PrintWords Go.Maps PItemValid

theorem law9 : Keyed Tryd.prog 9 := string_keyed Tryd.underlying9
theorem zero4 (w : World) : (zeroValue 4).run Tryd.prog w = .ok (.bool false) w := by kernel_rfl
theorem plainElem_bool_inv {e : TypeId} (he : Tryd.prog.underlying e = some .bool) {v : Value} {z : DataW Unit × List MemPlace} (h : plainElem Tryd.prog e v = some z) : ∃ a, v = .bool a ∧ z = (.lit (.bool a), []) := by
  unfold plainElem at h
  rw [he] at h
  cases v <;> simp at h
  exact ⟨_, rfl, h.symm⟩
abbrev nmL (s : ByteArray) : List UInt8 := s.data.toList
/-- Block b is a map whose keys are S, each with true. -/
def Met (w : World) (b : Nat) (S : List (List UInt8)) : Prop :=
  ∃ D : DataW Unit, w.ownsMap Tryd.prog 9 (plainElem Tryd.prog 4) b S.length D ∧ Maps.size D = S.length ∧ ∀ x : ByteArray, x.size ≤ 1000000 → D.atKey (.string (nmL x)) (.lit (.bool false)) = .lit (.bool (decide (nmL x ∈ S))) ∧ Maps.has D (.string (nmL x)) = decide (nmL x ∈ S)
theorem met_made (w : World) : Met (w.alloc (.map #[] 0)) w.heap.size [] :=
  ⟨.map [], World.ownsMap_made _ _ _ _, rfl, fun x _ => by simp [DataW.atKey, Maps.has]⟩
theorem Met.lt {w : World} {b : Nat} {S : List (List UInt8)} (h : Met w b S) : b < w.heap.size := by
  obtain ⟨D, h1, _⟩ := h
  exact h1.lt
theorem Met.kept {w w' : World} {b : Nat} {S : List (List UInt8)} {row : Option Nat} (h : Met w b S) (hg : w.grownBy w' row) (hne : some b ≠ row) : Met w' b S := by
  obtain ⟨D, h1, h2⟩ := h
  exact ⟨D, h1.kept hg hne, h2⟩
theorem Met.below {w w' : World} {b : Nat} {S : List (List UInt8)} (h : Met w b S) (hb : Below w.heap.size w w') : Met w' b S := h.kept (grown_of_below hb none) (by simp)
theorem keyOf_name {x : ByteArray} (h : x.size ≤ 1000000) : keyOf Tryd.prog 9 (.string x) = some (.string (nmL x)) := by
  exact Go.WideMaps.keyOf_string_mk Tryd.underlying9 (by unfold maxLen; omega)
set_option maxRecDepth 100000 in
theorem Met.look {w : World} {b : Nat} {S : List (List UInt8)} (h : Met w b S) {x : ByteArray} (hx : x.size ≤ 1000000) : (Instr.lookup 69 (.map (some b)) (.string x) false).run Tryd.prog w = .ok (.bool (decide (nmL x ∈ S))) w := by
  obtain ⟨D, h1, h2, h3⟩ := h
  obtain ⟨v, ps, hrun, hv⟩ := h1.lookup law9 Tryd.underlying69 (zero4 w) (plainElem_bool Tryd.underlying4 false) (keyOf_name hx)
  rw [(h3 x hx).1] at hv
  obtain ⟨a, rfl, ha⟩ := plainElem_bool_inv Tryd.underlying4 hv
  injection ha with ha
  injection ha with ha
  injection ha with ha
  rw [hrun, ha]
set_option maxRecDepth 100000 in
theorem Met.put {w : World} {b : Nat} {S : List (List UInt8)} (h : Met w b S) {x : ByteArray} (hx : x.size ≤ 1000000) (hn : nmL x ∉ S) (hm : S.length < maxLen) :
    ∃ w', (Instr.mapUpdate 69 (.map (some b)) (.string x) (.bool true)).run Tryd.prog w = .ok () w' ∧ Met w' b (S ++ [nmL x]) ∧ w.grownBy w' (some b) := by
  obtain ⟨D, h1, h2, h3⟩ := h
  obtain ⟨w', hr, hw, hg⟩ := h1.update law9 Tryd.underlying69 hm (keyOf_name hx) (plainElem_bool Tryd.underlying4 true)
  have hk : WideAt.IsKeyLit (.string (nmL x)) := trivial
  refine ⟨w', hr, ⟨_, by simpa using hw, ?_, fun y hy => ?_⟩, hg⟩
  · rw [size_put (h1.tidy law9), (h3 x hx).2, h2]
    simp [hn]
  · by_cases e : nmL y = nmL x
    · rw [e, atKey_put_same h1.isMap hk, has_put_same h1.isMap hk]
      simp
    · have e' : Lit.string (nmL y) ≠ Lit.string (nmL x) := fun h => e (by injection h)
      rw [atKey_put_other e', has_put_other e', (h3 y hy).1, (h3 y hy).2]
      simp [e]
end Go.Proofs.YtibgjfeifpanhaaDoor.B
