/- The laws' example: awake. -/
import Derived.Test.YtibgjfeifpanhaaDoorProg
import Derived.Below
import Derived.Deep.Draws
import Derived.Deep.AppendLies
import Derived.Maps.AppendAt
import Derived.Maps.OwnSet
import Derived.OwnWalk
import Derived.Laws.BytesArg
import Derived.Laws.MakeOwn
import Derived.Laws.OwnMore
import Derived.Deep.OwnRows
import Derived.Tactics
import Derived.Laws.Slices
import Derived.WalkKit
import Derived.KernelRfl
import Derived.RowKit3
import Derived.Deep.LoopGhost
import Derived.Deep.QuietTactic
import Derived.BigQuiet
import Derived.WideLaws
import Derived.Deep.DeepCutAuto
import Derived.Deep.CutBlock
import Derived.Deep.RegionHeld3
import Derived.Laws.Rows
import Derived.ArgAppend
import Derived.Laws.IdiomCopy
import Derived.OrdersHeld
import Derived.Laws.BitsLemmas
import Derived.Outline
import Derived.WalkSpells
import Derived.Lib.Hide
import Derived.RowKit
import Derived.Deep.DeepMust
import Derived.Laws.EntriesVeiled
import Derived.Test.YtibgjfeifpanhaaDoorE3
set_option linter.unusedVariables false
set_option linter.unusedSimpArgs false
namespace Go.Proofs.YtibgjfeifpanhaaDoor.B
open Go.RowKit Go.Shelf Go.Proofs.YtibgjfeifpanhaaDoorW.PrintWords Go.Maps PItemValid

def awRow : List S29 := [⟨1, -5, ⟨#[]⟩⟩, ⟨2, 0, ⟨#[97, 34, 98]⟩⟩]
theorem aw_C (w : World) : Kd.C k29 (w.alloc (.cells #[.int .i64 1, .int .i64 (-5), .string ⟨#[]⟩, .int .i64 2, .int .i64 0, .string ⟨#[97, 34, 98]⟩] 29)) (some ⟨w.heap.size, 0, none⟩) 2 awRow := by
  refine ⟨rfl, by decide, fun _ => ⟨_, rfl, fun j p hj => ?_⟩⟩
  have hcell : ∀ i, (w.alloc (.cells #[.int .i64 1, .int .i64 (-5), .string ⟨#[]⟩, .int .i64 2, .int .i64 0, .string ⟨#[97, 34, 98]⟩] 29)).cell? ((⟨w.heap.size, 0, none⟩ : Addr).add i) = (#[.int .i64 1, .int .i64 (-5), .string ⟨#[]⟩, .int .i64 2, .int .i64 0, .string ⟨#[97, 34, 98]⟩] : Array Value)[i]? := fun i => by
    have e : (⟨w.heap.size, 0, none⟩ : Addr).add i = ⟨w.heap.size, i, none⟩ := by unfold Addr.add; split <;> simp_all
    rw [e, World.cell?_alloc_new]
  match j, hj with
  | 0, hj =>
    cases hj
    exact ⟨_, rfl, k29_mk _ _, fun i u hu => by
      rw [hcell, ← hu, show 0 * k29.sz + i = i by omega]
      match i, hu with
      | 0, _ => rfl
      | 1, _ => rfl
      | 2, _ => rfl⟩
  | 1, hj =>
    cases hj
    exact ⟨_, rfl, k29_mk _ _, fun i u hu => by
      rw [hcell, ← hu]
      match i, hu with
      | 0, _ => rfl
      | 1, _ => rfl
      | 2, _ => rfl⟩
theorem aw_text : textF awRow = ⟨#[45, 53, 44, 34, 97, 92, 34, 98, 34]⟩ := by
  unfold textF
  rw [if_pos (by decide +kernel)]
  decide +kernel
theorem awake_calls (w : World) (htab : TabOk w) : Calls Tryd.prog 11 #[] w fun e w' => e = .returned (.bool true) ∧ Below w.heap.size w w' := by
  have HT := Aside0.mk (htab.below (below_alloc (Below.refl _ _) (.cells #[.int .i64 1, .int .i64 (-5), .string ⟨#[]⟩, .int .i64 2, .int .i64 0, .string ⟨#[97, 34, 98]⟩] 29)))
  have HC := Aside0.mk (Text_calls _ 2 awRow _ (aw_C w) HT.out)
  rw [aw_text] at HC
  go_enter Tryd.func11, Tryd.ntmps11
  go_wp2_with (go_at_call 44; go_must (refine HC.out.mono ?_; rintro e w2 ⟨rfl, hb⟩))
  go_ret
  exact ⟨rfl, below_then (below_alloc (Below.refl _ _) _) hb⟩
end Go.Proofs.YtibgjfeifpanhaaDoor.B
