/- put of the reference. -/
import Derived.Test.YtjpobhdgfdeenaaProg
import Derived.Below
import Derived.Deep.Draws
import Derived.Deep.AppendLies
import Derived.Maps.AppendAt
import Derived.Maps.OwnSet
import Derived.OwnWalk
import Derived.Laws.BytesArg
import Derived.Laws.MakeOwn
import Derived.Laws.OwnMore
import Derived.Deep.OwnRows
import Derived.Tactics
import Derived.Laws.Slices
import Derived.WalkKit
import Derived.KernelRfl
import Derived.RowKit3
import Derived.Deep.LoopGhost
import Derived.Deep.QuietTactic
import Derived.BigQuiet
import Derived.WideLaws
import Derived.Deep.DeepCutAuto
import Derived.Deep.CutBlock
import Derived.Deep.RegionHeld3
import Derived.Laws.Rows
import Derived.ArgAppend
import Derived.Laws.IdiomCopy
import Derived.OrdersHeld
import Derived.Laws.BitsLemmas
import Derived.Outline
import Derived.WalkSpells
import Derived.Lib.Hide
import Derived.RowKit
import Derived.Deep.DeepMust
import Derived.Deep.RegionHeld3
import Derived.Test.YtjpobhdgfdeenaaA17
import Derived.Test.YtjpobhdgfdeenaaL1
set_option linter.unusedVariables false
set_option linter.unusedSimpArgs false
namespace Go.Proofs.Ytjpobhdgfdeenaa.A
open Go.RowKit Go.Proofs.YtjpobhdgfdeenaaW.PrintWords Go.Maps

theorem OR_ra {w : World} {base : Nat} {v : Value} {l : List (List Int)} (h : OR w base v l) : RA w v l := OR_reads h
theorem OI_ri {w : World} {base : Nat} {v : Value} {l : List Int} (h : OI w base v l) : RI w v l := OI_reads h
set_option maxRecDepth 100000 in
theorem put_nil (b m k : Int) (A : Option Addr) (c : Nat) (w : World) :
    Calls Try.prog 45 #[.int .i64 b, .slice A 0 c, .int .i64 m, .int .i64 k] w fun e w' => ∃ v, e = .returned v ∧ RA w' v [[k]] ∧ Below w.heap.size w w' := by
  go_enter Try.func45, Try.ntmps45
  go_wp2
  go_ret
  refine ⟨_, rfl, ?_, below_alloc (below_alloc (Below.refl _ _) _) _⟩
  have h1 : OwnS (w.alloc (.cells #[.int .i64 k] 3)) w.heap.size 3 (.slice (some ⟨w.heap.size, 0, none⟩) 1 1) (ints [k]) := OwnS_new w 3 [.int .i64 k] (by simp) (by simp) (by simp [Value.oneCell'])
  have h2 := OwnS_new (w.alloc (.cells #[.int .i64 k] 3)) 22 [.slice (some ⟨w.heap.size, 0, none⟩) 1 1] (by simp) (by simp) (by simp [Value.oneCell'])
  rw [World.size_alloc] at h2
  have h3 : Own2 ((w.alloc (.cells #[.int .i64 k] 3)).alloc (.cells #[.slice (some ⟨w.heap.size, 0, none⟩) 1 1] 22)) w.heap.size (.slice (some ⟨w.heap.size + 1, 0, none⟩) 1 1) [.slice (some ⟨w.heap.size, 0, none⟩) 1 1] [[k]] :=
    ⟨h2.low (by omega), ⟨h1.kept (grown_of_below (below_alloc (Below.refl _ _) _) none) (by simp [Value.ownBlock]), trivial⟩, by simp⟩
  exact h3.ra
theorem OwnS.C1 {w : World} {base g : Nat} {k : Int} (h : OwnS w base 3 (.slice (some ⟨g, 0, none⟩) 1 1) (ints [k])) : Kd.C (Kd.int .i64) w (some ⟨g, 0, none⟩) 1 [k] := by
  obtain ⟨g1, c1, e, _, hC⟩ := h.ints_read
  injection e with e _ _
  rw [e]
  exact hC
end Go.Proofs.Ytjpobhdgfdeenaa.A
