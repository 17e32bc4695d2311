/- Fits: of package item and of the reference. -/
import Derived.Test.YtibgjfeifpanhaaDoorProg
import Derived.Below
import Derived.Deep.Draws
import Derived.Deep.AppendLies
import Derived.Maps.AppendAt
import Derived.Maps.OwnSet
import Derived.OwnWalk
import Derived.Laws.BytesArg
import Derived.Laws.MakeOwn
import Derived.Laws.OwnMore
import Derived.Deep.OwnRows
import Derived.Tactics
import Derived.Laws.Slices
import Derived.WalkKit
import Derived.KernelRfl
import Derived.RowKit3
import Derived.Deep.LoopGhost
import Derived.Deep.QuietTactic
import Derived.BigQuiet
import Derived.WideLaws
import Derived.Deep.DeepCutAuto
import Derived.Deep.CutBlock
import Derived.Deep.RegionHeld3
import Derived.Laws.Rows
import Derived.ArgAppend
import Derived.Laws.IdiomCopy
import Derived.OrdersHeld
import Derived.Laws.BitsLemmas
import Derived.Outline
import Derived.WalkSpells
import Derived.Lib.Hide
import Derived.RowKit
import Derived.Deep.DeepMust
import Derived.Laws.EntriesVeiled
import Derived.Test.YtibgjfeifpanhaaDoorV2
set_option linter.unusedVariables false
set_option linter.unusedSimpArgs false
namespace Go.Proofs.YtibgjfeifpanhaaDoor.B
open Go.RowKit Go.Proofs.YtibgjfeifpanhaaDoorW.PrintWords Go.Maps PItemValid

def holdsF (x : S32) (v : S29) : Bool := okV v && (v.f0 == x.f1) && (if v.f0 = 1 then decide (x.f2 ≤ v.f1) && decide (v.f1 ≤ x.f3) else decide ((v.f2.size : Int) ≤ x.f4))
def fitsL : List S32 → List S29 → Bool
  | x :: r, v :: s => holdsF x v && fitsL r s
  | _, _ => true
def eqF (l : List S32) (r : List S29) : Bool := decide (l.length = r.length) && fitsL l r
def fitsF (l : List S32) (r : List S29) : Bool := validF l && eqF l r
theorem okV_kind {v : S29} (h : okV v = true) : v.f0 = 1 ∨ v.f0 = 2 := by
  unfold okV at h
  split at h
  · exact .inl ‹_›
  · split at h
    · exact .inr ‹_›
    · cases h
theorem valid_is {v : S29} {r : Bool} (h : okV v = r) (w : World) : Calls Tryd.prog 12 #[vV v] w fun e w' => e = .returned (.bool r) ∧ Below w.heap.size w w' := by
  subst h
  exact ValidValue_calls v w
set_option maxRecDepth 100000 in
set_option maxHeartbeats 4000000 in
theorem takes_is {x : S32} {v : S29} {r : Bool} (h : holdsF x v = r) (w : World) : Calls Tryd.prog 62 #[vI x, vV v] w fun e w' => e = .returned (.bool r) ∧ Below w.heap.size w w' := by
  subst h
  have hb1 : Below w.heap.size w ((w.alloc (.cells #[.string x.f0, .int .i64 x.f1, .int .i64 x.f2, .int .i64 x.f3, .int .i64 x.f4] 32)).alloc (.cells #[.int .i64 v.f0, .int .i64 v.f1, .string v.f2] 29)) := below_alloc (below_alloc (Below.refl _ _) _) _
  have X : ∀ (j : Nat) u, (#[.string x.f0, .int .i64 x.f1, .int .i64 x.f2, .int .i64 x.f3, .int .i64 x.f4] : Array Value)[j]? = some u → ((w.alloc (.cells #[.string x.f0, .int .i64 x.f1, .int .i64 x.f2, .int .i64 x.f3, .int .i64 x.f4] 32)).alloc (.cells #[.int .i64 v.f0, .int .i64 v.f1, .string v.f2] 29)).cell? ⟨w.heap.size, j, none⟩ = some u := fun j u hu => by
    exact pw_cell_below (below_alloc (Below.refl _ _) _) (by rw [World.cell?_alloc_new]; exact hu)
  have V : ∀ (j : Nat) u, (#[.int .i64 v.f0, .int .i64 v.f1, .string v.f2] : Array Value)[j]? = some u → ((w.alloc (.cells #[.string x.f0, .int .i64 x.f1, .int .i64 x.f2, .int .i64 x.f3, .int .i64 x.f4] 32)).alloc (.cells #[.int .i64 v.f0, .int .i64 v.f1, .string v.f2] 29)).cell? ⟨w.heap.size + 1, j, none⟩ = some u := fun j u hu => by
    have := World.cell?_alloc_new (w := w.alloc (.cells #[.string x.f0, .int .i64 x.f1, .int .i64 x.f2, .int .i64 x.f3, .int .i64 x.f4] 32)) #[.int .i64 v.f0, .int .i64 v.f1, .string v.f2] 29 j
    rw [World.size_alloc] at this
    exact this.trans hu
  have x1 := X 1 _ rfl
  have x2 := X 2 _ rfl
  have x3 := X 3 _ rfl
  have x4 := X 4 _ rfl
  have v0 := V 0 _ rfl
  have v1 := V 1 _ rfl
  have v2 := V 2 _ rfl
  clear X V
  cases hok : okV v with
  | false =>
    have HC := fun W => Aside0.mk (valid_is hok W)
    have HF : Aside0 (holdsF x v = false) := ⟨by unfold holdsF; rw [hok]; rfl⟩
    clear hok x1 x2 x3 x4 v0 v1 v2
    unfold vV vI at *
    go_enter Tryd.func62, Tryd.ntmps62
    go_wp2_with (go_at_call 12; go_must (refine (HC _).out.mono ?_; rintro e w2 ⟨rfl, hd⟩))
    go_ret
    exact ⟨ret_bool HF.out.symm, below_then hb1 hd⟩
  | true =>
    have HC := fun W => Aside0.mk (valid_is hok W)
    cases hk : (v.f0 == x.f1) with
    | false =>
      have HF : Aside0 (holdsF x v = false) := ⟨by unfold holdsF; rw [hok, hk]; rfl⟩
      clear hok x2 x3 x4 v1 v2
      unfold vV vI at *
      go_enter Tryd.func62, Tryd.ntmps62
      go_wp2_with (go_at_call 12; go_must (refine (HC _).out.mono ?_; rintro e w2 ⟨rfl, hd⟩; have x1' := pw_cell_below hd x1; have v0' := pw_cell_below hd v0))
      go_ret
      exact ⟨ret_bool HF.out.symm, below_then hb1 hd⟩
    | true =>
      rcases okV_kind hok with h1 | h1
      · have k2 : (v.f0 == 2) = false := by rw [h1]; rfl
        have k1 : (v.f0 == 1) = true := by rw [h1]; rfl
        have HF : Aside0 (holdsF x v = (decide (x.f2 ≤ v.f1) && decide (v.f1 ≤ x.f3))) := ⟨by unfold holdsF; rw [hok, hk, if_pos h1]; rfl⟩
        clear hok h1 x4 v2
        unfold vV vI at *
        go_enter Tryd.func62, Tryd.ntmps62
        go_wp2_with (first | (go_at_call 12; go_must (refine (HC _).out.mono ?_; rintro e w2 ⟨rfl, hd⟩; have x1' := pw_cell_below hd x1; have x2' := pw_cell_below hd x2; have x3' := pw_cell_below hd x3; have v0' := pw_cell_below hd v0; have v1' := pw_cell_below hd v1)) | (go_at_call 54; go_must (refine (within_calls _ _ _ _).mono ?_; rintro e w3 ⟨rfl, hd3⟩)))
        go_ret
        exact ⟨ret_bool (by first | (rw [HF.out]; done) | (rw [HF.out]; simp)), below_then (below_then hb1 hd) hd3.below⟩
      · have k2 : (v.f0 == 2) = true := by rw [h1]; rfl
        have k1 : (v.f0 == 1) = false := by rw [h1]; rfl
        have HF : Aside0 (holdsF x v = decide ((v.f2.size : Int) ≤ x.f4)) := ⟨by unfold holdsF; rw [hok, hk, if_neg (by omega)]; rfl⟩
        clear hok h1 x2 x3 v1
        unfold vV vI at *
        cases hs : decide ((v.f2.size : Int) ≤ x.f4) with
        | false =>
          go_enter Tryd.func62, Tryd.ntmps62
          go_wp2_with (go_at_call 12; go_must (refine (HC _).out.mono ?_; rintro e w2 ⟨rfl, hd⟩; have x1' := pw_cell_below hd x1; have x4' := pw_cell_below hd x4; have v0' := pw_cell_below hd v0; have v2' := pw_cell_below hd v2))
          go_ret
          exact ⟨ret_bool (by rw [HF.out, hs]), below_then hb1 hd⟩
        | true =>
          go_enter Tryd.func62, Tryd.ntmps62
          go_wp2_with (go_at_call 12; go_must (refine (HC _).out.mono ?_; rintro e w2 ⟨rfl, hd⟩; have x1' := pw_cell_below hd x1; have x4' := pw_cell_below hd x4; have v0' := pw_cell_below hd v0; have v2' := pw_cell_below hd v2))
          go_ret
          exact ⟨ret_bool (by rw [HF.out, hs]), below_then hb1 hd⟩
end Go.Proofs.YtibgjfeifpanhaaDoor.B
