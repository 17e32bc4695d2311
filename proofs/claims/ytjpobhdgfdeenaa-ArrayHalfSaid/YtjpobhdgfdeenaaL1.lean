/- The laws' sanity check. -/
import Derived.Test.YtjpobhdgfdeenaaProg
import Derived.Below
import Derived.Deep.Draws
import Derived.Deep.AppendLies
import Derived.Maps.AppendAt
import Derived.Maps.OwnSet
import Derived.OwnWalk
import Derived.Laws.BytesArg
import Derived.Laws.MakeOwn
import Derived.Laws.OwnMore
import Derived.Deep.OwnRows
import Derived.Tactics
import Derived.Laws.Slices
import Derived.WalkKit
import Derived.KernelRfl
import Derived.RowKit3
import Derived.Deep.LoopGhost
import Derived.Deep.QuietTactic
import Derived.BigQuiet
import Derived.WideLaws
import Derived.Deep.DeepCutAuto
import Derived.Deep.CutBlock
import Derived.Deep.RegionHeld3
import Derived.Laws.Rows
import Derived.ArgAppend
import Derived.Laws.IdiomCopy
import Derived.OrdersHeld
import Derived.Laws.BitsLemmas
import Derived.Outline
import Derived.WalkSpells
import Derived.Lib.Hide
import Derived.RowKit
import Derived.Deep.DeepMust
import Derived.Test.YtjpobhdgfdeenaaA18
set_option linter.unusedVariables false
set_option linter.unusedSimpArgs false
namespace Go.Proofs.Ytjpobhdgfdeenaa.A
open Go.RowKit Go.Proofs.YtjpobhdgfdeenaaW.PrintWords Go.Maps

theorem awake_make : makeE 4 [1, 2, 3, 4, 5] = 0 ∧ makeA 4 [1, 2, 3, 4, 5] = [[1, 2, 3], [4, 5]] := by decide +kernel
theorem OwnS_new (w : World) (e : TypeId) (xs : List Value) (h : 0 < xs.length) (hl : xs.length ≤ 9223372036854775807) (h1 : ∀ x ∈ xs, x.oneCell' = true) : OwnS (w.alloc (.cells xs.toArray e)) w.heap.size e (.slice (some ⟨w.heap.size, 0, none⟩) xs.length xs.length) xs :=
  ⟨w.heap.size, xs.length, xs, rfl, Nat.le_refl _, heap_alloc_new w _, Nat.le_refl _, Nat.le_refl _, hl, List.take_length, h, h1⟩
theorem C_new (w : World) (xs : List Int) (h : 0 < xs.length) (hl : xs.length ≤ 9223372036854775807) : Kd.C (Kd.int .i64) (w.alloc (.cells (ints xs).toArray 3)) (some ⟨w.heap.size, 0, none⟩) xs.length xs := by
  obtain ⟨g, c, e, _, hC⟩ := (OwnS_new w 3 (ints xs) (by rw [ints_len]; exact h) (by rw [ints_len]; exact hl) (fun x hx => by
    obtain ⟨y, _, rfl⟩ := List.mem_map.1 hx
    rfl)).ints_read
  injection e with e _ _
  rw [e]
  exact hC
theorem C_rows_new (w : World) (v1 v2 : Value) (x1 x2 : List Int) (h1 : RI w v1 x1) (h2 : RI w v2 x2) : Kd.C (Kd.slice 3 (Kd.int .i64)) (w.alloc (.cells #[v1, v2] 22)) (some ⟨w.heap.size, 0, none⟩) 2 [x1, x2] := by
  have hb : Below w.heap.size w (w.alloc (.cells #[v1, v2] 22)) := below_alloc (Below.refl _ _) _
  have k1 := h1.below hb
  have k2 := h2.below hb
  refine ⟨rfl, by decide, fun _ => ⟨_, rfl, fun j p hj => ?_⟩⟩
  have hB : Blk (w.alloc (.cells #[v1, v2] 22)) w.heap.size 22 [v1, v2] := heap_alloc_new w _
  have hcell : ∀ i u, [v1, v2][i]? = some u → (w.alloc (.cells #[v1, v2] 22)).cell? ⟨w.heap.size, i, none⟩ = some u := fun i u hu => by rw [blk_cell hB]; exact hu
  have main : ∀ (v : Value), RI (w.alloc (.cells #[v1, v2] 22)) v p → [v1, v2][j]? = some v → ∃ cs, cs.length = (Kd.slice 3 (Kd.int .i64)).sz ∧ (Kd.slice 3 (Kd.int .i64)).K (w.alloc (.cells #[v1, v2] 22)) p cs ∧ ∀ (i : Nat) (u : Value), cs[i]? = some u → (w.alloc (.cells #[v1, v2] 22)).cell? ((⟨w.heap.size, 0, none⟩ : Addr).add (j * (Kd.slice 3 (Kd.int .i64)).sz + i)) = some u := by
    rintro v ⟨A, c, rfl, hc, hC⟩ hv
    refine ⟨[_], rfl, ⟨A, c, rfl, hc, hC⟩, fun i q hq => ?_⟩
    have hi : i = 0 := by
      have := (List.getElem?_eq_some_iff.1 hq).1
      simpa using this
    subst hi
    simp at hq
    subst hq
    rw [Addr.add_lit]
    have := hcell j _ hv
    rwa [show 0 + (j * (Kd.slice 3 (Kd.int .i64)).sz + 0) = j from by rw [Nat.zero_add]; exact Nat.mul_one j]
  match j, hj with
  | 0, hj =>
    simp at hj
    subst hj
    exact main v1 k1 rfl
  | 1, hj =>
    simp at hj
    subst hj
    exact main v2 k2 rfl
theorem rows_awake (w : World) : Kd.C (Kd.slice 3 (Kd.int .i64)) (((w.alloc (.cells #[.int .i64 1, .int .i64 2, .int .i64 3] 3)).alloc (.cells #[.int .i64 4, .int .i64 5] 3)).alloc (.cells #[.slice (some ⟨w.heap.size, 0, none⟩) 3 3, .slice (some ⟨w.heap.size + 1, 0, none⟩) 2 2] 22)) (some ⟨w.heap.size + 1 + 1, 0, none⟩) 2 [[1, 2, 3], [4, 5]] := by
  have h1 : RI (w.alloc (.cells #[.int .i64 1, .int .i64 2, .int .i64 3] 3)) (.slice (some ⟨w.heap.size, 0, none⟩) 3 3) [1, 2, 3] := ⟨_, _, rfl, by decide, C_new w [1, 2, 3] (by decide) (by decide)⟩
  have h2 : RI ((w.alloc (.cells #[.int .i64 1, .int .i64 2, .int .i64 3] 3)).alloc (.cells #[.int .i64 4, .int .i64 5] 3)) (.slice (some ⟨(w.alloc (.cells #[.int .i64 1, .int .i64 2, .int .i64 3] 3)).heap.size, 0, none⟩) 2 2) [4, 5] := ⟨_, _, rfl, by decide, C_new _ [4, 5] (by decide) (by decide)⟩
  have h3 := C_rows_new _ _ _ _ _ (h1.below (below_alloc (Below.refl _ _) (.cells #[.int .i64 4, .int .i64 5] 3))) h2
  simpa only [World.size_alloc] using h3
theorem awake_calls (w : World) : Calls Try.prog 9 #[] w fun e w' => e = .returned (.bool true) ∧ Below w.heap.size w w' := by
  have hmk := fun W (h : Kd.C (Kd.int .i64) W (some ⟨w.heap.size, 0, none⟩) 5 [1, 2, 3, 4, 5]) => Make_calls 4 (some ⟨w.heap.size, 0, none⟩) 5 [1, 2, 3, 4, 5] W h (by decide)
  rw [awake_make.1, awake_make.2] at hmk
  have h1 : Kd.C (Kd.int .i64) (w.alloc (.cells #[.int .i64 1, .int .i64 2, .int .i64 3, .int .i64 4, .int .i64 5] 3)) (some ⟨w.heap.size, 0, none⟩) 5 [1, 2, 3, 4, 5] := C_new w [1, 2, 3, 4, 5] (by decide) (by decide)
  have HM := Aside0.mk (hmk _ h1)
  clear hmk h1
  go_enter Try.func9, Try.ntmps9
  go_wp2_with (go_at_call 10; refine HM.out.mono ?_; rintro e w1 ⟨v, rfl, ⟨A1, c1, rfl, hc1, hC⟩, hb⟩; have HRA := Aside0.mk hC; clear hC)
  go_wp2_with (go_at_call 12; go_must (refine (SameBlocks_calls A1 c1 [[1, 2, 3], [4, 5]] _ _ [[1, 2, 3], [4, 5]] _ (Kd.C_alloc (Kd.C_alloc (Kd.C_alloc HRA.out _) _) _) (rows_awake w1)).mono ?_; rintro e w2 ⟨rfl, ⟨m, rfl⟩⟩))
  go_ret
  refine ⟨rfl, pw_below_drewN ?_ _⟩
  exact below_alloc (below_alloc (below_alloc ((below_alloc (Below.refl _ w) _).trans (hb.mono (by simp))) _) _) _
end Go.Proofs.Ytjpobhdgfdeenaa.A
