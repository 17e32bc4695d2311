/- Make of package array. -/
import Derived.Test.YtjpobhdgfdeenaaProg
import Derived.Below
import Derived.Deep.Draws
import Derived.Deep.AppendLies
import Derived.Maps.AppendAt
import Derived.Maps.OwnSet
import Derived.OwnWalk
import Derived.Laws.BytesArg
import Derived.Laws.MakeOwn
import Derived.Laws.OwnMore
import Derived.Deep.OwnRows
import Derived.Tactics
import Derived.Laws.Slices
import Derived.WalkKit
import Derived.KernelRfl
import Derived.RowKit3
import Derived.Deep.LoopGhost
import Derived.Deep.QuietTactic
import Derived.BigQuiet
import Derived.WideLaws
import Derived.Deep.DeepCutAuto
import Derived.Deep.CutBlock
import Derived.Deep.RegionHeld3
import Derived.Laws.Rows
import Derived.ArgAppend
import Derived.Laws.IdiomCopy
import Derived.OrdersHeld
import Derived.Laws.BitsLemmas
import Derived.Outline
import Derived.WalkSpells
import Derived.Lib.Hide
import Derived.RowKit
import Derived.Deep.DeepMust
import Derived.Test.YtjpobhdgfdeenaaP3
import Derived.Test.YtjpobhdgfdeenaaA16
set_option linter.unusedVariables false
set_option linter.unusedSimpArgs false
namespace Go.Proofs.Ytjpobhdgfdeenaa.A
open Go.RowKit Go.Proofs.YtjpobhdgfdeenaaW.PrintWords Go.Maps

/-- It reads as these blocks. -/
def RA (w : World) (v : Value) (l : List (List Int)) : Prop := ∃ A c, v = .slice A l.length c ∧ l.length ≤ c ∧ Kd.C (Kd.slice 3 (Kd.int .i64)) w A l.length l
def RI (w : World) (v : Value) (l : List Int) : Prop := ∃ A c, v = .slice A l.length c ∧ l.length ≤ c ∧ Kd.C (Kd.int .i64) w A l.length l
theorem RA.below {w w1 : World} {v : Value} {l : List (List Int)} (h : RA w v l) (hb : Below w.heap.size w w1) : RA w1 v l := by
  obtain ⟨A, c, e, h1, h2⟩ := h
  exact ⟨A, c, e, h1, Kd.C_below h2 hb⟩
theorem RI.below {w w1 : World} {v : Value} {l : List Int} (h : RI w v l) (hb : Below w.heap.size w w1) : RI w1 v l := by
  obtain ⟨A, c, e, h1, h2⟩ := h
  exact ⟨A, c, e, h1, Kd.C_below h2 hb⟩
theorem RA_nil (w : World) : RA w (.slice none 0 0) [] := ⟨none, 0, rfl, Nat.le_refl _, Kd.C_nil _ w⟩
theorem RI_nil (w : World) : RI w (.slice none 0 0) [] := ⟨none, 0, rfl, Nat.le_refl _, Kd.C_nil _ w⟩
theorem RA_of_C {w : World} {A : Option Addr} {c : Nat} {l : List (List Int)} (h : Kd.C (Kd.slice 3 (Kd.int .i64)) w A l.length l) (hc : l.length ≤ c) : RA w (.slice A l.length c) l := ⟨A, c, rfl, hc, h⟩
theorem Own2.ra {w : World} {base : Nat} {v : Value} {vs : List Value} {xs : List (List Int)} (h : Own2 w base v vs xs) : RA w v xs := by
  obtain ⟨g, c, e, _, h1, h2⟩ := h.reads
  exact ⟨_, c, e, h1, h2⟩
/-- All keys are good, none stands twice. -/
def GoodL (l : List Int) : Prop := l.Nodup ∧ ∀ x ∈ l, keyB x = true
instance (l : List Int) : Decidable (GoodL l) := inferInstanceAs (Decidable (l.Nodup ∧ ∀ x ∈ l, keyB x = true))
def makeE (b : Int) (l : List Int) : Int := if GoodL l ∧ roomB b = true then (if l.length ≤ 500 then 0 else 4) else 1
def makeA (b : Int) (l : List Int) : List (List Int) := if makeE b l = 0 then makeN b l l.length else []
theorem makeE_bad {b : Int} {l : List Int} (h : ¬ GoodL l) : makeE b l = 1 := by unfold makeE; rw [if_neg (fun x => h x.1)]
theorem makeE_room {b : Int} {l : List Int} (h : roomB b = false) : makeE b l = 1 := by unfold makeE; rw [if_neg (fun x => by rw [h] at x; cases x.2)]
theorem makeE_many {b : Int} {l : List Int} (h : GoodL l) (hb : roomB b = true) (hl : ¬ l.length ≤ 500) : makeE b l = 4 := by unfold makeE; rw [if_pos ⟨h, hb⟩, if_neg hl]
theorem makeE_ok {b : Int} {l : List Int} (h : GoodL l) (hb : roomB b = true) (hl : l.length ≤ 500) : makeE b l = 0 := by unfold makeE; rw [if_pos ⟨h, hb⟩, if_pos hl]
theorem makeA_bad {b : Int} {l : List Int} (h : makeE b l ≠ 0) : makeA b l = [] := by unfold makeA; rw [if_neg h]
theorem makeA_ok {b : Int} {l : List Int} (h : makeE b l = 0) : makeA b l = makeN b l l.length := by unfold makeA; rw [if_pos h]
theorem ret_pair {v : Value} {x y : Int} (h : x = y) : Ending.returned (.tuple #[v, .int .i64 x]) = Ending.returned (.tuple #[v, .int .i64 y]) := by rw [h]
theorem good_take {l : List Int} {i : Nat} {x : Int} (h : l.drop i = x :: l.drop (i + 1)) (hk : keyB x = false ∨ x ∈ l.take i) : ¬ GoodL l := fun hg => by
  have hx : x ∈ l := List.mem_of_mem_drop (i := i) (by rw [h]; simp)
  rcases hk with hk | hk
  · rw [hg.2 x hx] at hk; cases hk
  · have hn := hg.1
    rw [← List.take_append_drop i l, h, List.nodup_append] at hn
    exact hn.2.2 x hk x (by simp) rfl
theorem good_step {l : List Int} {i : Nat} {x : Int} (h : l.drop i = x :: l.drop (i + 1)) (hg : GoodL (l.take i)) (hk : keyB x = true) (hx : x ∉ l.take i) : GoodL (l.take (i + 1)) := by
  rw [take_drop_snoc h]
  refine ⟨List.nodup_append.2 ⟨hg.1, by simp, fun a ha b hb => ?_⟩, fun y hy => ?_⟩
  · rw [List.mem_singleton] at hb
    subst hb
    exact fun e => hx (e ▸ ha)
  · rcases List.mem_append.1 hy with hy | hy
    · exact hg.2 y hy
    · rw [List.mem_singleton.1 hy]; exact hk
end Go.Proofs.Ytjpobhdgfdeenaa.A
