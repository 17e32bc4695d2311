/- Arguments that came in: numbers, rows, rows of rows. -/
import Derived.Test.YtjpobhdgfdeenaaProg
import Derived.Below
import Derived.Deep.Draws
import Derived.Deep.AppendLies
import Derived.Maps.AppendAt
import Derived.Maps.OwnSet
import Derived.OwnWalk
import Derived.Laws.BytesArg
import Derived.Laws.MakeOwn
import Derived.Laws.OwnMore
import Derived.Deep.OwnRows
import Derived.Tactics
import Derived.Laws.Slices
import Derived.WalkKit
import Derived.KernelRfl
import Derived.RowKit3
import Derived.Deep.LoopGhost
import Derived.Deep.QuietTactic
import Derived.BigQuiet
import Derived.WideLaws
import Derived.Deep.DeepCutAuto
import Derived.Deep.CutBlock
import Derived.Deep.RegionHeld3
import Derived.Laws.Rows
import Derived.ArgAppend
import Derived.Laws.IdiomCopy
import Derived.OrdersHeld
import Derived.Laws.BitsLemmas
import Derived.Outline
import Derived.WalkSpells
import Derived.Lib.Hide
import Derived.RowKit
import Derived.Deep.DeepMust
import Derived.Deep.Matrix
import Derived.Test.YtjpobhdgfdeenaaM6
set_option linter.unusedVariables false
set_option linter.unusedSimpArgs false
namespace Go.Proofs.Ytjpobhdgfdeenaa.A
open Go.RowKit Go.Deep Go.ChangeShapes Go.WideShapes Go.Proofs.YtjpobhdgfdeenaaW.PrintWords Go.Maps

theorem C_of_cells {w : World} {A : Option Addr} {L : Nat} {zs : List Int} (hL : L ≤ zs.length) (hm : zs.length ≤ 9223372036854775807) (hn : A = none → zs.length = 0) (hc : ∀ a, A = some a → ∀ c, c < zs.length → w.cell? (a.add c) = some (.int .i64 (zs.getD c 0))) :
    Kd.C (Kd.int .i64) w A (zs.take L).length (zs.take L) := by
  have hl : (zs.take L).length = L := by rw [List.length_take]; omega
  refine ⟨rfl, by omega, fun hp => ?_⟩
  rw [hl] at hp
  cases A with
  | none => have := hn rfl; omega
  | some a =>
    refine ⟨a, rfl, fun j p hj => ?_⟩
    have hjL : j < L := by have := (List.getElem?_eq_some_iff.1 hj).1; omega
    refine ⟨[.int .i64 p], rfl, rfl, fun i u hu => ?_⟩
    have hi : i = 0 := by
      have := (List.getElem?_eq_some_iff.1 hu).1
      simpa using this
    subst hi
    simp at hu
    subst hu
    rw [show j * (Kd.int .i64).sz + 0 = j from Nat.mul_one j, hc a rfl j (by omega)]
    rw [List.getElem?_take_of_lt hjL, List.getElem?_eq_getElem (by omega)] at hj
    injection hj with hj
    rw [List.getD_eq_getElem?_getD, List.getElem?_eq_getElem (show j < zs.length by omega), Option.getD_some, hj]
section
variable {H : Type} {enc : TypeId × Value → H} {W : World} {held : Bool}
theorem open_ints_C {a : Option Addr} {len cap fuel : Nat} {x : DataW H × List MemPlace} (h : DataW.trod enc Try.prog W 0 (fun _ => true) held fuel 22 [.slice a len cap] = some x) :
    ∃ l : List Int, l.length = len ∧ len ≤ cap ∧ Kd.C (Kd.int .i64) W a l.length l ∧ ∀ n ∈ l, (Lit.int .i64 n).wf = true := by
  rcases open_ints Try.underlying22 Try.underlying3 (by kernel_rfl) h with ⟨hcs, _⟩ | ⟨y, l, c, zs, hcs, _, hl, hm, hz, _, hcell, hwz⟩
  · simp at hcs
    obtain ⟨rfl, rfl, rfl⟩ := hcs
    exact ⟨[], rfl, Nat.le_refl _, Kd.C_nil _ W, by simp⟩
  · simp at hcs
    obtain ⟨rfl, rfl, rfl⟩ := hcs
    have hz' : zs.length = cap := by simpa using hz
    refine ⟨zs.take len, by rw [List.length_take]; omega, hl, C_of_cells (by omega) (by rw [hz']; exact hm) (fun e => by cases e) (fun a e c hc => ?_), fun n hn => hwz n (List.mem_of_mem_take hn)⟩
    injection e with e
    subst e
    exact hcell c hc
theorem open_rows_C {a : Option Addr} {len cap fuel : Nat} {x : DataW H × List MemPlace} (h : DataW.trod enc Try.prog W 0 (fun _ => true) held fuel 24 [.slice a len cap] = some x) :
    ∃ l : List (List Int), l.length = len ∧ len ≤ cap ∧ Kd.C (Kd.slice 3 (Kd.int .i64)) W a l.length l ∧ ∀ r ∈ l, ∀ n ∈ r, (Lit.int .i64 n).wf = true := by
  rcases open_int_rows Try.underlying24 Try.underlying22 Try.underlying3 (by kernel_rfl) (by kernel_rfl) h with ⟨hcs, _⟩ | ⟨y, l, c, A, L, C, Z, hcs, _, hl, hm, _, hrows⟩
  · simp at hcs
    obtain ⟨rfl, rfl, rfl⟩ := hcs
    exact ⟨[], rfl, Nat.le_refl _, Kd.C_nil _ W, by simp⟩
  · simp at hcs
    obtain ⟨rfl, rfl, rfl⟩ := hcs
    have hln : ((List.range len).map fun r => (Z r).take (L r)).length = len := by simp
    refine ⟨(List.range len).map fun r => (Z r).take (L r), hln, hl, ⟨rfl, by rw [hln]; have : maxLen = 9223372036854775807 := rfl; omega, fun _ => ⟨y, rfl, fun j p hj => ?_⟩⟩, fun r hr n hn => ?_⟩
    · have hjl : j < len := by have := (List.getElem?_eq_some_iff.1 hj).1; omega
      simp [hjl] at hj
      subst hj
      obtain ⟨h1, h2, h3, h4, _, h6, h7⟩ := hrows j (by omega)
      have hlt : ((Z j).take (L j)).length = L j := by rw [List.length_take]; omega
      refine ⟨[.slice (A j) (L j) (C j)], rfl, ⟨A j, C j, by rw [hlt], by rw [hlt]; exact h2, ?_⟩, fun i u hu => ?_⟩
      · exact C_of_cells (by omega) (by rw [h4]; exact h3) (fun e => by rw [h4]; exact h6 e) (fun a e c hc => (h7 a e).2 c (by omega))
      · have hi : i = 0 := by
          have := (List.getElem?_eq_some_iff.1 hu).1
          simpa using this
        subst hi
        simp at hu
        subst hu
        rw [show j * (Kd.slice 3 (Kd.int .i64)).sz + 0 = j from Nat.mul_one j]
        exact h1
    · obtain ⟨k, hk, rfl⟩ := List.mem_map.1 hr
      obtain ⟨_, _, _, _, h5, _⟩ := hrows k (by have := List.mem_range.1 hk; omega)
      exact h5 n (List.mem_of_mem_take hn)
end
end Go.Proofs.Ytjpobhdgfdeenaa.A
