/- Rows of rows of whole numbers in new memory: the outer row is the call's own, each inner row lies in new memory and is read. -/
import Derived.Test.YtjpobhdgfdeenaaProg
import Derived.Below
import Derived.Deep.Draws
import Derived.Deep.AppendLies
import Derived.Maps.AppendAt
import Derived.Maps.OwnSet
import Derived.OwnWalk
import Derived.Laws.BytesArg
import Derived.Laws.MakeOwn
import Derived.Laws.OwnMore
import Derived.Deep.OwnRows
import Derived.Tactics
import Derived.Laws.Slices
import Derived.WalkKit
import Derived.KernelRfl
import Derived.RowKit3
import Derived.Deep.LoopGhost
import Derived.Deep.QuietTactic
import Derived.BigQuiet
import Derived.WideLaws
import Derived.Deep.DeepCutAuto
import Derived.Deep.CutBlock
import Derived.Deep.RegionHeld3
import Derived.Laws.Rows
import Derived.ArgAppend
import Derived.Laws.IdiomCopy
import Derived.OrdersHeld
import Derived.Laws.BitsLemmas
import Derived.Outline
import Derived.WalkSpells
import Derived.Lib.Hide
import Derived.RowKit
import Derived.Test.YtjpobhdgfdeenaaA3
namespace Go.Proofs.Ytjpobhdgfdeenaa.A
open Go.RowKit Go.Proofs.YtjpobhdgfdeenaaW.PrintWords Go.Maps

theorem add_block (a : Addr) (j : Nat) : (a.add j).block = a.block := by unfold Addr.add; split <;> rfl
theorem C_int_move {w w1 : World} {A : Option Addr} {n : Nat} {xs : List Int} (h : Kd.C (Kd.int .i64) w A n xs) (hm : ∀ a, A = some a → w1.heap[a.block]? = w.heap[a.block]?) : Kd.C (Kd.int .i64) w1 A n xs := by
  refine ⟨h.1, h.2.1, fun hn => ?_⟩
  obtain ⟨ad, rfl, hc⟩ := h.2.2 hn
  refine ⟨ad, rfl, fun j p hp => ?_⟩
  obtain ⟨c, h1, h2, h3⟩ := hc j p hp
  refine ⟨c, h1, h2, fun i u hu => ?_⟩
  rw [← h3 i u hu]
  exact World.cell?_of_block (by rw [add_block]; exact hm ad rfl)
/-- A row of numbers in a block of type 3 from base on. -/
def kd3 : Kd (List Int) where
  sz := 1
  E := [3]
  K := (Kd.slice 3 (Kd.int .i64)).K
  M := fun w base ok xs cs => ∃ A c, cs = [.slice A xs.length c] ∧ xs.length ≤ c ∧ (Kd.int .i64).C w A xs.length xs ∧ ∀ a, A = some a → ok a.block ∧ base ≤ a.block ∧ a.block < w.heap.size ∧ ∃ cells, w.heap[a.block]? = some (.cells cells 3 (0, 0))
  K_len := fun h => (Kd.slice 3 (Kd.int .i64)).K_len h
  K_one := fun h => (Kd.slice 3 (Kd.int .i64)).K_one h
  K_below := fun hb h => (Kd.slice 3 (Kd.int .i64)).K_below hb h
  K_of_M := by
    rintro w base ok x cs ⟨A, c, rfl, hl, hr, _⟩
    exact ⟨A, c, rfl, hl, hr⟩
  M_mono := by
    rintro w base ok ok' x cs hok ⟨A, c, rfl, hl, hr, hp⟩
    exact ⟨A, c, rfl, hl, hr, fun a ha => ⟨hok _ (hp a ha).1, (hp a ha).2⟩⟩
  M_bound := by
    rintro w base ok x cs ⟨A, c, rfl, hl, hr, hp⟩
    exact ⟨A, c, rfl, hl, hr, fun a ha => ⟨⟨(hp a ha).1, (hp a ha).2.1, (hp a ha).2.2.1, 3, by simp, (hp a ha).2.2.2⟩, (hp a ha).2⟩⟩
  M_move := by
    rintro w w1 base ok x cs hm ⟨A, c, rfl, hl, hr, hp⟩
    refine ⟨A, c, rfl, hl, C_int_move hr (fun a ha => hm _ (hp a ha).1), fun a ha => ?_⟩
    obtain ⟨h1, h2, h3, cells, h4⟩ := hp a ha
    have h5 : w1.heap[a.block]? = some (.cells cells 3 (0, 0)) := (hm _ h1).trans h4
    exact ⟨h1, h2, (Array.getElem?_eq_some_iff.1 h5).1, cells, h5⟩
  M_lower := by
    rintro w base base' ok x cs hb ⟨A, c, rfl, hl, hr, hp⟩
    exact ⟨A, c, rfl, hl, hr, fun a ha => ⟨(hp a ha).1, Nat.le_trans hb (hp a ha).2.1, (hp a ha).2.2⟩⟩
theorem infoA3 : (Try.prog.info? 3).map (fun i => (i.zero, i.size, i.bytes)) = some (some (.int .i64 0), 1, 8) := by kernel_rfl
theorem infoA22 : (Try.prog.info? 22).map (fun i => (i.zero, i.size, i.bytes)) = some (some (.slice none 0 0), 1, 24) := by kernel_rfl
def Tr : Nat → Prop := fun _ => True
/-- What a row of numbers of the call's own reads as. -/
abbrev OI (w : World) (base : Nat) (v : Value) (xs : List Int) : Prop := Kd.R (Kd.int .i64) 3 w base Tr v xs
abbrev OR (w : World) (base : Nat) (v : Value) (xs : List (List Int)) : Prop := Kd.R kd3 22 w base Tr v xs
theorem OR_reads {w : World} {base : Nat} {v : Value} {xs : List (List Int)} (h : OR w base v xs) : ∃ A c, v = .slice A xs.length c ∧ xs.length ≤ c ∧ Kd.C (Kd.slice 3 (Kd.int .i64)) w A xs.length xs := Kd.R_reads (d := kd3) h
theorem OI_reads {w : World} {base : Nat} {v : Value} {xs : List Int} (h : OI w base v xs) : ∃ A c, v = .slice A xs.length c ∧ xs.length ≤ c ∧ Kd.C (Kd.int .i64) w A xs.length xs := Kd.R_reads h
/-- A row of numbers of the call's own is one that may be laid into an outer row of another block type. -/
theorem M_of_OI {w : World} {base : Nat} {v : Value} {xs : List Int} (h : OI w base v xs) : kd3.M w base Tr xs [v] := by
  obtain ⟨A, c, rfl, hl, hr⟩ := OI_reads h
  refine ⟨A, c, rfl, hl, hr, fun a ha => ?_⟩
  subst ha
  obtain ⟨_, inner, ho, _⟩ := h
  obtain ⟨cells, hc⟩ := own_typed ho a.block rfl
  exact ⟨trivial, own_base ho a.block rfl, own_lt ho a.block rfl, cells, hc⟩
/-- .. no block of which is the outer row's. -/
theorem M_not_outer {w : World} {base base' : Nat} {v : Value} {xs : List (List Int)} {x : List Int} {cs : List Value} (h : OR w base' v xs) (hm : kd3.M w base Tr x cs) : kd3.M w base (fun k => Tr k ∧ some k ≠ v.ownBlock) x cs := by
  obtain ⟨A, c, rfl, hl, hr, hp⟩ := hm
  refine ⟨A, c, rfl, hl, hr, fun a ha => ?_⟩
  obtain ⟨h1, h2, h3, cells, h4⟩ := hp a ha
  refine ⟨⟨h1, fun he => ?_⟩, h2, h3, cells, h4⟩
  obtain ⟨_, inner, ho, _⟩ := h
  obtain ⟨cells', hc⟩ := own_typed ho a.block he.symm
  rw [h4] at hc
  injection hc with hc
  injection hc with _ hc
  cases hc
section
variable {P : Program} {ops : Array Oper} {rest : List Oper} {o : Oper} {a : Act} {Q : Exit → Act → World → Prop} {W : World}
/-- The operation that stands next is a builtin over these places. -/
theorem at_b {b : Builtin} {xs : Array Operand} {ts : Array TypeId} (_ho : o.op = .call { callee := .builtin b, args := xs, argTypes := ts }) (h : wpList P ops Q (o :: rest) a W) : wpList P ops Q (o :: rest) a W := h
/-- .. writes this place. -/
theorem at_d {N : Tmp} (_hN : o.dst = some N) (h : wpList P ops Q (o :: rest) a W) : wpList P ops Q (o :: rest) a W := h
end
end Go.Proofs.Ytjpobhdgfdeenaa.A
