/- The iterator over the keys of blocks: what it hands to a loop's body, round by round. -/
import Derived.Test.YtjpobhdgfdeenaaProg
import Derived.Below
import Derived.Deep.Draws
import Derived.Deep.AppendLies
import Derived.Maps.AppendAt
import Derived.Maps.OwnSet
import Derived.OwnWalk
import Derived.Laws.BytesArg
import Derived.Laws.MakeOwn
import Derived.Laws.OwnMore
import Derived.Deep.OwnRows
import Derived.Tactics
import Derived.Laws.Slices
import Derived.WalkKit
import Derived.KernelRfl
import Derived.RowKit3
import Derived.Deep.LoopGhost
import Derived.Deep.QuietTactic
import Derived.BigQuiet
import Derived.WideLaws
import Derived.Deep.DeepCutAuto
import Derived.Deep.CutBlock
import Derived.Deep.RegionHeld3
import Derived.Laws.Rows
import Derived.ArgAppend
import Derived.Laws.IdiomCopy
import Derived.OrdersHeld
import Derived.Laws.BitsLemmas
import Derived.Outline
import Derived.WalkSpells
import Derived.Lib.Hide
import Derived.RowKit
import Derived.Deep.DeepMust
import Derived.RangeFuncNested
import Derived.RangeFuncBound
import Derived.RangeFuncCalls
import Derived.RangeFuncLeaves
import Derived.Shelf.Abstract
import Derived.Shelf.RegionOpen
import Derived.OwnWalkIn
import Derived.TacticsInMore
import Derived.LoopNIn
import Derived.LoopIn
import Derived.RangeFuncBox
import Derived.Test.YtjpobhdgfdeenaaA8
namespace Go.Proofs.Ytjpobhdgfdeenaa.A
open Go.RowKit Go.Shelf Go.Proofs.YtjpobhdgfdeenaaW.PrintWords Go.Maps
attribute [local go_sem] Oper.semAt_some

/-- A key with where it stands: index, block, place, key. -/
abbrev Pos := Int × Int × Int × Int
def posRow : Int → Int → Int → List Int → List Pos
  | _, _, _, [] => []
  | x, i, k, y :: r => (x, i, k, y) :: posRow (x + 1) i (k + 1) r
def posAll : Int → Int → List (List Int) → List Pos
  | _, _, [] => []
  | x, i, r :: t => posRow x i 0 r ++ posAll (x + r.length) (i + 1) t
abbrev encP (p : Pos) : Value := .agg #[.int .i64 p.1, .int .i64 p.2.1, .int .i64 p.2.2.1, .int .i64 p.2.2.2]
theorem posRow_len : ∀ (r : List Int) (x i k : Int), (posRow x i k r).length = r.length
  | [], _, _, _ => rfl
  | _ :: r, x, i, k => by simp [posRow, posRow_len r]
theorem posAll_len : ∀ (l : List (List Int)) (x i : Int), (posAll x i l).length = l.flatten.length
  | [], _, _ => rfl
  | r :: t, x, i => by simp [posAll, posRow_len, posAll_len t]

set_option maxRecDepth 100000 in
set_option maxHeartbeats 2000000 in
theorem keys1_in (F : Fence) (n : Nat) (h7 : F.fn 65) (hro : F.round = none) (hn : 1 ≤ n) (lp Bs : Nat) (A : Option Addr) (c : Nat) (l : List (List Int)) (w0 : World) (hr : Kd.C (Kd.slice 3 (Kd.int .i64)) w0 A l.length l) (hs : l.flatten.length ≤ 1000000) (J Jx : List Pos → World → Prop)
    (hY : ∀ pre x W, J pre W → pre.length < l.flatten.length → YieldAt F (n - 1) Try.prog lp #[encP x] W fun e W' =>
      (e = .returned (.bool true) ∧ J (pre ++ [x]) W' ∧ Below w0.heap.size W W') ∨ (e = .returned (.bool false) ∧ Jx (pre ++ [x]) W'))
    (W : World) (hW : Below w0.heap.size w0 W) (hBs : W.cell? ⟨Bs, 0, none⟩ = some (.slice A l.length c)) (h0 : J [] W) :
    CallsIn F n Try.prog 65 #[.func (.yield lp) #[] #[], .pointer (some ⟨Bs, 0, none⟩)] W fun e W' => (∃ v, e = .returned v) ∧
      ((∃ ys, ys = posAll 0 0 l ∧ J ys W') ∨ (∃ pre, pre <+: posAll 0 0 l ∧ Jx pre W')) := by
  have HR := Aside0.mk hr
  have hm := (C_len hr).2
  have HSZ := Aside0.mk hs
  clear hr hs
  refine callsIn_of_wp Try.func65 rfl h7 ?_ hro
  simp only [Try.ntmps65, List.size_toArray, List.length_cons, List.length_nil, Nat.reduceAdd, Nat.reduceSub, Array.replicate_succ, Array.replicate_zero, List.push_toArray, List.append_toArray, List.nil_append, List.cons_append]
  gi_wp2
  gi_loopw [3, 10] (fun x i wr => ∃ (k m : Nat) (pre : List Pos), k ≤ l.length ∧ x = .int .i64 m ∧ i = .int .i64 k ∧ Aside0 (m = (l.take k).flatten.length) ∧ Aside0 (posAll 0 0 l = pre ++ posAll m k (l.drop k)) ∧ Aside0 (pre.length = m) ∧ J pre wr ∧ Below w0.heap.size w0 wr) (fun _ i _ => l.length - (intOf i).toNat)
  case atStart => exact ⟨0, 0, [], Nat.zero_le _, rfl, rfl, ⟨rfl⟩, ⟨rfl⟩, ⟨rfl⟩, h0, hW⟩
  case round =>
    obtain ⟨k, m, pre, hk, rfl, rfl, HM, HP, HPL, hJ, hbel⟩ := hrel
    by_cases hlt : k < l.length
    · obtain ⟨ad, A0, c0, row, hA, hdrop, hcell, hrl, hrow⟩ := C_row HR.out k hlt
      subst hA
      replace hcell := pw_cell_below hbel hcell
      have HRow := Aside0.mk hrow
      have HD := Aside0.mk hdrop
      have hrm := (C_len hrow).2
      have hmr : m + row.length ≤ 1000000 := by
        have h1 := flat_len l (k + 1)
        rw [flat_drop l k row hdrop, List.length_append, ← HM.out] at h1
        have := HSZ.out
        omega
      have HM' : Aside0 (m + row.length = (l.take (k + 1)).flatten.length) := ⟨by rw [flat_drop l k row hdrop, List.length_append, ← HM.out]⟩
      clear hdrop hrow
      gi_wp2
      obtain ⟨wo, rfl⟩ : ∃ wo : World, wo = wr := ⟨_, rfl⟩
      have hsz0 := hbel.size
      gi_loopw [3, 17] (fun x j wr => ∃ (q m1 : Nat) (pre : List Pos), q ≤ row.length ∧ m1 = m + q ∧ x = .int .i64 m1 ∧ j = .int .i64 q ∧ Aside0 (posAll 0 0 l = pre ++ (posRow m1 k q (row.drop q) ++ posAll (m + row.length : Nat) (k + 1 : Nat) (l.drop (k + 1)))) ∧ Aside0 (pre.length = m1) ∧ J pre wr ∧ Below w0.heap.size w0 wr) (fun _ j _ => row.length - (intOf j).toNat)
      case atStart => exact ⟨0, m, pre, Nat.zero_le _, rfl, rfl, rfl, ⟨by rw [HP.out, HD.out, posAll]; simp⟩, HPL, hJ, hbel⟩
      case round =>
        obtain ⟨q, m1, pre1, hq, hm1, rfl, rfl, HP1, HPL1, hJ1, hbel1⟩ := hrel
        have HM1 := Aside0.mk hm1
        have hm2 : m1 ≤ m + q := by omega
        clear hm1
        by_cases hql : q < row.length
        · obtain ⟨ad2, y, hA2, hdrop2, hcell2⟩ := C_int HRow.out q hql
          subst hA2
          replace hcell2 := pw_cell_below hbel1 hcell2
          have HD2 := Aside0.mk hdrop2
          clear hdrop2
          have hpl : pre1.length < l.flatten.length := by
            have h1 := flat_len l (k + 1)
            have h2 := HPL1.out
            have h3 := HM'.out
            omega
          obtain ⟨fn, tmps, assign, body, hy, hR⟩ := hY pre1 ((m1 : Int), (k : Int), (q : Int), y) wr hJ1 hpl
          dsimp only [encP] at hy
          clear hpl
          gi_wp2
          refine hR.mono ?_
          rintro e W3 (⟨rfl, hJ3, hk3⟩ | ⟨rfl, hJx3⟩)
          · gi_wp2
            go_roundw
            case rel => exact ⟨q + 1, m1 + 1, pre1 ++ [((m1 : Int), (k : Int), (q : Int), y)], by omega, by have := HM1.out; omega, by go_num, by go_num, ⟨by rw [HP1.out, HD2.out, posRow]; simp⟩, ⟨by have := HPL1.out; simp; omega⟩, hJ3, hbel1.trans hk3⟩
            case measure => simp [intOf]; omega
          · gi_wp2
            refine bodyPost_ret (results_none rfl _ _ _) rfl ?_
            exact ⟨⟨_, rfl⟩, .inr ⟨_, ⟨posRow (m1 + 1) k (q + 1) (row.drop (q + 1)) ++ posAll (m + row.length : Nat) (k + 1 : Nat) (l.drop (k + 1)), by rw [HP1.out, HD2.out, posRow]; simp⟩, hJx3⟩⟩
        · gi_wp2
          go_roundw
          case rel => exact ⟨k + 1, m1, pre1, by omega, rfl, by go_num, ⟨by have := HM1.out; have := HM'.out; omega⟩, ⟨by rw [HP1.out, List.drop_eq_nil_of_le (show row.length ≤ q by omega), posRow, show m1 = m + row.length from by have := HM1.out; omega]; rfl⟩, HPL1, hJ1, hbel1⟩
          case measure => simp [intOf]; omega
    · gi_wp2
      go_end0
      exact ⟨⟨_, rfl⟩, .inl ⟨pre, by rw [HP.out, List.drop_eq_nil_of_le (by omega), posAll]; simp, hJ⟩⟩
end Go.Proofs.Ytjpobhdgfdeenaa.A
