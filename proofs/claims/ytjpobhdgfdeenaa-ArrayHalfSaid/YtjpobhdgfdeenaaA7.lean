/- Contracts of the reference: spot, Wrong, Valid, Keys; and of the statements' light. -/
import Derived.Test.YtjpobhdgfdeenaaProg
import Derived.Below
import Derived.Deep.Draws
import Derived.Deep.AppendLies
import Derived.Maps.AppendAt
import Derived.Maps.OwnSet
import Derived.OwnWalk
import Derived.Laws.BytesArg
import Derived.Laws.MakeOwn
import Derived.Laws.OwnMore
import Derived.Deep.OwnRows
import Derived.Tactics
import Derived.Laws.Slices
import Derived.WalkKit
import Derived.KernelRfl
import Derived.RowKit3
import Derived.Deep.LoopGhost
import Derived.Deep.QuietTactic
import Derived.BigQuiet
import Derived.WideLaws
import Derived.Deep.DeepCutAuto
import Derived.Deep.CutBlock
import Derived.Deep.RegionHeld3
import Derived.Laws.Rows
import Derived.ArgAppend
import Derived.Laws.IdiomCopy
import Derived.OrdersHeld
import Derived.Laws.BitsLemmas
import Derived.Outline
import Derived.WalkSpells
import Derived.Lib.Hide
import Derived.RowKit
import Derived.Test.YtjpobhdgfdeenaaA6
namespace Go.Proofs.Ytjpobhdgfdeenaa.A
open Go.RowKit Go.Proofs.YtjpobhdgfdeenaaW.PrintWords Go.Maps

def spotL (index : Int) : Int → Nat → Int × Int → List (List Int) → Int × Int
  | _, _, p, [] => p
  | n, i, p, r :: t => spotL index (n + r.length) (i + 1) (if n ≤ index then ((i : Int), n) else p) t
def spotF (l : List (List Int)) (index : Int) : Int × Int := spotL index 0 0 (0, 0) l
theorem ret2w {F : Int × Int} {x y : Int} (h : F = (x, y)) : Ending.returned (.tuple #[.int .i64 x, .int .i64 y]) = Ending.returned (.tuple #[.int .i64 F.1, .int .i64 F.2]) := by rw [h]
theorem drop_lt {α : Type} {l : List α} {i : Nat} {x : α} {r : List α} (h : l.drop i = x :: r) : i < l.length := by
  rcases Nat.lt_or_ge i l.length with h' | h'
  · exact h'
  · rw [List.drop_eq_nil_of_le h'] at h; cases h

set_option maxHeartbeats 1000000 in
theorem spot_calls (A : Option Addr) (c : Nat) (l : List (List Int)) (x : Int) (w : World) (hr : Kd.C (Kd.slice 3 (Kd.int .i64)) w A l.length l) (hs : l.flatten.length ≤ 1000000) :
    Calls Try.prog 50 #[.slice A l.length c, .int .i64 x] w fun e w' => e = .returned (.tuple #[.int .i64 (spotF l x).1, .int .i64 (spotF l x).2]) ∧ ∃ m, w' = w.drewN m := by
  have HR := Aside0.mk hr
  have hm := (C_len hr).2
  have HSZ := Aside0.mk hs
  have HS : Aside0 (spotF l x = spotL x ((0 : Nat) : Int) 0 (0, 0) (l.drop 0)) := ⟨rfl⟩
  clear hr hs
  go_enter Try.func50, Try.ntmps50
  go_wp2
  go_loopg [4, 5, 6, 7] l.length (fun g v4 v5 v6 v7 wr => ∃ (i n : Nat) (p q : Int), g = l.length - i ∧ i ≤ l.length ∧ v4 = .int .i64 p ∧ v5 = .int .i64 q ∧ v6 = .int .i64 n ∧ v7 = .int .i64 i ∧ Aside0 (n = (l.take i).flatten.length) ∧ Aside0 (spotF l x = spotL x n i (p, q) (l.drop i)) ∧ Drawn0 w wr)
  case atStart => exact ⟨0, 0, 0, 0, rfl, Nat.zero_le _, rfl, rfl, rfl, rfl, ⟨rfl⟩, HS, Drawn0.refl _⟩
  case round =>
    obtain ⟨i, n, p, q, hg, hi, rfl, rfl, rfl, rfl, HN, HT, hdr⟩ := hrel
    have hbel := hdr.below
    have HG := Aside0.mk hg
    clear hg HS
    by_cases hlt : i < l.length
    · obtain ⟨ad, A0, c0, row, hA, hdrop, hcell, hrl, hrow⟩ := C_row HR.out i hlt
      subst hA
      replace hcell := pw_cell_below hbel hcell
      have HD := Aside0.mk hdrop
      have hn : n + row.length ≤ 1000000 := by
        have h1 := flat_len l (i + 1)
        rw [flat_drop l i row hdrop, List.length_append, ← HN.out] at h1
        have := HSZ.out
        omega
      have HN' : Aside0 (n + row.length = (l.take (i + 1)).flatten.length) := ⟨by rw [flat_drop l i row hdrop, List.length_append, ← HN.out]⟩
      clear hdrop hrow
      by_cases hx : (n : Int) ≤ x
      · have HX := Aside0.mk hx
        go_wp2
        go_roundg (l.length - (i + 1))
        case measure => have := HG.out; omega
        case rel => exact ⟨i + 1, n + row.length, i, n, rfl, by omega, rfl, rfl, by go_num, by go_num, HN', ⟨by rw [HT.out, HD.out, spotL, if_pos HX.out]; rfl⟩, hdr⟩
      · have HX := Aside0.mk hx
        go_wp2
        go_roundg (l.length - (i + 1))
        case measure => have := HG.out; omega
        case rel => exact ⟨i + 1, n + row.length, p, q, rfl, by omega, rfl, rfl, by go_num, by go_num, HN', ⟨by rw [HT.out, HD.out, spotL, if_neg (show ¬ (n : Int) ≤ x by have := HX.out; omega)]; rfl⟩, hdr⟩
    · go_wp2
      go_ret2
      exact ⟨ret2w (by rw [HT.out, List.drop_eq_nil_of_le (by omega), spotL]), hdr.out⟩

def lightL : Int → List (List Int) → Int
  | n, [] => n
  | n, r :: t => lightL (wrap64 (wrap64 (n + r.length) + 1)) t
def lightF (l : List (List Int)) : Bool := decide (lightL 0 l ≤ 300)
set_option maxHeartbeats 1000000 in
theorem light_calls (A : Option Addr) (c : Nat) (l : List (List Int)) (w : World) (hr : Kd.C (Kd.slice 3 (Kd.int .i64)) w A l.length l) :
    Calls Try.prog 16 #[.slice A l.length c] w fun e w' => e = .returned (.bool (lightF l)) ∧ ∃ m, w' = w.drewN m := by
  have HR := Aside0.mk hr
  have hm := (C_len hr).2
  have HS : Aside0 (lightF l = decide (lightL 0 (l.drop 0) ≤ 300)) := ⟨rfl⟩
  clear hr
  go_enter Try.func16, Try.ntmps16
  go_wp2
  go_loopg [3, 4] l.length (fun g v3 v4 wr => ∃ (i : Nat) (n : Int), g = l.length - i ∧ i ≤ l.length ∧ v3 = .int .i64 n ∧ v4 = .int .i64 i ∧ Aside0 (lightF l = decide (lightL n (l.drop i) ≤ 300)) ∧ Drawn0 w wr)
  case atStart => exact ⟨0, 0, rfl, Nat.zero_le _, rfl, rfl, HS, Drawn0.refl _⟩
  case round =>
    obtain ⟨i, n, hg, hi, rfl, rfl, HT, hdr⟩ := hrel
    have hbel := hdr.below
    have HG := Aside0.mk hg
    clear hg HS
    by_cases hlt : i < l.length
    · obtain ⟨ad, A0, c0, row, hA, hdrop, hcell, hrl, hrow⟩ := C_row HR.out i hlt
      subst hA
      replace hcell := pw_cell_below hbel hcell
      have HD := Aside0.mk hdrop
      clear hdrop hrow
      go_wp2
      go_roundg (l.length - (i + 1))
      case measure => have := HG.out; omega
      case rel => exact ⟨i + 1, wrap64 (wrap64 (n + row.length) + 1), rfl, by omega, rfl, by go_num, ⟨by rw [HT.out, HD.out, lightL]⟩, hdr⟩
    · go_wp2
      go_ret
      exact ⟨ret_bool (by rw [HT.out, List.drop_eq_nil_of_le (by omega), lightL]), hdr.out⟩
end Go.Proofs.Ytjpobhdgfdeenaa.A
