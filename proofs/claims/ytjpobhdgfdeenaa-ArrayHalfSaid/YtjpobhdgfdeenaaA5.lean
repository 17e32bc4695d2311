/- Contracts of the reference's functions that make rows: flat, copied; spot; light. -/
import Derived.Test.YtjpobhdgfdeenaaProg
import Derived.Below
import Derived.Deep.Draws
import Derived.Deep.AppendLies
import Derived.Maps.AppendAt
import Derived.Maps.OwnSet
import Derived.OwnWalk
import Derived.Laws.BytesArg
import Derived.Laws.MakeOwn
import Derived.Laws.OwnMore
import Derived.Deep.OwnRows
import Derived.Tactics
import Derived.Laws.Slices
import Derived.WalkKit
import Derived.KernelRfl
import Derived.RowKit3
import Derived.Deep.LoopGhost
import Derived.Deep.QuietTactic
import Derived.BigQuiet
import Derived.WideLaws
import Derived.Deep.DeepCutAuto
import Derived.Deep.CutBlock
import Derived.Deep.RegionHeld3
import Derived.Laws.Rows
import Derived.ArgAppend
import Derived.Laws.IdiomCopy
import Derived.OrdersHeld
import Derived.Laws.BitsLemmas
import Derived.Outline
import Derived.WalkSpells
import Derived.Lib.Hide
import Derived.RowKit
import Derived.Test.YtjpobhdgfdeenaaA4
namespace Go.Proofs.Ytjpobhdgfdeenaa.A
open Go.RowKit Go.Proofs.YtjpobhdgfdeenaaW.PrintWords Go.Maps

theorem flat_drop (l : List (List Int)) (i : Nat) (row : List Int) (h : l.drop i = row :: l.drop (i + 1)) : (l.take (i + 1)).flatten = (l.take i).flatten ++ row := by
  have hi : i < l.length := by
    rcases Nat.lt_or_ge i l.length with h' | h'
    · exact h'
    · rw [List.drop_eq_nil_of_le h'] at h; cases h
  rw [List.drop_eq_getElem_cons hi] at h
  injection h with h _
  rw [List.take_succ_eq_append_getElem hi, List.flatten_append]
  simp [h]
theorem flat_len (l : List (List Int)) (i : Nat) : (l.take i).flatten.length ≤ l.flatten.length := by
  conv => rhs; rw [← List.take_append_drop i l]
  rw [List.flatten_append, List.length_append]
  omega

set_option maxHeartbeats 1000000 in
theorem flat_calls (A : Option Addr) (c : Nat) (l : List (List Int)) (w : World) (hr : Kd.C (Kd.slice 3 (Kd.int .i64)) w A l.length l) (hs : l.flatten.length ≤ 1000000) :
    Calls Try.prog 48 #[.slice A l.length c] w fun e w' => ∃ v, e = .returned v ∧ OI w' w.heap.size v l.flatten ∧ Below w.heap.size w w' := by
  have HR := Aside0.mk hr
  have hm := (C_len hr).2
  have HSZ := Aside0.mk hs
  clear hr hs
  go_enter Try.func48, Try.ntmps48
  go_wp2
  go_loopg [3, 4] l.length (fun g v3 v4 wr => ∃ (i : Nat), g = l.length - i ∧ i ≤ l.length ∧ v4 = .int .i64 i ∧ Aside0 (OI wr w.heap.size v3 (l.take i).flatten) ∧ Below w.heap.size w wr)
  case atStart => exact ⟨0, rfl, Nat.zero_le _, rfl, ⟨Kd.R_nil _ _ _ _ _⟩, Below.refl _ _⟩
  case round =>
    obtain ⟨i, hg, hi, rfl, HO, hbel⟩ := hrel
    have HG := Aside0.mk hg
    clear hg
    by_cases hlt : i < l.length
    · obtain ⟨ad, A0, c0, row, hA, hdrop, hcell, hrl, hrow⟩ := C_row HR.out i hlt
      subst hA
      replace hcell := pw_cell_below hbel hcell
      have HD := Aside0.mk hdrop
      have HRow := Aside0.mk (Kd.C_below hrow hbel)
      have hrm := (C_len hrow).2
      have hsz := hbel.size
      have HL : Aside0 ((List.take i l).flatten.length + row.length ≤ 1000000) := ⟨by
        have h1 := flat_len l (i + 1)
        rw [flat_drop l i row hdrop, List.length_append] at h1
        have := HSZ.out
        omega⟩
      clear hdrop hrow
      go_wp2_with (at_builtin; refine Kd.R_append_rows (Kd.int .i64) (w0 := w) w.heap.size rfl (.tmp 11) (.tmp 15) 22 3 (.int .i64 0) 8 rfl Try.underlying22 infoA3 rfl (by decide) (by omega) u3 (l.take i).flatten row _ _ _ Tr (fun _ => False) rfl rfl HO.out HRow.out (fun _ _ h => h) (fun _ h => h.elim) (fun _ _ => trivial) hbel hsz ?aL ?_; (case aL => have := HL.out; omega); intro v1 w1 ho hb1 hg1 hat1; have HO1 := Aside0.mk ho; clear ho hg1 hat1)
      go_roundg (l.length - (i + 1))
      case measure => have := HG.out; omega
      case rel => exact ⟨i + 1, rfl, by omega, by go_num, ⟨by rw [flat_drop l i row HD.out]; exact HO1.out⟩, hb1⟩
    · go_wp2
      go_ret
      refine ⟨_, rfl, ?_, hbel⟩
      have h := HO.out
      rw [List.take_of_length_le (by omega)] at h
      exact h
end Go.Proofs.Ytjpobhdgfdeenaa.A
