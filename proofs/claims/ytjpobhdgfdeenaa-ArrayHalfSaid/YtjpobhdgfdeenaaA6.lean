/- Contracts of the reference's functions that make rows of rows: copied. -/
import Derived.Test.YtjpobhdgfdeenaaProg
import Derived.Below
import Derived.Deep.Draws
import Derived.Deep.AppendLies
import Derived.Maps.AppendAt
import Derived.Maps.OwnSet
import Derived.OwnWalk
import Derived.Laws.BytesArg
import Derived.Laws.MakeOwn
import Derived.Laws.OwnMore
import Derived.Deep.OwnRows
import Derived.Tactics
import Derived.Laws.Slices
import Derived.WalkKit
import Derived.KernelRfl
import Derived.RowKit3
import Derived.Deep.LoopGhost
import Derived.Deep.QuietTactic
import Derived.BigQuiet
import Derived.WideLaws
import Derived.Deep.DeepCutAuto
import Derived.Deep.CutBlock
import Derived.Deep.RegionHeld3
import Derived.Laws.Rows
import Derived.ArgAppend
import Derived.Laws.IdiomCopy
import Derived.OrdersHeld
import Derived.Laws.BitsLemmas
import Derived.Outline
import Derived.WalkSpells
import Derived.Lib.Hide
import Derived.RowKit
import Derived.Test.YtjpobhdgfdeenaaA5
namespace Go.Proofs.Ytjpobhdgfdeenaa.A
open Go.RowKit Go.Proofs.YtjpobhdgfdeenaaW.PrintWords Go.Maps

theorem OI_empty {w : World} {base : Nat} (hb : base ≤ w.heap.size) : OI (w.alloc (.cells #[] 3)) base (.slice (some ⟨w.heap.size, 0, none⟩) 0 0) [] :=
  ⟨fun _ _ => trivial, [], World.ownsRow_made w #[] 0 hb (Nat.zero_le _) rfl, Reps.none _ _⟩
theorem OI_below {w w1 : World} {base : Nat} {v : Value} {xs : List Int} (h : OI w base v xs) (hb : Below w.heap.size w w1) : OI w1 base v xs := Kd.R_below h hb
theorem OR_below {w w1 : World} {base : Nat} {v : Value} {xs : List (List Int)} (h : OR w base v xs) (hb : Below w.heap.size w w1) : OR w1 base v xs := Kd.R_below (d := kd3) h hb

theorem take_drop_snoc {α : Type} {l : List α} {i : Nat} {x : α} (h : l.drop i = x :: l.drop (i + 1)) : l.take (i + 1) = l.take i ++ [x] := by
  have hi : i < l.length := by
    rcases Nat.lt_or_ge i l.length with h' | h'
    · exact h'
    · rw [List.drop_eq_nil_of_le h'] at h; cases h
  rw [List.drop_eq_getElem_cons hi] at h
  injection h with h _
  rw [List.take_succ_eq_append_getElem hi, h]
set_option maxHeartbeats 1000000 in
theorem copied_calls (A : Option Addr) (c : Nat) (l : List (List Int)) (w : World) (hr : Kd.C (Kd.slice 3 (Kd.int .i64)) w A l.length l) (hs : l.length ≤ 1000000) (hs2 : ∀ x ∈ l, x.length ≤ 1000000) :
    Calls Try.prog 63 #[.slice A l.length c] w fun e w' => ∃ v, e = .returned v ∧ OR w' w.heap.size v l ∧ Below w.heap.size w w' := by
  have HR := Aside0.mk hr
  have hm := (C_len hr).2
  have HS2 := Aside0.mk hs2
  clear hr hs2
  go_enter Try.func63, Try.ntmps63
  go_wp2
  go_loopg [3, 4] l.length (fun g v3 v4 wr => ∃ (i : Nat), g = l.length - i ∧ i ≤ l.length ∧ v4 = .int .i64 i ∧ Aside0 (OR wr w.heap.size v3 (l.take i)) ∧ Below w.heap.size w wr)
  case atStart => exact ⟨0, rfl, Nat.zero_le _, rfl, ⟨Kd.R_nil _ _ _ _ _⟩, Below.refl _ _⟩
  case round =>
    obtain ⟨i, hg, hi, rfl, HO, hbel⟩ := hrel
    have HG := Aside0.mk hg
    clear hg
    by_cases hlt : i < l.length
    · obtain ⟨ad, A0, c0, row, hA, hdrop, hcell, hrl, hrow⟩ := C_row HR.out i hlt
      subst hA
      replace hcell := pw_cell_below hbel hcell
      have HD := Aside0.mk hdrop
      have HRow := Aside0.mk (Kd.C_below hrow hbel)
      have hrm := (C_len hrow).2
      have hsz := hbel.size
      have HL : Aside0 (row.length ≤ 1000000) := ⟨HS2.out row (List.mem_of_mem_drop (hdrop ▸ List.mem_cons_self))⟩
      clear hdrop hrow
      have hca : ∀ o, (wr.alloc o).cell? (ad.add i) = some (.slice A0 row.length c0) := fun o => pw_cell_below (below_alloc (Below.refl _ _) o) hcell
      go_wp2_with (first | ((with_reducible refine at_b (b := .append) (xs := #[.tmp 12, .tmp 16]) rfl ?_); at_builtin; refine Kd.R_append_rows (Kd.int .i64) (w0 := wr) wr.heap.size rfl (.tmp 12) (.tmp 16) 22 3 (.int .i64 0) 8 rfl Try.underlying22 infoA3 rfl (by decide) (by omega) _ [] row _ _ _ Tr (fun _ => False) rfl rfl (OI_empty (Nat.le_refl _)) (Kd.C_below HRow.out (below_alloc (Below.refl _ _) _)) (fun _ _ h => h) (fun _ h => h.elim) (fun _ _ => trivial) (below_alloc (Below.refl _ _) _) (by simp) ?aL ?_; (case aL => have := HL.out; simp; omega); intro v1 w1 ho hb1 hg1 hat1; have HI := Aside0.mk ho; clear ho hg1 hat1; obtain ⟨A1, c1, e1, _⟩ := OI_reads HI.out; subst e1) | ((with_reducible refine at_b (b := .append) (xs := #[.tmp 11, .tmp 18]) rfl ?_); refine Kd.R_append kd3 (w0 := w) (W := w1) w.heap.size rfl (.tmp 11) (.tmp 18) 24 22 (.slice none 0 0) 24 rfl Try.underlying24 infoA22 rfl (by decide) (by omega) u3 (l.take i) row [.slice A1 row.length c1] Tr (fun k => Tr k ∧ some k ≠ u3.ownBlock) rfl rfl ?bP (fun _ h => h) (fun _ _ => trivial) ?bO ?bB ?bS ?bL ?_; (case bO => exact (OR_below HO.out hb1)); (case bP => exact (M_not_outer (OR_below HO.out hb1) (kd3.M_lower hsz (M_of_OI HI.out)))); (case bB => exact below_step hbel hb1); (case bS => exact Nat.le_trans hsz hb1.size); (case bL => simp; omega); intro v2 w2 ho2 hb2 hg2 hat2; have HO2 := Aside0.mk ho2; clear ho2 hg2 hat2))
      go_roundg (l.length - (i + 1))
      case measure => have := HG.out; omega
      case rel => exact ⟨i + 1, rfl, by omega, by go_num, ⟨by rw [take_drop_snoc HD.out]; exact HO2.out⟩, hb2⟩
    · go_wp2
      go_ret
      refine ⟨_, rfl, ?_, hbel⟩
      have h := HO.out
      rw [List.take_of_length_le (by omega)] at h
      exact h
end Go.Proofs.Ytjpobhdgfdeenaa.A
