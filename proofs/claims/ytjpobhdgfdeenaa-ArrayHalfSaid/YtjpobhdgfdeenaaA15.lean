/- slices.Grow, slices.Concat at rows of whole numbers; listed. -/
import Derived.Test.YtjpobhdgfdeenaaProg
import Derived.Below
import Derived.Deep.Draws
import Derived.Deep.AppendLies
import Derived.Maps.AppendAt
import Derived.Maps.OwnSet
import Derived.OwnWalk
import Derived.Laws.BytesArg
import Derived.Laws.MakeOwn
import Derived.Laws.OwnMore
import Derived.Deep.OwnRows
import Derived.Tactics
import Derived.Laws.Slices
import Derived.WalkKit
import Derived.KernelRfl
import Derived.RowKit3
import Derived.Deep.LoopGhost
import Derived.Deep.QuietTactic
import Derived.BigQuiet
import Derived.WideLaws
import Derived.Deep.DeepCutAuto
import Derived.Deep.CutBlock
import Derived.Deep.RegionHeld3
import Derived.Laws.Rows
import Derived.ArgAppend
import Derived.Laws.IdiomCopy
import Derived.OrdersHeld
import Derived.Laws.BitsLemmas
import Derived.Outline
import Derived.WalkSpells
import Derived.Lib.Hide
import Derived.RowKit
import Derived.Deep.DeepMust
import Derived.Lib.AppendZerosOnto
import Derived.Test.YtjpobhdgfdeenaaS5
import Derived.Test.YtjpobhdgfdeenaaA6
set_option linter.unusedVariables false
set_option linter.unusedSimpArgs false
namespace Go.Proofs.Ytjpobhdgfdeenaa.A
open Go.RowKit Go.Lib Go.Proofs.YtjpobhdgfdeenaaW.PrintWords Go.Maps

theorem grow_none (w : World) : Calls Try.prog 75 #[.slice none 0 0, .int .i64 0] w fun e w' => e = .returned (.slice none 0 0) ∧ w' = w := by
  go_enter Try.func75, Try.ntmps75
  go_wp2
  go_ret
  exact ⟨rfl, rfl⟩
set_option maxHeartbeats 1000000 in
theorem grow_some (n : Nat) (h0 : 0 < n) (hn : n ≤ 1000000) (w : World) : Calls Try.prog 75 #[.slice none 0 0, .int .i64 n] w fun e w' => ∃ v, e = .returned v ∧ OI w' w.heap.size v [] ∧ Below w.heap.size w w' := by
  obtain ⟨i0, hi0, hz0, hzs, hzb⟩ := info_parts infoA3
  obtain ⟨G, hG⟩ : ∃ G, G = grownCap w n 0 3 := ⟨_, rfl⟩
  have hGn : n ≤ G := by rw [hG]; exact grownCap_ge w _ _ _
  have hGm : G ≤ maxLen := by
    have := grownCap_le_maxLen w n 0 3 (by unfold maxLen; omega)
    rw [← hG] at this
    exact this
  have hG63 : G ≤ 9223372036854775807 := hGm
  obtain ⟨C0, hC0⟩ : ∃ C0, C0 = Builtin.zeroCells (Value.int .i64 0).cells n ++ Builtin.zeroCells (Value.int .i64 0).cells (G - n) := ⟨_, rfl⟩
  have hC0s : C0.size = G := by
    rw [hC0]
    simp [Builtin.zeroCells, Value.cells]
    omega
  have hrun : ∀ ty, (Builtin.append_ #[22, 3] ty #[.slice none 0 0, .int .i64 n]).run Try.prog w = .ok (.slice (some ⟨w.heap.size, 0, none⟩) n G) (w.drew.alloc (.cells C0 3)) := fun ty => by
    have := run_append_nil_zeros (P := Try.prog) w 22 3 ty 3 i0 (.int .i64 0) .i64 .i64 Try.underlying22 Try.underlying3 hi0 hz0 n h0 (by rw [hzs]; decide) (by omega) (by rw [hzb]; omega)
    rw [← hG] at this
    rw [hC0]
    exact this
  have ha1 : (0 : Int) ≤ (n : Int) := by omega
  have ha2 : (0 : Int) < (n : Int) := by omega
  have ha3 : (n : Int) ≤ (G : Int) := by omega
  have ha4 : (0 : Int) ≤ (G : Int) := by omega
  have HH := Aside0.mk (And.intro hG hC0)
  clear hG hC0
  go_enter Try.func75, Try.ntmps75
  go_wp2_with (at_builtin; refine Lib.wpList_append_run _ rfl _ _ _ _ rfl _ _ rfl rfl _ _ (hrun _) ?_)
  go_ret
  refine ⟨_, rfl, ⟨fun _ _ => trivial, [], World.ownsRow_made w.drew C0 G (Nat.le_refl _) hGm (by rw [hC0s]; exact (Nat.mul_one _).symm), Reps.none _ _⟩, below_alloc (below_drew (Below.refl _ _)) _⟩
set_option maxHeartbeats 1000000 in
theorem Concat_calls (A : Option Addr) (c : Nat) (l : List (List Int)) (w : World) (hr : Kd.C (Kd.slice 3 (Kd.int .i64)) w A l.length l) (hs : l.flatten.length ≤ 1000000) :
    Calls Try.prog 64 #[.slice A l.length c] w fun e w' => ∃ v, e = .returned v ∧ OI w' w.heap.size v l.flatten ∧ Below w.heap.size w w' := by
  have HR := Aside0.mk hr
  have hm := (C_len hr).2
  have HSZ := Aside0.mk hs
  clear hr hs
  go_enter Try.func64, Try.ntmps64
  go_wp2
  go_loopg [3, 11] l.length (fun g v3 v11 wr => ∃ (i n : Nat), g = l.length - i ∧ i ≤ l.length ∧ v3 = .int .i64 n ∧ v11 = .int .i64 i ∧ Aside0 (n = (l.take i).flatten.length) ∧ w = wr)
  case atStart => exact ⟨0, 0, rfl, Nat.zero_le _, rfl, rfl, ⟨by simp⟩, rfl⟩
  case round =>
    obtain ⟨i, n, hg, hi, rfl, rfl, HN, rfl⟩ := hrel
    have HG := Aside0.mk hg
    clear hg
    by_cases hlt : i < l.length
    · obtain ⟨ad, A0, c0, row, hA, hdrop, hcell, hrl, hrow⟩ := C_row HR.out i hlt
      subst hA
      have HD := Aside0.mk hdrop
      have hnl : n + row.length ≤ 1000000 := by
        have h1 := flat_len l (i + 1)
        rw [flat_drop l i row hdrop, List.length_append] at h1
        have := HSZ.out
        have := HN.out
        omega
      have HN1 : Aside0 (n + row.length = (l.take (i + 1)).flatten.length) := ⟨by
        rw [flat_drop l i row hdrop, List.length_append, HN.out]⟩
      have hnn : ¬ ((n : Int) + (row.length : Int) < 0) := by omega
      clear hdrop hrow HN
      go_wp2
      go_roundg (l.length - (i + 1))
      case measure => have := HG.out; omega
      case rel => exact ⟨i + 1, n + row.length, rfl, by omega, by go_num, by go_num, HN1, rfl⟩
    · have hil : i = l.length := by omega
      subst hil
      have hnf : n = l.flatten.length := by rw [HN.out, List.take_length]
      have hnm : n ≤ 1000000 := by have := HSZ.out; omega
      have HNF := Aside0.mk hnf
      have hcon : Aside0 (Calls Try.prog 75 #[.slice none 0 0, .int .i64 n] w fun e w' => ∃ v, e = .returned v ∧ OI w' w.heap.size v [] ∧ Below w.heap.size w w') := ⟨by
        by_cases h0 : 0 < n
        · exact grow_some n h0 hnm w
        · have : n = 0 := by omega
          subst this
          refine (grow_none w).mono ?_
          rintro e w' ⟨rfl, rfl⟩
          exact ⟨_, rfl, Kd.R_nil _ _ _ _ _, Below.refl _ _⟩⟩
      clear hnf HN hlt hi
      go_wp2_with (go_at_call 75; refine hcon.out.mono ?_; rintro e w1 ⟨v0, rfl, ho0, hb0⟩; have HO0 := Aside0.mk ho0; clear ho0)
      go_loopg [6, 27] l.length (fun g v6 v27 wr => ∃ (i : Nat), g = l.length - i ∧ i ≤ l.length ∧ v27 = .int .i64 i ∧ Aside0 (OI wr w.heap.size v6 (l.take i).flatten) ∧ Below w.heap.size w wr)
      case atStart => exact ⟨0, rfl, Nat.zero_le _, rfl, ⟨HO0.out⟩, hb0⟩
      case round =>
        obtain ⟨i, hg, hi, rfl, HO, hbel⟩ := hrel
        have HG2 := Aside0.mk hg
        clear hg
        by_cases hlt : i < l.length
        · obtain ⟨ad, A0, c0, row, hA, hdrop, hcell, hrl, hrow⟩ := C_row HR.out i hlt
          subst hA
          replace hcell := pw_cell_below hbel hcell
          have HD := Aside0.mk hdrop
          have HRow := Aside0.mk (Kd.C_below hrow hbel)
          have hrm := (C_len hrow).2
          have hsz := hbel.size
          have HL : Aside0 ((List.take i l).flatten.length + row.length ≤ 1000000) := ⟨by
            have h1 := flat_len l (i + 1)
            rw [flat_drop l i row hdrop, List.length_append] at h1
            have := HSZ.out
            omega⟩
          clear hdrop hrow
          go_wp2_with (at_builtin; refine Kd.R_append_rows (Kd.int .i64) (w0 := w) w.heap.size rfl (.tmp 31) (.tmp 32) 22 3 (.int .i64 0) 8 rfl Try.underlying22 infoA3 rfl (by decide) (by omega) u6 (l.take i).flatten row _ _ _ Tr (fun _ => False) rfl rfl HO.out HRow.out (fun _ _ h => h) (fun _ h => h.elim) (fun _ _ => trivial) hbel hsz ?aL ?_; (case aL => have := HL.out; omega); intro v1 w2 ho hb1 hg1 hat1; have HO1 := Aside0.mk ho; clear ho hg1 hat1)
          go_roundg (l.length - (i + 1))
          case measure => have := HG2.out; omega
          case rel => exact ⟨i + 1, rfl, by omega, by go_num, ⟨by rw [flat_drop l i row HD.out]; exact HO1.out⟩, hb1⟩
        · go_wp2
          go_ret
          refine ⟨_, rfl, ?_, hbel⟩
          have h := HO.out
          rw [List.take_of_length_le (by omega)] at h
          exact h
theorem listed_calls (A : Option Addr) (c : Nat) (l : List (List Int)) (w : World) (hr : Kd.C (Kd.slice 3 (Kd.int .i64)) w A l.length l) (hs : l.flatten.length ≤ 1000000) :
    Calls Try.prog 46 #[.slice A l.length c] w fun e w' => ∃ v, e = .returned v ∧ OI w' w.heap.size v l.flatten ∧ Below w.heap.size w w' := by
  have hc := Aside0.mk (Concat_calls A c l w hr hs)
  clear hr hs
  go_enter Try.func46, Try.ntmps46
  go_wp2_with (go_at_call 64; refine hc.out.mono ?_; rintro e w1 ⟨v0, rfl, ho0, hb0⟩; have HO0 := Aside0.mk ho0; clear ho0)
  go_ret
  exact ⟨_, rfl, HO0.out, hb0⟩
end Go.Proofs.Ytjpobhdgfdeenaa.A
