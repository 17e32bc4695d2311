/- Make of package array: the walk. -/
import Derived.Test.YtjpobhdgfdeenaaProg
import Derived.Below
import Derived.Deep.Draws
import Derived.Deep.AppendLies
import Derived.Maps.AppendAt
import Derived.Maps.OwnSet
import Derived.OwnWalk
import Derived.Laws.BytesArg
import Derived.Laws.MakeOwn
import Derived.Laws.OwnMore
import Derived.Deep.OwnRows
import Derived.Tactics
import Derived.Laws.Slices
import Derived.WalkKit
import Derived.KernelRfl
import Derived.RowKit3
import Derived.Deep.LoopGhost
import Derived.Deep.QuietTactic
import Derived.BigQuiet
import Derived.WideLaws
import Derived.Deep.DeepCutAuto
import Derived.Deep.CutBlock
import Derived.Deep.RegionHeld3
import Derived.Laws.Rows
import Derived.ArgAppend
import Derived.Laws.IdiomCopy
import Derived.OrdersHeld
import Derived.Laws.BitsLemmas
import Derived.Outline
import Derived.WalkSpells
import Derived.Lib.Hide
import Derived.RowKit
import Derived.Deep.DeepMust
import Derived.Test.YtjpobhdgfdeenaaA17
set_option linter.unusedVariables false
set_option linter.unusedSimpArgs false
namespace Go.Proofs.Ytjpobhdgfdeenaa.A
open Go.RowKit Go.Proofs.YtjpobhdgfdeenaaW.PrintWords Go.Maps

set_option maxHeartbeats 2000000 in
theorem Make_calls (b : Int) (A : Option Addr) (c : Nat) (l : List Int) (w : World) (hr : Kd.C (Kd.int .i64) w A l.length l) (hs : l.length ≤ 1000000) :
    Calls Try.prog 10 #[.int .i64 b, .slice A l.length c] w fun e w' => ∃ v, e = .returned (.tuple #[v, .int .i64 (makeE b l)]) ∧ RA w' v (makeA b l) ∧ Below w.heap.size w w' := by
  have HR := Aside0.mk hr
  have hm := (C_len hr).2
  clear hr
  have hmm := @run_makeMap Try.prog
  go_enter Try.func10, Try.ntmps10
  go_wp2
  go_loopg [15] l.length (fun g v15 wr => ∃ (i : Nat), g = l.length - i ∧ i ≤ l.length ∧ v15 = .int .i64 i ∧ Aside0 (GoodL (l.take i)) ∧ Met wr w.heap.size (l.take i) ∧ Below w.heap.size w wr)
  case atStart => exact ⟨0, rfl, Nat.zero_le _, rfl, ⟨by simp [GoodL]⟩, met_made w, (Below.refl _ _).alloc (Nat.le_refl _) _⟩
  case round =>
    obtain ⟨i, hg, hi, rfl, HGd, hmet, hbel⟩ := hrel
    have HG := Aside0.mk hg
    clear hg
    by_cases hlt : i < l.length
    · obtain ⟨ad2, x, hA2, hdrop2, hcell2⟩ := C_int HR.out i hlt
      replace hcell2 := pw_cell_below hbel hcell2
      subst hA2
      have HD2 := Aside0.mk hdrop2
      clear hdrop2
      cases hkey : keyB x with
      | false =>
        have HE := Aside0.mk (makeE_bad (b := b) (good_take HD2.out (.inl hkey)))
        replace hkey : decide (1 ≤ x ∧ x ≤ 1000000) = false := hkey
        go_wp2_with (go_at_call 39; refine (key_calls x _).mono ?_; rintro e w' ⟨rfl, rfl⟩)
        go_ret2
        exact ⟨_, ret_pair HE.out.symm, by rw [makeA_bad (by rw [HE.out]; decide)]; exact RA_nil _, hbel⟩
      | true =>
        have hxw : wfi x := by have := of_decide_eq_true hkey; unfold wfi; omega
        have hk0 := Aside0.mk hkey
        replace hkey : decide (1 ≤ x ∧ x ≤ 1000000) = true := hkey
        by_cases hx : x ∈ l.take i
        · have hlook := hmet.look hxw
          rw [decide_eq_true hx] at hlook
          have HE := Aside0.mk (makeE_bad (b := b) (good_take HD2.out (.inr hx)))
          clear hx
          go_wp2_with (go_at_call 39; refine (key_calls x _).mono ?_; rintro e w' ⟨rfl, rfl⟩)
          go_ret2
          exact ⟨_, ret_pair HE.out.symm, by rw [makeA_bad (by rw [HE.out]; decide)]; exact RA_nil _, hbel⟩
        · have hlook := hmet.look hxw
          rw [decide_eq_false hx] at hlook
          have HX := Aside0.mk hx
          clear hx
          have htl : (l.take i).length < 1000000 := by rw [List.length_take]; omega
          obtain ⟨w1, hput, hmet1, hgr⟩ := hmet.put hxw HX.out (by unfold maxLen; omega)
          clear htl
          go_wp2_with (go_at_call 39; refine (key_calls x _).mono ?_; rintro e w' ⟨rfl, rfl⟩)
          go_roundg (l.length - (i + 1))
          case measure => have := HG.out; omega
          case rel =>
            exact ⟨i + 1, rfl, by omega, by go_num, ⟨good_step HD2.out HGd.out hk0.out HX.out⟩, by rw [take_drop_snoc HD2.out]; exact hmet1, hbel.grown hgr hbel.size (fun j hj => by cases hj; exact Nat.le_refl _)⟩
    · have hgood : GoodL l := by have := HGd.out; rwa [List.take_of_length_le (by omega)] at this
      have HGL := Aside0.mk hgood
      clear hgood HGd hmet
      cases hroom : roomB b with
      | false =>
        have HE := Aside0.mk (makeE_room (l := l) hroom)
        replace hroom : decide (2 ≤ b ∧ b ≤ 50) = false := hroom
        go_wp2_with (go_at_call 40; refine (room_calls b _).mono ?_; rintro e w' ⟨rfl, rfl⟩)
        go_ret2
        exact ⟨_, ret_pair HE.out.symm, by rw [makeA_bad (by rw [HE.out]; decide)]; exact RA_nil _, hbel⟩
      | true =>
        have HRM := Aside0.mk hroom
        have hbb : Aside0 (2 ≤ b ∧ b ≤ 50) := ⟨of_decide_eq_true hroom⟩
        by_cases hl5 : l.length ≤ 500
        · have HE := Aside0.mk (makeE_ok HGL.out hroom hl5)
          replace hroom : decide (2 ≤ b ∧ b ≤ 50) = true := hroom
          have hl6 : ¬ (500 < (l.length : Int)) := by omega
          go_wp2_with (go_at_call 40; refine (room_calls b _).mono ?_; rintro e w' ⟨rfl, rfl⟩)
          go_loopg [9, 40] l.length (fun g v9 v40 wr => ∃ (i : Nat), g = l.length - i ∧ i ≤ l.length ∧ v40 = .int .i64 i ∧ Aside0 (OwnA wr w.heap.size v9 (makeN b l i)) ∧ Below w.heap.size w wr)
          case atStart => exact ⟨0, rfl, Nat.zero_le _, rfl, ⟨.inl ⟨rfl, none, 0, rfl⟩⟩, hbel⟩
          case round =>
            obtain ⟨i, hg, hi, rfl, HO, hbel2⟩ := hrel
            have HG2 := Aside0.mk hg
            clear hg
            by_cases hlt : i < l.length
            · obtain ⟨ad2, x, hA2, hdrop2, hcell2⟩ := C_int HR.out i hlt
              replace hcell2 := pw_cell_below hbel2 hcell2
              subst hA2
              have hxi : l.getD i 0 = x := by
                have := List.drop_eq_getElem_cons hlt
                rw [this] at hdrop2
                injection hdrop2 with h1 _
                simp [List.getD_eq_getElem?_getD, List.getElem?_eq_getElem hlt, h1]
              obtain ⟨hi1, hi2⟩ := makeN_inv hbb.out.1 l i (by omega)
              have hfl : (makeN b l i).flatten.length = i := by rw [hi1, List.length_take]; omega
              have hcon := Aside0.mk (insert_calls b i x w.heap.size u9 (makeN b l i) wr HO.out hbb.out (by omega) (by have := rows_len hi2; omega) (by omega) hbel2.size)
              have HI := Aside0.mk (And.intro hxi hfl)
              clear hdrop2 hxi hi1 hi2 hfl
              go_wp2_with (go_at_call 41; refine hcon.out.mono ?_; rintro e w1 ⟨v', vs', rfl, ho1, hb1⟩; have HO1 := Aside0.mk ho1; clear ho1)
              go_roundg (l.length - (i + 1))
              case measure => have := HG2.out; omega
              case rel => exact ⟨i + 1, rfl, by omega, by go_num, ⟨.inr ⟨by rw [makeN]; exact putF_ne (by omega) (by have := HI.out.2; omega), _, by rw [makeN, HI.out.1]; exact HO1.out⟩⟩, hbel2.trans hb1⟩
            · have hil : i = l.length := by omega
              subst hil
              go_wp2
              go_ret2
              refine ⟨_, ret_pair HE.out.symm, ?_, hbel2⟩
              rw [makeA_ok HE.out]
              rcases HO.out with ⟨h0, A0, c0, e0⟩ | ⟨_, vs, h2⟩
              · rw [h0]
                refine ⟨A0, c0, e0, Nat.zero_le _, rfl, by simp, fun h => absurd h (Nat.lt_irrefl _)⟩
              · exact h2.ra
        · have HE := Aside0.mk (makeE_many HGL.out hroom hl5)
          replace hroom : decide (2 ≤ b ∧ b ≤ 50) = true := hroom
          have hl6 : 500 < (l.length : Int) := by omega
          go_wp2_with (go_at_call 40; refine (room_calls b _).mono ?_; rintro e w' ⟨rfl, rfl⟩)
          go_ret2
          exact ⟨_, ret_pair HE.out.symm, by rw [makeA_bad (by rw [HE.out]; decide)]; exact RA_nil _, hbel⟩
end Go.Proofs.Ytjpobhdgfdeenaa.A
