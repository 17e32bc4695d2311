/- Make of the reference. -/
import Derived.Test.YtjpobhdgfdeenaaProg
import Derived.Below
import Derived.Deep.Draws
import Derived.Deep.AppendLies
import Derived.Maps.AppendAt
import Derived.Maps.OwnSet
import Derived.OwnWalk
import Derived.Laws.BytesArg
import Derived.Laws.MakeOwn
import Derived.Laws.OwnMore
import Derived.Deep.OwnRows
import Derived.Tactics
import Derived.Laws.Slices
import Derived.WalkKit
import Derived.KernelRfl
import Derived.RowKit3
import Derived.Deep.LoopGhost
import Derived.Deep.QuietTactic
import Derived.BigQuiet
import Derived.WideLaws
import Derived.Deep.DeepCutAuto
import Derived.Deep.CutBlock
import Derived.Deep.RegionHeld3
import Derived.Laws.Rows
import Derived.ArgAppend
import Derived.Laws.IdiomCopy
import Derived.OrdersHeld
import Derived.Laws.BitsLemmas
import Derived.Outline
import Derived.WalkSpells
import Derived.Lib.Hide
import Derived.RowKit
import Derived.Deep.DeepMust
import Derived.Test.YtjpobhdgfdeenaaA21
import Derived.Test.YtjpobhdgfdeenaaA18
set_option linter.unusedVariables false
set_option linter.unusedSimpArgs false
namespace Go.Proofs.Ytjpobhdgfdeenaa.A
open Go.RowKit Go.Proofs.YtjpobhdgfdeenaaW.PrintWords Go.Maps

/-- Where a key stands first. -/
theorem idxFrom_ge (x : Int) : ∀ (l : List Int) (i : Nat), x ∈ l → (i : Int) ≤ idxFrom x i l
  | [], i, h => by simp at h
  | y :: ys, i, h => by
    rw [idxFrom]
    by_cases e : y = x
    · rw [if_pos e]; omega
    · rw [if_neg e]
      have := idxFrom_ge x ys (i + 1) (by rcases List.mem_cons.1 h with h | h; exact absurd h.symm e; exact h)
      omega
theorem idxFrom_lt (x : Int) : ∀ (l : List Int) (i j : Nat), x ∈ l → ((idxFrom x i l < ((i + j : Nat) : Int)) ↔ x ∈ l.take j)
  | [], i, j, h => by simp at h
  | y :: ys, i, j, h => by
    rw [idxFrom]
    by_cases e : y = x
    · rw [if_pos e]
      subst e
      cases j with
      | zero => simp
      | succ j => simp; omega
    · rw [if_neg e]
      have hx : x ∈ ys := by rcases List.mem_cons.1 h with h | h; exact absurd h.symm e; exact h
      cases j with
      | zero =>
        have := idxFrom_ge x ys (i + 1) hx
        simp
        omega
      | succ j =>
        have := idxFrom_lt x ys (i + 1) j hx
        rw [show i + 1 + j = i + (j + 1) by omega] at this
        rw [this]
        simp [Ne.symm e]
theorem idxF_lt {l : List Int} {i : Nat} {x : Int} (h : l.drop i = x :: l.drop (i + 1)) : decide (idxF l x < (i : Int)) = decide (x ∈ l.take i) := by
  have hx : x ∈ l := List.mem_of_mem_drop (i := i) (by rw [h]; simp)
  have := idxFrom_lt x l 0 i hx
  rw [Nat.zero_add] at this
  exact decide_eq_decide.2 this
set_option maxHeartbeats 2000000 in
theorem rMake_calls (b : Int) (A : Option Addr) (c : Nat) (l : List Int) (w : World) (hr : Kd.C (Kd.int .i64) w A l.length l) (hs : l.length ≤ 1000000) :
    Calls Try.prog 11 #[.int .i64 b, .slice A l.length c] w fun e w' => ∃ v, e = .returned (.tuple #[v, .int .i64 (makeE b l)]) ∧ RA w' v (makeA b l) ∧ Below w.heap.size w w' := by
  have HR := Aside0.mk hr
  have hm := (C_len hr).2
  clear hr
  cases hroom : roomB b with
  | false =>
    have HE := Aside0.mk (makeE_room (l := l) hroom)
    go_enter Try.func11, Try.ntmps11
    go_wp2_with (go_at_call 42; refine (size_calls b _).mono ?_; rintro e w' ⟨rfl, rfl⟩)
    go_ret2
    exact ⟨_, ret_pair HE.out.symm, by rw [makeA_bad (by rw [HE.out]; decide)]; exact RA_nil _, Below.refl _ _⟩
  | true =>
    have HRM := Aside0.mk hroom
    have hbb : Aside0 (2 ≤ b ∧ b ≤ 50) := ⟨of_decide_eq_true hroom⟩
    go_enter Try.func11, Try.ntmps11
    go_wp2_with (go_at_call 42; refine (size_calls b _).mono ?_; rintro e w' ⟨rfl, rfl⟩)
    clear hroom
    go_loopg [6] l.length (fun g v6 wr => ∃ (i : Nat), g = l.length - i ∧ i ≤ l.length ∧ v6 = .int .i64 i ∧ Aside0 (GoodL (l.take i)) ∧ Below w.heap.size w wr)
    case atStart => exact ⟨0, rfl, Nat.zero_le _, rfl, ⟨by simp [GoodL]⟩, Below.refl _ _⟩
    case round =>
      obtain ⟨i, hg, hi, rfl, HGd, hdr⟩ := hrel
      have hbel := hdr
      have HG := Aside0.mk hg
      clear hg
      by_cases hlt : i < l.length
      · obtain ⟨ad2, x, hA2, hdrop2, hcell2⟩ := C_int HR.out i hlt
        replace hcell2 := pw_cell_below hbel hcell2
        have HRr := Aside0.mk (Kd.C_below HR.out hbel)
        subst hA2
        have HD2 := Aside0.mk hdrop2
        have hix := idxF_lt hdrop2
        clear hdrop2
        cases hkey : keyB x with
        | false =>
          have HE := Aside0.mk (makeE_bad (b := b) (good_take HD2.out (.inl hkey)))
          clear hix
          go_wp2_with (go_at_call 43; refine (Key_calls x _).mono ?_; rintro e w' ⟨rfl, rfl⟩)
          go_ret2
          exact ⟨_, ret_pair HE.out.symm, by rw [makeA_bad (by rw [HE.out]; decide)]; exact RA_nil _, hbel⟩
        | true =>
          have hk0 := Aside0.mk hkey
          by_cases hx : x ∈ l.take i
          · have HE := Aside0.mk (makeE_bad (b := b) (good_take HD2.out (.inr hx)))
            rw [decide_eq_true hx] at hix
            have hix' := of_decide_eq_true hix
            clear hx hix
            go_wp2_with (first | (go_at_call 43; go_must (refine (Key_calls x _).mono ?_; rintro e w' ⟨rfl, rfl⟩)) | (go_at_call 44; go_must (refine (Index_calls _ _ _ _ _ HRr.out).mono ?_; rintro e w' ⟨rfl, ⟨m2, rfl⟩⟩)))
            go_ret2
            exact ⟨_, ret_pair HE.out.symm, by rw [makeA_bad (by rw [HE.out]; decide)]; exact RA_nil _, pw_below_drewN hbel _⟩
          · rw [decide_eq_false hx] at hix
            have hix' := of_decide_eq_false hix
            have HX := Aside0.mk hx
            clear hx hix
            go_wp2_with (first | (go_at_call 43; go_must (refine (Key_calls x _).mono ?_; rintro e w' ⟨rfl, rfl⟩)) | (go_at_call 44; go_must (refine (Index_calls _ _ _ _ _ HRr.out).mono ?_; rintro e w' ⟨rfl, ⟨m2, rfl⟩⟩)))
            go_roundg (l.length - (i + 1))
            case measure => have := HG.out; omega
            case rel =>
              exact ⟨i + 1, rfl, by omega, by go_num, ⟨good_step HD2.out HGd.out hk0.out HX.out⟩, pw_below_drewN hbel _⟩
      · have hgood : GoodL l := by have := HGd.out; rwa [List.take_of_length_le (by omega)] at this
        have HGL := Aside0.mk hgood
        clear hgood HGd
        by_cases hl5 : l.length ≤ 500
        · have HE := Aside0.mk (makeE_ok HGL.out HRM.out hl5)
          have hl6 : ¬ (500 < (l.length : Int)) := by omega
          go_wp2
          go_loopg [7, 8] l.length (fun g v7 v8 wr => ∃ (i : Nat), g = l.length - i ∧ i ≤ l.length ∧ v8 = .int .i64 i ∧ (∃ A1 c1, v7 = .slice A1 (makeN b l i).length c1 ∧ (makeN b l i).length ≤ c1 ∧ Aside0 (Kd.C (Kd.slice 3 (Kd.int .i64)) wr A1 (makeN b l i).length (makeN b l i))) ∧ Below w.heap.size w wr)
          case atStart => exact ⟨0, rfl, Nat.zero_le _, rfl, ⟨none, 0, rfl, Nat.le_refl _, ⟨Kd.C_nil _ _⟩⟩, hbel⟩
          case round =>
            obtain ⟨i, hg, hi, rfl, ⟨A1, c1, rfl, hc1, HC1⟩, hbel2⟩ := hrel
            have HG2 := Aside0.mk hg
            clear hg
            by_cases hlt : i < l.length
            · obtain ⟨ad2, x, hA2, hdrop2, hcell2⟩ := C_int HR.out i hlt
              replace hcell2 := pw_cell_below hbel2 hcell2
              subst hA2
              have hxi : l.getD i 0 = x := by
                have := List.drop_eq_getElem_cons hlt
                rw [this] at hdrop2
                injection hdrop2 with h1 _
                simp [List.getD_eq_getElem?_getD, List.getElem?_eq_getElem hlt, h1]
              obtain ⟨hi1, hi2⟩ := makeN_inv hbb.out.1 l i (by omega)
              have hfl : (makeN b l i).flatten.length = i := by rw [hi1, List.length_take]; omega
              have hcon := Aside0.mk (put_calls b i x A1 c1 (makeN b l i) wr HC1.out hc1 hbb.out (by omega) (by have := rows_len hi2; omega) (by omega))
              have HI := Aside0.mk (And.intro hxi hfl)
              clear hdrop2 hxi hi1 hi2 hfl
              go_wp2_with (go_at_call 45; go_must (refine hcon.out.mono ?_; rintro e w1 ⟨v', rfl, hra, hb1⟩; have HO1 := Aside0.mk hra; clear hra))
              go_roundg (l.length - (i + 1))
              case measure => have := HG2.out; omega
              case rel =>
                refine ⟨i + 1, rfl, by omega, by go_num, ?_, hbel2.trans (hb1.mono hbel2.size)⟩
                obtain ⟨A2, c2, e2, h2, h3⟩ := HO1.out
                rw [makeN, HI.out.1]
                exact ⟨A2, c2, e2, h2, ⟨h3⟩⟩
            · have hil : i = l.length := by omega
              subst hil
              go_wp2
              go_ret2
              refine ⟨_, ret_pair HE.out.symm, ?_, hbel2⟩
              rw [makeA_ok HE.out]
              exact ⟨A1, c1, rfl, hc1, HC1.out⟩
        · have HE := Aside0.mk (makeE_many HGL.out HRM.out hl5)
          have hl6 : 500 < (l.length : Int) := by omega
          go_wp2
          go_ret2
          exact ⟨_, ret_pair HE.out.symm, by rw [makeA_bad (by rw [HE.out]; decide)]; exact RA_nil _, hbel⟩
end Go.Proofs.Ytjpobhdgfdeenaa.A
