/- Contracts of the reference: Wrong, Valid, Keys. -/
import Derived.Test.YtjpobhdgfdeenaaProg
import Derived.Below
import Derived.Deep.Draws
import Derived.Deep.AppendLies
import Derived.Maps.AppendAt
import Derived.Maps.OwnSet
import Derived.OwnWalk
import Derived.Laws.BytesArg
import Derived.Laws.MakeOwn
import Derived.Laws.OwnMore
import Derived.Deep.OwnRows
import Derived.Tactics
import Derived.Laws.Slices
import Derived.WalkKit
import Derived.KernelRfl
import Derived.RowKit3
import Derived.Deep.LoopGhost
import Derived.Deep.QuietTactic
import Derived.BigQuiet
import Derived.WideLaws
import Derived.Deep.DeepCutAuto
import Derived.Deep.CutBlock
import Derived.Deep.RegionHeld3
import Derived.Laws.Rows
import Derived.ArgAppend
import Derived.Laws.IdiomCopy
import Derived.OrdersHeld
import Derived.Laws.BitsLemmas
import Derived.Outline
import Derived.WalkSpells
import Derived.Lib.Hide
import Derived.RowKit
import Derived.Deep.DeepMust
import Derived.Test.YtjpobhdgfdeenaaA7
namespace Go.Proofs.Ytjpobhdgfdeenaa.A
open Go.RowKit Go.Proofs.YtjpobhdgfdeenaaW.PrintWords Go.Maps

theorem not_own {w w0 : World} {v : Value} {T : List Int} (h : OI w w0.heap.size v T) {a : Addr} {u : Value} (hc : w0.cell? a = some u) : some a.block ≠ v.ownBlock := by
  intro he
  obtain ⟨_, inner, ho, _⟩ := h
  have h1 := own_base ho a.block he.symm
  have h2 := World.block_lt_of_cell? w0 a hc
  omega
set_option maxHeartbeats 1000000 in
set_option maxRecDepth 100000 in
theorem rWrong_calls (b : Int) (A : Option Addr) (c : Nat) (l : List (List Int)) (w : World) (hr : Kd.C (Kd.slice 3 (Kd.int .i64)) w A l.length l) :
    Calls Try.prog 18 #[.int .i64 b, .slice A l.length c] w fun e w' => e = .returned (.tuple #[.int .i64 (wrongF b l).1, .int .i64 (wrongF b l).2.1, .int .i64 (wrongF b l).2.2]) ∧ Below w.heap.size w w' := by
  have HR := Aside0.mk hr
  have hm := (C_len hr).2
  clear hr
  cases hb : roomB b with
  | true =>
    have HW : Aside0 (wrongF b l = scan b [] 0 (l.drop 0)) := ⟨by simp [wrongF, hb]⟩
    have hb2 : 2 ≤ b ∧ b ≤ 50 := of_decide_eq_true hb
    go_enter Try.func18, Try.ntmps18
    go_wp2_with (go_at_call 42; refine (size_calls b _).mono ?_; rw [hb]; rintro e w' ⟨rfl, rfl⟩)
    clear hb
    go_loopg [7, 8] l.length (fun g v7 v8 wr => ∃ (i : Nat) (S : List Int), g = l.length - i ∧ i ≤ l.length ∧ v8 = .int .i64 i ∧ Aside0 (wrongF b l = scan b S i (l.drop i)) ∧ Aside0 (S.length ≤ 500) ∧ Aside0 (OI wr w.heap.size v7 S) ∧ Below w.heap.size w wr)
    case atStart => exact ⟨0, [], rfl, Nat.zero_le _, rfl, HW, ⟨Nat.zero_le _⟩, ⟨Kd.R_nil _ _ _ _ _⟩, Below.refl _ _⟩
    case round =>
      obtain ⟨i, S, hg, hi, rfl, HS, HL, HO, hbel⟩ := hrel
      have HG := Aside0.mk hg
      clear hg HW
      by_cases hlt : i < l.length
      · obtain ⟨ad, A0, c0, row, hA, hdrop, hcell, hrl, hrow⟩ := C_row HR.out i hlt
        have HCW := Aside0.mk hcell
        replace hcell := pw_cell_below hbel hcell
        subst hA
        have HD := Aside0.mk hdrop
        have HC0 := Aside0.mk hcell
        have HRow := Aside0.mk hrow
        have hrm := (C_len hrow).2
        clear hdrop hrow
        by_cases h0 : row = []
        · subst h0
          go_wp2
          go_ret3
          exact ⟨ret3w (by rw [HS.out, HD.out, scan, if_pos rfl]), hbel⟩
        · have hpos : 0 < row.length := List.length_pos_iff.2 h0
          by_cases h1 : b < (row.length : Int)
          · go_wp2
            go_ret3
            exact ⟨ret3w (by rw [HS.out, HD.out, scan, if_neg h0, if_pos h1]), hbel⟩
          · have HS' : Aside0 (wrongF b l = cont b i (l.drop (i + 1)) (scanRow S 0 (row.drop 0))) := ⟨by rw [HS.out, HD.out, scan_row _ _ _ _ _ h0 h1]; rfl⟩
            clear HS
            go_wp2
            obtain ⟨wo, rfl⟩ : ∃ wo : World, wo = wr := ⟨_, rfl⟩
            go_loopg [7, 9] row.length (fun g v7 v9 wr => ∃ (k : Nat) (T : List Int), g = row.length - k ∧ k ≤ row.length ∧ v9 = .int .i64 k ∧ Aside0 (wrongF b l = cont b i (l.drop (i + 1)) (scanRow T k (row.drop k))) ∧ Aside0 (T.length ≤ 500) ∧ Aside0 (OI wr w.heap.size v7 T) ∧ Below w.heap.size w wr ∧ wr.cell? (ad.add i) = some (.slice A0 row.length c0))
            case atStart => exact ⟨0, S, rfl, Nat.zero_le _, rfl, HS', HL, HO, hbel, HC0.out⟩
            case round =>
              obtain ⟨k, T, hg, hk, rfl, HT, HTL, HO, hbel, hcell⟩ := hrel
              have HG2 := Aside0.mk hg
              clear hg HS'
              by_cases hkl : k < row.length
              · obtain ⟨ad2, x, hA2, hdrop2, hcell2⟩ := C_int HRow.out k hkl
                replace hcell2 := pw_cell_below hbel hcell2
                subst hA2
                obtain ⟨AT, cT, eT, hcT, hCT⟩ := OI_reads HO.out
                subst eT
                have HCT := Aside0.mk hCT
                have HD2 := Aside0.mk hdrop2
                clear hdrop2 hCT
                cases hkey : keyB x with
                | false =>
                  have HK := Aside0.mk hkey
                  go_wp2_with (go_at_call 43; refine (Key_calls x _).mono ?_; rw [HK.out]; rintro e w' ⟨rfl, rfl⟩)
                  go_ret3
                  exact ⟨ret3w (by rw [HT.out, HD2.out, scanRow, if_pos (.inl HK.out)]; rfl), hbel⟩
                | true =>
                  have HK := Aside0.mk hkey
                  clear hkey
                  by_cases hx : x ∈ T
                  · have HX := Aside0.mk hx
                    have hd : decide (x ∈ T) = true := decide_eq_true hx
                    clear hx
                    go_wp2_with (first | (go_at_call 43; refine (Key_calls x _).mono ?_; rw [HK.out]; rintro e w' ⟨rfl, rfl⟩) | (go_at_call 47; refine (Has_calls _ _ T x _ HCT.out).mono ?_; rintro e w' ⟨rfl, ⟨mq, rfl⟩⟩))
                    go_ret3
                    exact ⟨ret3w (by rw [HT.out, HD2.out, scanRow, if_pos (.inr HX.out)]; rfl), pw_below_drewN hbel _⟩
                  · have HX := Aside0.mk hx
                    have hd : decide (x ∈ T) = false := decide_eq_false hx
                    clear hx
                    have HNo : Aside0 (¬ (keyB x = false ∨ x ∈ T)) := ⟨by rintro (h | h); exact absurd (HK.out.symm.trans h) (by decide); exact HX.out h⟩
                    by_cases hfull : T.length = 500
                    · have hf : ((T.length : Int) == 500) = true := by rw [hfull]; rfl
                      have HF := Aside0.mk hfull
                      clear hfull
                      go_wp2_with (first | (go_at_call 43; refine (Key_calls x _).mono ?_; rw [HK.out]; rintro e w' ⟨rfl, rfl⟩) | (go_at_call 47; refine (Has_calls _ _ T x _ HCT.out).mono ?_; rintro e w' ⟨rfl, ⟨mq, rfl⟩⟩))
                      go_ret3
                      exact ⟨ret3w (by rw [HT.out, HD2.out, scanRow, if_neg HNo.out, if_pos HF.out]; rfl), pw_below_drewN hbel _⟩
                    · have hf : ((T.length : Int) == 500) = false := by simpa using (show ¬ (T.length : Int) = 500 by omega)
                      have hlt5 : T.length < 500 := by have := HTL.out; omega
                      have HF := Aside0.mk hfull
                      clear hfull
                      have hsz := hbel.size
                      go_wp2_with (first | (go_at_call 43; refine (Key_calls x _).mono ?_; rw [HK.out]; rintro e w' ⟨rfl, rfl⟩) | (go_at_call 47; refine (Has_calls _ _ T x _ HCT.out).mono ?_; rintro e w' ⟨rfl, ⟨mq, rfl⟩⟩) | ((with_reducible refine at_b (b := .append) (xs := #[.tmp 71, .tmp 79]) rfl ?_); go_must (refine Kd.R_append (Kd.int .i64) (w0 := w) (W := wr.drewN mq) w.heap.size rfl (.tmp 71) (.tmp 79) 22 3 (.int .i64 0) 8 rfl Try.underlying22 infoA3 rfl (by decide) (by omega) (.slice AT T.length cT) T x [.int .i64 x] Tr (fun _ => False) rfl rfl ?bP (fun _ h => h.elim) (fun _ _ => trivial) ?bO ?bB ?bS ?bL ?_; (case bP => exact rfl); (case bO => exact (OI_below HO.out (pw_below_drewN (Below.refl _ _) _))); (case bB => exact pw_below_drewN hbel _); (case bS => exact hsz); (case bL => omega); intro v2 w2 ho2 hb2 hg2 hat2; have HO2 := Aside0.mk ho2; have hc2 := hg2.cell (show (wr.drewN mq).cell? (ad.add i) = some (.slice (some ad2) row.length c0) from hcell) (not_own HO.out HCW.out); clear ho2 hg2 hat2)))
                      go_roundg (row.length - (k + 1))
                      case measure => have := HG2.out; omega
                      case rel => exact ⟨k + 1, T ++ [x], rfl, by omega, by go_num, ⟨by rw [HT.out, HD2.out, scanRow, if_neg HNo.out, if_neg HF.out]⟩, ⟨by simp; omega⟩, HO2, hb2, hc2⟩
              · go_wp2
                go_roundg (l.length - (i + 1))
                case measure => have := HG.out; omega
                case rel =>
                  exact ⟨i + 1, T, rfl, by omega, by go_num, ⟨by rw [HT.out, List.drop_eq_nil_of_le (show row.length ≤ k by omega)]; rfl⟩, HTL, HO, hbel⟩
      · go_wp2
        go_ret3
        exact ⟨ret3w (by rw [HS.out, List.drop_eq_nil_of_le (by omega), scan]), hbel⟩
  | false =>
    have HW : Aside0 (wrongF b l = (-1, -1, 7)) := ⟨by simp [wrongF, hb]⟩
    go_enter Try.func18, Try.ntmps18
    go_wp2_with (go_at_call 42; refine (size_calls b _).mono ?_; rw [hb]; rintro e w' ⟨rfl, rfl⟩)
    go_ret3
    exact ⟨ret3w HW.out, Below.refl _ _⟩
end Go.Proofs.Ytjpobhdgfdeenaa.A
