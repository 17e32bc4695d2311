/- Contracts of functions of package array: what they return, in whatever memory the arguments lie. -/
import Derived.Test.YtjpobhdgfdeenaaProg
import Derived.Below
import Derived.Deep.Draws
import Derived.Deep.AppendLies
import Derived.Maps.AppendAt
import Derived.Maps.OwnSet
import Derived.OwnWalk
import Derived.Laws.BytesArg
import Derived.Laws.MakeOwn
import Derived.Laws.OwnMore
import Derived.Deep.OwnRows
import Derived.Tactics
import Derived.Laws.Slices
import Derived.WalkKit
import Derived.KernelRfl
import Derived.RowKit3
import Derived.Deep.LoopGhost
import Derived.Deep.QuietTactic
import Derived.BigQuiet
import Derived.WideLaws
import Derived.Deep.DeepCutAuto
import Derived.Deep.CutBlock
import Derived.Deep.RegionHeld3
import Derived.Laws.Rows
import Derived.ArgAppend
import Derived.Laws.IdiomCopy
import Derived.OrdersHeld
import Derived.Laws.BitsLemmas
import Derived.Outline
import Derived.WalkSpells
import Derived.Lib.Hide
import Derived.RowKit
import Derived.Test.YtjpobhdgfdeenaaS1
import Derived.Test.YtjpobhdgfdeenaaA1
namespace Go.Proofs.Ytjpobhdgfdeenaa.A
open Go.RowKit Go.Proofs.YtjpobhdgfdeenaaW.PrintWords Go.Maps

def keyB (x : Int) : Bool := decide (1 ≤ x ∧ x ≤ 1000000)
def roomB (x : Int) : Bool := decide (2 ≤ x ∧ x ≤ 50)
/-- A row of keys behind those that were met: the place and the error of the first wrong one, or all that were met then. -/
def scanRow (met : List Int) : Nat → List Int → (Nat × Int) ⊕ List Int
  | _, [] => .inr met
  | k, x :: r => if keyB x = false ∨ x ∈ met then .inl (k, 12) else if met.length = 500 then .inl (k, 4) else scanRow (met ++ [x]) (k + 1) r
def scan (b : Int) : List Int → Nat → List (List Int) → Int × Int × Int
  | _, _, [] => (-1, -1, 0)
  | met, i, l :: r => if l = [] then (i, 0, 11) else if b < (l.length : Int) then (i, b, 11) else
    match scanRow met 0 l with
    | .inl p => (i, p.1, p.2)
    | .inr met' => scan b met' (i + 1) r
def cont (b : Int) (i : Nat) (rest : List (List Int)) : (Nat × Int) ⊕ List Int → Int × Int × Int
  | .inl p => (i, p.1, p.2)
  | .inr m => scan b m (i + 1) rest
theorem scan_row (b : Int) (S : List Int) (i : Nat) (row : List Int) (rest : List (List Int)) (h1 : row ≠ []) (h2 : ¬ b < (row.length : Int)) : scan b S i (row :: rest) = cont b i rest (scanRow S 0 row) := by
  rw [scan, if_neg h1, if_neg h2]
  cases scanRow S 0 row <;> rfl
def wrongF (b : Int) (a : List (List Int)) : Int × Int × Int := if roomB b then scan b [] 0 a else (-1, -1, 7)

theorem C_row {w : World} {A : Option Addr} {n : Nat} {xs : List (List Int)} (h : Kd.C (Kd.slice 3 (Kd.int .i64)) w A n xs) (i : Nat) (h1 : i < n) :
    ∃ ad A0 c0 row, A = some ad ∧ xs.drop i = row :: xs.drop (i + 1) ∧ w.cell? (ad.add i) = some (.slice A0 row.length c0) ∧ row.length ≤ c0 ∧ Kd.C (Kd.int .i64) w A0 row.length row := by
  obtain ⟨ad, c, e, _, hK, hc0⟩ := Kd.C_get h ([] : List Int) i (by omega) (by omega)
  have hn : xs.length = n := h.1
  obtain ⟨A0, c0, rfl, l0, g0⟩ := hK
  have e1 : xs.getD ((i : Int).toNat) [] = xs[i]'(by omega) := by simp [List.getD_eq_getElem?_getD, List.getElem?_eq_getElem (show i < xs.length by omega)]
  rw [e1] at l0 g0 hc0
  exact ⟨ad, A0, c0, xs[i]'(by omega), e, List.drop_eq_getElem_cons (by omega), by have := hc0 0 _ rfl; rwa [show (i : Int).toNat * (Kd.slice 3 (Kd.int .i64)).sz + 0 = i from Nat.mul_one i] at this, l0, g0⟩
theorem C_int {w : World} {A : Option Addr} {n : Nat} {xs : List Int} (h : Kd.C (Kd.int .i64) w A n xs) (i : Nat) (h1 : i < n) :
    ∃ ad x, A = some ad ∧ xs.drop i = x :: xs.drop (i + 1) ∧ w.cell? (ad.add i) = some (.int .i64 x) := by
  obtain ⟨ad, c, e, _, hK, hc0⟩ := Kd.C_get h (0 : Int) i (by omega) (by omega)
  have hn : xs.length = n := h.1
  have e1 : xs.getD ((i : Int).toNat) 0 = xs[i]'(by omega) := by simp [List.getD_eq_getElem?_getD, List.getElem?_eq_getElem (show i < xs.length by omega)]
  rw [e1] at hK
  have hK' : c = [.int .i64 (xs[i]'(by omega))] := hK
  rw [hK'] at hc0
  exact ⟨ad, xs[i]'(by omega), e, List.drop_eq_getElem_cons (by omega), by have := hc0 0 _ rfl; rwa [show (i : Int).toNat * (Kd.int .i64).sz + 0 = i from Nat.mul_one i] at this⟩
theorem ret3w {F : Int × Int × Int} {x y z : Int} (h : F = (x, y, z)) : Ending.returned (.tuple #[.int .i64 x, .int .i64 y, .int .i64 z]) = Ending.returned (.tuple #[.int .i64 F.1, .int .i64 F.2.1, .int .i64 F.2.2]) := by rw [h]
theorem C_len {α : Type} {d : Kd α} {w : World} {A : Option Addr} {n : Nat} {xs : List α} (h : Kd.C d w A n xs) : xs.length = n ∧ n ≤ 9223372036854775807 := ⟨h.1, h.2.1⟩

set_option maxHeartbeats 1000000 in
theorem wrong_calls (b : Int) (A : Option Addr) (c : Nat) (l : List (List Int)) (w : World) (hr : Kd.C (Kd.slice 3 (Kd.int .i64)) w A l.length l) :
    Calls Try.prog 17 #[.int .i64 b, .slice A l.length c] w fun e w' => e = .returned (.tuple #[.int .i64 (wrongF b l).1, .int .i64 (wrongF b l).2.1, .int .i64 (wrongF b l).2.2]) ∧ Below w.heap.size w w' := by
  have HR := Aside0.mk hr
  have hm := (C_len hr).2
  clear hr
  have hmm := @run_makeMap Try.prog
  by_cases hb : 2 ≤ b ∧ b ≤ 50
  · have hroom : decide (2 ≤ b ∧ b ≤ 50) = true := decide_eq_true hb
    have HW : Aside0 (wrongF b l = scan b [] 0 (l.drop 0)) := ⟨by simp [wrongF, roomB, hb]⟩
    go_enter Try.func17, Try.ntmps17
    go_wp2
    go_step3
    go_wp2_with (go_at_call 40; refine (room_calls b _).mono ?_; rintro e w' ⟨rfl, rfl⟩)
    clear hroom
    go_step3
    go_wp2
    go_loopg [4, 5, 6, 18] l.length (fun g v4 v5 v6 v18 wr => ∃ (i : Nat) (S : List Int), g = l.length - i ∧ i ≤ l.length ∧ v4 = .int .i64 (-1) ∧ v5 = .int .i64 (-1) ∧ v6 = .int .i64 0 ∧ v18 = .int .i64 i ∧ Aside0 (wrongF b l = scan b S i (l.drop i)) ∧ Aside0 (S.length ≤ 500) ∧ Met wr w.heap.size S ∧ Below w.heap.size w wr)
    case atStart => exact ⟨0, [], rfl, Nat.zero_le _, rfl, rfl, rfl, rfl, HW, ⟨Nat.zero_le _⟩, met_made w, (Below.refl _ _).alloc (Nat.le_refl _) _⟩
    case round =>
      obtain ⟨i, S, hg, hi, rfl, rfl, rfl, rfl, HS, HL, hmet, hbel⟩ := hrel
      have HG := Aside0.mk hg
      clear hg HW
      by_cases hlt : i < l.length
      · obtain ⟨ad, A0, c0, row, hA, hdrop, hcell, hrl, hrow⟩ := C_row HR.out i hlt
        replace hcell := pw_cell_below hbel hcell
        subst hA
        have HD := Aside0.mk hdrop
        have HRow := Aside0.mk hrow
        have hrm := (C_len hrow).2
        clear hdrop hrow
        by_cases h0 : row = []
        · subst h0
          go_wp2
          rw [Exit.noGoto_ret]
          go_ret3
          exact ⟨ret3w (by rw [HS.out, HD.out, scan, if_pos rfl]), hbel⟩
        · have hpos : 0 < row.length := List.length_pos_iff.2 h0
          by_cases h1 : b < (row.length : Int)
          · go_wp2
            rw [Exit.noGoto_ret]
            go_ret3
            exact ⟨ret3w (by rw [HS.out, HD.out, scan, if_neg h0, if_pos h1]), hbel⟩
          · have HS' : Aside0 (wrongF b l = cont b i (l.drop (i + 1)) (scanRow S 0 (row.drop 0))) := ⟨by rw [HS.out, HD.out, scan_row _ _ _ _ _ h0 h1]; rfl⟩
            clear HS
            go_wp2
            obtain ⟨wo, rfl⟩ : ∃ wo : World, wo = wr := ⟨_, rfl⟩
            go_loopg [4, 5, 6, 37] row.length (fun g v4 v5 v6 v37 wr => ∃ (k : Nat) (T : List Int), g = row.length - k ∧ k ≤ row.length ∧ v4 = .int .i64 (-1) ∧ v5 = .int .i64 (-1) ∧ v6 = .int .i64 0 ∧ v37 = .int .i64 k ∧ Aside0 (wrongF b l = cont b i (l.drop (i + 1)) (scanRow T k (row.drop k))) ∧ Aside0 (T.length ≤ 500) ∧ Met wr w.heap.size T ∧ Below w.heap.size w wr)
            case atStart => exact ⟨0, S, rfl, Nat.zero_le _, rfl, rfl, rfl, rfl, HS', HL, hmet, hbel⟩
            case round =>
              obtain ⟨k, T, hg, hk, rfl, rfl, rfl, rfl, HT, HTL, hmet, hbel⟩ := hrel
              have HG2 := Aside0.mk hg
              clear hg HS'
              by_cases hkl : k < row.length
              · obtain ⟨ad2, x, hA2, hdrop2, hcell2⟩ := C_int HRow.out k hkl
                replace hcell2 := pw_cell_below hbel hcell2
                subst hA2
                have HD2 := Aside0.mk hdrop2
                clear hdrop2
                cases hkey : keyB x with
                | false =>
                  replace hkey : decide (1 ≤ x ∧ x ≤ 1000000) = false := hkey
                  have HK := Aside0.mk hkey
                  go_wp2_with (go_at_call 39; refine (key_calls x _).mono ?_; rintro e w' ⟨rfl, rfl⟩)
                  rw [Exit.noGoto_ret]
                  go_ret3
                  exact ⟨ret3w (by rw [HT.out, HD2.out, scanRow, if_pos (.inl HK.out)]; rfl), hbel⟩
                | true =>
                  have hxw : wfi x := by have := of_decide_eq_true hkey; unfold wfi; omega
                  have hk0 := Aside0.mk hkey
                  replace hkey : decide (1 ≤ x ∧ x ≤ 1000000) = true := hkey
                  by_cases hx : x ∈ T
                  · have hlook := hmet.look hxw
                    rw [decide_eq_true hx] at hlook
                    have HX := Aside0.mk hx
                    clear hx
                    go_wp2_with (go_at_call 39; refine (key_calls x _).mono ?_; rintro e w' ⟨rfl, rfl⟩)
                    rw [Exit.noGoto_ret]
                    go_ret3
                    exact ⟨ret3w (by rw [HT.out, HD2.out, scanRow, if_pos (.inr HX.out)]; rfl), hbel⟩
                  · have hlook := hmet.look hxw
                    rw [decide_eq_false hx] at hlook
                    have HX := Aside0.mk hx
                    clear hx
                    have hlen := hmet.len 3
                    by_cases hfull : T.length = 500
                    · have hf : ((T.length : Int) == 500) = true := by rw [hfull]; rfl
                      have HF := Aside0.mk hfull
                      clear hfull
                      go_wp2_with (go_at_call 39; refine (key_calls x _).mono ?_; rintro e w' ⟨rfl, rfl⟩)
                      rw [Exit.noGoto_ret]
                      go_ret3
                      exact ⟨ret3w (by rw [HT.out, HD2.out, scanRow, if_neg (by rintro (h | h); exact absurd (hk0.out.symm.trans h) (by decide); exact HX.out h), if_pos HF.out]; rfl), hbel⟩
                    · have hf : ((T.length : Int) == 500) = false := by simpa using (show ¬ (T.length : Int) = 500 by omega)
                      have hlt5 : T.length < 500 := by have := HTL.out; omega
                      have HF := Aside0.mk hfull
                      clear hfull
                      obtain ⟨w1, hput, hmet1, hgr⟩ := hmet.put hxw HX.out (by unfold maxLen; omega)
                      go_wp2_with (go_at_call 39; refine (key_calls x _).mono ?_; rintro e w' ⟨rfl, rfl⟩)
                      go_roundg (row.length - (k + 1))
                      case measure => have := HG2.out; omega
                      case rel =>
                        exact ⟨k + 1, T ++ [x], rfl, by omega, rfl, rfl, rfl, by go_num, ⟨by rw [HT.out, HD2.out, scanRow, if_neg (by rintro (h | h); exact absurd (hk0.out.symm.trans h) (by decide); exact HX.out h), if_neg HF.out]⟩, ⟨by simp; omega⟩, hmet1, hbel.grown hgr hbel.size (fun j hj => by cases hj; exact Nat.le_refl _)⟩
              · go_wp2
                go_roundg (l.length - (i + 1))
                case measure => have := HG.out; omega
                case rel =>
                  exact ⟨i + 1, T, rfl, by omega, rfl, rfl, rfl, by go_num, ⟨by rw [HT.out, List.drop_eq_nil_of_le (show row.length ≤ k by omega)]; rfl⟩, HTL, hmet, hbel⟩
      · go_wp2
        rw [Exit.noGoto_ret]
        go_ret3
        exact ⟨ret3w (by rw [HS.out, List.drop_eq_nil_of_le (by omega), scan]), hbel⟩
  · have hroom : decide (2 ≤ b ∧ b ≤ 50) = false := decide_eq_false hb
    have HW : Aside0 (wrongF b l = (-1, -1, 7)) := ⟨by simp [wrongF, roomB, hb]⟩
    go_enter Try.func17, Try.ntmps17
    go_wp2
    go_step3
    go_wp2_with (go_at_call 40; refine (room_calls b _).mono ?_; rintro e w' ⟨rfl, rfl⟩)
    rw [Exit.noGoto_ret]
    go_ret3
    exact ⟨ret3w HW.out, Below.refl _ _⟩
end Go.Proofs.Ytjpobhdgfdeenaa.A
