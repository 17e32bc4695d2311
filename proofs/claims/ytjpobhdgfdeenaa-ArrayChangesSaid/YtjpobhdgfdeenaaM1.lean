/- A map from whole numbers to bools that the call has made and that holds true at each key that it has: which keys, in which number. -/
import Derived.Below
import Derived.Deep.Draws
import Derived.Deep.AppendLies
import Derived.Maps.AppendAt
import Derived.Maps.OwnSet
import Derived.OwnWalk
import Derived.Laws.BytesArg
import Derived.Laws.MakeOwn
import Derived.Laws.OwnMore
import Derived.Deep.OwnRows
import Derived.Tactics
import Derived.Laws.Slices
import Derived.WalkKit
import Derived.KernelRfl
import Derived.RowKit3
import Derived.Deep.LoopGhost
import Derived.Deep.QuietTactic
import Derived.BigQuiet
import Derived.WideLaws
import Derived.Deep.DeepCutAuto
import Derived.Deep.CutBlock
import Derived.Deep.RegionHeld3
import Derived.Laws.Rows
import Derived.ArgAppend
import Derived.Laws.IdiomCopy
import Derived.OrdersHeld
import Derived.Laws.BitsLemmas
import Derived.Outline
import Derived.WalkSpells
import Derived.Lib.Hide
import Derived.RowKit
import Derived.Deep.DeepMust
import Derived.Test.YtjpobhdgfdeenaaProg
import Derived.Test.YtjpobhdgfdeenaaWWords
namespace Go.Proofs.Ytjpobhdgfdeenaa.A
open Go.RowKit Go.Proofs.YtjpobhdgfdeenaaW.PrintWords Go.Maps

theorem law3 : Keyed Try.prog 3 := int_keyed Try.underlying3
theorem zero4 (w : World) : (zeroValue 4).run Try.prog w = .ok (.bool false) w := by kernel_rfl
def wfi (x : Int) : Prop := -9223372036854775808 ≤ x ∧ x ≤ 9223372036854775807
theorem wfi_wf {x : Int} (h : wfi x) : (Lit.int .i64 x).wf = true := WalkArith.wf_i64 h
theorem plainElem_bool_inv {e : TypeId} (he : Try.prog.underlying e = some .bool) {v : Value} {z : DataW Unit × List MemPlace} (h : plainElem Try.prog e v = some z) : ∃ a, v = .bool a ∧ z = (.lit (.bool a), []) := by
  unfold plainElem at h
  rw [he] at h
  cases v <;> simp at h
  exact ⟨_, rfl, h.symm⟩
/-- Block b is a map whose keys are S, each with true. -/
def Met (w : World) (b : Nat) (S : List Int) : Prop :=
  ∃ D : DataW Unit, w.ownsMap Try.prog 3 (plainElem Try.prog 4) b S.length D ∧ Maps.size D = S.length ∧ ∀ x, wfi x → D.atKey (.int .i64 x) (.lit (.bool false)) = .lit (.bool (decide (x ∈ S))) ∧ Maps.has D (.int .i64 x) = decide (x ∈ S)
theorem met_made (w : World) : Met (w.alloc (.map #[] 0)) w.heap.size [] :=
  ⟨.map [], World.ownsMap_made _ _ _ _, rfl, fun x _ => by simp [DataW.atKey, Maps.has]⟩
theorem Met.lt {w : World} {b : Nat} {S : List Int} (h : Met w b S) : b < w.heap.size := by
  obtain ⟨D, h1, _⟩ := h
  exact h1.lt
theorem Met.kept {w w' : World} {b : Nat} {S : List Int} {row : Option Nat} (h : Met w b S) (hg : w.grownBy w' row) (hne : some b ≠ row) : Met w' b S := by
  obtain ⟨D, h1, h2⟩ := h
  exact ⟨D, h1.kept hg hne, h2⟩
theorem Met.below {w w' : World} {b : Nat} {S : List Int} (h : Met w b S) (hb : Below w.heap.size w w') : Met w' b S := h.kept (grown_of_below hb none) (by simp)
theorem Met.look {w : World} {b : Nat} {S : List Int} (h : Met w b S) {x : Int} (hx : wfi x) : (Instr.lookup 52 (.map (some b)) (.int .i64 x) false).run Try.prog w = .ok (.bool (decide (x ∈ S))) w := by
  obtain ⟨D, h1, h2, h3⟩ := h
  obtain ⟨v, ps, hrun, hv⟩ := h1.lookup law3 Try.underlying52 (zero4 w) (plainElem_bool Try.underlying4 false) (keyOf_int_mk Try.underlying3 (wfi_wf hx))
  rw [(h3 x hx).1] at hv
  obtain ⟨a, rfl, ha⟩ := plainElem_bool_inv Try.underlying4 hv
  injection ha with ha
  injection ha with ha
  injection ha with ha
  rw [hrun, ha]
theorem Met.len {w : World} {b : Nat} {S : List Int} (h : Met w b S) (ty : TypeId) : (Builtin.len_ #[52] ty #[.map (some b)]).run Try.prog w = .ok (.int .i64 (S.length : Int)) w := by
  obtain ⟨D, h1, h2, h3⟩ := h
  rw [h1.len Try.underlying52 ty, h2]
theorem Met.put {w : World} {b : Nat} {S : List Int} (h : Met w b S) {x : Int} (hx : wfi x) (hn : x ∉ S) (hm : S.length < maxLen) :
    ∃ w', (Instr.mapUpdate 52 (.map (some b)) (.int .i64 x) (.bool true)).run Try.prog w = .ok () w' ∧ Met w' b (S ++ [x]) ∧ w.grownBy w' (some b) := by
  obtain ⟨D, h1, h2, h3⟩ := h
  obtain ⟨w', hr, hw, hg⟩ := h1.update law3 Try.underlying52 hm (keyOf_int_mk Try.underlying3 (wfi_wf hx)) (plainElem_bool Try.underlying4 true)
  have hk : WideAt.IsKeyLit (.int .i64 x) := trivial
  refine ⟨w', hr, ⟨_, by simpa using hw, ?_, fun y hy => ?_⟩, hg⟩
  · rw [size_put (h1.tidy law3), (h3 x hx).2, h2]
    simp [hn]
  · by_cases e : y = x
    · subst e
      rw [atKey_put_same h1.isMap hk, has_put_same h1.isMap hk]
      simp
    · have e' : Lit.int .i64 y ≠ Lit.int .i64 x := fun h => e (by injection h)
      rw [atKey_put_other e', has_put_other e', (h3 y hy).1, (h3 y hy).2]
      simp [e]
end Go.Proofs.Ytjpobhdgfdeenaa.A

/- The tests of whole numbers of package array, and its map of the keys that were met. -/
namespace Go.Proofs.Ytjpobhdgfdeenaa.A
open Go.RowKit Go.Proofs.YtjpobhdgfdeenaaW.PrintWords

theorem key_calls (n : Int) (w : World) : Calls Try.prog 39 #[.int .i64 n] w fun e w' => e = .returned (.bool (decide (1 ≤ n ∧ n ≤ 1000000))) ∧ w = w' := by
  by_cases h1 : 1 ≤ n <;> by_cases h2 : n ≤ 1000000
  all_goals
    go_enter Try.func39, Try.ntmps39
    go_wp2
    go_ret
    exact ⟨by simp [h1, h2], rfl⟩
theorem room_calls (n : Int) (w : World) : Calls Try.prog 40 #[.int .i64 n] w fun e w' => e = .returned (.bool (decide (2 ≤ n ∧ n ≤ 50))) ∧ w = w' := by
  by_cases h1 : 2 ≤ n <;> by_cases h2 : n ≤ 50
  all_goals
    go_enter Try.func40, Try.ntmps40
    go_wp2
    go_ret
    exact ⟨by simp [h1, h2], rfl⟩

end Go.Proofs.Ytjpobhdgfdeenaa.A

/- Contracts of functions of package array: what they return, in whatever memory the arguments lie. -/
namespace Go.Proofs.Ytjpobhdgfdeenaa.A
open Go.RowKit Go.Proofs.YtjpobhdgfdeenaaW.PrintWords Go.Maps

def keyB (x : Int) : Bool := decide (1 ≤ x ∧ x ≤ 1000000)
def roomB (x : Int) : Bool := decide (2 ≤ x ∧ x ≤ 50)
/-- A row of keys behind those that were met: the place and the error of the first wrong one, or all that were met then. -/
def scanRow (met : List Int) : Nat → List Int → (Nat × Int) ⊕ List Int
  | _, [] => .inr met
  | k, x :: r => if keyB x = false ∨ x ∈ met then .inl (k, 12) else if met.length = 500 then .inl (k, 4) else scanRow (met ++ [x]) (k + 1) r
def scan (b : Int) : List Int → Nat → List (List Int) → Int × Int × Int
  | _, _, [] => (-1, -1, 0)
  | met, i, l :: r => if l = [] then (i, 0, 11) else if b < (l.length : Int) then (i, b, 11) else
    match scanRow met 0 l with
    | .inl p => (i, p.1, p.2)
    | .inr met' => scan b met' (i + 1) r
def cont (b : Int) (i : Nat) (rest : List (List Int)) : (Nat × Int) ⊕ List Int → Int × Int × Int
  | .inl p => (i, p.1, p.2)
  | .inr m => scan b m (i + 1) rest
theorem scan_row (b : Int) (S : List Int) (i : Nat) (row : List Int) (rest : List (List Int)) (h1 : row ≠ []) (h2 : ¬ b < (row.length : Int)) : scan b S i (row :: rest) = cont b i rest (scanRow S 0 row) := by
  rw [scan, if_neg h1, if_neg h2]
  cases scanRow S 0 row <;> rfl
def wrongF (b : Int) (a : List (List Int)) : Int × Int × Int := if roomB b then scan b [] 0 a else (-1, -1, 7)

theorem C_row {w : World} {A : Option Addr} {n : Nat} {xs : List (List Int)} (h : Kd.C (Kd.slice 3 (Kd.int .i64)) w A n xs) (i : Nat) (h1 : i < n) :
    ∃ ad A0 c0 row, A = some ad ∧ xs.drop i = row :: xs.drop (i + 1) ∧ w.cell? (ad.add i) = some (.slice A0 row.length c0) ∧ row.length ≤ c0 ∧ Kd.C (Kd.int .i64) w A0 row.length row := by
  obtain ⟨ad, c, e, _, hK, hc0⟩ := Kd.C_get h ([] : List Int) i (by omega) (by omega)
  have hn : xs.length = n := h.1
  obtain ⟨A0, c0, rfl, l0, g0⟩ := hK
  have e1 : xs.getD ((i : Int).toNat) [] = xs[i]'(by omega) := by simp [List.getD_eq_getElem?_getD, List.getElem?_eq_getElem (show i < xs.length by omega)]
  rw [e1] at l0 g0 hc0
  exact ⟨ad, A0, c0, xs[i]'(by omega), e, List.drop_eq_getElem_cons (by omega), by have := hc0 0 _ rfl; rwa [show (i : Int).toNat * (Kd.slice 3 (Kd.int .i64)).sz + 0 = i from Nat.mul_one i] at this, l0, g0⟩
theorem C_int {w : World} {A : Option Addr} {n : Nat} {xs : List Int} (h : Kd.C (Kd.int .i64) w A n xs) (i : Nat) (h1 : i < n) :
    ∃ ad x, A = some ad ∧ xs.drop i = x :: xs.drop (i + 1) ∧ w.cell? (ad.add i) = some (.int .i64 x) := by
  obtain ⟨ad, c, e, _, hK, hc0⟩ := Kd.C_get h (0 : Int) i (by omega) (by omega)
  have hn : xs.length = n := h.1
  have e1 : xs.getD ((i : Int).toNat) 0 = xs[i]'(by omega) := by simp [List.getD_eq_getElem?_getD, List.getElem?_eq_getElem (show i < xs.length by omega)]
  rw [e1] at hK
  have hK' : c = [.int .i64 (xs[i]'(by omega))] := hK
  rw [hK'] at hc0
  exact ⟨ad, xs[i]'(by omega), e, List.drop_eq_getElem_cons (by omega), by have := hc0 0 _ rfl; rwa [show (i : Int).toNat * (Kd.int .i64).sz + 0 = i from Nat.mul_one i] at this⟩
theorem ret3w {F : Int × Int × Int} {x y z : Int} (h : F = (x, y, z)) : Ending.returned (.tuple #[.int .i64 x, .int .i64 y, .int .i64 z]) = Ending.returned (.tuple #[.int .i64 F.1, .int .i64 F.2.1, .int .i64 F.2.2]) := by rw [h]
theorem C_len {α : Type} {d : Kd α} {w : World} {A : Option Addr} {n : Nat} {xs : List α} (h : Kd.C d w A n xs) : xs.length = n ∧ n ≤ 9223372036854775807 := ⟨h.1, h.2.1⟩

set_option maxHeartbeats 1000000 in
theorem wrong_calls (b : Int) (A : Option Addr) (c : Nat) (l : List (List Int)) (w : World) (hr : Kd.C (Kd.slice 3 (Kd.int .i64)) w A l.length l) :
    Calls Try.prog 17 #[.int .i64 b, .slice A l.length c] w fun e w' => e = .returned (.tuple #[.int .i64 (wrongF b l).1, .int .i64 (wrongF b l).2.1, .int .i64 (wrongF b l).2.2]) ∧ Below w.heap.size w w' := by
  have HR := Aside0.mk hr
  have hm := (C_len hr).2
  clear hr
  have hmm := @run_makeMap Try.prog
  by_cases hb : 2 ≤ b ∧ b ≤ 50
  · have hroom : decide (2 ≤ b ∧ b ≤ 50) = true := decide_eq_true hb
    have HW : Aside0 (wrongF b l = scan b [] 0 (l.drop 0)) := ⟨by simp [wrongF, roomB, hb]⟩
    go_enter Try.func17, Try.ntmps17
    go_wp2
    go_step3
    go_wp2_with (go_at_call 40; refine (room_calls b _).mono ?_; rintro e w' ⟨rfl, rfl⟩)
    clear hroom
    go_step3
    go_wp2
    go_loopg [4, 5, 6, 18] l.length (fun g v4 v5 v6 v18 wr => ∃ (i : Nat) (S : List Int), g = l.length - i ∧ i ≤ l.length ∧ v4 = .int .i64 (-1) ∧ v5 = .int .i64 (-1) ∧ v6 = .int .i64 0 ∧ v18 = .int .i64 i ∧ Aside0 (wrongF b l = scan b S i (l.drop i)) ∧ Aside0 (S.length ≤ 500) ∧ Met wr w.heap.size S ∧ Below w.heap.size w wr)
    case atStart => exact ⟨0, [], rfl, Nat.zero_le _, rfl, rfl, rfl, rfl, HW, ⟨Nat.zero_le _⟩, met_made w, (Below.refl _ _).alloc (Nat.le_refl _) _⟩
    case round =>
      obtain ⟨i, S, hg, hi, rfl, rfl, rfl, rfl, HS, HL, hmet, hbel⟩ := hrel
      have HG := Aside0.mk hg
      clear hg HW
      by_cases hlt : i < l.length
      · obtain ⟨ad, A0, c0, row, hA, hdrop, hcell, hrl, hrow⟩ := C_row HR.out i hlt
        replace hcell := pw_cell_below hbel hcell
        subst hA
        have HD := Aside0.mk hdrop
        have HRow := Aside0.mk hrow
        have hrm := (C_len hrow).2
        clear hdrop hrow
        by_cases h0 : row = []
        · subst h0
          go_wp2
          rw [Exit.noGoto_ret]
          go_ret3
          exact ⟨ret3w (by rw [HS.out, HD.out, scan, if_pos rfl]), hbel⟩
        · have hpos : 0 < row.length := List.length_pos_iff.2 h0
          by_cases h1 : b < (row.length : Int)
          · go_wp2
            rw [Exit.noGoto_ret]
            go_ret3
            exact ⟨ret3w (by rw [HS.out, HD.out, scan, if_neg h0, if_pos h1]), hbel⟩
          · have HS' : Aside0 (wrongF b l = cont b i (l.drop (i + 1)) (scanRow S 0 (row.drop 0))) := ⟨by rw [HS.out, HD.out, scan_row _ _ _ _ _ h0 h1]; rfl⟩
            clear HS
            go_wp2
            obtain ⟨wo, rfl⟩ : ∃ wo : World, wo = wr := ⟨_, rfl⟩
            go_loopg [4, 5, 6, 37] row.length (fun g v4 v5 v6 v37 wr => ∃ (k : Nat) (T : List Int), g = row.length - k ∧ k ≤ row.length ∧ v4 = .int .i64 (-1) ∧ v5 = .int .i64 (-1) ∧ v6 = .int .i64 0 ∧ v37 = .int .i64 k ∧ Aside0 (wrongF b l = cont b i (l.drop (i + 1)) (scanRow T k (row.drop k))) ∧ Aside0 (T.length ≤ 500) ∧ Met wr w.heap.size T ∧ Below w.heap.size w wr)
            case atStart => exact ⟨0, S, rfl, Nat.zero_le _, rfl, rfl, rfl, rfl, HS', HL, hmet, hbel⟩
            case round =>
              obtain ⟨k, T, hg, hk, rfl, rfl, rfl, rfl, HT, HTL, hmet, hbel⟩ := hrel
              have HG2 := Aside0.mk hg
              clear hg HS'
              by_cases hkl : k < row.length
              · obtain ⟨ad2, x, hA2, hdrop2, hcell2⟩ := C_int HRow.out k hkl
                replace hcell2 := pw_cell_below hbel hcell2
                subst hA2
                have HD2 := Aside0.mk hdrop2
                clear hdrop2
                cases hkey : keyB x with
                | false =>
                  replace hkey : decide (1 ≤ x ∧ x ≤ 1000000) = false := hkey
                  have HK := Aside0.mk hkey
                  go_wp2_with (go_at_call 39; refine (key_calls x _).mono ?_; rintro e w' ⟨rfl, rfl⟩)
                  rw [Exit.noGoto_ret]
                  go_ret3
                  exact ⟨ret3w (by rw [HT.out, HD2.out, scanRow, if_pos (.inl HK.out)]; rfl), hbel⟩
                | true =>
                  have hxw : wfi x := by have := of_decide_eq_true hkey; unfold wfi; omega
                  have hk0 := Aside0.mk hkey
                  replace hkey : decide (1 ≤ x ∧ x ≤ 1000000) = true := hkey
                  by_cases hx : x ∈ T
                  · have hlook := hmet.look hxw
                    rw [decide_eq_true hx] at hlook
                    have HX := Aside0.mk hx
                    clear hx
                    go_wp2_with (go_at_call 39; refine (key_calls x _).mono ?_; rintro e w' ⟨rfl, rfl⟩)
                    rw [Exit.noGoto_ret]
                    go_ret3
                    exact ⟨ret3w (by rw [HT.out, HD2.out, scanRow, if_pos (.inr HX.out)]; rfl), hbel⟩
                  · have hlook := hmet.look hxw
                    rw [decide_eq_false hx] at hlook
                    have HX := Aside0.mk hx
                    clear hx
                    have hlen := hmet.len 3
                    by_cases hfull : T.length = 500
                    · have hf : ((T.length : Int) == 500) = true := by rw [hfull]; rfl
                      have HF := Aside0.mk hfull
                      clear hfull
                      go_wp2_with (go_at_call 39; refine (key_calls x _).mono ?_; rintro e w' ⟨rfl, rfl⟩)
                      rw [Exit.noGoto_ret]
                      go_ret3
                      exact ⟨ret3w (by rw [HT.out, HD2.out, scanRow, if_neg (by rintro (h | h); exact absurd (hk0.out.symm.trans h) (by decide); exact HX.out h), if_pos HF.out]; rfl), hbel⟩
                    · have hf : ((T.length : Int) == 500) = false := by simpa using (show ¬ (T.length : Int) = 500 by omega)
                      have hlt5 : T.length < 500 := by have := HTL.out; omega
                      have HF := Aside0.mk hfull
                      clear hfull
                      obtain ⟨w1, hput, hmet1, hgr⟩ := hmet.put hxw HX.out (by unfold maxLen; omega)
                      go_wp2_with (go_at_call 39; refine (key_calls x _).mono ?_; rintro e w' ⟨rfl, rfl⟩)
                      go_roundg (row.length - (k + 1))
                      case measure => have := HG2.out; omega
                      case rel =>
                        exact ⟨k + 1, T ++ [x], rfl, by omega, rfl, rfl, rfl, by go_num, ⟨by rw [HT.out, HD2.out, scanRow, if_neg (by rintro (h | h); exact absurd (hk0.out.symm.trans h) (by decide); exact HX.out h), if_neg HF.out]⟩, ⟨by simp; omega⟩, hmet1, hbel.grown hgr hbel.size (fun j hj => by cases hj; exact Nat.le_refl _)⟩
              · go_wp2
                go_roundg (l.length - (i + 1))
                case measure => have := HG.out; omega
                case rel =>
                  exact ⟨i + 1, T, rfl, by omega, rfl, rfl, rfl, by go_num, ⟨by rw [HT.out, List.drop_eq_nil_of_le (show row.length ≤ k by omega)]; rfl⟩, HTL, hmet, hbel⟩
      · go_wp2
        rw [Exit.noGoto_ret]
        go_ret3
        exact ⟨ret3w (by rw [HS.out, List.drop_eq_nil_of_le (by omega), scan]), hbel⟩
  · have hroom : decide (2 ≤ b ∧ b ≤ 50) = false := decide_eq_false hb
    have HW : Aside0 (wrongF b l = (-1, -1, 7)) := ⟨by simp [wrongF, roomB, hb]⟩
    go_enter Try.func17, Try.ntmps17
    go_wp2
    go_step3
    go_wp2_with (go_at_call 40; refine (room_calls b _).mono ?_; rintro e w' ⟨rfl, rfl⟩)
    rw [Exit.noGoto_ret]
    go_ret3
    exact ⟨ret3w HW.out, Below.refl _ _⟩
end Go.Proofs.Ytjpobhdgfdeenaa.A

/- Contracts of small functions over slices of whole numbers: they read and change nothing. -/
namespace Go.Proofs.Ytjpobhdgfdeenaa.A
open Go.RowKit Go.Proofs.YtjpobhdgfdeenaaW.PrintWords Go.Maps

theorem size_calls (n : Int) (w : World) : Calls Try.prog 42 #[.int .i64 n] w fun e w' => e = .returned (.bool (roomB n)) ∧ w = w' := by
  by_cases h1 : 2 ≤ n <;> by_cases h2 : n ≤ 50
  all_goals
    go_enter Try.func42, Try.ntmps42
    go_wp2
    go_ret
    exact ⟨by simp [roomB, h1, h2], rfl⟩
theorem Key_calls (n : Int) (w : World) : Calls Try.prog 43 #[.int .i64 n] w fun e w' => e = .returned (.bool (keyB n)) ∧ w = w' := by
  by_cases h1 : 1 ≤ n <;> by_cases h2 : n ≤ 1000000
  all_goals
    go_enter Try.func43, Try.ntmps43
    go_wp2
    go_ret
    exact ⟨by simp [keyB, h1, h2], rfl⟩
theorem ret_bool {a b : Bool} (h : a = b) : Ending.returned (.bool a) = .returned (.bool b) := by rw [h]
theorem ret_i {a b : Int} (h : a = b) : Ending.returned (.int .i64 a) = .returned (.int .i64 b) := by rw [h]

/-- Whether two rows of numbers are one: from a place on. -/
def sameFrom : List Int → List Int → Bool
  | x :: xs, y :: ys => if x = y then sameFrom xs ys else false
  | _, _ => true
theorem sameFrom_eq : ∀ (xs ys : List Int), xs.length = ys.length → sameFrom xs ys = decide (xs = ys)
  | [], [], _ => rfl
  | x :: xs, y :: ys, h => by
    rw [sameFrom, sameFrom_eq xs ys (by simpa using h)]
    by_cases e : x = y <;> simp [e]

set_option maxHeartbeats 1000000 in
theorem SameInts_calls (A : Option Addr) (c : Nat) (xs : List Int) (A' : Option Addr) (c' : Nat) (ys : List Int) (w : World) (hx : Kd.C (Kd.int .i64) w A xs.length xs) (hy : Kd.C (Kd.int .i64) w A' ys.length ys) :
    Calls Try.prog 14 #[.slice A xs.length c, .slice A' ys.length c'] w fun e w' => e = .returned (.bool (decide (xs = ys))) ∧ ∃ m, w' = w.drewN m := by
  have HX := Aside0.mk hx
  have HY := Aside0.mk hy
  have hmx := (C_len hx).2
  have hmy := (C_len hy).2
  clear hx hy
  by_cases hl : xs.length = ys.length
  · have hl1 : ((xs.length : Int) != (ys.length : Int)) = false := by rw [hl]; exact bne_self_eq_false _
    have HL := Aside0.mk hl
    have HS : Aside0 (decide (xs = ys) = sameFrom (xs.drop 0) (ys.drop 0)) := ⟨(sameFrom_eq xs ys hl).symm⟩
    clear hl
    go_enter Try.func14, Try.ntmps14
    go_wp2
    go_loopg [5] xs.length (fun g v5 wr => ∃ (i : Nat), g = xs.length - i ∧ i ≤ xs.length ∧ v5 = .int .i64 i ∧ Aside0 (decide (xs = ys) = sameFrom (xs.drop i) (ys.drop i)) ∧ Drawn0 w wr)
    case atStart => exact ⟨0, rfl, Nat.zero_le _, rfl, HS, Drawn0.refl _⟩
    case round =>
      obtain ⟨i, hg, hi, rfl, HT, hdr⟩ := hrel
      have hbel := hdr.below
      have HG := Aside0.mk hg
      clear hg HS
      by_cases hlt : i < xs.length
      · have hly : i < ys.length := by have := HL.out; omega
        obtain ⟨ad, x, hA, hdx, hcx⟩ := C_int HX.out i hlt
        obtain ⟨ad', y, hA', hdy, hcy⟩ := C_int HY.out i hly
        subst hA hA'
        replace hcx := pw_cell_below hbel hcx
        replace hcy := pw_cell_below hbel hcy
        have HD := Aside0.mk hdx
        have HD' := Aside0.mk hdy
        clear hdx hdy
        by_cases hxy : x = y
        · have hne : (x != y) = false := by simpa using hxy
          have HE := Aside0.mk hxy
          clear hxy
          go_wp2
          go_quiet (fail)
          go_wp2
          go_roundg (xs.length - (i + 1))
          case measure => have := HG.out; omega
          case rel => exact ⟨i + 1, rfl, by omega, by go_num, ⟨by rw [HT.out, HD.out, HD'.out, sameFrom, if_pos HE.out]⟩, hdr.step _⟩
        · have hne : (x != y) = true := by simpa using hxy
          have HE := Aside0.mk hxy
          clear hxy
          go_wp2
          go_quiet (fail)
          go_wp2
          go_ret
          exact ⟨ret_bool (by rw [HT.out, HD.out, HD'.out, sameFrom, if_neg HE.out]), (hdr.step _).out⟩
      · go_wp2
        go_ret
        exact ⟨ret_bool (by rw [HT.out, List.drop_eq_nil_of_le (by omega), sameFrom]; simp), hdr.out⟩
  · have hl1 : ((xs.length : Int) != (ys.length : Int)) = true := bne_iff_ne.2 (by omega)
    have HL := Aside0.mk hl
    clear hl
    go_enter Try.func14, Try.ntmps14
    go_wp2
    go_ret
    exact ⟨ret_bool (by symm; exact decide_eq_false (fun h => HL.out (by rw [h]))), ⟨0, rfl⟩⟩

/-- Whether two lists of rows are one, from a place on. -/
def sameRows : List (List Int) → List (List Int) → Bool
  | x :: xs, y :: ys => if x = y then sameRows xs ys else false
  | _, _ => true
theorem sameRows_eq : ∀ (xs ys : List (List Int)), xs.length = ys.length → sameRows xs ys = decide (xs = ys)
  | [], [], _ => rfl
  | x :: xs, y :: ys, h => by
    rw [sameRows, sameRows_eq xs ys (by simpa using h)]
    by_cases e : x = y <;> simp [e]

set_option maxHeartbeats 1000000 in
theorem SameBlocks_calls (A : Option Addr) (c : Nat) (xs : List (List Int)) (A' : Option Addr) (c' : Nat) (ys : List (List Int)) (w : World) (hx : Kd.C (Kd.slice 3 (Kd.int .i64)) w A xs.length xs) (hy : Kd.C (Kd.slice 3 (Kd.int .i64)) w A' ys.length ys) :
    Calls Try.prog 12 #[.slice A xs.length c, .slice A' ys.length c'] w fun e w' => e = .returned (.bool (decide (xs = ys))) ∧ ∃ m, w' = w.drewN m := by
  have HX := Aside0.mk hx
  have HY := Aside0.mk hy
  have hmx := (C_len hx).2
  have hmy := (C_len hy).2
  clear hx hy
  by_cases hl : xs.length = ys.length
  · have hl1 : ((xs.length : Int) != (ys.length : Int)) = false := by rw [hl]; exact bne_self_eq_false _
    have HL := Aside0.mk hl
    have HS : Aside0 (decide (xs = ys) = sameRows (xs.drop 0) (ys.drop 0)) := ⟨(sameRows_eq xs ys hl).symm⟩
    clear hl
    go_enter Try.func12, Try.ntmps12
    go_wp2
    go_loopg [5] xs.length (fun g v5 wr => ∃ (i : Nat), g = xs.length - i ∧ i ≤ xs.length ∧ v5 = .int .i64 i ∧ Aside0 (decide (xs = ys) = sameRows (xs.drop i) (ys.drop i)) ∧ Drawn0 w wr)
    case atStart => exact ⟨0, rfl, Nat.zero_le _, rfl, HS, Drawn0.refl _⟩
    case round =>
      obtain ⟨i, hg, hi, rfl, HT, hdr⟩ := hrel
      have hbel := hdr.below
      have HG := Aside0.mk hg
      clear hg HS
      by_cases hlt : i < xs.length
      · have hly : i < ys.length := by have := HL.out; omega
        obtain ⟨ad, B, cB, x, hA, hdx, hcx, hlx, hrx⟩ := C_row HX.out i hlt
        obtain ⟨ad', B', cB', y, hA', hdy, hcy, hlx', hry⟩ := C_row HY.out i hly
        subst hA hA'
        replace hcx := pw_cell_below hbel hcx
        replace hcy := pw_cell_below hbel hcy
        have HRX := Aside0.mk (Kd.C_below hrx hbel)
        have HRY := Aside0.mk (Kd.C_below hry hbel)
        have HD := Aside0.mk hdx
        have HD' := Aside0.mk hdy
        clear hdx hdy hrx hry
        by_cases hxy : x = y
        · have HE := Aside0.mk hxy
          have hd : decide (x = y) = true := decide_eq_true hxy
          clear hxy
          go_wp2
          go_quiet ((go_at_call 14; exact Calls.quiet_of (SameInts_calls _ _ _ _ _ _ _ (Kd.C_below HRX.out (pw_below_drewN (Below.refl _ _) _)) (Kd.C_below HRY.out (pw_below_drewN (Below.refl _ _) _)))))
          go_wp2
          go_roundg (xs.length - (i + 1))
          case measure => have := HG.out; omega
          case rel => exact ⟨i + 1, rfl, by omega, by go_num, ⟨by rw [HT.out, HD.out, HD'.out, sameRows, if_pos HE.out]⟩, hdr.step _⟩
        · have HE := Aside0.mk hxy
          have hd : decide (x = y) = false := decide_eq_false hxy
          clear hxy
          go_wp2
          go_quiet ((go_at_call 14; exact Calls.quiet_of (SameInts_calls _ _ _ _ _ _ _ (Kd.C_below HRX.out (pw_below_drewN (Below.refl _ _) _)) (Kd.C_below HRY.out (pw_below_drewN (Below.refl _ _) _)))))
          go_wp2
          go_ret
          exact ⟨ret_bool (by rw [HT.out, HD.out, HD'.out, sameRows, if_neg HE.out]), (hdr.step _).out⟩
      · go_wp2
        go_ret
        exact ⟨ret_bool (by rw [HT.out, List.drop_eq_nil_of_le (by omega), sameRows]; simp), hdr.out⟩
  · have hl1 : ((xs.length : Int) != (ys.length : Int)) = true := bne_iff_ne.2 (by omega)
    have HL := Aside0.mk hl
    clear hl
    go_enter Try.func12, Try.ntmps12
    go_wp2
    go_ret
    exact ⟨ret_bool (by symm; exact decide_eq_false (fun h => HL.out (by rw [h]))), ⟨0, rfl⟩⟩

end Go.Proofs.Ytjpobhdgfdeenaa.A

/- Rows of rows of whole numbers in new memory: the outer row is the call's own, each inner row lies in new memory and is read. -/
namespace Go.Proofs.Ytjpobhdgfdeenaa.A
open Go.RowKit Go.Proofs.YtjpobhdgfdeenaaW.PrintWords Go.Maps

theorem add_block (a : Addr) (j : Nat) : (a.add j).block = a.block := by unfold Addr.add; split <;> rfl
theorem C_int_move {w w1 : World} {A : Option Addr} {n : Nat} {xs : List Int} (h : Kd.C (Kd.int .i64) w A n xs) (hm : ∀ a, A = some a → w1.heap[a.block]? = w.heap[a.block]?) : Kd.C (Kd.int .i64) w1 A n xs := by
  refine ⟨h.1, h.2.1, fun hn => ?_⟩
  obtain ⟨ad, rfl, hc⟩ := h.2.2 hn
  refine ⟨ad, rfl, fun j p hp => ?_⟩
  obtain ⟨c, h1, h2, h3⟩ := hc j p hp
  refine ⟨c, h1, h2, fun i u hu => ?_⟩
  rw [← h3 i u hu]
  exact World.cell?_of_block (by rw [add_block]; exact hm ad rfl)
/-- A row of numbers in a block of type 3 from base on. -/
def kd3 : Kd (List Int) where
  sz := 1
  E := [3]
  K := (Kd.slice 3 (Kd.int .i64)).K
  M := fun w base ok xs cs => ∃ A c, cs = [.slice A xs.length c] ∧ xs.length ≤ c ∧ (Kd.int .i64).C w A xs.length xs ∧ ∀ a, A = some a → ok a.block ∧ base ≤ a.block ∧ a.block < w.heap.size ∧ ∃ cells, w.heap[a.block]? = some (.cells cells 3 (0, 0))
  K_len := fun h => (Kd.slice 3 (Kd.int .i64)).K_len h
  K_one := fun h => (Kd.slice 3 (Kd.int .i64)).K_one h
  K_below := fun hb h => (Kd.slice 3 (Kd.int .i64)).K_below hb h
  K_of_M := by
    rintro w base ok x cs ⟨A, c, rfl, hl, hr, _⟩
    exact ⟨A, c, rfl, hl, hr⟩
  M_mono := by
    rintro w base ok ok' x cs hok ⟨A, c, rfl, hl, hr, hp⟩
    exact ⟨A, c, rfl, hl, hr, fun a ha => ⟨hok _ (hp a ha).1, (hp a ha).2⟩⟩
  M_bound := by
    rintro w base ok x cs ⟨A, c, rfl, hl, hr, hp⟩
    exact ⟨A, c, rfl, hl, hr, fun a ha => ⟨⟨(hp a ha).1, (hp a ha).2.1, (hp a ha).2.2.1, 3, by simp, (hp a ha).2.2.2⟩, (hp a ha).2⟩⟩
  M_move := by
    rintro w w1 base ok x cs hm ⟨A, c, rfl, hl, hr, hp⟩
    refine ⟨A, c, rfl, hl, C_int_move hr (fun a ha => hm _ (hp a ha).1), fun a ha => ?_⟩
    obtain ⟨h1, h2, h3, cells, h4⟩ := hp a ha
    have h5 : w1.heap[a.block]? = some (.cells cells 3 (0, 0)) := (hm _ h1).trans h4
    exact ⟨h1, h2, (Array.getElem?_eq_some_iff.1 h5).1, cells, h5⟩
  M_lower := by
    rintro w base base' ok x cs hb ⟨A, c, rfl, hl, hr, hp⟩
    exact ⟨A, c, rfl, hl, hr, fun a ha => ⟨(hp a ha).1, Nat.le_trans hb (hp a ha).2.1, (hp a ha).2.2⟩⟩
theorem infoA3 : (Try.prog.info? 3).map (fun i => (i.zero, i.size, i.bytes)) = some (some (.int .i64 0), 1, 8) := by kernel_rfl
theorem infoA22 : (Try.prog.info? 22).map (fun i => (i.zero, i.size, i.bytes)) = some (some (.slice none 0 0), 1, 24) := by kernel_rfl
def Tr : Nat → Prop := fun _ => True
/-- What a row of numbers of the call's own reads as. -/
abbrev OI (w : World) (base : Nat) (v : Value) (xs : List Int) : Prop := Kd.R (Kd.int .i64) 3 w base Tr v xs
abbrev OR (w : World) (base : Nat) (v : Value) (xs : List (List Int)) : Prop := Kd.R kd3 22 w base Tr v xs
theorem OR_reads {w : World} {base : Nat} {v : Value} {xs : List (List Int)} (h : OR w base v xs) : ∃ A c, v = .slice A xs.length c ∧ xs.length ≤ c ∧ Kd.C (Kd.slice 3 (Kd.int .i64)) w A xs.length xs := Kd.R_reads (d := kd3) h
theorem OI_reads {w : World} {base : Nat} {v : Value} {xs : List Int} (h : OI w base v xs) : ∃ A c, v = .slice A xs.length c ∧ xs.length ≤ c ∧ Kd.C (Kd.int .i64) w A xs.length xs := Kd.R_reads h
/-- A row of numbers of the call's own is one that may be laid into an outer row of another block type. -/
theorem M_of_OI {w : World} {base : Nat} {v : Value} {xs : List Int} (h : OI w base v xs) : kd3.M w base Tr xs [v] := by
  obtain ⟨A, c, rfl, hl, hr⟩ := OI_reads h
  refine ⟨A, c, rfl, hl, hr, fun a ha => ?_⟩
  subst ha
  obtain ⟨_, inner, ho, _⟩ := h
  obtain ⟨cells, hc⟩ := own_typed ho a.block rfl
  exact ⟨trivial, own_base ho a.block rfl, own_lt ho a.block rfl, cells, hc⟩
/-- .. no block of which is the outer row's. -/
theorem M_not_outer {w : World} {base base' : Nat} {v : Value} {xs : List (List Int)} {x : List Int} {cs : List Value} (h : OR w base' v xs) (hm : kd3.M w base Tr x cs) : kd3.M w base (fun k => Tr k ∧ some k ≠ v.ownBlock) x cs := by
  obtain ⟨A, c, rfl, hl, hr, hp⟩ := hm
  refine ⟨A, c, rfl, hl, hr, fun a ha => ?_⟩
  obtain ⟨h1, h2, h3, cells, h4⟩ := hp a ha
  refine ⟨⟨h1, fun he => ?_⟩, h2, h3, cells, h4⟩
  obtain ⟨_, inner, ho, _⟩ := h
  obtain ⟨cells', hc⟩ := own_typed ho a.block he.symm
  rw [h4] at hc
  injection hc with hc
  injection hc with _ hc
  cases hc
section
variable {P : Program} {ops : Array Oper} {rest : List Oper} {o : Oper} {a : Act} {Q : Exit → Act → World → Prop} {W : World}
/-- The operation that stands next is a builtin over these places. -/
theorem at_b {b : Builtin} {xs : Array Operand} {ts : Array TypeId} (_ho : o.op = .call { callee := .builtin b, args := xs, argTypes := ts }) (h : wpList P ops Q (o :: rest) a W) : wpList P ops Q (o :: rest) a W := h
/-- .. writes this place. -/
theorem at_d {N : Tmp} (_hN : o.dst = some N) (h : wpList P ops Q (o :: rest) a W) : wpList P ops Q (o :: rest) a W := h
end
end Go.Proofs.Ytjpobhdgfdeenaa.A

/- Contracts of the reference's small functions over rows of keys. -/
namespace Go.Proofs.Ytjpobhdgfdeenaa.A
open Go.RowKit Go.Proofs.YtjpobhdgfdeenaaW.PrintWords Go.Maps

def idxFrom (x : Int) : Nat → List Int → Int
  | _, [] => -1
  | i, y :: ys => if y = x then (i : Int) else idxFrom x (i + 1) ys
def idxF (l : List Int) (x : Int) : Int := idxFrom x 0 l
theorem idxFrom_mem (x : Int) : ∀ (l : List Int) (i : Nat), (0 ≤ idxFrom x i l) ↔ x ∈ l
  | [], i => by simp [idxFrom]
  | y :: ys, i => by
    rw [idxFrom]
    by_cases e : y = x
    · rw [if_pos e]; simp [e]
    · rw [if_neg e, idxFrom_mem x ys (i + 1)]
      simp [Ne.symm e]

set_option maxHeartbeats 1000000 in
theorem Index_calls (A : Option Addr) (c : Nat) (xs : List Int) (x : Int) (w : World) (hx : Kd.C (Kd.int .i64) w A xs.length xs) :
    Calls Try.prog 44 #[.slice A xs.length c, .int .i64 x] w fun e w' => e = .returned (.int .i64 (idxF xs x)) ∧ ∃ m, w' = w.drewN m := by
  have HX := Aside0.mk hx
  have hmx := (C_len hx).2
  clear hx
  have HS : Aside0 (idxF xs x = idxFrom x 0 (xs.drop 0)) := ⟨rfl⟩
  go_enter Try.func44, Try.ntmps44
  go_wp2
  go_loopg [5] xs.length (fun g v5 wr => ∃ (i : Nat), g = xs.length - i ∧ i ≤ xs.length ∧ v5 = .int .i64 i ∧ Aside0 (idxF xs x = idxFrom x i (xs.drop i)) ∧ Drawn0 w wr)
  case atStart => exact ⟨0, rfl, Nat.zero_le _, rfl, HS, Drawn0.refl _⟩
  case round =>
    obtain ⟨i, hg, hi, rfl, HT, hdr⟩ := hrel
    have hbel := hdr.below
    have HG := Aside0.mk hg
    clear hg HS
    by_cases hlt : i < xs.length
    · obtain ⟨ad, y, hA, hdx, hcx⟩ := C_int HX.out i hlt
      subst hA
      replace hcx := pw_cell_below hbel hcx
      have HD := Aside0.mk hdx
      clear hdx
      by_cases hxy : y = x
      · have hne : (y == x) = true := by simpa using hxy
        have HE := Aside0.mk hxy
        clear hxy
        go_wp2
        go_ret
        exact ⟨ret_i (by rw [HT.out, HD.out, idxFrom, if_pos HE.out]), hdr.out⟩
      · have hne : (y == x) = false := by simpa using hxy
        have HE := Aside0.mk hxy
        clear hxy
        go_wp2
        go_roundg (xs.length - (i + 1))
        case measure => have := HG.out; omega
        case rel => exact ⟨i + 1, rfl, by omega, by go_num, ⟨by rw [HT.out, HD.out, idxFrom, if_neg HE.out]⟩, hdr⟩
    · go_wp2
      go_ret
      exact ⟨ret_i (by rw [HT.out, List.drop_eq_nil_of_le (by omega), idxFrom]), hdr.out⟩
theorem Has_calls (A : Option Addr) (c : Nat) (xs : List Int) (x : Int) (w : World) (hx : Kd.C (Kd.int .i64) w A xs.length xs) :
    Calls Try.prog 47 #[.slice A xs.length c, .int .i64 x] w fun e w' => e = .returned (.bool (decide (x ∈ xs))) ∧ ∃ m, w' = w.drewN m := by
  have HX := Aside0.mk hx
  clear hx
  go_enter Try.func47, Try.ntmps47
  go_wp2_with (go_at_call 44; refine (Index_calls _ _ _ _ _ HX.out).mono ?_; rintro e w' ⟨rfl, ⟨m, rfl⟩⟩)
  go_ret
  exact ⟨ret_bool (by simp [idxF, idxFrom_mem]), ⟨_, rfl⟩⟩

theorem half_calls (n : Int) (w : World) (h : 0 ≤ n ∧ n ≤ 1000) : Calls Try.prog 61 #[.int .i64 n] w fun e w' => e = .returned (.int .i64 (n / 2)) ∧ w = w' := by
  obtain ⟨h1, h2⟩ := h
  go_enter Try.func61, Try.ntmps61
  go_wp2
  go_ret
  exact ⟨rfl, rfl⟩
theorem Valid_calls (b : Int) (A : Option Addr) (c : Nat) (l : List (List Int)) (w : World) (hr : Kd.C (Kd.slice 3 (Kd.int .i64)) w A l.length l) :
    Calls Try.prog 15 #[.int .i64 b, .slice A l.length c] w fun e w' => e = .returned (.bool ((wrongF b l).2.2 == 0)) ∧ Below w.heap.size w w' := by
  have HR := Aside0.mk hr
  clear hr
  generalize hF : wrongF b l = F
  have HF := Aside0.mk hF
  clear hF
  go_enter Try.func15, Try.ntmps15
  go_wp2_with (go_at_call 17; refine (wrong_calls _ _ _ _ _ HR.out).mono ?_; rw [HF.out]; rintro e w' ⟨rfl, hb⟩)
  go_ret
  exact ⟨rfl, hb⟩
end Go.Proofs.Ytjpobhdgfdeenaa.A

/- Contracts of the reference's functions that make rows: flat, copied; spot; light. -/
namespace Go.Proofs.Ytjpobhdgfdeenaa.A
open Go.RowKit Go.Proofs.YtjpobhdgfdeenaaW.PrintWords Go.Maps

theorem flat_drop (l : List (List Int)) (i : Nat) (row : List Int) (h : l.drop i = row :: l.drop (i + 1)) : (l.take (i + 1)).flatten = (l.take i).flatten ++ row := by
  have hi : i < l.length := by
    rcases Nat.lt_or_ge i l.length with h' | h'
    · exact h'
    · rw [List.drop_eq_nil_of_le h'] at h; cases h
  rw [List.drop_eq_getElem_cons hi] at h
  injection h with h _
  rw [List.take_succ_eq_append_getElem hi, List.flatten_append]
  simp [h]
theorem flat_len (l : List (List Int)) (i : Nat) : (l.take i).flatten.length ≤ l.flatten.length := by
  conv => rhs; rw [← List.take_append_drop i l]
  rw [List.flatten_append, List.length_append]
  omega

set_option maxHeartbeats 1000000 in
theorem flat_calls (A : Option Addr) (c : Nat) (l : List (List Int)) (w : World) (hr : Kd.C (Kd.slice 3 (Kd.int .i64)) w A l.length l) (hs : l.flatten.length ≤ 1000000) :
    Calls Try.prog 48 #[.slice A l.length c] w fun e w' => ∃ v, e = .returned v ∧ OI w' w.heap.size v l.flatten ∧ Below w.heap.size w w' := by
  have HR := Aside0.mk hr
  have hm := (C_len hr).2
  have HSZ := Aside0.mk hs
  clear hr hs
  go_enter Try.func48, Try.ntmps48
  go_wp2
  go_loopg [3, 4] l.length (fun g v3 v4 wr => ∃ (i : Nat), g = l.length - i ∧ i ≤ l.length ∧ v4 = .int .i64 i ∧ Aside0 (OI wr w.heap.size v3 (l.take i).flatten) ∧ Below w.heap.size w wr)
  case atStart => exact ⟨0, rfl, Nat.zero_le _, rfl, ⟨Kd.R_nil _ _ _ _ _⟩, Below.refl _ _⟩
  case round =>
    obtain ⟨i, hg, hi, rfl, HO, hbel⟩ := hrel
    have HG := Aside0.mk hg
    clear hg
    by_cases hlt : i < l.length
    · obtain ⟨ad, A0, c0, row, hA, hdrop, hcell, hrl, hrow⟩ := C_row HR.out i hlt
      subst hA
      replace hcell := pw_cell_below hbel hcell
      have HD := Aside0.mk hdrop
      have HRow := Aside0.mk (Kd.C_below hrow hbel)
      have hrm := (C_len hrow).2
      have hsz := hbel.size
      have HL : Aside0 ((List.take i l).flatten.length + row.length ≤ 1000000) := ⟨by
        have h1 := flat_len l (i + 1)
        rw [flat_drop l i row hdrop, List.length_append] at h1
        have := HSZ.out
        omega⟩
      clear hdrop hrow
      go_wp2_with (at_builtin; refine Kd.R_append_rows (Kd.int .i64) (w0 := w) w.heap.size rfl (.tmp 11) (.tmp 15) 22 3 (.int .i64 0) 8 rfl Try.underlying22 infoA3 rfl (by decide) (by omega) u3 (l.take i).flatten row _ _ _ Tr (fun _ => False) rfl rfl HO.out HRow.out (fun _ _ h => h) (fun _ h => h.elim) (fun _ _ => trivial) hbel hsz ?aL ?_; (case aL => have := HL.out; omega); intro v1 w1 ho hb1 hg1 hat1; have HO1 := Aside0.mk ho; clear ho hg1 hat1)
      go_roundg (l.length - (i + 1))
      case measure => have := HG.out; omega
      case rel => exact ⟨i + 1, rfl, by omega, by go_num, ⟨by rw [flat_drop l i row HD.out]; exact HO1.out⟩, hb1⟩
    · go_wp2
      go_ret
      refine ⟨_, rfl, ?_, hbel⟩
      have h := HO.out
      rw [List.take_of_length_le (by omega)] at h
      exact h
end Go.Proofs.Ytjpobhdgfdeenaa.A

/- Contracts of the reference's functions that make rows of rows: copied. -/
namespace Go.Proofs.Ytjpobhdgfdeenaa.A
open Go.RowKit Go.Proofs.YtjpobhdgfdeenaaW.PrintWords Go.Maps

theorem OI_empty {w : World} {base : Nat} (hb : base ≤ w.heap.size) : OI (w.alloc (.cells #[] 3)) base (.slice (some ⟨w.heap.size, 0, none⟩) 0 0) [] :=
  ⟨fun _ _ => trivial, [], World.ownsRow_made w #[] 0 hb (Nat.zero_le _) rfl, Reps.none _ _⟩
theorem OI_below {w w1 : World} {base : Nat} {v : Value} {xs : List Int} (h : OI w base v xs) (hb : Below w.heap.size w w1) : OI w1 base v xs := Kd.R_below h hb
theorem OR_below {w w1 : World} {base : Nat} {v : Value} {xs : List (List Int)} (h : OR w base v xs) (hb : Below w.heap.size w w1) : OR w1 base v xs := Kd.R_below (d := kd3) h hb

theorem take_drop_snoc {α : Type} {l : List α} {i : Nat} {x : α} (h : l.drop i = x :: l.drop (i + 1)) : l.take (i + 1) = l.take i ++ [x] := by
  have hi : i < l.length := by
    rcases Nat.lt_or_ge i l.length with h' | h'
    · exact h'
    · rw [List.drop_eq_nil_of_le h'] at h; cases h
  rw [List.drop_eq_getElem_cons hi] at h
  injection h with h _
  rw [List.take_succ_eq_append_getElem hi, h]
set_option maxHeartbeats 1000000 in
theorem copied_calls (A : Option Addr) (c : Nat) (l : List (List Int)) (w : World) (hr : Kd.C (Kd.slice 3 (Kd.int .i64)) w A l.length l) (hs : l.length ≤ 1000000) (hs2 : ∀ x ∈ l, x.length ≤ 1000000) :
    Calls Try.prog 63 #[.slice A l.length c] w fun e w' => ∃ v, e = .returned v ∧ OR w' w.heap.size v l ∧ Below w.heap.size w w' := by
  have HR := Aside0.mk hr
  have hm := (C_len hr).2
  have HS2 := Aside0.mk hs2
  clear hr hs2
  go_enter Try.func63, Try.ntmps63
  go_wp2
  go_loopg [3, 4] l.length (fun g v3 v4 wr => ∃ (i : Nat), g = l.length - i ∧ i ≤ l.length ∧ v4 = .int .i64 i ∧ Aside0 (OR wr w.heap.size v3 (l.take i)) ∧ Below w.heap.size w wr)
  case atStart => exact ⟨0, rfl, Nat.zero_le _, rfl, ⟨Kd.R_nil _ _ _ _ _⟩, Below.refl _ _⟩
  case round =>
    obtain ⟨i, hg, hi, rfl, HO, hbel⟩ := hrel
    have HG := Aside0.mk hg
    clear hg
    by_cases hlt : i < l.length
    · obtain ⟨ad, A0, c0, row, hA, hdrop, hcell, hrl, hrow⟩ := C_row HR.out i hlt
      subst hA
      replace hcell := pw_cell_below hbel hcell
      have HD := Aside0.mk hdrop
      have HRow := Aside0.mk (Kd.C_below hrow hbel)
      have hrm := (C_len hrow).2
      have hsz := hbel.size
      have HL : Aside0 (row.length ≤ 1000000) := ⟨HS2.out row (List.mem_of_mem_drop (hdrop ▸ List.mem_cons_self))⟩
      clear hdrop hrow
      have hca : ∀ o, (wr.alloc o).cell? (ad.add i) = some (.slice A0 row.length c0) := fun o => pw_cell_below (below_alloc (Below.refl _ _) o) hcell
      go_wp2_with (first | ((with_reducible refine at_b (b := .append) (xs := #[.tmp 12, .tmp 16]) rfl ?_); at_builtin; refine Kd.R_append_rows (Kd.int .i64) (w0 := wr) wr.heap.size rfl (.tmp 12) (.tmp 16) 22 3 (.int .i64 0) 8 rfl Try.underlying22 infoA3 rfl (by decide) (by omega) _ [] row _ _ _ Tr (fun _ => False) rfl rfl (OI_empty (Nat.le_refl _)) (Kd.C_below HRow.out (below_alloc (Below.refl _ _) _)) (fun _ _ h => h) (fun _ h => h.elim) (fun _ _ => trivial) (below_alloc (Below.refl _ _) _) (by simp) ?aL ?_; (case aL => have := HL.out; simp; omega); intro v1 w1 ho hb1 hg1 hat1; have HI := Aside0.mk ho; clear ho hg1 hat1; obtain ⟨A1, c1, e1, _⟩ := OI_reads HI.out; subst e1) | ((with_reducible refine at_b (b := .append) (xs := #[.tmp 11, .tmp 18]) rfl ?_); refine Kd.R_append kd3 (w0 := w) (W := w1) w.heap.size rfl (.tmp 11) (.tmp 18) 24 22 (.slice none 0 0) 24 rfl Try.underlying24 infoA22 rfl (by decide) (by omega) u3 (l.take i) row [.slice A1 row.length c1] Tr (fun k => Tr k ∧ some k ≠ u3.ownBlock) rfl rfl ?bP (fun _ h => h) (fun _ _ => trivial) ?bO ?bB ?bS ?bL ?_; (case bO => exact (OR_below HO.out hb1)); (case bP => exact (M_not_outer (OR_below HO.out hb1) (kd3.M_lower hsz (M_of_OI HI.out)))); (case bB => exact below_step hbel hb1); (case bS => exact Nat.le_trans hsz hb1.size); (case bL => simp; omega); intro v2 w2 ho2 hb2 hg2 hat2; have HO2 := Aside0.mk ho2; clear ho2 hg2 hat2))
      go_roundg (l.length - (i + 1))
      case measure => have := HG.out; omega
      case rel => exact ⟨i + 1, rfl, by omega, by go_num, ⟨by rw [take_drop_snoc HD.out]; exact HO2.out⟩, hb2⟩
    · go_wp2
      go_ret
      refine ⟨_, rfl, ?_, hbel⟩
      have h := HO.out
      rw [List.take_of_length_le (by omega)] at h
      exact h
end Go.Proofs.Ytjpobhdgfdeenaa.A

/- Contracts of the reference: spot, Wrong, Valid, Keys; and of the statements' light. -/
namespace Go.Proofs.Ytjpobhdgfdeenaa.A
open Go.RowKit Go.Proofs.YtjpobhdgfdeenaaW.PrintWords Go.Maps

def spotL (index : Int) : Int → Nat → Int × Int → List (List Int) → Int × Int
  | _, _, p, [] => p
  | n, i, p, r :: t => spotL index (n + r.length) (i + 1) (if n ≤ index then ((i : Int), n) else p) t
def spotF (l : List (List Int)) (index : Int) : Int × Int := spotL index 0 0 (0, 0) l
theorem ret2w {F : Int × Int} {x y : Int} (h : F = (x, y)) : Ending.returned (.tuple #[.int .i64 x, .int .i64 y]) = Ending.returned (.tuple #[.int .i64 F.1, .int .i64 F.2]) := by rw [h]
theorem drop_lt {α : Type} {l : List α} {i : Nat} {x : α} {r : List α} (h : l.drop i = x :: r) : i < l.length := by
  rcases Nat.lt_or_ge i l.length with h' | h'
  · exact h'
  · rw [List.drop_eq_nil_of_le h'] at h; cases h

set_option maxHeartbeats 1000000 in
theorem spot_calls (A : Option Addr) (c : Nat) (l : List (List Int)) (x : Int) (w : World) (hr : Kd.C (Kd.slice 3 (Kd.int .i64)) w A l.length l) (hs : l.flatten.length ≤ 1000000) :
    Calls Try.prog 50 #[.slice A l.length c, .int .i64 x] w fun e w' => e = .returned (.tuple #[.int .i64 (spotF l x).1, .int .i64 (spotF l x).2]) ∧ ∃ m, w' = w.drewN m := by
  have HR := Aside0.mk hr
  have hm := (C_len hr).2
  have HSZ := Aside0.mk hs
  have HS : Aside0 (spotF l x = spotL x ((0 : Nat) : Int) 0 (0, 0) (l.drop 0)) := ⟨rfl⟩
  clear hr hs
  go_enter Try.func50, Try.ntmps50
  go_wp2
  go_loopg [4, 5, 6, 7] l.length (fun g v4 v5 v6 v7 wr => ∃ (i n : Nat) (p q : Int), g = l.length - i ∧ i ≤ l.length ∧ v4 = .int .i64 p ∧ v5 = .int .i64 q ∧ v6 = .int .i64 n ∧ v7 = .int .i64 i ∧ Aside0 (n = (l.take i).flatten.length) ∧ Aside0 (spotF l x = spotL x n i (p, q) (l.drop i)) ∧ Drawn0 w wr)
  case atStart => exact ⟨0, 0, 0, 0, rfl, Nat.zero_le _, rfl, rfl, rfl, rfl, ⟨rfl⟩, HS, Drawn0.refl _⟩
  case round =>
    obtain ⟨i, n, p, q, hg, hi, rfl, rfl, rfl, rfl, HN, HT, hdr⟩ := hrel
    have hbel := hdr.below
    have HG := Aside0.mk hg
    clear hg HS
    by_cases hlt : i < l.length
    · obtain ⟨ad, A0, c0, row, hA, hdrop, hcell, hrl, hrow⟩ := C_row HR.out i hlt
      subst hA
      replace hcell := pw_cell_below hbel hcell
      have HD := Aside0.mk hdrop
      have hn : n + row.length ≤ 1000000 := by
        have h1 := flat_len l (i + 1)
        rw [flat_drop l i row hdrop, List.length_append, ← HN.out] at h1
        have := HSZ.out
        omega
      have HN' : Aside0 (n + row.length = (l.take (i + 1)).flatten.length) := ⟨by rw [flat_drop l i row hdrop, List.length_append, ← HN.out]⟩
      clear hdrop hrow
      by_cases hx : (n : Int) ≤ x
      · have HX := Aside0.mk hx
        go_wp2
        go_roundg (l.length - (i + 1))
        case measure => have := HG.out; omega
        case rel => exact ⟨i + 1, n + row.length, i, n, rfl, by omega, rfl, rfl, by go_num, by go_num, HN', ⟨by rw [HT.out, HD.out, spotL, if_pos HX.out]; rfl⟩, hdr⟩
      · have HX := Aside0.mk hx
        go_wp2
        go_roundg (l.length - (i + 1))
        case measure => have := HG.out; omega
        case rel => exact ⟨i + 1, n + row.length, p, q, rfl, by omega, rfl, rfl, by go_num, by go_num, HN', ⟨by rw [HT.out, HD.out, spotL, if_neg (show ¬ (n : Int) ≤ x by have := HX.out; omega)]; rfl⟩, hdr⟩
    · go_wp2
      go_ret2
      exact ⟨ret2w (by rw [HT.out, List.drop_eq_nil_of_le (by omega), spotL]), hdr.out⟩

def lightL : Int → List (List Int) → Int
  | n, [] => n
  | n, r :: t => lightL (wrap64 (wrap64 (n + r.length) + 1)) t
def lightF (l : List (List Int)) : Bool := decide (lightL 0 l ≤ 300)
set_option maxHeartbeats 1000000 in
theorem light_calls (A : Option Addr) (c : Nat) (l : List (List Int)) (w : World) (hr : Kd.C (Kd.slice 3 (Kd.int .i64)) w A l.length l) :
    Calls Try.prog 16 #[.slice A l.length c] w fun e w' => e = .returned (.bool (lightF l)) ∧ ∃ m, w' = w.drewN m := by
  have HR := Aside0.mk hr
  have hm := (C_len hr).2
  have HS : Aside0 (lightF l = decide (lightL 0 (l.drop 0) ≤ 300)) := ⟨rfl⟩
  clear hr
  go_enter Try.func16, Try.ntmps16
  go_wp2
  go_loopg [3, 4] l.length (fun g v3 v4 wr => ∃ (i : Nat) (n : Int), g = l.length - i ∧ i ≤ l.length ∧ v3 = .int .i64 n ∧ v4 = .int .i64 i ∧ Aside0 (lightF l = decide (lightL n (l.drop i) ≤ 300)) ∧ Drawn0 w wr)
  case atStart => exact ⟨0, 0, rfl, Nat.zero_le _, rfl, rfl, HS, Drawn0.refl _⟩
  case round =>
    obtain ⟨i, n, hg, hi, rfl, rfl, HT, hdr⟩ := hrel
    have hbel := hdr.below
    have HG := Aside0.mk hg
    clear hg HS
    by_cases hlt : i < l.length
    · obtain ⟨ad, A0, c0, row, hA, hdrop, hcell, hrl, hrow⟩ := C_row HR.out i hlt
      subst hA
      replace hcell := pw_cell_below hbel hcell
      have HD := Aside0.mk hdrop
      clear hdrop hrow
      go_wp2
      go_roundg (l.length - (i + 1))
      case measure => have := HG.out; omega
      case rel => exact ⟨i + 1, wrap64 (wrap64 (n + row.length) + 1), rfl, by omega, rfl, by go_num, ⟨by rw [HT.out, HD.out, lightL]⟩, hdr⟩
    · go_wp2
      go_ret
      exact ⟨ret_bool (by rw [HT.out, List.drop_eq_nil_of_le (by omega), lightL]), hdr.out⟩
end Go.Proofs.Ytjpobhdgfdeenaa.A

/- Contracts of the reference: Wrong, Valid, Keys. -/
namespace Go.Proofs.Ytjpobhdgfdeenaa.A
open Go.RowKit Go.Proofs.YtjpobhdgfdeenaaW.PrintWords Go.Maps

theorem not_own {w w0 : World} {v : Value} {T : List Int} (h : OI w w0.heap.size v T) {a : Addr} {u : Value} (hc : w0.cell? a = some u) : some a.block ≠ v.ownBlock := by
  intro he
  obtain ⟨_, inner, ho, _⟩ := h
  have h1 := own_base ho a.block he.symm
  have h2 := World.block_lt_of_cell? w0 a hc
  omega
set_option maxHeartbeats 1000000 in
set_option maxRecDepth 100000 in
theorem rWrong_calls (b : Int) (A : Option Addr) (c : Nat) (l : List (List Int)) (w : World) (hr : Kd.C (Kd.slice 3 (Kd.int .i64)) w A l.length l) :
    Calls Try.prog 18 #[.int .i64 b, .slice A l.length c] w fun e w' => e = .returned (.tuple #[.int .i64 (wrongF b l).1, .int .i64 (wrongF b l).2.1, .int .i64 (wrongF b l).2.2]) ∧ Below w.heap.size w w' := by
  have HR := Aside0.mk hr
  have hm := (C_len hr).2
  clear hr
  cases hb : roomB b with
  | true =>
    have HW : Aside0 (wrongF b l = scan b [] 0 (l.drop 0)) := ⟨by simp [wrongF, hb]⟩
    have hb2 : 2 ≤ b ∧ b ≤ 50 := of_decide_eq_true hb
    go_enter Try.func18, Try.ntmps18
    go_wp2_with (go_at_call 42; refine (size_calls b _).mono ?_; rw [hb]; rintro e w' ⟨rfl, rfl⟩)
    clear hb
    go_loopg [7, 8] l.length (fun g v7 v8 wr => ∃ (i : Nat) (S : List Int), g = l.length - i ∧ i ≤ l.length ∧ v8 = .int .i64 i ∧ Aside0 (wrongF b l = scan b S i (l.drop i)) ∧ Aside0 (S.length ≤ 500) ∧ Aside0 (OI wr w.heap.size v7 S) ∧ Below w.heap.size w wr)
    case atStart => exact ⟨0, [], rfl, Nat.zero_le _, rfl, HW, ⟨Nat.zero_le _⟩, ⟨Kd.R_nil _ _ _ _ _⟩, Below.refl _ _⟩
    case round =>
      obtain ⟨i, S, hg, hi, rfl, HS, HL, HO, hbel⟩ := hrel
      have HG := Aside0.mk hg
      clear hg HW
      by_cases hlt : i < l.length
      · obtain ⟨ad, A0, c0, row, hA, hdrop, hcell, hrl, hrow⟩ := C_row HR.out i hlt
        have HCW := Aside0.mk hcell
        replace hcell := pw_cell_below hbel hcell
        subst hA
        have HD := Aside0.mk hdrop
        have HC0 := Aside0.mk hcell
        have HRow := Aside0.mk hrow
        have hrm := (C_len hrow).2
        clear hdrop hrow
        by_cases h0 : row = []
        · subst h0
          go_wp2
          go_ret3
          exact ⟨ret3w (by rw [HS.out, HD.out, scan, if_pos rfl]), hbel⟩
        · have hpos : 0 < row.length := List.length_pos_iff.2 h0
          by_cases h1 : b < (row.length : Int)
          · go_wp2
            go_ret3
            exact ⟨ret3w (by rw [HS.out, HD.out, scan, if_neg h0, if_pos h1]), hbel⟩
          · have HS' : Aside0 (wrongF b l = cont b i (l.drop (i + 1)) (scanRow S 0 (row.drop 0))) := ⟨by rw [HS.out, HD.out, scan_row _ _ _ _ _ h0 h1]; rfl⟩
            clear HS
            go_wp2
            obtain ⟨wo, rfl⟩ : ∃ wo : World, wo = wr := ⟨_, rfl⟩
            go_loopg [7, 9] row.length (fun g v7 v9 wr => ∃ (k : Nat) (T : List Int), g = row.length - k ∧ k ≤ row.length ∧ v9 = .int .i64 k ∧ Aside0 (wrongF b l = cont b i (l.drop (i + 1)) (scanRow T k (row.drop k))) ∧ Aside0 (T.length ≤ 500) ∧ Aside0 (OI wr w.heap.size v7 T) ∧ Below w.heap.size w wr ∧ wr.cell? (ad.add i) = some (.slice A0 row.length c0))
            case atStart => exact ⟨0, S, rfl, Nat.zero_le _, rfl, HS', HL, HO, hbel, HC0.out⟩
            case round =>
              obtain ⟨k, T, hg, hk, rfl, HT, HTL, HO, hbel, hcell⟩ := hrel
              have HG2 := Aside0.mk hg
              clear hg HS'
              by_cases hkl : k < row.length
              · obtain ⟨ad2, x, hA2, hdrop2, hcell2⟩ := C_int HRow.out k hkl
                replace hcell2 := pw_cell_below hbel hcell2
                subst hA2
                obtain ⟨AT, cT, eT, hcT, hCT⟩ := OI_reads HO.out
                subst eT
                have HCT := Aside0.mk hCT
                have HD2 := Aside0.mk hdrop2
                clear hdrop2 hCT
                cases hkey : keyB x with
                | false =>
                  have HK := Aside0.mk hkey
                  go_wp2_with (go_at_call 43; refine (Key_calls x _).mono ?_; rw [HK.out]; rintro e w' ⟨rfl, rfl⟩)
                  go_ret3
                  exact ⟨ret3w (by rw [HT.out, HD2.out, scanRow, if_pos (.inl HK.out)]; rfl), hbel⟩
                | true =>
                  have HK := Aside0.mk hkey
                  clear hkey
                  by_cases hx : x ∈ T
                  · have HX := Aside0.mk hx
                    have hd : decide (x ∈ T) = true := decide_eq_true hx
                    clear hx
                    go_wp2_with (first | (go_at_call 43; refine (Key_calls x _).mono ?_; rw [HK.out]; rintro e w' ⟨rfl, rfl⟩) | (go_at_call 47; refine (Has_calls _ _ T x _ HCT.out).mono ?_; rintro e w' ⟨rfl, ⟨mq, rfl⟩⟩))
                    go_ret3
                    exact ⟨ret3w (by rw [HT.out, HD2.out, scanRow, if_pos (.inr HX.out)]; rfl), pw_below_drewN hbel _⟩
                  · have HX := Aside0.mk hx
                    have hd : decide (x ∈ T) = false := decide_eq_false hx
                    clear hx
                    have HNo : Aside0 (¬ (keyB x = false ∨ x ∈ T)) := ⟨by rintro (h | h); exact absurd (HK.out.symm.trans h) (by decide); exact HX.out h⟩
                    by_cases hfull : T.length = 500
                    · have hf : ((T.length : Int) == 500) = true := by rw [hfull]; rfl
                      have HF := Aside0.mk hfull
                      clear hfull
                      go_wp2_with (first | (go_at_call 43; refine (Key_calls x _).mono ?_; rw [HK.out]; rintro e w' ⟨rfl, rfl⟩) | (go_at_call 47; refine (Has_calls _ _ T x _ HCT.out).mono ?_; rintro e w' ⟨rfl, ⟨mq, rfl⟩⟩))
                      go_ret3
                      exact ⟨ret3w (by rw [HT.out, HD2.out, scanRow, if_neg HNo.out, if_pos HF.out]; rfl), pw_below_drewN hbel _⟩
                    · have hf : ((T.length : Int) == 500) = false := by simpa using (show ¬ (T.length : Int) = 500 by omega)
                      have hlt5 : T.length < 500 := by have := HTL.out; omega
                      have HF := Aside0.mk hfull
                      clear hfull
                      have hsz := hbel.size
                      go_wp2_with (first | (go_at_call 43; refine (Key_calls x _).mono ?_; rw [HK.out]; rintro e w' ⟨rfl, rfl⟩) | (go_at_call 47; refine (Has_calls _ _ T x _ HCT.out).mono ?_; rintro e w' ⟨rfl, ⟨mq, rfl⟩⟩) | ((with_reducible refine at_b (b := .append) (xs := #[.tmp 71, .tmp 79]) rfl ?_); go_must (refine Kd.R_append (Kd.int .i64) (w0 := w) (W := wr.drewN mq) w.heap.size rfl (.tmp 71) (.tmp 79) 22 3 (.int .i64 0) 8 rfl Try.underlying22 infoA3 rfl (by decide) (by omega) (.slice AT T.length cT) T x [.int .i64 x] Tr (fun _ => False) rfl rfl ?bP (fun _ h => h.elim) (fun _ _ => trivial) ?bO ?bB ?bS ?bL ?_; (case bP => exact rfl); (case bO => exact (OI_below HO.out (pw_below_drewN (Below.refl _ _) _))); (case bB => exact pw_below_drewN hbel _); (case bS => exact hsz); (case bL => omega); intro v2 w2 ho2 hb2 hg2 hat2; have HO2 := Aside0.mk ho2; have hc2 := hg2.cell (show (wr.drewN mq).cell? (ad.add i) = some (.slice (some ad2) row.length c0) from hcell) (not_own HO.out HCW.out); clear ho2 hg2 hat2)))
                      go_roundg (row.length - (k + 1))
                      case measure => have := HG2.out; omega
                      case rel => exact ⟨k + 1, T ++ [x], rfl, by omega, by go_num, ⟨by rw [HT.out, HD2.out, scanRow, if_neg HNo.out, if_neg HF.out]⟩, ⟨by simp; omega⟩, HO2, hb2, hc2⟩
              · go_wp2
                go_roundg (l.length - (i + 1))
                case measure => have := HG.out; omega
                case rel =>
                  exact ⟨i + 1, T, rfl, by omega, by go_num, ⟨by rw [HT.out, List.drop_eq_nil_of_le (show row.length ≤ k by omega)]; rfl⟩, HTL, HO, hbel⟩
      · go_wp2
        go_ret3
        exact ⟨ret3w (by rw [HS.out, List.drop_eq_nil_of_le (by omega), scan]), hbel⟩
  | false =>
    have HW : Aside0 (wrongF b l = (-1, -1, 7)) := ⟨by simp [wrongF, hb]⟩
    go_enter Try.func18, Try.ntmps18
    go_wp2_with (go_at_call 42; refine (size_calls b _).mono ?_; rw [hb]; rintro e w' ⟨rfl, rfl⟩)
    go_ret3
    exact ⟨ret3w HW.out, Below.refl _ _⟩
end Go.Proofs.Ytjpobhdgfdeenaa.A

/- What blocks that Wrong finds right are. -/
namespace Go.Proofs.Ytjpobhdgfdeenaa.A

structure Arr (b : Int) (l : List (List Int)) : Prop where
  room : 2 ≤ b ∧ b ≤ 50
  rows : ∀ r ∈ l, r ≠ [] ∧ (r.length : Int) ≤ b
  nodup : l.flatten.Nodup
  keys : ∀ x ∈ l.flatten, keyB x = true
  few : l.flatten.length ≤ 500

theorem scanRow_inr : ∀ (row S : List Int) (k : Nat) (T : List Int), scanRow S k row = .inr T → S.length ≤ 500 → S.Nodup →
    T = S ++ row ∧ (S ++ row).length ≤ 500 ∧ (S ++ row).Nodup ∧ ∀ x ∈ row, keyB x = true
  | [], S, k, T, h, hl, hn => by
    rw [scanRow] at h
    injection h with h
    subst h
    simp [hl, hn]
  | x :: r, S, k, T, h, hl, hn => by
    rw [scanRow] at h
    split at h
    · cases h
    · rename_i h1
      split at h
      · cases h
      · rename_i h2
        have h3 : keyB x = true := by
          cases hk : keyB x
          · exact absurd (.inl hk) h1
          · rfl
        have h4 : x ∉ S := fun hx => h1 (.inr hx)
        have hn' : (S ++ [x]).Nodup := by
          rw [List.nodup_append]
          refine ⟨hn, by simp, fun a ha b hb => ?_⟩
          rw [List.mem_singleton] at hb
          subst hb
          exact fun he => h4 (he ▸ ha)
        obtain ⟨e, g1, g2, g3⟩ := scanRow_inr r (S ++ [x]) (k + 1) T h (by simp; omega) hn'
        rw [List.append_assoc, List.singleton_append] at e g1 g2
        exact ⟨e, g1, g2, fun y hy => by
          rcases List.mem_cons.1 hy with rfl | hy
          · exact h3
          · exact g3 y hy⟩
theorem scanRow_ok : ∀ (row S : List Int) (k : Nat), (S ++ row).length ≤ 500 → (S ++ row).Nodup → (∀ x ∈ row, keyB x = true) → scanRow S k row = .inr (S ++ row)
  | [], S, k, _, _, _ => by simp [scanRow]
  | x :: r, S, k, hl, hn, hk => by
    have h1 : keyB x = true := hk x (by simp)
    have h2 : x ∉ S := fun hx => by
      rw [List.nodup_append] at hn
      exact hn.2.2 x hx x (by simp) rfl
    have h3 : S.length ≠ 500 := by
      simp at hl
      omega
    have e : S ++ x :: r = (S ++ [x]) ++ r := by simp
    rw [scanRow, if_neg (by rintro (h | h); rw [h1] at h; cases h; exact h2 h), if_neg h3, scanRow_ok r (S ++ [x]) (k + 1) (by rw [← e]; exact hl) (by rw [← e]; exact hn) (fun y hy => hk y (by simp [hy])), e]
theorem scanRow_inl_ne : ∀ (row S : List Int) (k : Nat) (p : Nat × Int), scanRow S k row = .inl p → p.2 ≠ 0
  | [], S, k, p, h => by rw [scanRow] at h; cases h
  | x :: r, S, k, p, h => by
    rw [scanRow] at h
    split at h
    · injection h with h; rw [← h]; simp
    · split at h
      · injection h with h; rw [← h]; simp
      · exact scanRow_inl_ne r _ _ p h
theorem scan_iff (b : Int) : ∀ (l : List (List Int)) (S : List Int) (i : Nat), S.length ≤ 500 → S.Nodup →
    ((scan b S i l).2.2 = 0 ↔ (∀ r ∈ l, r ≠ [] ∧ (r.length : Int) ≤ b) ∧ (S ++ l.flatten).Nodup ∧ (∀ x ∈ l.flatten, keyB x = true) ∧ (S ++ l.flatten).length ≤ 500)
  | [], S, i, hl, hn => by simp [scan, hl, hn]
  | r :: t, S, i, hl, hn => by
    by_cases h0 : r = []
    · rw [scan, if_pos h0]
      refine ⟨fun h => absurd h (by simp), fun h => absurd h0 (h.1 r (by simp)).1⟩
    · by_cases h1 : b < (r.length : Int)
      · rw [scan, if_neg h0, if_pos h1]
        refine ⟨fun h => absurd h (by simp), fun h => absurd h1 (by have := (h.1 r (by simp)).2; omega)⟩
      · rw [scan_row _ _ _ _ _ h0 h1]
        cases hs : scanRow S 0 r with
        | inl p =>
          have hp := scanRow_inl_ne r S 0 p hs
          refine ⟨fun h => absurd h hp, fun h => ?_⟩
          exfalso
          rw [List.flatten_cons, ← List.append_assoc] at h
          have h2 := scanRow_ok r S 0 (by have := h.2.2.2; rw [List.length_append] at this; omega) (List.nodup_append.1 h.2.1).1 (fun x hx => h.2.2.1 x (by simp [hx]))
          rw [h2] at hs
          cases hs
        | inr T =>
          obtain ⟨rfl, g1, g2, g3⟩ := scanRow_inr r S 0 T hs hl hn
          show (scan b (S ++ r) (i + 1) t).2.2 = 0 ↔ _
          rw [scan_iff b t (S ++ r) (i + 1) g1 g2, List.flatten_cons, List.append_assoc]
          constructor
          · rintro ⟨a1, a2, a3, a4⟩
            refine ⟨fun q hq => ?_, a2, fun x hx => ?_, a4⟩
            · rcases List.mem_cons.1 hq with rfl | hq
              · exact ⟨h0, by omega⟩
              · exact a1 q hq
            · rcases List.mem_append.1 hx with hx | hx
              · exact g3 x hx
              · exact a3 x hx
          · rintro ⟨a1, a2, a3, a4⟩
            exact ⟨fun q hq => a1 q (by simp [hq]), a2, fun x hx => a3 x (by simp [List.mem_append] at hx ⊢; exact .inr hx), a4⟩
theorem valid_iff (b : Int) (l : List (List Int)) : (wrongF b l).2.2 = 0 ↔ Arr b l := by
  unfold wrongF
  cases hb : roomB b with
  | false =>
    refine ⟨fun h => absurd h (by simp), fun h => ?_⟩
    have : roomB b = true := decide_eq_true h.room
    rw [hb] at this
    cases this
  | true =>
    rw [if_pos rfl, scan_iff b l [] 0 (by simp) (by simp)]
    exact ⟨fun h => ⟨of_decide_eq_true hb, h.1, by simpa using h.2.1, h.2.2.1, by simpa using h.2.2.2⟩, fun h => ⟨h.rows, by simpa using h.nodup, h.keys, by simpa using h.few⟩⟩
def validB (b : Int) (l : List (List Int)) : Bool := (wrongF b l).2.2 == 0
theorem validB_iff (b : Int) (l : List (List Int)) : validB b l = true ↔ Arr b l := by
  rw [← valid_iff]
  simp [validB]
end Go.Proofs.Ytjpobhdgfdeenaa.A
