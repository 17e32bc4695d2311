/- Contracts of functions of package item: what they return, in whatever memory the arguments lie. -/
import Derived.Test.YtibgjfeifpanhaaDoorProg
import Derived.Below
import Derived.Deep.Draws
import Derived.Deep.AppendLies
import Derived.Maps.AppendAt
import Derived.Maps.OwnSet
import Derived.OwnWalk
import Derived.Laws.BytesArg
import Derived.Laws.MakeOwn
import Derived.Laws.OwnMore
import Derived.Deep.OwnRows
import Derived.Tactics
import Derived.Laws.Slices
import Derived.WalkKit
import Derived.KernelRfl
import Derived.RowKit3
import Derived.Deep.LoopGhost
import Derived.Deep.QuietTactic
import Derived.BigQuiet
import Derived.WideLaws
import Derived.Deep.DeepCutAuto
import Derived.Deep.CutBlock
import Derived.Deep.RegionHeld3
import Derived.Laws.Rows
import Derived.ArgAppend
import Derived.Laws.IdiomCopy
import Derived.OrdersHeld
import Derived.Laws.BitsLemmas
import Derived.Outline
import Derived.WalkSpells
import Derived.Lib.Hide
import Derived.RowKit
import Derived.Deep.DeepMust
import Derived.Laws.EntriesVeiled
import Derived.Test.YtibgjfeifpanhaaDoorB1
set_option linter.unusedVariables false
set_option linter.unusedSimpArgs false
namespace Go.Proofs.YtibgjfeifpanhaaDoor.B
open Go.RowKit Go.Proofs.YtibgjfeifpanhaaDoorW.PrintWords Go.Maps PItemValid

theorem ret_bool {a b : Bool} (h : a = b) : Ending.returned (.bool a) = .returned (.bool b) := by rw [h]
theorem ret_i {a b : Int} (h : a = b) : Ending.returned (.int .i64 a) = .returned (.int .i64 b) := by rw [h]
theorem ret_s {a b : ByteArray} (h : a = b) : Ending.returned (.string a) = .returned (.string b) := by rw [h]
theorem C_len {α : Type} {d : Kd α} {w : World} {A : Option Addr} {n : Nat} {xs : List α} (h : Kd.C d w A n xs) : xs.length = n ∧ n ≤ 9223372036854775807 := ⟨h.1, h.2.1⟩
theorem C_val {w : World} {A : Option Addr} {n : Nat} {xs : List S29} (h : Kd.C k29 w A n xs) (i : Nat) (h1 : i < n) :
    ∃ ad x, A = some ad ∧ xs.drop i = x :: xs.drop (i + 1) ∧ w.cell? (ad.add (i * 3)) = some (.int .i64 x.f0) ∧ w.cell? ⟨(ad.add (i * 3)).block, (ad.add (i * 3)).off + 1, none⟩ = some (.int .i64 x.f1) ∧ w.cell? ⟨(ad.add (i * 3)).block, (ad.add (i * 3)).off + 2, none⟩ = some (.string x.f2) := by
  obtain ⟨ad, e, c0, c1, c2⟩ := at_T29 h i (by omega) (by omega)
  have hn : xs.length = n := h.1
  have e1 : rd_T29 xs (i : Int) = xs[i]'(by omega) := by simp [rd_T29, List.getD_eq_getElem?_getD, List.getElem?_eq_getElem (show i < xs.length by omega)]
  rw [e1] at c0 c1 c2
  exact ⟨ad, xs[i]'(by omega), e, List.drop_eq_getElem_cons (by omega), c0, c1, c2⟩
/-- The first place of a value that is none; -1 if all are. -/
def badI : Nat → List S29 → Int
  | _, [] => -1
  | i, x :: r => if okV x = false then i else badI (i + 1) r
theorem badI_all : ∀ (l : List S29) (i : Nat), (0 ≤ badI i l) ↔ ¬ l.all okV = true
  | [], i => by simp [badI]
  | x :: r, i => by
    rw [badI]
    cases hx : okV x with
    | false => rw [if_pos rfl]; simp [hx]
    | true => rw [if_neg (by simp), badI_all r (i + 1)]; simp [hx]
set_option maxHeartbeats 1000000 in
theorem IndexFunc_calls (A : Option Addr) (c : Nat) (l : List S29) (w : World) (hr : Kd.C k29 w A l.length l) :
    Calls Tryd.prog 92 #[.slice A l.length c, .func (.func 59) #[] #[]] w fun e w' => e = .returned (.int .i64 (badI 0 l)) ∧ Below w.heap.size w w' := by
  have HR := Aside0.mk hr
  have hmx := (C_len hr).2
  clear hr
  have HS : Aside0 (badI 0 l = badI 0 (l.drop 0)) := ⟨rfl⟩
  go_enter Tryd.func92, Tryd.ntmps92
  go_wp2
  go_loopg [8] l.length (fun g v8 wr => ∃ (i : Nat), g = l.length - i ∧ i ≤ l.length ∧ v8 = .int .i64 i ∧ Aside0 (badI 0 l = badI i (l.drop i)) ∧ Below w.heap.size w wr)
  case atStart => exact ⟨0, rfl, Nat.zero_le _, rfl, HS, Below.refl _ _⟩
  case round =>
    obtain ⟨i, hg, hi, rfl, HT, hbel⟩ := hrel
    have HG := Aside0.mk hg
    clear hg HS
    by_cases hlt : i < l.length
    · obtain ⟨ad, x, hA, hdx, c0, c1, c2⟩ := C_val HR.out i hlt
      subst hA
      replace c0 := pw_cell_below hbel c0
      replace c1 := pw_cell_below hbel c1
      replace c2 := pw_cell_below hbel c2
      have HD := Aside0.mk hdx
      have HC := Aside0.mk (fun w => notValid_calls x w)
      unfold vV at HC
      clear hdx
      cases hq : okV x with
      | false =>
        have HQ := Aside0.mk hq
        clear hq
        go_wp2_with (go_at_call 59; go_must (refine (HC.out _).mono ?_; rw [HQ.out]; rintro e w2 ⟨rfl, hd⟩))
        go_ret
        exact ⟨ret_i (by rw [HT.out, HD.out, badI, if_pos HQ.out]), below_then hbel hd⟩
      | true =>
        have HQ := Aside0.mk hq
        clear hq
        go_wp2_with (go_at_call 59; go_must (refine (HC.out _).mono ?_; rw [HQ.out]; rintro e w2 ⟨rfl, hd⟩))
        go_roundg (l.length - (i + 1))
        case measure => have := HG.out; omega
        case rel => exact ⟨i + 1, rfl, by omega, by go_num, ⟨by rw [HT.out, HD.out, badI, if_neg (by rw [HQ.out]; simp)]⟩, below_then hbel hd⟩
    · go_wp2
      go_ret
      exact ⟨ret_i (by rw [HT.out, List.drop_eq_nil_of_le (by omega), badI]), hbel⟩
theorem ContainsFunc_calls (A : Option Addr) (c : Nat) (l : List S29) (w : World) (hr : Kd.C k29 w A l.length l) :
    Calls Tryd.prog 58 #[.slice A l.length c, .func (.func 59) #[] #[]] w fun e w' => e = .returned (.bool (!l.all okV)) ∧ Below w.heap.size w w' := by
  have HC := Aside0.mk (IndexFunc_calls A c l w hr)
  have hd : decide (0 ≤ badI 0 l) = !l.all okV := by
    cases h : l.all okV with
    | true => exact decide_eq_false (fun h2 => (badI_all l 0).1 h2 h)
    | false => exact decide_eq_true ((badI_all l 0).2 (by rw [h]; simp))
  clear hr
  generalize badI 0 l = I at HC hd
  go_enter Tryd.func58, Tryd.ntmps58
  go_wp2_with (go_at_call 92; go_must (refine HC.out.mono ?_; rintro e w' ⟨rfl, hb⟩))
  go_ret
  exact ⟨ret_bool (by first | exact hd | simp [hd]), hb⟩
def okRow (l : List S29) : Bool := decide ((l.length : Int) ≤ 8) && l.all okV
theorem ValidRow_calls (A : Option Addr) (c : Nat) (l : List S29) (w : World) (hr : Kd.C k29 w A l.length l) :
    Calls Tryd.prog 18 #[.slice A l.length c] w fun e w' => e = .returned (.bool (okRow l)) ∧ Below w.heap.size w w' := by
  have HC := Aside0.mk (ContainsFunc_calls A c l w hr)
  have hmx := (C_len hr).2
  clear hr
  unfold okRow
  generalize l.all okV = q at HC ⊢
  cases h : decide ((l.length : Int) ≤ 8) with
  | false =>
    go_enter Tryd.func18, Tryd.ntmps18
    go_wp2
    go_ret
    exact ⟨rfl, Below.refl _ _⟩
  | true =>
    go_enter Tryd.func18, Tryd.ntmps18
    go_wp2_with (go_at_call 58; go_must (refine HC.out.mono ?_; rintro e w' ⟨rfl, hb⟩))
    go_ret
    exact ⟨ret_bool (by simp), hb⟩
end Go.Proofs.YtibgjfeifpanhaaDoor.B
