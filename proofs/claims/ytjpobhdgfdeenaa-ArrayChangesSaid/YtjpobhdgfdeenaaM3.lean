/- The iterator over the keys of blocks: what it hands to a loop's body, round by round. -/
import Derived.Below
import Derived.Deep.Draws
import Derived.Deep.AppendLies
import Derived.Maps.AppendAt
import Derived.Maps.OwnSet
import Derived.OwnWalk
import Derived.Laws.BytesArg
import Derived.Laws.MakeOwn
import Derived.Laws.OwnMore
import Derived.Deep.OwnRows
import Derived.Tactics
import Derived.Laws.Slices
import Derived.WalkKit
import Derived.KernelRfl
import Derived.RowKit3
import Derived.Deep.LoopGhost
import Derived.Deep.QuietTactic
import Derived.BigQuiet
import Derived.WideLaws
import Derived.Deep.DeepCutAuto
import Derived.Deep.CutBlock
import Derived.Deep.RegionHeld3
import Derived.Laws.Rows
import Derived.ArgAppend
import Derived.Laws.IdiomCopy
import Derived.OrdersHeld
import Derived.Laws.BitsLemmas
import Derived.Outline
import Derived.WalkSpells
import Derived.Lib.Hide
import Derived.RowKit
import Derived.Deep.DeepMust
import Derived.RangeFuncNested
import Derived.RangeFuncBound
import Derived.RangeFuncCalls
import Derived.RangeFuncLeaves
import Derived.Shelf.Abstract
import Derived.Shelf.RegionOpen
import Derived.OwnWalkIn
import Derived.TacticsInMore
import Derived.LoopNIn
import Derived.LoopIn
import Derived.RangeFuncBox
import Derived.Test.YtjpobhdgfdeenaaProg
import Derived.Test.YtjpobhdgfdeenaaM1
namespace Go.Proofs.Ytjpobhdgfdeenaa.A
open Go.RowKit Go.Shelf Go.Proofs.YtjpobhdgfdeenaaW.PrintWords Go.Maps
attribute [local go_sem] Oper.semAt_some

/-- A key with where it stands: index, block, place, key. -/
abbrev Pos := Int × Int × Int × Int
def posRow : Int → Int → Int → List Int → List Pos
  | _, _, _, [] => []
  | x, i, k, y :: r => (x, i, k, y) :: posRow (x + 1) i (k + 1) r
def posAll : Int → Int → List (List Int) → List Pos
  | _, _, [] => []
  | x, i, r :: t => posRow x i 0 r ++ posAll (x + r.length) (i + 1) t
abbrev encP (p : Pos) : Value := .agg #[.int .i64 p.1, .int .i64 p.2.1, .int .i64 p.2.2.1, .int .i64 p.2.2.2]
theorem posRow_len : ∀ (r : List Int) (x i k : Int), (posRow x i k r).length = r.length
  | [], _, _, _ => rfl
  | _ :: r, x, i, k => by simp [posRow, posRow_len r]
theorem posAll_len : ∀ (l : List (List Int)) (x i : Int), (posAll x i l).length = l.flatten.length
  | [], _, _ => rfl
  | r :: t, x, i => by simp [posAll, posRow_len, posAll_len t]

set_option maxRecDepth 100000 in
set_option maxHeartbeats 2000000 in
theorem keys1_in (F : Fence) (n : Nat) (h7 : F.fn 65) (hro : F.round = none) (hn : 1 ≤ n) (lp Bs : Nat) (A : Option Addr) (c : Nat) (l : List (List Int)) (w0 : World) (hr : Kd.C (Kd.slice 3 (Kd.int .i64)) w0 A l.length l) (hs : l.flatten.length ≤ 1000000) (J Jx : List Pos → World → Prop)
    (hY : ∀ pre x W, J pre W → pre.length < l.flatten.length → YieldAt F (n - 1) Try.prog lp #[encP x] W fun e W' =>
      (e = .returned (.bool true) ∧ J (pre ++ [x]) W' ∧ Below w0.heap.size W W') ∨ (e = .returned (.bool false) ∧ Jx (pre ++ [x]) W'))
    (W : World) (hW : Below w0.heap.size w0 W) (hBs : W.cell? ⟨Bs, 0, none⟩ = some (.slice A l.length c)) (h0 : J [] W) :
    CallsIn F n Try.prog 65 #[.func (.yield lp) #[] #[], .pointer (some ⟨Bs, 0, none⟩)] W fun e W' => (∃ v, e = .returned v) ∧
      ((∃ ys, ys = posAll 0 0 l ∧ J ys W') ∨ (∃ pre, pre <+: posAll 0 0 l ∧ Jx pre W')) := by
  have HR := Aside0.mk hr
  have hm := (C_len hr).2
  have HSZ := Aside0.mk hs
  clear hr hs
  refine callsIn_of_wp Try.func65 rfl h7 ?_ hro
  simp only [Try.ntmps65, List.size_toArray, List.length_cons, List.length_nil, Nat.reduceAdd, Nat.reduceSub, Array.replicate_succ, Array.replicate_zero, List.push_toArray, List.append_toArray, List.nil_append, List.cons_append]
  gi_wp2
  gi_loopw [3, 10] (fun x i wr => ∃ (k m : Nat) (pre : List Pos), k ≤ l.length ∧ x = .int .i64 m ∧ i = .int .i64 k ∧ Aside0 (m = (l.take k).flatten.length) ∧ Aside0 (posAll 0 0 l = pre ++ posAll m k (l.drop k)) ∧ Aside0 (pre.length = m) ∧ J pre wr ∧ Below w0.heap.size w0 wr) (fun _ i _ => l.length - (intOf i).toNat)
  case atStart => exact ⟨0, 0, [], Nat.zero_le _, rfl, rfl, ⟨rfl⟩, ⟨rfl⟩, ⟨rfl⟩, h0, hW⟩
  case round =>
    obtain ⟨k, m, pre, hk, rfl, rfl, HM, HP, HPL, hJ, hbel⟩ := hrel
    by_cases hlt : k < l.length
    · obtain ⟨ad, A0, c0, row, hA, hdrop, hcell, hrl, hrow⟩ := C_row HR.out k hlt
      subst hA
      replace hcell := pw_cell_below hbel hcell
      have HRow := Aside0.mk hrow
      have HD := Aside0.mk hdrop
      have hrm := (C_len hrow).2
      have hmr : m + row.length ≤ 1000000 := by
        have h1 := flat_len l (k + 1)
        rw [flat_drop l k row hdrop, List.length_append, ← HM.out] at h1
        have := HSZ.out
        omega
      have HM' : Aside0 (m + row.length = (l.take (k + 1)).flatten.length) := ⟨by rw [flat_drop l k row hdrop, List.length_append, ← HM.out]⟩
      clear hdrop hrow
      gi_wp2
      obtain ⟨wo, rfl⟩ : ∃ wo : World, wo = wr := ⟨_, rfl⟩
      have hsz0 := hbel.size
      gi_loopw [3, 17] (fun x j wr => ∃ (q m1 : Nat) (pre : List Pos), q ≤ row.length ∧ m1 = m + q ∧ x = .int .i64 m1 ∧ j = .int .i64 q ∧ Aside0 (posAll 0 0 l = pre ++ (posRow m1 k q (row.drop q) ++ posAll (m + row.length : Nat) (k + 1 : Nat) (l.drop (k + 1)))) ∧ Aside0 (pre.length = m1) ∧ J pre wr ∧ Below w0.heap.size w0 wr) (fun _ j _ => row.length - (intOf j).toNat)
      case atStart => exact ⟨0, m, pre, Nat.zero_le _, rfl, rfl, rfl, ⟨by rw [HP.out, HD.out, posAll]; simp⟩, HPL, hJ, hbel⟩
      case round =>
        obtain ⟨q, m1, pre1, hq, hm1, rfl, rfl, HP1, HPL1, hJ1, hbel1⟩ := hrel
        have HM1 := Aside0.mk hm1
        have hm2 : m1 ≤ m + q := by omega
        clear hm1
        by_cases hql : q < row.length
        · obtain ⟨ad2, y, hA2, hdrop2, hcell2⟩ := C_int HRow.out q hql
          subst hA2
          replace hcell2 := pw_cell_below hbel1 hcell2
          have HD2 := Aside0.mk hdrop2
          clear hdrop2
          have hpl : pre1.length < l.flatten.length := by
            have h1 := flat_len l (k + 1)
            have h2 := HPL1.out
            have h3 := HM'.out
            omega
          obtain ⟨fn, tmps, assign, body, hy, hR⟩ := hY pre1 ((m1 : Int), (k : Int), (q : Int), y) wr hJ1 hpl
          dsimp only [encP] at hy
          clear hpl
          gi_wp2
          refine hR.mono ?_
          rintro e W3 (⟨rfl, hJ3, hk3⟩ | ⟨rfl, hJx3⟩)
          · gi_wp2
            go_roundw
            case rel => exact ⟨q + 1, m1 + 1, pre1 ++ [((m1 : Int), (k : Int), (q : Int), y)], by omega, by have := HM1.out; omega, by go_num, by go_num, ⟨by rw [HP1.out, HD2.out, posRow]; simp⟩, ⟨by have := HPL1.out; simp; omega⟩, hJ3, hbel1.trans hk3⟩
            case measure => simp [intOf]; omega
          · gi_wp2
            refine bodyPost_ret (results_none rfl _ _ _) rfl ?_
            exact ⟨⟨_, rfl⟩, .inr ⟨_, ⟨posRow (m1 + 1) k (q + 1) (row.drop (q + 1)) ++ posAll (m + row.length : Nat) (k + 1 : Nat) (l.drop (k + 1)), by rw [HP1.out, HD2.out, posRow]; simp⟩, hJx3⟩⟩
        · gi_wp2
          go_roundw
          case rel => exact ⟨k + 1, m1, pre1, by omega, rfl, by go_num, ⟨by have := HM1.out; have := HM'.out; omega⟩, ⟨by rw [HP1.out, List.drop_eq_nil_of_le (show row.length ≤ q by omega), posRow, show m1 = m + row.length from by have := HM1.out; omega]; rfl⟩, HPL1, hJ1, hbel1⟩
          case measure => simp [intOf]; omega
    · gi_wp2
      go_end0
      exact ⟨⟨_, rfl⟩, .inl ⟨pre, by rw [HP.out, List.drop_eq_nil_of_le (by omega), posAll]; simp, hJ⟩⟩
end Go.Proofs.Ytjpobhdgfdeenaa.A

/- Find and At of package array: loops over the iterator of keys. -/
namespace Go.Proofs.Ytjpobhdgfdeenaa.A
open Go.RowKit Go.Shelf Go.Proofs.YtjpobhdgfdeenaaW.PrintWords Go.Maps
attribute [local go_sem] Oper.semAt_some

theorem keys_in (F : Fence) (n : Nat) (h : F.fn 49) (hro : F.round = none) (A : Option Addr) (len c : Nat) (w : World) :
    CallsIn F n Try.prog 49 #[.slice A len c] w fun e w' => e = .returned (.func (.func 65) #[] #[.pointer (some ⟨w.heap.size, 0, none⟩)]) ∧ w' = w.alloc (.cells #[.slice A len c] 24) := by
  refine callsIn_of_wp Try.func49 rfl h ?_ hro
  simp only [Try.ntmps49, List.size_toArray, List.length_cons, List.length_nil, Nat.reduceAdd, Nat.reduceSub, Array.replicate_succ, Array.replicate_zero, List.push_toArray, List.append_toArray, List.nil_append, List.cons_append]
  gi_wp2
  go_ret
  exact ⟨rfl, rfl⟩
theorem keys_stops (F : Fence) (n : Nat) (h7 : F.fn 65) (hro : F.round = none) (hn : 1 ≤ n) (Bs : Nat) (A : Option Addr) (c : Nat) (l : List (List Int)) (w0 w : World) (hr : Kd.C (Kd.slice 3 (Kd.int .i64)) w0 A l.length l) (hs : l.flatten.length ≤ 1000000)
    (hB : Below w0.heap.size w0 w) (hBs : Bs < w.heap.size) (hc : w.cell? ⟨Bs, 0, none⟩ = some (.slice A l.length c)) :
    SeqStopsK F n Try.prog 65 #[.pointer (some ⟨Bs, 0, none⟩)] (fun x : Pos => #[encP x]) (Below w0.heap.size) (fun ys => ys = posAll 0 0 l) (fun pre => pre <+: posAll 0 0 l) l.flatten.length w := fun lp J Jx W hW _ _ hY h0 =>
  keys1_in F n h7 hro hn lp Bs A c l w0 hr hs J Jx hY W (hB.trans (hW.mono hB.size)) ((hW.cell (p := ⟨Bs, 0, none⟩) hBs).trans hc) h0

theorem key_is {k : Int} {r : Bool} (h : keyB k = r) (w : World) : Calls Try.prog 39 #[.int .i64 k] w fun e w' => e = .returned (.bool r) ∧ w = w' := by
  subst h
  exact key_calls k w
theorem valid_is {b : Int} {l : List (List Int)} {r : Bool} (h : validB b l = r) (A : Option Addr) (c : Nat) (w : World) (hr : Kd.C (Kd.slice 3 (Kd.int .i64)) w A l.length l) :
    Calls Try.prog 15 #[.int .i64 b, .slice A l.length c] w fun e w' => e = .returned (.bool r) ∧ Below w.heap.size w w' := by
  subst h
  exact Valid_calls b A c l w hr
theorem boxed_below {W W' : World} {B : Nat} {t : TypeId} {v : Value} (h : Boxed W B t v) (hb : Below W.heap.size W W') : Boxed W' B t v := (hb.block B h.lt).trans h
/-- The box of a key with where it stands. -/
def PBox (W : World) (B : Nat) (p : Pos) : Prop := W.heap[B]? = some (.cells #[.int .i64 p.1, .int .i64 p.2.1, .int .i64 p.2.2.1, .int .i64 p.2.2.2] 62 (0, 0))
theorem pbox_own (B : Nat) (p : Pos) : Own (fun (_ : Unit) W => PBox W B p) := fun s X Y row hs hg hrow =>
  (hg.block B (Array.getElem?_eq_some_iff.1 hs).1 (fun e' => by obtain ⟨o, ho, hc⟩ := hrow B e'.symm; rw [show X.heap[B]? = _ from hs] at ho; cases ho; cases hc)).trans hs
theorem PBox.cell {W : World} {B : Nat} {p : Pos} (h : PBox W B p) : W.cell? ⟨B, 0, none⟩ = some (.int .i64 p.1) ∧ W.cell? ⟨B, 1, none⟩ = some (.int .i64 p.2.1) ∧ W.cell? ⟨B, 2, none⟩ = some (.int .i64 p.2.2.1) ∧ W.cell? ⟨B, 3, none⟩ = some (.int .i64 p.2.2.2) := by
  have h' : W.heap[B]? = _ := h
  simp [World.cell?, h']
/-- What the box of a loop's variable and a frame hold. -/
theorem find_in (b k : Int) (A : Option Addr) (c : Nat) (l : List (List Int)) (w : World) (hr : Kd.C (Kd.slice 3 (Kd.int .i64)) w A l.length l) (hv : validB b l = true) (hk : keyB k = true) :
    Calls Try.prog 22 #[.int .i64 b, .slice A l.length c, .int .i64 k] w fun e w' => Below w.heap.size w w' ∧
      ((e = .returned (.tuple #[.int .i64 0, .int .i64 8]) ∧ ∀ p ∈ posAll 0 0 l, p.2.2.2 ≠ k) ∨ ∃ pre p, e = .returned (.tuple #[.int .i64 p.1, .int .i64 0]) ∧ pre ++ [p] <+: posAll 0 0 l ∧ (∀ q ∈ pre, q.2.2.2 ≠ k) ∧ p.2.2.2 = k) := by
  have HR := Aside0.mk hr
  have hm := (C_len hr).2
  have HV := Aside0.mk hv
  have HK := Aside0.mk hk
  have HS : Aside0 (l.flatten.length ≤ 1000000) := ⟨by have := ((validB_iff b l).1 hv).few; omega⟩
  clear hr hv hk
  refine (callsIn_wide (n := 9)).1 ?_
  have hf49 : Fence.wide.fn 49 := trivial
  have hf15 : Fence.wide.fn 15 := trivial
  have hf39 : Fence.wide.fn 39 := trivial
  refine callsIn_of_wp_marks Try.func22 rfl trivial ?_ rfl
  simp only [Try.ntmps22, List.size_toArray, List.length_cons, List.length_nil, Nat.reduceAdd, Nat.reduceSub, Array.replicate_succ, Array.replicate_zero, List.push_toArray, List.append_toArray, List.nil_append, List.cons_append]
  have b5 := ((Boxed.new w 3 (.int .i64 k)).alloc (.cells #[.int .i64 0] 3)).alloc (.cells #[.int .i64 0] 25)
  have b6 := (Boxed.new (w.alloc (.cells #[.int .i64 k] 3)) 3 (.int .i64 0)).alloc (.cells #[.int .i64 0] 25)
  have b7 := Boxed.new ((w.alloc (.cells #[.int .i64 k] 3)).alloc (.cells #[.int .i64 0] 3)) 25 (.int .i64 0)
  simp only [World.size_alloc] at b5 b6 b7
  have hB0 : Below w.heap.size w (((w.alloc (.cells #[.int .i64 k] 3)).alloc (.cells #[.int .i64 0] 3)).alloc (.cells #[.int .i64 0] 25)) := (((Below.refl _ w).alloc (Nat.le_refl _) _).alloc (by simp) _).alloc (by simp; omega) _
  have hsz : (((w.alloc (.cells #[.int .i64 k] 3)).alloc (.cells #[.int .i64 0] 3)).alloc (.cells #[.int .i64 0] 25)).heap.size = w.heap.size + 3 := by simp
  gi_wp2_with (first | (gi_at_call 15; go_must (refine (callsIn_wide.2 (valid_is HV.out A c _ (Kd.C_below HR.out hB0))).mono ?_; rintro e W1 ⟨rfl, hb1⟩; replace b5 := boxed_below b5 hb1; replace b6 := boxed_below b6 hb1; replace b7 := boxed_below b7 hb1; have hB1 := hB0.trans (hb1.mono hB0.size); have hz1 := hb1.size; rw [hsz] at hz1; clear hB0 hb1 hsz; have c5 := b5.cell)) | (gi_at_call 39; go_must (refine (callsIn_wide.2 (key_is HK.out _)).mono ?_; rintro e w' ⟨rfl, rfl⟩)) | (gi_at_call 49; go_must (refine (keys_in Fence.wide _ trivial rfl _ _ _ _).mono ?_; rintro e w' ⟨rfl, rfl⟩)))
  --LOOP
  have bA := Boxed.new W1 24 (.slice A l.length c)
  replace b5 := b5.alloc (.cells #[.slice A l.length c] 24)
  replace b6 := b6.alloc (.cells #[.slice A l.length c] 24)
  replace b7 := b7.alloc (.cells #[.slice A l.length c] 24)
  have hB2 : Below w.heap.size w (W1.alloc (.cells #[.slice A l.length c] 24)) := hB1.alloc hB1.size _
  have hsz : (W1.alloc (.cells #[.slice A l.length c] 24)).heap.size = W1.heap.size + 1 := by simp
  obtain ⟨W0, hW0⟩ : ∃ W0, W1.alloc (.cells #[.slice A l.length c] 24) = W0 := ⟨_, rfl⟩
  rw [hW0] at bA b5 b6 b7 hB2 hsz ⊢
  have hst := keys_stops Fence.wide 8 trivial rfl (by decide) W1.heap.size A c l w W0 HR.out HS.out hB2 (by omega) bA.cell
  clear hW0 c5
  refine wpIn_rangeFunc_ownH (F := Fence.wide) (n := 9) rfl (by decide) (gf := 65) (lb := #[.pointer (some ⟨W1.heap.size, 0, none⟩)]) rfl trivial (enters_of Try.func65 (by kernel_rfl) rfl)
    hst belowK_t (belowK_b (by omega)) (Below.refl _ _) (fun _ => rfl)
    (fun pre W => ((Boxed W w.heap.size 3 (.int .i64 k) ∧ Boxed W (w.heap.size + 1) 3 (.int .i64 0)) ∧ Boxed W (w.heap.size + 1 + 1) 25 (.int .i64 0)) ∧ Aside0 (∀ q ∈ pre, q.2.2.2 ≠ k) ∧ Below w.heap.size w W)
    (fun c pre W => c = .ret ∧ (∃ p pre0, (Boxed W (w.heap.size + 1) 3 (.int .i64 p.1) ∧ Boxed W (w.heap.size + 1 + 1) 25 (.int .i64 0)) ∧ Aside0 (pre = pre0 ++ [p] ∧ (∀ q ∈ pre0, q.2.2.2 ≠ k) ∧ p.2.2.2 = k)) ∧ Below w.heap.size w W)
    (OwnFrom.and (OwnFrom.and (OwnFrom.and (Own.from (boxed_own _ _ (fun _ => _)) _) (Own.from (boxed_own _ _ (fun _ => _)) _)) (Own.from (boxed_own _ _ (fun _ => _)) _)) (OwnFrom.and (fun _ _ _ _ hs _ _ => hs) (ownFrom_below (Nat.le_refl _) (by omega))))
    (fun c => OwnFrom.and (fun _ _ _ _ hs _ _ => hs) (OwnFrom.and (fun s X Y row hs hg hr => by
      obtain ⟨p, pre0, ⟨h1, h2⟩, h3⟩ := hs
      exact ⟨p, pre0, ⟨boxed_own _ 3 (fun (_ : Unit) => _) () X Y row h1 hg (fun r e => (hr r e).2), boxed_own _ 25 (fun (_ : Unit) => _) () X Y row h2 hg (fun r e => (hr r e).2)⟩, h3⟩) (ownFrom_below (Nat.le_refl _) (by omega))))
    ⟨⟨⟨b5, b6⟩, b7⟩, ⟨by simp⟩, hB2⟩
    (fun x a' W => ∃ Bx, w.heap.size + 1 + 1 < Bx ∧ PBox W Bx x ∧ a' = { tmps := #[.int .i64 b, .slice A l.length c, .int .i64 k, undef, undef, .pointer (some ⟨w.heap.size, 0, none⟩), .pointer (some ⟨w.heap.size + 1, 0, none⟩), .pointer (some ⟨w.heap.size + 1 + 1, 0, none⟩), .pointer (some ⟨Bx, 0, none⟩), .int .i64 b, .slice A l.length c, .bool true, .bool false, .bool false, .int .i64 k, .bool true, .bool false, .bool false, .slice A l.length c, .func (.func 65) #[] #[.pointer (some ⟨W1.heap.size, 0, none⟩)], encP x, undef, undef, undef, undef, undef, undef], defers := [] })
    (fun x a' _ X Y row hs hg hr => by
      obtain ⟨Bx, h1, h2, h3⟩ := hs
      exact ⟨Bx, h1, pbox_own Bx x () X Y row h2 hg (fun r e => (hr r e).2), h3⟩)
    ?assign ?body ?done ?stop
  case assign =>
    rintro lp pre x W K ⟨⟨⟨c5, c6⟩, c7⟩, hx, hB⟩ hK
    gi_wp2
    exact hK _ _ ((KeepsOthers.alloc _ _).from _) ((Below.refl _ W).alloc hB.size _) ⟨⟨⟨c5.alloc _, c6.alloc _⟩, c7.alloc _⟩, hx, hB.alloc hB.size _⟩ ⟨W.heap.size, c7.lt, World.alloc_heap_new W _, rfl⟩
  case body =>
    rintro lp pre x a' W hl _ ⟨⟨⟨c5, c6⟩, c7⟩, hx, hB⟩ ⟨Bx, hBx, bX, rfl⟩ hlt
    have d5 := c5.cell
    have d6 := c6.cell
    have e6 := c6.frozen
    have d7 := c7.cell
    have e7 := c7.frozen
    obtain ⟨q0, q1, q2, q3⟩ := bX.cell
    by_cases hkx : x.2.2.2 = k
    · have hd : (x.2.2.2 == k) = true := by simpa using hkx
      have HKX := Aside0.mk hkx
      clear hkx
      gi_wp2
      exact ⟨((KeepsOthers.setCell _ _ _).trans (KeepsOthers.setCell _ _ _)).from _, rfl, ⟨x, pre, ⟨(c6.set _).other (by omega) _, (c7.other (by omega) _).set _⟩, ⟨rfl, hx.out, HKX.out⟩⟩, (hB.setCell (p := ⟨w.heap.size + 1, 0, none⟩) (by simp) _).setCell (p := ⟨w.heap.size + 1 + 1, 0, none⟩) (by simp; omega) _⟩
    · have hd : (x.2.2.2 == k) = false := by simpa using hkx
      have HKX := Aside0.mk hkx
      clear hkx
      gi_wp2
      exact ⟨KeepsFrom.refl _ _, Below.refl _ _, ⟨⟨⟨c5, c6⟩, c7⟩, ⟨fun q hq => by
        rcases List.mem_append.1 hq with hq | hq
        · exact hx.out q hq
        · rw [List.mem_singleton.1 hq]
          exact HKX.out⟩, hB⟩⟩
  case done =>
    rintro D ys W hD rfl ⟨⟨⟨c5, c6⟩, c7⟩, hx, hB⟩ hK
    have d6 := c6.cell
    have e6 := c6.frozen
    have d7 := c7.cell
    have e7 := c7.frozen
    gi_wp2
    have hK' := ((KeepsOthers.setCell W ⟨w.heap.size + 1, 0, none⟩ (.int .i64 0)).trans (KeepsOthers.setCell _ ⟨w.heap.size + 1 + 1, 0, none⟩ (.int .i64 8))).same D _ hK rfl
    refine ⟨by simp, .inl ⟨_, _, rfl, run_takeDeferred hK', ?_⟩⟩
    have r6 := cell_kept ((c6.set (.int .i64 0)).other (show w.heap.size + 1 ≠ w.heap.size + 1 + 1 by omega) (.int .i64 8)).cell (grownBy_putObj' _ D (.deferred none)) (fun r e => by cases e; exact ⟨_, hK', rfl⟩)
    have r7 := cell_kept ((c7.other (show w.heap.size + 1 + 1 ≠ w.heap.size + 1 by omega) (.int .i64 0)).set (.int .i64 8)).cell (grownBy_putObj' _ D (.deferred none)) (fun r e => by cases e; exact ⟨_, hK', rfl⟩)
    refine ⟨.tuple #[.int .i64 0, .int .i64 8], ?_, ((hB.setCell (p := ⟨w.heap.size + 1, 0, none⟩) (by simp) _).setCell (p := ⟨w.heap.size + 1 + 1, 0, none⟩) (by simp; omega) _).trans (belowK_b (w := w) (Nat.le_refl _) _ D _ _ (by omega) hK' rfl rfl), .inl ⟨rfl, hx.out⟩⟩
    simp [results, Try.f22, go_sem, r6, r7]
  case stop =>
    rintro D c pre W hD hpre ⟨rfl, ⟨p, pre0, ⟨c6, c7⟩, h3⟩, hB⟩ hK
    have d6 := c6.cell
    have d7 := c7.cell
    gi_wp2
    refine ⟨by simp, .inl ⟨_, _, rfl, run_takeDeferred hK, ?_⟩⟩
    have r6 := cell_kept c6.cell (grownBy_putObj' _ D (.deferred none)) (fun r e => by cases e; exact ⟨_, hK, rfl⟩)
    have r7 := cell_kept c7.cell (grownBy_putObj' _ D (.deferred none)) (fun r e => by cases e; exact ⟨_, hK, rfl⟩)
    obtain ⟨h4, h5, h6⟩ := h3.out
    refine ⟨.tuple #[.int .i64 p.1, .int .i64 0], ?_, hB.trans (belowK_b (w := w) (Nat.le_refl _) _ D _ _ (by omega) hK rfl rfl), .inr ⟨pre0, p, rfl, h4 ▸ hpre, h5, h6⟩⟩
    simp [results, Try.f22, go_sem, r6, r7]
end Go.Proofs.Ytjpobhdgfdeenaa.A

/- Where an index lies: plain lists. -/
namespace Go.Proofs.Ytjpobhdgfdeenaa.A

/-- The place (j, q): block j, its place q; index m of all. -/
def At (l : List (List Int)) (m : Int) (j q : Nat) : Prop := ∃ row, l[j]? = some row ∧ m = ((l.take j).flatten.length + q : Nat) ∧ (q < row.length ∨ (j + 1 = l.length ∧ q = row.length))
theorem posRow_mem : ∀ (r : List Int) (x i : Int) (k : Nat) (p : Pos), p ∈ posRow x i k r → ∃ q : Nat, q < r.length ∧ p.1 = x + q ∧ p.2.1 = i ∧ p.2.2.1 = ((k + q : Nat) : Int) ∧ r[q]? = some p.2.2.2
  | [], _, _, _, p, h => by simp [posRow] at h
  | y :: r, x, i, k, p, h => by
    rw [posRow] at h
    rcases List.mem_cons.1 h with rfl | h
    · exact ⟨0, by simp, by simp, rfl, by simp, by simp⟩
    · obtain ⟨q, h1, h2, h3, h4, h5⟩ := posRow_mem r (x + 1) i (k + 1) p h
      exact ⟨q + 1, by simp; omega, by rw [h2]; push_cast; omega, h3, by rw [h4]; congr 1; omega, by simpa using h5⟩
theorem posAll_mem : ∀ (l : List (List Int)) (x i : Int) (p : Pos), p ∈ posAll x i l → ∃ j q : Nat, ∃ row, l[j]? = some row ∧ q < row.length ∧ p.1 = x + ((l.take j).flatten.length + q : Nat) ∧ p.2.1 = i + j ∧ p.2.2.1 = (q : Int) ∧ row[q]? = some p.2.2.2
  | [], _, _, p, h => by simp [posAll] at h
  | r :: t, x, i, p, h => by
    rw [posAll] at h
    rcases List.mem_append.1 h with h | h
    · obtain ⟨q, h1, h2, h3, h4, h5⟩ := posRow_mem r x i 0 p h
      exact ⟨0, q, r, rfl, h1, by rw [h2]; simp, by rw [h3]; simp, by rw [h4]; simp, h5⟩
    · obtain ⟨j, q, row, h0, h1, h2, h3, h4, h5⟩ := posAll_mem t (x + r.length) (i + 1) p h
      exact ⟨j + 1, q, row, by simpa using h0, h1, by rw [h2]; simp; omega, by rw [h3]; push_cast; omega, h4, h5⟩
/-- Every index below the number of keys comes up. -/
theorem posRow_all : ∀ (r : List Int) (x i k : Int) (m : Int), x ≤ m → m < x + r.length → ∃ p ∈ posRow x i k r, p.1 = m
  | [], x, _, _, m, h1, h2 => by simp at h2; omega
  | y :: r, x, i, k, m, h1, h2 => by
    by_cases e : m = x
    · exact ⟨(x, i, k, y), by simp [posRow], e.symm⟩
    · obtain ⟨p, hp, he⟩ := posRow_all r (x + 1) i (k + 1) m (by omega) (by simp at h2; omega)
      exact ⟨p, by rw [posRow]; exact List.mem_cons_of_mem _ hp, he⟩
theorem posAll_all : ∀ (l : List (List Int)) (x i : Int) (m : Int), x ≤ m → m < x + l.flatten.length → ∃ p ∈ posAll x i l, p.1 = m
  | [], x, _, m, h1, h2 => by simp at h2; omega
  | r :: t, x, i, m, h1, h2 => by
    by_cases e : m < x + r.length
    · obtain ⟨p, hp, he⟩ := posRow_all r x i 0 m h1 e
      exact ⟨p, by rw [posAll]; exact List.mem_append.2 (.inl hp), he⟩
    · obtain ⟨p, hp, he⟩ := posAll_all t (x + r.length) (i + 1) m (by omega) (by rw [List.flatten_cons, List.length_append] at h2; omega)
      exact ⟨p, by rw [posAll]; exact List.mem_append.2 (.inr hp), he⟩
theorem spotL_past (m : Int) : ∀ (l : List (List Int)) (n : Int) (i : Nat) (p : Int × Int), m < n → spotL m n i p l = p
  | [], n, i, p, _ => rfl
  | r :: t, n, i, p, h => by
    rw [spotL, if_neg (by omega)]
    exact spotL_past m t _ _ _ (by omega)
theorem spotL_at (m : Int) : ∀ (l : List (List Int)) (n : Int) (i : Nat) (p : Int × Int) (j q : Nat) (row : List Int), l[j]? = some row → m = n + ((l.take j).flatten.length + q : Nat) → (q < row.length ∨ (j + 1 = l.length ∧ q = row.length)) →
    spotL m n i p l = (((i + j : Nat) : Int), n + ((l.take j).flatten.length : Nat))
  | [], _, _, _, j, q, row, h0, _, _ => by simp at h0
  | r :: t, n, i, p, 0, q, row, h0, h1, h2 => by
    simp at h0
    subst h0
    simp at h1
    rw [spotL, if_pos (by omega)]
    rcases h2 with h2 | ⟨h2, h3⟩
    · rw [spotL_past m t _ _ _ (by omega)]
      simp
    · have : t = [] := List.eq_nil_of_length_eq_zero (by simpa using h2)
      subst this
      simp [spotL]
  | r :: t, n, i, p, j + 1, q, row, h0, h1, h2 => by
    rw [spotL, spotL_at m t (n + r.length) (i + 1) _ j q row (by simpa using h0) (by rw [h1]; simp; omega) (by simpa using h2)]
    simp
    omega
theorem spotF_at {l : List (List Int)} {m : Int} {j q : Nat} (h : At l m j q) : spotF l m = ((j : Int), (((l.take j).flatten.length : Nat) : Int)) := by
  obtain ⟨row, h0, h1, h2⟩ := h
  unfold spotF
  rw [spotL_at m l 0 0 (0, 0) j q row h0 (by rw [h1]; simp) h2]
  simp
theorem At_of_pos {l : List (List Int)} {p : Pos} (h : p ∈ posAll 0 0 l) : ∃ j q : Nat, At l p.1 j q ∧ p.2.1 = j ∧ p.2.2.1 = q ∧ l.flatten[(l.take j).flatten.length + q]? = some p.2.2.2 := by
  obtain ⟨j, q, row, h0, h1, h2, h3, h4, h5⟩ := posAll_mem l 0 0 p h
  refine ⟨j, q, ⟨row, h0, by rw [h2]; simp, .inl h1⟩, by rw [h3]; simp, h4, ?_⟩
  have hj : j < l.length := (List.getElem?_eq_some_iff.1 h0).1
  have e : l = l.take j ++ row :: l.drop (j + 1) := by
    have h6 : l[j] = row := by
      have := List.getElem?_eq_getElem hj
      rw [this] at h0
      injection h0
    rw [← h6, ← List.drop_eq_getElem_cons hj, List.take_append_drop]
  conv => lhs; arg 1; rw [e]
  rw [List.flatten_append, List.getElem?_append_right (by omega), Nat.add_sub_cancel_left, List.flatten_cons, List.getElem?_append_left h1, h5]
theorem At_end {l : List (List Int)} (h : l ≠ []) : ∃ row, l[l.length - 1]? = some row ∧ At l l.flatten.length (l.length - 1) row.length := by
  have hl : 0 < l.length := List.length_pos_iff.2 h
  refine ⟨l[l.length - 1], List.getElem?_eq_getElem (by omega), l[l.length - 1], List.getElem?_eq_getElem (by omega), ?_, .inr ⟨by omega, rfl⟩⟩
  have e : l.take (l.length - 1) ++ [l[l.length - 1]] = l := by
    have h1 := List.take_succ_eq_append_getElem (show l.length - 1 < l.length by omega)
    rw [← h1, List.take_of_length_le (by omega)]
  have e2 : l.flatten.length = (l.take (l.length - 1)).flatten.length + l[l.length - 1].length := by
    conv => lhs; rw [← e]
    rw [List.flatten_append, List.length_append]
    simp
  rw [e2]
end Go.Proofs.Ytjpobhdgfdeenaa.A
