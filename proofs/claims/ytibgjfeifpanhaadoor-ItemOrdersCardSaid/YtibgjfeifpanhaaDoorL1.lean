/- The law ItemOrders walked. -/
import Derived.Test.YtibgjfeifpanhaaDoorProg
import Derived.Below
import Derived.Deep.Draws
import Derived.Deep.AppendLies
import Derived.Maps.AppendAt
import Derived.Maps.OwnSet
import Derived.OwnWalk
import Derived.Laws.BytesArg
import Derived.Laws.MakeOwn
import Derived.Laws.OwnMore
import Derived.Deep.OwnRows
import Derived.Tactics
import Derived.Laws.Slices
import Derived.WalkKit
import Derived.KernelRfl
import Derived.RowKit3
import Derived.Deep.LoopGhost
import Derived.Deep.QuietTactic
import Derived.BigQuiet
import Derived.WideLaws
import Derived.Deep.DeepCutAuto
import Derived.Deep.CutBlock
import Derived.Deep.RegionHeld3
import Derived.Laws.Rows
import Derived.ArgAppend
import Derived.Laws.IdiomCopy
import Derived.OrdersHeld
import Derived.Laws.BitsLemmas
import Derived.Outline
import Derived.WalkSpells
import Derived.Lib.Hide
import Derived.RowKit
import Derived.Deep.DeepMust
import Derived.Laws.EntriesVeiled
import Derived.Test.YtibgjfeifpanhaaDoorP4
import Derived.Test.YtibgjfeifpanhaaDoorE4
set_option linter.unusedVariables false
set_option linter.unusedSimpArgs false
namespace Go.Proofs.YtibgjfeifpanhaaDoor.B
open Go.RowKit Go.Proofs.YtibgjfeifpanhaaDoorW.PrintWords Go.Maps PItemValid

theorem neg_of {p q : Int} (h : p = - q) (h0 : -1 ≤ p) (h1 : p ≤ 1) : IntKind.i64.wrap (-q) = p := by
  have e : IntKind.i64.wrap (-q) = -q := by simp (disch := omega) only [IntWalk.i64_in]
  rw [e]
  omega
theorem awake_is (w w' : World) (h : TabOk w) (hb : Below w.heap.size w w') : Calls Tryd.prog 11 #[] w' fun e w2 => e = .returned (.bool true) ∧ Below w'.heap.size w' w2 := awake_calls w' (h.below hb)
/-- What the order of three rows gives the law's tests. -/
structure Tri (X Y Z X' : Int) : Prop where
  neg : IntKind.i64.wrap (-X') = X
  tri : X ≤ 0 → Y ≤ 0 → ¬ 0 < Z
  eqv : X = 0 → Y = Z
theorem tri_of (a b d : List S29) : Tri (cmpR a b) (cmpR b d) (cmpR a d) (cmpR b a) where
  neg := neg_of (cmpR_is.anti _ _) (cmpR_is.lo _ _) (cmpR_is.hi _ _)
  tri h1 h2 := by have := cmpR_is.trans _ _ _ h1 h2; omega
  eqv h := by rw [cmpR_is.eq _ _ h]
set_option maxRecDepth 100000 in
set_option maxHeartbeats 8000000 in
theorem orders_law (A0 A1 A2 : Option Addr) (c0 c1 c2 : Nat) (a b d : List S29) (w : World) (h0 : Kd.C k29 w A0 a.length a) (l0 : a.length ≤ c0) (h1 : Kd.C k29 w A1 b.length b) (l1 : b.length ≤ c1) (h2 : Kd.C k29 w A2 d.length d) (l2 : d.length ≤ c2) (htab : TabOk w) :
    Calls Tryd.prog 4 #[.slice A0 a.length c0, .slice A1 b.length c1, .slice A2 d.length c2] w fun e w' => e = .returned (.bool true) ∧ Below w.heap.size w w' := by
  have H0 := Aside0.mk h0
  have H1 := Aside0.mk h1
  have H2 := Aside0.mk h2
  have HTAB := Aside0.mk htab
  have HL0 := Aside0.mk l0
  have HL1 := Aside0.mk l1
  have HL2 := Aside0.mk l2
  have HRS := Aside0.mk (C_rows3 w A0 A1 A2 c0 c1 c2 a b d h0 l0 h1 l1 h2 l2)
  have m0 := (C_len h0).2
  have m1 := (C_len h1).2
  clear h0 h1 h2 htab l0 l1 l2
  have hba : Below w.heap.size w (w.alloc (.cells #[.slice A0 a.length c0, .slice A1 b.length c1, .slice A2 d.length c2] 23)) := below_alloc (Below.refl _ _) _
  cases hrows : rowsF [a, b, d] with
  | false =>
    have HR := Aside0.mk (Rows_is hrows (by simp) _ 3 _ HRS.out (by simp))
    clear hrows
    go_enter Tryd.func4, Tryd.ntmps4
    go_wp2_with (first | (go_at_call 10; go_must (refine HR.out.mono ?_; rintro e w1 ⟨rfl, hd1⟩; have hb1 := hba.trans (hd1.below.mono hba.size); clear hd1)) | (go_at_call 11; go_must (refine (awake_is w _ HTAB.out hb1).mono ?_; rintro e w2 ⟨rfl, hb2⟩)))
    go_ret
    exact ⟨rfl, below_then hb1 hb2⟩
  | true =>
    have HR := Aside0.mk (Rows_is hrows (by simp) _ 3 _ HRS.out (by simp))
    have hok : okLenB a = true ∧ okLenB b = true ∧ okLenB d = true := by simpa [rowsF] using hrows
    have OA := Aside0.mk ((okLenB_iff a).1 hok.1)
    have OB := Aside0.mk ((okLenB_iff b).1 hok.2.1)
    have OD := Aside0.mk ((okLenB_iff d).1 hok.2.2)
    have la := OA.out.1
    have lb := OB.out.1
    clear hrows hok
    go_enter Tryd.func4, Tryd.ntmps4
    go_wp2_with (go_at_call 10; go_must (refine HR.out.mono ?_; rintro e w1 ⟨rfl, hd1⟩; have hb1 := hba.trans (hd1.below.mono hba.size); clear hd1))
    go_loopg [7] a.length (fun g v7 wr => ∃ (i : Nat), g = a.length - i ∧ i ≤ a.length ∧ v7 = .int .i64 i ∧ Below w.heap.size w wr)
    case atStart => exact ⟨0, rfl, Nat.zero_le _, rfl, hb1⟩
    case round =>
      clear hb1
      obtain ⟨i, hg, hi, rfl, hbel⟩ := hrel
      have HG := Aside0.mk hg
      clear hg
      by_cases hlt : i < a.length
      · by_cases hlb : i < b.length
        · obtain ⟨ad, x, hA, hdx, k0, k1, k2⟩ := C_val H0.out i hlt
          subst hA
          replace k0 := pw_cell_below hbel k0
          replace k1 := pw_cell_below hbel k1
          replace k2 := pw_cell_below hbel k2
          have hxs : x.f2.size ≤ 200 := OA.out.2 x (List.mem_of_mem_drop (i := i) (by rw [hdx]; simp))
          obtain ⟨ad', y, hA', hdy, j0, j1, j2⟩ := C_val H1.out i hlb
          subst hA'
          replace j0 := pw_cell_below hbel j0
          replace j1 := pw_cell_below hbel j1
          replace j2 := pw_cell_below hbel j2
          have hys : y.f2.size ≤ 200 := OB.out.2 y (List.mem_of_mem_drop (i := i) (by rw [hdy]; simp))
          obtain ⟨p, hp⟩ : ∃ p, cmpV x y = p := ⟨_, rfl⟩
          obtain ⟨q, hq⟩ : ∃ q, cmpV y x = q := ⟨_, rfl⟩
          have hneg : IntKind.i64.wrap (-q) = p := neg_of (by rw [← hp, ← hq]; exact cmpV_is.anti _ _) (by rw [← hp]; exact cmpV_is.lo _ _) (by rw [← hp]; exact cmpV_is.hi _ _)
          have HXY := fun W => Aside0.mk (Compare_is hp W)
          have HYX := fun W => Aside0.mk (Compare_is hq W)
          have HREF := fun W => Aside0.mk (refCompare_is hp hxs hys W)
          unfold vV at HXY HYX HREF
          clear hdx hdy hp hq hxs hys
          have hr0 : Below wr.heap.size wr wr := Below.refl _ _
          go_wp2
          go_region_held3 (fun w' => Below wr.heap.size wr w' ∧ w'.cell? (ad.add (i * 3)) = some (.int .i64 x.f0) ∧ w'.cell? ⟨(ad.add (i * 3)).block, (ad.add (i * 3)).off + 1, none⟩ = some (.int .i64 x.f1) ∧ w'.cell? ⟨(ad.add (i * 3)).block, (ad.add (i * 3)).off + 2, none⟩ = some (.string x.f2) ∧ w'.cell? (ad'.add (i * 3)) = some (.int .i64 y.f0) ∧ w'.cell? ⟨(ad'.add (i * 3)).block, (ad'.add (i * 3)).off + 1, none⟩ = some (.int .i64 y.f1) ∧ w'.cell? ⟨(ad'.add (i * 3)).block, (ad'.add (i * 3)).off + 2, none⟩ = some (.string y.f2)) ((refine (fun h => ⟨h, pw_cell_below h k0, pw_cell_below h k1, pw_cell_below h k2, pw_cell_below h j0, pw_cell_below h j1, pw_cell_below h j2⟩ : Below wr.heap.size wr _ → _) ?_; (repeat first | exact hr0 | exact hr1 | exact hr2 | exact hr3 | refine below_drew ?_ | refine below_alloc ?_ _))) (first
            | (go_at_call 25; go_must (refine (HREF _).out.mono ?_; rintro e w2 ⟨rfl, hd⟩; have hr2 := below_then (‹Below wr.heap.size wr _ ∧ _›).1 hd; clear hd))
            | (go_at_call 24; (with_reducible refine (HXY _).out.mono ?_); go_must (rintro e w3 ⟨rfl, hd⟩; have hr1 := below_then (‹Below wr.heap.size wr _ ∧ _›).1 hd; clear hd))
            | (go_at_call 24; (with_reducible refine (HYX _).out.mono ?_); go_must (rintro e w4 ⟨rfl, hd⟩; have hr3 := below_then (‹Below wr.heap.size wr _ ∧ _›).1 hd; clear hd)))
          all_goals
            have hw : ∃ W, W = W := ⟨wr, rfl⟩
            go_wp2
            go_roundg (a.length - (i + 1))
            case measure => have := HG.out; omega
            case rel => exact ⟨i + 1, rfl, by omega, by go_num, (by first | exact below_then hbel hr3 | exact below_then hbel hr1)⟩
        · have hlb2 : ¬ ((i : Int) < (b.length : Int)) := by omega
          have HT := Aside0.mk (tri_of a b d)
          obtain ⟨X, hX⟩ : ∃ X, cmpR a b = X := ⟨_, rfl⟩
          obtain ⟨Y, hY⟩ : ∃ Y, cmpR b d = Y := ⟨_, rfl⟩
          obtain ⟨Z, hZ⟩ : ∃ Z, cmpR a d = Z := ⟨_, rfl⟩
          obtain ⟨X', hX'⟩ : ∃ X', cmpR b a = X' := ⟨_, rfl⟩
          rw [hX, hY, hZ, hX'] at HT
          obtain ⟨sm, hsm⟩ : ∃ sm, decide (cmpR a b = 0) = sm := ⟨_, rfl⟩
          have hsm2 : (X == 0) = sm := by rw [← hsm, hX]; by_cases h : X = 0 <;> simp [h]
          have hneg := HT.out.neg
          have C1 := Aside0.mk (fun W h => rows_is hX A0 c0 A1 c1 W (Kd.C_below H0.out h) (Kd.C_below H1.out h))
          have C2 := Aside0.mk (fun W h => rows_is hY A1 c1 A2 c2 W (Kd.C_below H1.out h) (Kd.C_below H2.out h))
          have C3 := Aside0.mk (fun W h => rows_is hZ A0 c0 A2 c2 W (Kd.C_below H0.out h) (Kd.C_below H2.out h))
          have C4 := Aside0.mk (fun W h => refRows_is hX OA.out OB.out A0 c0 A1 c1 W (Kd.C_below H0.out h) HL0.out (Kd.C_below H1.out h) HL1.out)
          have C5 := Aside0.mk (fun W h => rows_is hX' A1 c1 A0 c0 W (Kd.C_below H1.out h) (Kd.C_below H0.out h))
          have C6 := Aside0.mk (fun W h => same_is hsm OA.out.1 A0 c0 A1 c1 W (Kd.C_below H0.out h) HL0.out (Kd.C_below H1.out h) HL1.out)
          have C7 := Aside0.mk (fun W h => refSame_is hsm OA.out OB.out A0 c0 A1 c1 W (Kd.C_below H0.out h) HL0.out (Kd.C_below H1.out h) HL1.out)
          have C8 := Aside0.mk (fun W h => same_is (decide_eq_true (cmpR_is.refl a)) OA.out.1 A0 c0 A0 c0 W (Kd.C_below H0.out h) HL0.out (Kd.C_below H0.out h) HL0.out)
          clear hX hY hZ hX' hsm
          have hfive : (X ≤ 0 ∧ Y ≤ 0) ∨ (X ≤ 0 ∧ ¬ Y ≤ 0) ∨ ¬ X ≤ 0 := by omega
          rcases hfive with ⟨hx, hy⟩ | ⟨hx, hy⟩ | hx
          · have dX : decide (X ≤ 0) = true := decide_eq_true hx
            have dY : decide (Y ≤ 0) = true := decide_eq_true hy
            have dZ : decide (0 < Z) = false := decide_eq_false (HT.out.tri hx hy)
            cases sm with
            | true =>
              have hYZ : (Y != Z) = false := by rw [HT.out.eqv (by simpa using hsm2)]; exact bne_self_eq_false _
              clear hx hy
              go_wp2_with (first
                | (go_at_call 26; (with_reducible refine (C1.out _ hbel).mono ?_); go_must (rintro e w_hb3 ⟨rfl, hd⟩; have hb3 := below_then hbel hd; clear hd))
                | (go_at_call 26; (with_reducible refine (C2.out _ hb3).mono ?_); go_must (rintro e w_hb4 ⟨rfl, hd⟩; have hb4 := below_then hb3 hd; clear hd))
                | (go_at_call 26; (with_reducible refine (C3.out _ hb4).mono ?_); go_must (rintro e w_hb5 ⟨rfl, hd⟩; have hb5 := below_then hb4 hd; clear hd))
                | (go_at_call 27; (with_reducible refine (C4.out _ hb5).mono ?_); go_must (rintro e w_hb6 ⟨rfl, hd⟩; have hb6 := below_then hb5 hd; clear hd))
                | (go_at_call 26; (with_reducible refine (C5.out _ hb6).mono ?_); go_must (rintro e w_hb7 ⟨rfl, hd⟩; have hb7 := below_then hb6 hd; clear hd))
                | (go_at_call 28; (with_reducible refine (C6.out _ hb7).mono ?_); go_must (rintro e w_hb8 ⟨rfl, hd⟩; have hb8 := below_then hb7 hd.below; clear hd))
                | (go_at_call 29; (with_reducible refine (C7.out _ hb8).mono ?_); go_must (rintro e w_hb9 ⟨rfl, hd⟩; have hb9 := below_then hb8 hd; clear hd))
                | (go_at_call 28; (with_reducible refine (C6.out _ hb9).mono ?_); go_must (rintro e w_hb10 ⟨rfl, hd⟩; have hb10 := below_then hb9 hd.below; clear hd))
                | (go_at_call 28; (with_reducible refine (C8.out _ hb10).mono ?_); go_must (rintro e w_hb11 ⟨rfl, hd⟩; have hb11 := below_then hb10 hd.below; clear hd))
                | (go_at_call 11; go_must (refine (awake_is w _ HTAB.out hb11).mono ?_; rintro e w12 ⟨rfl, hd⟩; have hb12 := below_then hb11 hd; clear hd)))
              go_ret
              exact ⟨rfl, hb12⟩
            | false =>
              clear hx hy
              go_wp2_with (first
                | (go_at_call 26; (with_reducible refine (C1.out _ hbel).mono ?_); go_must (rintro e w_hb3 ⟨rfl, hd⟩; have hb3 := below_then hbel hd; clear hd))
                | (go_at_call 26; (with_reducible refine (C2.out _ hb3).mono ?_); go_must (rintro e w_hb4 ⟨rfl, hd⟩; have hb4 := below_then hb3 hd; clear hd))
                | (go_at_call 26; (with_reducible refine (C3.out _ hb4).mono ?_); go_must (rintro e w_hb5 ⟨rfl, hd⟩; have hb5 := below_then hb4 hd; clear hd))
                | (go_at_call 27; (with_reducible refine (C4.out _ hb5).mono ?_); go_must (rintro e w_hb6 ⟨rfl, hd⟩; have hb6 := below_then hb5 hd; clear hd))
                | (go_at_call 26; (with_reducible refine (C5.out _ hb6).mono ?_); go_must (rintro e w_hb7 ⟨rfl, hd⟩; have hb7 := below_then hb6 hd; clear hd))
                | (go_at_call 28; (with_reducible refine (C6.out _ hb7).mono ?_); go_must (rintro e w_hb8 ⟨rfl, hd⟩; have hb8 := below_then hb7 hd.below; clear hd))
                | (go_at_call 29; (with_reducible refine (C7.out _ hb8).mono ?_); go_must (rintro e w_hb9 ⟨rfl, hd⟩; have hb9 := below_then hb8 hd; clear hd))
                | (go_at_call 28; (with_reducible refine (C6.out _ hb9).mono ?_); go_must (rintro e w_hb10 ⟨rfl, hd⟩; have hb10 := below_then hb9 hd.below; clear hd))
                | (go_at_call 28; (with_reducible refine (C8.out _ hb10).mono ?_); go_must (rintro e w_hb11 ⟨rfl, hd⟩; have hb11 := below_then hb10 hd.below; clear hd))
                | (go_at_call 11; go_must (refine (awake_is w _ HTAB.out hb11).mono ?_; rintro e w12 ⟨rfl, hd⟩; have hb12 := below_then hb11 hd; clear hd)))
              go_ret
              exact ⟨rfl, hb12⟩
          · have dX : decide (X ≤ 0) = true := decide_eq_true hx
            have dY : decide (Y ≤ 0) = false := decide_eq_false hy
            cases sm with
            | true =>
              have hYZ : (Y != Z) = false := by rw [HT.out.eqv (by simpa using hsm2)]; exact bne_self_eq_false _
              clear hx hy
              go_wp2_with (first
                | (go_at_call 26; (with_reducible refine (C1.out _ hbel).mono ?_); go_must (rintro e w_hb3 ⟨rfl, hd⟩; have hb3 := below_then hbel hd; clear hd))
                | (go_at_call 26; (with_reducible refine (C2.out _ hb3).mono ?_); go_must (rintro e w_hb4 ⟨rfl, hd⟩; have hb4 := below_then hb3 hd; clear hd))
                | (go_at_call 26; (with_reducible refine (C3.out _ hb4).mono ?_); go_must (rintro e w_hb5 ⟨rfl, hd⟩; have hb5 := below_then hb4 hd; clear hd))
                | (go_at_call 27; (with_reducible refine (C4.out _ hb5).mono ?_); go_must (rintro e w_hb6 ⟨rfl, hd⟩; have hb6 := below_then hb5 hd; clear hd))
                | (go_at_call 26; (with_reducible refine (C5.out _ hb6).mono ?_); go_must (rintro e w_hb7 ⟨rfl, hd⟩; have hb7 := below_then hb6 hd; clear hd))
                | (go_at_call 28; (with_reducible refine (C6.out _ hb7).mono ?_); go_must (rintro e w_hb8 ⟨rfl, hd⟩; have hb8 := below_then hb7 hd.below; clear hd))
                | (go_at_call 29; (with_reducible refine (C7.out _ hb8).mono ?_); go_must (rintro e w_hb9 ⟨rfl, hd⟩; have hb9 := below_then hb8 hd; clear hd))
                | (go_at_call 28; (with_reducible refine (C6.out _ hb9).mono ?_); go_must (rintro e w_hb10 ⟨rfl, hd⟩; have hb10 := below_then hb9 hd.below; clear hd))
                | (go_at_call 28; (with_reducible refine (C8.out _ hb10).mono ?_); go_must (rintro e w_hb11 ⟨rfl, hd⟩; have hb11 := below_then hb10 hd.below; clear hd))
                | (go_at_call 11; go_must (refine (awake_is w _ HTAB.out hb11).mono ?_; rintro e w12 ⟨rfl, hd⟩; have hb12 := below_then hb11 hd; clear hd)))
              go_ret
              exact ⟨rfl, hb12⟩
            | false =>
              clear hx hy
              go_wp2_with (first
                | (go_at_call 26; (with_reducible refine (C1.out _ hbel).mono ?_); go_must (rintro e w_hb3 ⟨rfl, hd⟩; have hb3 := below_then hbel hd; clear hd))
                | (go_at_call 26; (with_reducible refine (C2.out _ hb3).mono ?_); go_must (rintro e w_hb4 ⟨rfl, hd⟩; have hb4 := below_then hb3 hd; clear hd))
                | (go_at_call 26; (with_reducible refine (C3.out _ hb4).mono ?_); go_must (rintro e w_hb5 ⟨rfl, hd⟩; have hb5 := below_then hb4 hd; clear hd))
                | (go_at_call 27; (with_reducible refine (C4.out _ hb5).mono ?_); go_must (rintro e w_hb6 ⟨rfl, hd⟩; have hb6 := below_then hb5 hd; clear hd))
                | (go_at_call 26; (with_reducible refine (C5.out _ hb6).mono ?_); go_must (rintro e w_hb7 ⟨rfl, hd⟩; have hb7 := below_then hb6 hd; clear hd))
                | (go_at_call 28; (with_reducible refine (C6.out _ hb7).mono ?_); go_must (rintro e w_hb8 ⟨rfl, hd⟩; have hb8 := below_then hb7 hd.below; clear hd))
                | (go_at_call 29; (with_reducible refine (C7.out _ hb8).mono ?_); go_must (rintro e w_hb9 ⟨rfl, hd⟩; have hb9 := below_then hb8 hd; clear hd))
                | (go_at_call 28; (with_reducible refine (C6.out _ hb9).mono ?_); go_must (rintro e w_hb10 ⟨rfl, hd⟩; have hb10 := below_then hb9 hd.below; clear hd))
                | (go_at_call 28; (with_reducible refine (C8.out _ hb10).mono ?_); go_must (rintro e w_hb11 ⟨rfl, hd⟩; have hb11 := below_then hb10 hd.below; clear hd))
                | (go_at_call 11; go_must (refine (awake_is w _ HTAB.out hb11).mono ?_; rintro e w12 ⟨rfl, hd⟩; have hb12 := below_then hb11 hd; clear hd)))
              go_ret
              exact ⟨rfl, hb12⟩
          · have dX : decide (X ≤ 0) = false := decide_eq_false hx
            have esm : sm = false := by rw [← hsm2]; simpa using fun h => hx (by omega)
            subst esm
            clear hx
            go_wp2_with (first
              | (go_at_call 26; (with_reducible refine (C1.out _ hbel).mono ?_); go_must (rintro e w_hb3 ⟨rfl, hd⟩; have hb3 := below_then hbel hd; clear hd))
              | (go_at_call 26; (with_reducible refine (C2.out _ hb3).mono ?_); go_must (rintro e w_hb4 ⟨rfl, hd⟩; have hb4 := below_then hb3 hd; clear hd))
              | (go_at_call 26; (with_reducible refine (C3.out _ hb4).mono ?_); go_must (rintro e w_hb5 ⟨rfl, hd⟩; have hb5 := below_then hb4 hd; clear hd))
              | (go_at_call 27; (with_reducible refine (C4.out _ hb5).mono ?_); go_must (rintro e w_hb6 ⟨rfl, hd⟩; have hb6 := below_then hb5 hd; clear hd))
              | (go_at_call 26; (with_reducible refine (C5.out _ hb6).mono ?_); go_must (rintro e w_hb7 ⟨rfl, hd⟩; have hb7 := below_then hb6 hd; clear hd))
              | (go_at_call 28; (with_reducible refine (C6.out _ hb7).mono ?_); go_must (rintro e w_hb8 ⟨rfl, hd⟩; have hb8 := below_then hb7 hd.below; clear hd))
              | (go_at_call 29; (with_reducible refine (C7.out _ hb8).mono ?_); go_must (rintro e w_hb9 ⟨rfl, hd⟩; have hb9 := below_then hb8 hd; clear hd))
              | (go_at_call 28; (with_reducible refine (C6.out _ hb9).mono ?_); go_must (rintro e w_hb10 ⟨rfl, hd⟩; have hb10 := below_then hb9 hd.below; clear hd))
              | (go_at_call 28; (with_reducible refine (C8.out _ hb10).mono ?_); go_must (rintro e w_hb11 ⟨rfl, hd⟩; have hb11 := below_then hb10 hd.below; clear hd))
              | (go_at_call 11; go_must (refine (awake_is w _ HTAB.out hb11).mono ?_; rintro e w12 ⟨rfl, hd⟩; have hb12 := below_then hb11 hd; clear hd)))
            go_ret
            exact ⟨rfl, hb12⟩
      · have hlt2 : ¬ ((i : Int) < (a.length : Int)) := by omega
        have HT := Aside0.mk (tri_of a b d)
        obtain ⟨X, hX⟩ : ∃ X, cmpR a b = X := ⟨_, rfl⟩
        obtain ⟨Y, hY⟩ : ∃ Y, cmpR b d = Y := ⟨_, rfl⟩
        obtain ⟨Z, hZ⟩ : ∃ Z, cmpR a d = Z := ⟨_, rfl⟩
        obtain ⟨X', hX'⟩ : ∃ X', cmpR b a = X' := ⟨_, rfl⟩
        rw [hX, hY, hZ, hX'] at HT
        obtain ⟨sm, hsm⟩ : ∃ sm, decide (cmpR a b = 0) = sm := ⟨_, rfl⟩
        have hsm2 : (X == 0) = sm := by rw [← hsm, hX]; by_cases h : X = 0 <;> simp [h]
        have hneg := HT.out.neg
        have C1 := Aside0.mk (fun W h => rows_is hX A0 c0 A1 c1 W (Kd.C_below H0.out h) (Kd.C_below H1.out h))
        have C2 := Aside0.mk (fun W h => rows_is hY A1 c1 A2 c2 W (Kd.C_below H1.out h) (Kd.C_below H2.out h))
        have C3 := Aside0.mk (fun W h => rows_is hZ A0 c0 A2 c2 W (Kd.C_below H0.out h) (Kd.C_below H2.out h))
        have C4 := Aside0.mk (fun W h => refRows_is hX OA.out OB.out A0 c0 A1 c1 W (Kd.C_below H0.out h) HL0.out (Kd.C_below H1.out h) HL1.out)
        have C5 := Aside0.mk (fun W h => rows_is hX' A1 c1 A0 c0 W (Kd.C_below H1.out h) (Kd.C_below H0.out h))
        have C6 := Aside0.mk (fun W h => same_is hsm OA.out.1 A0 c0 A1 c1 W (Kd.C_below H0.out h) HL0.out (Kd.C_below H1.out h) HL1.out)
        have C7 := Aside0.mk (fun W h => refSame_is hsm OA.out OB.out A0 c0 A1 c1 W (Kd.C_below H0.out h) HL0.out (Kd.C_below H1.out h) HL1.out)
        have C8 := Aside0.mk (fun W h => same_is (decide_eq_true (cmpR_is.refl a)) OA.out.1 A0 c0 A0 c0 W (Kd.C_below H0.out h) HL0.out (Kd.C_below H0.out h) HL0.out)
        clear hX hY hZ hX' hsm
        have hfive : (X ≤ 0 ∧ Y ≤ 0) ∨ (X ≤ 0 ∧ ¬ Y ≤ 0) ∨ ¬ X ≤ 0 := by omega
        rcases hfive with ⟨hx, hy⟩ | ⟨hx, hy⟩ | hx
        · have dX : decide (X ≤ 0) = true := decide_eq_true hx
          have dY : decide (Y ≤ 0) = true := decide_eq_true hy
          have dZ : decide (0 < Z) = false := decide_eq_false (HT.out.tri hx hy)
          cases sm with
          | true =>
            have hYZ : (Y != Z) = false := by rw [HT.out.eqv (by simpa using hsm2)]; exact bne_self_eq_false _
            clear hx hy
            go_wp2_with (first
              | (go_at_call 26; (with_reducible refine (C1.out _ hbel).mono ?_); go_must (rintro e w_hb3 ⟨rfl, hd⟩; have hb3 := below_then hbel hd; clear hd))
              | (go_at_call 26; (with_reducible refine (C2.out _ hb3).mono ?_); go_must (rintro e w_hb4 ⟨rfl, hd⟩; have hb4 := below_then hb3 hd; clear hd))
              | (go_at_call 26; (with_reducible refine (C3.out _ hb4).mono ?_); go_must (rintro e w_hb5 ⟨rfl, hd⟩; have hb5 := below_then hb4 hd; clear hd))
              | (go_at_call 27; (with_reducible refine (C4.out _ hb5).mono ?_); go_must (rintro e w_hb6 ⟨rfl, hd⟩; have hb6 := below_then hb5 hd; clear hd))
              | (go_at_call 26; (with_reducible refine (C5.out _ hb6).mono ?_); go_must (rintro e w_hb7 ⟨rfl, hd⟩; have hb7 := below_then hb6 hd; clear hd))
              | (go_at_call 28; (with_reducible refine (C6.out _ hb7).mono ?_); go_must (rintro e w_hb8 ⟨rfl, hd⟩; have hb8 := below_then hb7 hd.below; clear hd))
              | (go_at_call 29; (with_reducible refine (C7.out _ hb8).mono ?_); go_must (rintro e w_hb9 ⟨rfl, hd⟩; have hb9 := below_then hb8 hd; clear hd))
              | (go_at_call 28; (with_reducible refine (C6.out _ hb9).mono ?_); go_must (rintro e w_hb10 ⟨rfl, hd⟩; have hb10 := below_then hb9 hd.below; clear hd))
              | (go_at_call 28; (with_reducible refine (C8.out _ hb10).mono ?_); go_must (rintro e w_hb11 ⟨rfl, hd⟩; have hb11 := below_then hb10 hd.below; clear hd))
              | (go_at_call 11; go_must (refine (awake_is w _ HTAB.out hb11).mono ?_; rintro e w12 ⟨rfl, hd⟩; have hb12 := below_then hb11 hd; clear hd)))
            go_ret
            exact ⟨rfl, hb12⟩
          | false =>
            clear hx hy
            go_wp2_with (first
              | (go_at_call 26; (with_reducible refine (C1.out _ hbel).mono ?_); go_must (rintro e w_hb3 ⟨rfl, hd⟩; have hb3 := below_then hbel hd; clear hd))
              | (go_at_call 26; (with_reducible refine (C2.out _ hb3).mono ?_); go_must (rintro e w_hb4 ⟨rfl, hd⟩; have hb4 := below_then hb3 hd; clear hd))
              | (go_at_call 26; (with_reducible refine (C3.out _ hb4).mono ?_); go_must (rintro e w_hb5 ⟨rfl, hd⟩; have hb5 := below_then hb4 hd; clear hd))
              | (go_at_call 27; (with_reducible refine (C4.out _ hb5).mono ?_); go_must (rintro e w_hb6 ⟨rfl, hd⟩; have hb6 := below_then hb5 hd; clear hd))
              | (go_at_call 26; (with_reducible refine (C5.out _ hb6).mono ?_); go_must (rintro e w_hb7 ⟨rfl, hd⟩; have hb7 := below_then hb6 hd; clear hd))
              | (go_at_call 28; (with_reducible refine (C6.out _ hb7).mono ?_); go_must (rintro e w_hb8 ⟨rfl, hd⟩; have hb8 := below_then hb7 hd.below; clear hd))
              | (go_at_call 29; (with_reducible refine (C7.out _ hb8).mono ?_); go_must (rintro e w_hb9 ⟨rfl, hd⟩; have hb9 := below_then hb8 hd; clear hd))
              | (go_at_call 28; (with_reducible refine (C6.out _ hb9).mono ?_); go_must (rintro e w_hb10 ⟨rfl, hd⟩; have hb10 := below_then hb9 hd.below; clear hd))
              | (go_at_call 28; (with_reducible refine (C8.out _ hb10).mono ?_); go_must (rintro e w_hb11 ⟨rfl, hd⟩; have hb11 := below_then hb10 hd.below; clear hd))
              | (go_at_call 11; go_must (refine (awake_is w _ HTAB.out hb11).mono ?_; rintro e w12 ⟨rfl, hd⟩; have hb12 := below_then hb11 hd; clear hd)))
            go_ret
            exact ⟨rfl, hb12⟩
        · have dX : decide (X ≤ 0) = true := decide_eq_true hx
          have dY : decide (Y ≤ 0) = false := decide_eq_false hy
          cases sm with
          | true =>
            have hYZ : (Y != Z) = false := by rw [HT.out.eqv (by simpa using hsm2)]; exact bne_self_eq_false _
            clear hx hy
            go_wp2_with (first
              | (go_at_call 26; (with_reducible refine (C1.out _ hbel).mono ?_); go_must (rintro e w_hb3 ⟨rfl, hd⟩; have hb3 := below_then hbel hd; clear hd))
              | (go_at_call 26; (with_reducible refine (C2.out _ hb3).mono ?_); go_must (rintro e w_hb4 ⟨rfl, hd⟩; have hb4 := below_then hb3 hd; clear hd))
              | (go_at_call 26; (with_reducible refine (C3.out _ hb4).mono ?_); go_must (rintro e w_hb5 ⟨rfl, hd⟩; have hb5 := below_then hb4 hd; clear hd))
              | (go_at_call 27; (with_reducible refine (C4.out _ hb5).mono ?_); go_must (rintro e w_hb6 ⟨rfl, hd⟩; have hb6 := below_then hb5 hd; clear hd))
              | (go_at_call 26; (with_reducible refine (C5.out _ hb6).mono ?_); go_must (rintro e w_hb7 ⟨rfl, hd⟩; have hb7 := below_then hb6 hd; clear hd))
              | (go_at_call 28; (with_reducible refine (C6.out _ hb7).mono ?_); go_must (rintro e w_hb8 ⟨rfl, hd⟩; have hb8 := below_then hb7 hd.below; clear hd))
              | (go_at_call 29; (with_reducible refine (C7.out _ hb8).mono ?_); go_must (rintro e w_hb9 ⟨rfl, hd⟩; have hb9 := below_then hb8 hd; clear hd))
              | (go_at_call 28; (with_reducible refine (C6.out _ hb9).mono ?_); go_must (rintro e w_hb10 ⟨rfl, hd⟩; have hb10 := below_then hb9 hd.below; clear hd))
              | (go_at_call 28; (with_reducible refine (C8.out _ hb10).mono ?_); go_must (rintro e w_hb11 ⟨rfl, hd⟩; have hb11 := below_then hb10 hd.below; clear hd))
              | (go_at_call 11; go_must (refine (awake_is w _ HTAB.out hb11).mono ?_; rintro e w12 ⟨rfl, hd⟩; have hb12 := below_then hb11 hd; clear hd)))
            go_ret
            exact ⟨rfl, hb12⟩
          | false =>
            clear hx hy
            go_wp2_with (first
              | (go_at_call 26; (with_reducible refine (C1.out _ hbel).mono ?_); go_must (rintro e w_hb3 ⟨rfl, hd⟩; have hb3 := below_then hbel hd; clear hd))
              | (go_at_call 26; (with_reducible refine (C2.out _ hb3).mono ?_); go_must (rintro e w_hb4 ⟨rfl, hd⟩; have hb4 := below_then hb3 hd; clear hd))
              | (go_at_call 26; (with_reducible refine (C3.out _ hb4).mono ?_); go_must (rintro e w_hb5 ⟨rfl, hd⟩; have hb5 := below_then hb4 hd; clear hd))
              | (go_at_call 27; (with_reducible refine (C4.out _ hb5).mono ?_); go_must (rintro e w_hb6 ⟨rfl, hd⟩; have hb6 := below_then hb5 hd; clear hd))
              | (go_at_call 26; (with_reducible refine (C5.out _ hb6).mono ?_); go_must (rintro e w_hb7 ⟨rfl, hd⟩; have hb7 := below_then hb6 hd; clear hd))
              | (go_at_call 28; (with_reducible refine (C6.out _ hb7).mono ?_); go_must (rintro e w_hb8 ⟨rfl, hd⟩; have hb8 := below_then hb7 hd.below; clear hd))
              | (go_at_call 29; (with_reducible refine (C7.out _ hb8).mono ?_); go_must (rintro e w_hb9 ⟨rfl, hd⟩; have hb9 := below_then hb8 hd; clear hd))
              | (go_at_call 28; (with_reducible refine (C6.out _ hb9).mono ?_); go_must (rintro e w_hb10 ⟨rfl, hd⟩; have hb10 := below_then hb9 hd.below; clear hd))
              | (go_at_call 28; (with_reducible refine (C8.out _ hb10).mono ?_); go_must (rintro e w_hb11 ⟨rfl, hd⟩; have hb11 := below_then hb10 hd.below; clear hd))
              | (go_at_call 11; go_must (refine (awake_is w _ HTAB.out hb11).mono ?_; rintro e w12 ⟨rfl, hd⟩; have hb12 := below_then hb11 hd; clear hd)))
            go_ret
            exact ⟨rfl, hb12⟩
        · have dX : decide (X ≤ 0) = false := decide_eq_false hx
          have esm : sm = false := by rw [← hsm2]; simpa using fun h => hx (by omega)
          subst esm
          clear hx
          go_wp2_with (first
            | (go_at_call 26; (with_reducible refine (C1.out _ hbel).mono ?_); go_must (rintro e w_hb3 ⟨rfl, hd⟩; have hb3 := below_then hbel hd; clear hd))
            | (go_at_call 26; (with_reducible refine (C2.out _ hb3).mono ?_); go_must (rintro e w_hb4 ⟨rfl, hd⟩; have hb4 := below_then hb3 hd; clear hd))
            | (go_at_call 26; (with_reducible refine (C3.out _ hb4).mono ?_); go_must (rintro e w_hb5 ⟨rfl, hd⟩; have hb5 := below_then hb4 hd; clear hd))
            | (go_at_call 27; (with_reducible refine (C4.out _ hb5).mono ?_); go_must (rintro e w_hb6 ⟨rfl, hd⟩; have hb6 := below_then hb5 hd; clear hd))
            | (go_at_call 26; (with_reducible refine (C5.out _ hb6).mono ?_); go_must (rintro e w_hb7 ⟨rfl, hd⟩; have hb7 := below_then hb6 hd; clear hd))
            | (go_at_call 28; (with_reducible refine (C6.out _ hb7).mono ?_); go_must (rintro e w_hb8 ⟨rfl, hd⟩; have hb8 := below_then hb7 hd.below; clear hd))
            | (go_at_call 29; (with_reducible refine (C7.out _ hb8).mono ?_); go_must (rintro e w_hb9 ⟨rfl, hd⟩; have hb9 := below_then hb8 hd; clear hd))
            | (go_at_call 28; (with_reducible refine (C6.out _ hb9).mono ?_); go_must (rintro e w_hb10 ⟨rfl, hd⟩; have hb10 := below_then hb9 hd.below; clear hd))
            | (go_at_call 28; (with_reducible refine (C8.out _ hb10).mono ?_); go_must (rintro e w_hb11 ⟨rfl, hd⟩; have hb11 := below_then hb10 hd.below; clear hd))
            | (go_at_call 11; go_must (refine (awake_is w _ HTAB.out hb11).mono ?_; rintro e w12 ⟨rfl, hd⟩; have hb12 := below_then hb11 hd; clear hd)))
          go_ret
          exact ⟨rfl, hb12⟩
end Go.Proofs.YtibgjfeifpanhaaDoor.B
