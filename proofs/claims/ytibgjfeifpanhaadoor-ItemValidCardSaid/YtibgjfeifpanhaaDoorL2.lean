/- The law ItemValid walked. -/
import Derived.Test.YtibgjfeifpanhaaDoorProg
import Derived.Below
import Derived.Deep.Draws
import Derived.Deep.AppendLies
import Derived.Maps.AppendAt
import Derived.Maps.OwnSet
import Derived.OwnWalk
import Derived.Laws.BytesArg
import Derived.Laws.MakeOwn
import Derived.Laws.OwnMore
import Derived.Deep.OwnRows
import Derived.Tactics
import Derived.Laws.Slices
import Derived.WalkKit
import Derived.KernelRfl
import Derived.RowKit3
import Derived.Deep.LoopGhost
import Derived.Deep.QuietTactic
import Derived.BigQuiet
import Derived.WideLaws
import Derived.Deep.DeepCutAuto
import Derived.Deep.CutBlock
import Derived.Deep.RegionHeld3
import Derived.Laws.Rows
import Derived.ArgAppend
import Derived.Laws.IdiomCopy
import Derived.OrdersHeld
import Derived.Laws.BitsLemmas
import Derived.Outline
import Derived.WalkSpells
import Derived.Lib.Hide
import Derived.RowKit
import Derived.Deep.DeepMust
import Derived.Laws.EntriesVeiled
import Derived.Test.YtibgjfeifpanhaaDoorR2
import Derived.Test.YtibgjfeifpanhaaDoorE4
set_option linter.unusedVariables false
set_option linter.unusedSimpArgs false
namespace Go.Proofs.YtibgjfeifpanhaaDoor.B
open Go.RowKit Go.Proofs.YtibgjfeifpanhaaDoorW.PrintWords Go.Maps PItemValid

theorem awake_ok (w w' : World) (h : TabOk w) (hb : Below w.heap.size w w') : Calls Tryd.prog 11 #[] w' fun e w2 => e = .returned (.bool true) ∧ Below w'.heap.size w' w2 := awake_calls w' (h.below hb)
theorem Name_is {s : ByteArray} {r : Bool} (h : nameF s.data.toList = r) (w : World) : Calls Tryd.prog 16 #[.string s] w fun e w' => e = .returned (.bool r) ∧ Below w.heap.size w w' := by
  subst h
  exact (item_Name.calls 40 s _ w (item_Name_is s)).mono fun e w' h => ⟨h.1, h.2.below⟩
theorem refName_is {s : ByteArray} {r : Bool} (h : nameF s.data.toList = r) (w : World) : Calls Tryd.prog 17 #[.string s] w fun e w' => e = .returned (.bool r) ∧ Below w.heap.size w w' := by
  subst h
  exact (ringworkref01_Name.calls 40 s _ w (ref_Name_is s)).mono fun e w' h => ⟨h.1, h.2.below⟩
theorem refItem_is {x : S32} {r : Bool} (h : okI x = r) (w : World) : Calls Tryd.prog 15 #[vI x] w fun e w' => e = .returned (.bool r) ∧ Below w.heap.size w w' := by
  subst h
  exact ringworkref01_ValidItem.calls 40 x.f0 x.f1 x.f2 x.f3 x.f4 _ w (ref_ValidItem40 x)
theorem refVal_is {x : S29} {r : Bool} (h : okV x = r) (w : World) : Calls Tryd.prog 13 #[vV x] w fun e w' => e = .returned (.bool r) ∧ Below w.heap.size w w' := by
  subst h
  exact ringworkref01_ValidValue.calls x.f0 x.f1 x.f2 _ w (ref_ValidValue_is x)
theorem refRow_is {l : List S29} {r : Bool} (h : okRow l = r) (hl : l.length ≤ 20) (A : Option Addr) (c : Nat) (w : World) (hr : Kd.C k29 w A l.length l) (hc : l.length ≤ c) :
    Calls Tryd.prog 19 #[.slice A l.length c] w fun e w' => e = .returned (.bool r) ∧ Below w.heap.size w w' := by
  subst h
  exact ringworkref01_ValidRow.calls 30 A c l _ w hr hc (ref_ValidRow_is l hl)
theorem refItems_is {l : List S32} {r : Bool} (h : validF l = r) (hl : l.length ≤ 20) (A : Option Addr) (c : Nat) (w : World) (hr : Kd.C k32 w A l.length l) (hc : l.length ≤ c) :
    Calls Tryd.prog 21 #[.slice A l.length c] w fun e w' => e = .returned (.bool r) ∧ Below w.heap.size w w' := by
  subst h
  exact ringworkref01_ValidItems.calls 61 A c l _ w hr hc (ref_ValidItems_is l hl 61 (by omega))
theorem refFits_is {a : List S32} {b : List S29} {r : Bool} (h : fitsF a b = r) (hl : a.length ≤ 20) (A : Option Addr) (c : Nat) (A' : Option Addr) (c' : Nat) (w : World) (hx : Kd.C k32 w A a.length a) (hc : a.length ≤ c) (hy : Kd.C k29 w A' b.length b) (hc' : b.length ≤ c') :
    Calls Tryd.prog 23 #[.slice A a.length c, .slice A' b.length c'] w fun e w' => e = .returned (.bool r) ∧ Below w.heap.size w w' := by
  subst h
  exact ringworkref01_Fits.calls 70 A c a A' c' b _ w hx hc hy hc' (ref_Fits_is a b hl)
theorem C_rows1 (w : World) (A0 : Option Addr) (c0 : Nat) (a : List S29) (h0 : Kd.C k29 w A0 a.length a) (l0 : a.length ≤ c0) :
    Kd.C (Kd.slice 29 k29) (w.alloc (.cells #[.slice A0 a.length c0] 23)) (some ⟨w.heap.size, 0, none⟩) 1 [a] := by
  have hb : Below w.heap.size w (w.alloc (.cells #[.slice A0 a.length c0] 23)) := below_alloc (Below.refl _ _) _
  refine ⟨rfl, by decide, fun _ => ⟨_, rfl, fun j p hj => ?_⟩⟩
  match j, hj with
  | 0, hj =>
    cases hj
    refine ⟨[_], rfl, ⟨A0, c0, rfl, l0, Kd.C_below h0 hb⟩, fun i u hu => ?_⟩
    have hi : i = 0 := by
      have := (List.getElem?_eq_some_iff.1 hu).1
      simpa using this
    subst hi
    simp at hu
    subst hu
    show (w.alloc _).cell? ((⟨w.heap.size, 0, none⟩ : Addr).add 0) = _
    rw [show (⟨w.heap.size, 0, none⟩ : Addr).add 0 = ⟨w.heap.size, 0, none⟩ from rfl, World.cell?_alloc_new]
    rfl
set_option maxRecDepth 100000 in
set_option maxHeartbeats 8000000 in
theorem valid_law (A0 A1 : Option Addr) (c0 c1 : Nat) (l : List S32) (r : List S29) (s : ByteArray) (w : World) (h0 : Kd.C k32 w A0 l.length l) (l0 : l.length ≤ c0) (h1 : Kd.C k29 w A1 r.length r) (l1 : r.length ≤ c1) (htab : TabOk w) :
    Calls Tryd.prog 3 #[.slice A0 l.length c0, .slice A1 r.length c1, .string s] w fun e w' => e = .returned (.bool true) ∧ Below w.heap.size w w' := by
  have H0 := Aside0.mk h0
  have H1 := Aside0.mk h1
  have HTAB := Aside0.mk htab
  have HL0 := Aside0.mk l0
  have HL1 := Aside0.mk l1
  have m0 := (C_len h0).2
  have m1 := (C_len h1).2
  obtain ⟨rI, hI20, hI⟩ := Items_calls A0 c0 l w h0 l0
  have HI := Aside0.mk hI
  clear h0 h1 htab l0 l1 hI
  cases rI with
  | false =>
    go_enter Tryd.func3, Tryd.ntmps3
    go_wp2_with (first | (go_at_call 9; go_must (refine HI.out.mono ?_; rintro e w1 ⟨rfl, hd1⟩; have hb1 := hd1.below; clear hd1)) | (go_at_call 11; go_must (refine (awake_ok w _ HTAB.out hb1).mono ?_; rintro e w2 ⟨rfl, hb2⟩)))
    go_ret
    exact ⟨rfl, below_then hb1 hb2⟩
  | true =>
    have hl20 := hI20 rfl
    clear hI20
    cases hrows : rowsF [r] with
    | false =>
      have HR := fun (W : World) (h : Kd.C (Kd.slice 29 k29) (W.alloc (.cells #[.slice A1 r.length c1] 23)) (some ⟨W.heap.size, 0, none⟩) 1 [r]) => Aside0.mk (Rows_is hrows (by simp) _ 1 _ h (by simp))
      clear hrows
      go_enter Tryd.func3, Tryd.ntmps3
      go_wp2_with (first | (go_at_call 9; go_must (refine HI.out.mono ?_; rintro e w1 ⟨rfl, hd1⟩; have hb1 := hd1.below; clear hd1; have hb1a := below_alloc hb1 (.cells #[.slice A1 r.length c1] 23); have HRS := Aside0.mk (C_rows1 w1 A1 c1 r (Kd.C_below H1.out hb1) HL1.out))) | (go_at_call 10; go_must (refine (HR _ HRS.out).out.mono ?_; rintro e w2 ⟨rfl, hd2⟩; have hb2 := below_then hb1a hd2.below; clear hd2)) | (go_at_call 11; go_must (refine (awake_ok w _ HTAB.out hb2).mono ?_; rintro e w3 ⟨rfl, hb3⟩)))
      go_ret
      exact ⟨rfl, below_then hb2 hb3⟩
    | true =>
      have HR := fun (W : World) (h : Kd.C (Kd.slice 29 k29) (W.alloc (.cells #[.slice A1 r.length c1] 23)) (some ⟨W.heap.size, 0, none⟩) 1 [r]) => Aside0.mk (Rows_is hrows (by simp) _ 1 _ h (by simp))
      have hok : okLenB r = true := by simpa [rowsF] using hrows
      have hr20 := ((okLenB_iff r).1 hok).1
      clear hrows hok
      by_cases hs2 : (200 : Int) < (s.size : Int)
      · go_enter Tryd.func3, Tryd.ntmps3
        go_wp2_with (first | (go_at_call 9; go_must (refine HI.out.mono ?_; rintro e w1 ⟨rfl, hd1⟩; have hb1 := hd1.below; clear hd1; have hb1a := below_alloc hb1 (.cells #[.slice A1 r.length c1] 23); have HRS := Aside0.mk (C_rows1 w1 A1 c1 r (Kd.C_below H1.out hb1) HL1.out))) | (go_at_call 10; go_must (refine (HR _ HRS.out).out.mono ?_; rintro e w2 ⟨rfl, hd2⟩; have hb2 := below_then hb1a hd2.below; clear hd2)) | (go_at_call 11; go_must (refine (awake_ok w _ HTAB.out hb2).mono ?_; rintro e w3 ⟨rfl, hb3⟩)))
        go_ret
        exact ⟨rfl, below_then hb2 hb3⟩
      · go_enter Tryd.func3, Tryd.ntmps3
        go_wp2_with (first | (go_at_call 9; go_must (refine HI.out.mono ?_; rintro e w1 ⟨rfl, hd1⟩; have hb1 := hd1.below; clear hd1; have hb1a := below_alloc hb1 (.cells #[.slice A1 r.length c1] 23); have HRS := Aside0.mk (C_rows1 w1 A1 c1 r (Kd.C_below H1.out hb1) HL1.out))) | (go_at_call 10; go_must (refine (HR _ HRS.out).out.mono ?_; rintro e w2 ⟨rfl, hd2⟩; have hb2 := below_then hb1a hd2.below; clear hd2)))
        go_loopg [7] r.length (fun g v7 wr => ∃ (i : Nat), g = r.length - i ∧ i ≤ r.length ∧ v7 = .int .i64 i ∧ Below w.heap.size w wr)
        case atStart => exact ⟨0, rfl, Nat.zero_le _, rfl, hb2⟩
        case round =>
          clear hb2 hb1 hb1a HRS
          obtain ⟨i, hg, hi, rfl, hbel⟩ := hrel
          have HG := Aside0.mk hg
          clear hg
          by_cases hlt : i < r.length
          · obtain ⟨ad, x, hA, hdx, k0, k1, k2⟩ := C_val H1.out i hlt
            subst hA
            replace k0 := pw_cell_below hbel k0
            replace k1 := pw_cell_below hbel k1
            replace k2 := pw_cell_below hbel k2
            obtain ⟨q, hq⟩ : ∃ q, okV x = q := ⟨_, rfl⟩
            have HV1 := fun W => Aside0.mk (valid_is hq W)
            have HV2 := fun W => Aside0.mk (refVal_is hq W)
            unfold vV at HV1 HV2
            clear hdx hq
            have hr0 : Below wr.heap.size wr wr := Below.refl _ _
            go_wp2
            go_region_held3 (fun w' => Below wr.heap.size wr w' ∧ w'.cell? (ad.add (i * 3)) = some (.int .i64 x.f0) ∧ w'.cell? ⟨(ad.add (i * 3)).block, (ad.add (i * 3)).off + 1, none⟩ = some (.int .i64 x.f1) ∧ w'.cell? ⟨(ad.add (i * 3)).block, (ad.add (i * 3)).off + 2, none⟩ = some (.string x.f2)) ((refine (fun h => ⟨h, pw_cell_below h k0, pw_cell_below h k1, pw_cell_below h k2⟩ : Below wr.heap.size wr _ → _) ?_; (repeat first | exact hr0 | exact hr1 | exact hr2 | refine below_drew ?_ | refine below_alloc ?_ _))) (first
              | (go_at_call 12; go_must (refine (HV1 _).out.mono ?_; rintro e w3 ⟨rfl, hd⟩; have hr1 := below_then (‹Below wr.heap.size wr _ ∧ _›).1 hd; clear hd))
              | (go_at_call 13; go_must (refine (HV2 _).out.mono ?_; rintro e w4 ⟨rfl, hd⟩; have hr2 := below_then (‹Below wr.heap.size wr _ ∧ _›).1 hd; clear hd)))
            all_goals
              go_wp2
              go_roundg (r.length - (i + 1))
              case measure => have := HG.out; omega
              case rel => exact ⟨i + 1, rfl, by omega, by go_num, (by first | exact below_then hbel hr2 | exact below_then hbel hr1)⟩
          · have hlt2 : ¬ ((i : Int) < (r.length : Int)) := by omega
            go_wp2
            clear hlt hlt2 HG hi
            obtain ⟨wo, rfl⟩ : ∃ wo : World, wo = wr := ⟨_, rfl⟩
            go_loopg [8] l.length (fun g v8 wr => ∃ (j : Nat), g = l.length - j ∧ j ≤ l.length ∧ v8 = .int .i64 j ∧ Below w.heap.size w wr)
            case atStart => exact ⟨0, rfl, Nat.zero_le _, rfl, hbel⟩
            case round =>
              clear hbel
              obtain ⟨j, hg, hj, rfl, hbel2⟩ := hrel
              have HG := Aside0.mk hg
              clear hg
              by_cases hlt : j < l.length
              · obtain ⟨ad, x, hA, hdx, k0, k1, k2, k3, k4⟩ := C_item H0.out j hlt
                subst hA
                replace k0 := pw_cell_below hbel2 k0
                replace k1 := pw_cell_below hbel2 k1
                replace k2 := pw_cell_below hbel2 k2
                replace k3 := pw_cell_below hbel2 k3
                replace k4 := pw_cell_below hbel2 k4
                obtain ⟨q, hq⟩ : ∃ q, okI x = q := ⟨_, rfl⟩
                obtain ⟨p, hp⟩ : ∃ p, nameF x.f0.data.toList = p := ⟨_, rfl⟩
                have HV1 := fun W => Aside0.mk (ValidItem_is hq W)
                have HV2 := fun W => Aside0.mk (refItem_is hq W)
                have HV3 := fun W => Aside0.mk (Name_is hp W)
                have HV4 := fun W => Aside0.mk (refName_is hp W)
                unfold vI at HV1 HV2
                clear hdx hq hp
                have hr0 : Below wr.heap.size wr wr := Below.refl _ _
                go_wp2
                go_region_held3 (fun w' => Below wr.heap.size wr w' ∧ w'.cell? (ad.add (j * 5)) = some (.string x.f0) ∧ w'.cell? ⟨(ad.add (j * 5)).block, (ad.add (j * 5)).off + 1, none⟩ = some (.int .i64 x.f1) ∧ w'.cell? ⟨(ad.add (j * 5)).block, (ad.add (j * 5)).off + 2, none⟩ = some (.int .i64 x.f2) ∧ w'.cell? ⟨(ad.add (j * 5)).block, (ad.add (j * 5)).off + 3, none⟩ = some (.int .i64 x.f3) ∧ w'.cell? ⟨(ad.add (j * 5)).block, (ad.add (j * 5)).off + 4, none⟩ = some (.int .i64 x.f4)) ((refine (fun h => ⟨h, pw_cell_below h k0, pw_cell_below h k1, pw_cell_below h k2, pw_cell_below h k3, pw_cell_below h k4⟩ : Below wr.heap.size wr _ → _) ?_; (repeat first | exact hr0 | exact hr1 | exact hr2 | exact hr3 | exact hr4 | refine below_drew ?_ | refine below_alloc ?_ _))) (first
                  | (go_at_call 14; go_must (refine (HV1 _).out.mono ?_; rintro e w3 ⟨rfl, hd⟩; have hr1 := below_then (‹Below wr.heap.size wr _ ∧ _›).1 hd; clear hd))
                  | (go_at_call 15; go_must (refine (HV2 _).out.mono ?_; rintro e w4 ⟨rfl, hd⟩; have hr2 := below_then (‹Below wr.heap.size wr _ ∧ _›).1 hd; clear hd))
                  | (go_at_call 16; go_must (refine (HV3 _).out.mono ?_; rintro e w5 ⟨rfl, hd⟩; have hr3 := below_then (‹Below wr.heap.size wr _ ∧ _›).1 hd; clear hd))
                  | (go_at_call 17; go_must (refine (HV4 _).out.mono ?_; rintro e w6 ⟨rfl, hd⟩; have hr4 := below_then (‹Below wr.heap.size wr _ ∧ _›).1 hd; clear hd)))
                all_goals
                  go_wp2
                  go_roundg (l.length - (j + 1))
                  case measure => have := HG.out; omega
                  case rel => exact ⟨j + 1, rfl, by omega, by go_num, (by first | exact below_then hbel2 hr4 | exact below_then hbel2 hr3)⟩
              · have hlt2 : ¬ ((j : Int) < (l.length : Int)) := by omega
                obtain ⟨ns, hns⟩ : ∃ q, nameF s.data.toList = q := ⟨_, rfl⟩
                obtain ⟨qr, hqr⟩ : ∃ q, okRow r = q := ⟨_, rfl⟩
                obtain ⟨qv, hqv⟩ : ∃ q, validF l = q := ⟨_, rfl⟩
                obtain ⟨qf, hqf⟩ : ∃ q, fitsF l r = q := ⟨_, rfl⟩
                have C1 := Aside0.mk (fun W (h : Below w.heap.size w W) => Name_is hns W)
                have C2 := Aside0.mk (fun W (h : Below w.heap.size w W) => refName_is hns W)
                have C3 := Aside0.mk (fun W h => row_is hqr A1 c1 W (Kd.C_below H1.out h))
                have C4 := Aside0.mk (fun W h => refRow_is hqr hr20 A1 c1 W (Kd.C_below H1.out h) HL1.out)
                have C5 := Aside0.mk (fun W h => items_is hqv hl20 A0 c0 W (Kd.C_below H0.out h))
                have C6 := Aside0.mk (fun W h => refItems_is hqv hl20 A0 c0 W (Kd.C_below H0.out h) HL0.out)
                have C7 := Aside0.mk (fun W h => Fits_is hqf hl20 A0 c0 A1 c1 W (Kd.C_below H0.out h) (Kd.C_below H1.out h))
                have C8 := Aside0.mk (fun W h => refFits_is hqf hl20 A0 c0 A1 c1 W (Kd.C_below H0.out h) HL0.out (Kd.C_below H1.out h) HL1.out)
                clear hns hqr hqv hqf
                go_wp2_with (first
                | (go_at_call 16; (with_reducible refine (C1.out _ hbel2).mono ?_); go_must (rintro e w_hb3 ⟨rfl, hd⟩; have hb3 := below_then hbel2 hd; clear hd))
                | (go_at_call 17; (with_reducible refine (C2.out _ hb3).mono ?_); go_must (rintro e w_hb4 ⟨rfl, hd⟩; have hb4 := below_then hb3 hd; clear hd))
                | (go_at_call 18; (with_reducible refine (C3.out _ hb4).mono ?_); go_must (rintro e w_hb5 ⟨rfl, hd⟩; have hb5 := below_then hb4 hd; clear hd))
                | (go_at_call 19; (with_reducible refine (C4.out _ hb5).mono ?_); go_must (rintro e w_hb6 ⟨rfl, hd⟩; have hb6 := below_then hb5 hd; clear hd))
                | (go_at_call 20; (with_reducible refine (C5.out _ hb6).mono ?_); go_must (rintro e w_hb7 ⟨rfl, hd⟩; have hb7 := below_then hb6 hd; clear hd))
                | (go_at_call 21; (with_reducible refine (C6.out _ hb7).mono ?_); go_must (rintro e w_hb8 ⟨rfl, hd⟩; have hb8 := below_then hb7 hd; clear hd))
                | (go_at_call 22; (with_reducible refine (C7.out _ hb8).mono ?_); go_must (rintro e w_hb9 ⟨rfl, hd⟩; have hb9 := below_then hb8 hd; clear hd))
                | (go_at_call 23; (with_reducible refine (C8.out _ hb9).mono ?_); go_must (rintro e w_hb10 ⟨rfl, hd⟩; have hb10 := below_then hb9 hd; clear hd))
                | (go_at_call 11; go_must (refine (awake_ok w _ HTAB.out hb10).mono ?_; rintro e w11 ⟨rfl, hd⟩; have hb11 := below_then hb10 hd; clear hd)))
                go_ret
                exact ⟨rfl, hb11⟩
end Go.Proofs.YtibgjfeifpanhaaDoor.B
