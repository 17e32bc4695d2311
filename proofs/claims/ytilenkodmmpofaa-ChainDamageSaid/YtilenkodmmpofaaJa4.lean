/- Texts of the proof, joined, what is not named cut out: K4, K5, K6, K7, K8, K9, K10, K11, K12, Q3, Q4, Q6, K13, K14, K15, Q5, K16, L3. -/
import Derived.Below
import Derived.Deep.Draws
import Derived.Deep.AppendLies
import Derived.Maps.AppendAt
import Derived.Maps.OwnSet
import Derived.OwnWalk
import Derived.Laws.BytesArg
import Derived.Laws.MakeOwn
import Derived.Laws.OwnMore
import Derived.Deep.OwnRows
import Derived.Tactics
import Derived.Laws.Slices
import Derived.WalkKit
import Derived.KernelRfl
import Derived.RowKit3
import Derived.Deep.LoopGhost
import Derived.Deep.QuietTactic
import Derived.BigQuiet
import Derived.WideLaws
import Derived.Deep.DeepCutAuto
import Derived.Deep.CutBlock
import Derived.Deep.RegionHeld3
import Derived.Laws.Rows
import Derived.ArgAppend
import Derived.Laws.IdiomCopy
import Derived.OrdersHeld
import Derived.Laws.BitsLemmas
import Derived.Outline
import Derived.WalkSpells
import Derived.Lib.Hide
import Derived.RowKit
import Derived.Deep.DeepMust
import Derived.Laws.EntriesVeiled
import Derived.WalkMore
import Derived.RangeFuncNested
import Derived.RangeFuncBound
import Derived.RangeFuncCalls
import Derived.RangeFuncLeaves
import Derived.Shelf.Abstract
import Derived.Shelf.RegionOpen
import Derived.OwnWalkIn
import Derived.TacticsInMore
import Derived.LoopNIn
import Derived.LoopIn
import Derived.RangeFuncBox
import Derived.Sort.OwnSortedInts
import Derived.StillTail
import Derived.Deep.DrawnRows
import Derived.StillTailTactics
import Derived.Test.YtilenkodmmpofaaProg
import Derived.Test.YtilenkodmmpofaaJa3

set_option linter.unusedVariables false
set_option linter.unusedSimpArgs false
namespace Go.Proofs.Ytilenkodmmpofaa.K
open Go.RowKit Go.Proofs.YtilenkodmmpofaaW.PrintWords Go.Maps PC

set_option maxRecDepth 100000 in
set_option maxHeartbeats 16000000 in
theorem Wrong_calls (A : Option Addr) (c : Nat) (l : List S31) (w : World) (hl : l.length ≤ 130) (hr : Kd.C k31 w A l.length l) (hw : ∀ x ∈ l, wfi x.f1) :
    Calls Try.prog 12 #[.slice A l.length c] w fun e w' => e = .returned (.tuple #[.int .i64 (wrongF l).1, .int .i64 (wrongF l).2.1, .int .i64 (wrongF l).2.2]) ∧ Below w.heap.size w w' := by
  have HR := Aside0.mk hr
  have HW := Aside0.mk hw
  have hmx := (C_len hr).2
  clear hr hw
  by_cases h0 : l.length = 0
  · have HF : Aside0 (wrongF l = (0, 0, 11)) := ⟨by unfold wrongF; rw [if_pos h0]⟩
    have h00 : ((l.length : Int) == 0) = true := by rw [h0]; rfl
    have h01 : ¬ 0 < l.length := by omega
    clear h0
    go_enter Try.func12, Try.ntmps12
    go_wp2
    go_step3
    go_wp2
    rw [Exit.noGoto_ret]
    go_ret3
    exact ⟨ret3 HF.out, Below.refl _ _⟩
  · have h00 : ((l.length : Int) == 0) = false := beq_eq_false_iff_ne.2 (by omega)
    have h50 : ¬ (500 : Int) < (l.length : Int) := by omega
    have hpos : 0 < l.length := by omega
    have hposI : (0 : Int) < (l.length : Int) := by omega
    have hposD : decide ((0 : Int) < (l.length : Int)) = true := decide_eq_true hposI
    obtain ⟨ad0, y0, hA0, hd0, k0, k1, k2, k3⟩ := C_link HR.out 0 hpos
    subst hA0
    have hown : ownL l = y0.f3 := by
      cases l with
      | nil => cases hpos
      | cons z t => simp at hd0; subst hd0; rfl
    have HK3 : Aside0 (∀ W, Below w.heap.size w W → W.cell? ⟨ad0.block, ad0.off + 3, none⟩ = some (.int .i64 y0.f3)) := ⟨fun W h => pw_cell_below h (by
      have e0 : ad0.add (0 * 4) = ad0 := by
        unfold Addr.add
        split <;> (cases ad0; simp_all)
      rw [e0] at k3
      exact k3)⟩
    have HOWN := Aside0.mk hown
    have HD0 := Aside0.mk hd0
    clear k0 k1 k2 k3 hown hd0
    obtain ⟨S, hS⟩ : ∃ S, scanF (ownL l) 0 0 l = S := ⟨_, rfl⟩
    have HF : Aside0 (∀ a b, S = some (a, b) → wrongF l = (a, b, 12)) := ⟨fun a b e => by
      unfold wrongF
      rw [if_neg h0, if_neg (by omega), hS, e]⟩
    have HFN : Aside0 (S = none → wrongF l = if idxL (ownL l) 0 l < 0 then (0, 4, 12) else
        match ringF l (ownL l) (idxL (ownL l) 0 l).toNat (l.length + 1) (List.replicate l.length 0) (idxL (ownL l) 0 l).toNat with
        | none => (0, 0, 0)
        | some e => ringEnd l e) := ⟨fun e => by
      unfold wrongF
      rw [if_neg h0, if_neg (by omega), hS, e]; rfl⟩
    have HS0 : Aside0 (S = scanF (ownL l) 0 0 (l.drop 0)) := ⟨by rw [List.drop_zero]; exact hS.symm⟩
    have HS := Aside0.mk hS
    clear hS h0
    go_enter Try.func12, Try.ntmps12
    go_wp2
    go_step3
    go_wp2
    go_loopg [29] l.length (fun g v29 wr => ∃ (i : Nat) (p : Int), g = l.length - i ∧ i ≤ l.length ∧ v29 = .int .i64 i ∧ Aside0 ((i = 0 → p = 0) ∧ (∀ y, 0 < i → l[i - 1]? = some y → p = y.f0) ∧ S = scanF (ownL l) i p (l.drop i)) ∧ Below w.heap.size w wr)
    case atStart => exact ⟨0, 0, rfl, Nat.zero_le _, rfl, ⟨fun _ => rfl, fun y h => by omega, HS0.out⟩, Below.refl _ _⟩
    case round =>
      clear HS0
      obtain ⟨i, p, hg, hi, rfl, HT, hbel⟩ := hrel
      have HG := Aside0.mk hg
      clear hg
      by_cases hlt : i < l.length
      · obtain ⟨ad', x, hA, hdx, c0, c1, c2, c3⟩ := C_link HR.out i hlt
        obtain rfl : ad0 = ad' := by injection hA
        clear hA
        replace c0 := pw_cell_below hbel c0
        replace c1 := pw_cell_below hbel c1
        replace c2 := pw_cell_below hbel c2
        replace c3 := pw_cell_below hbel c3
        have HDX := Aside0.mk hdx
        have hdrop : l.drop i = x :: l.drop (i + 1) := by
          obtain ⟨h1, h2⟩ := List.getElem?_eq_some_iff.1 hdx
          rw [List.drop_eq_getElem_cons h1, h2]
        have HSX : Aside0 (S = if (!okKey x.f0 || decide (x.f0 ≤ p)) = true then some ((i : Int), 1) else if (!okKey x.f3 || x.f3 != ownL l) = true then some ((i : Int), 4) else scanF (ownL l) (i + 1) x.f0 (l.drop (i + 1))) := ⟨by rw [HT.out.2.2, hdrop, scanF]⟩
        have hbC := below_alloc hbel (.cells #[.int .i64 x.f0, .int .i64 x.f1, .int .i64 x.f2, .int .i64 x.f3] 31)
        have HBC : Aside0 (∀ W : World, Below (wr.alloc (.cells #[.int .i64 x.f0, .int .i64 x.f1, .int .i64 x.f2, .int .i64 x.f3] 31)).heap.size (wr.alloc (.cells #[.int .i64 x.f0, .int .i64 x.f1, .int .i64 x.f2, .int .i64 x.f3] 31)) W → W.cell? ⟨wr.heap.size, 0, none⟩ = some (.int .i64 x.f0) ∧ W.cell? ⟨wr.heap.size, 3, none⟩ = some (.int .i64 x.f3)) := ⟨fun W h => ⟨pw_cell_below h (by rw [World.cell?_alloc_new]; rfl), pw_cell_below h (by rw [World.cell?_alloc_new]; rfl)⟩⟩
        clear hdx hdrop
        cases hk0 : okKey x.f0 with
        | false =>
          have HKY := fun W => Aside0.mk (key_q hk0 W)
          have HE : Aside0 (wrongF l = ((i : Int), 1, 12)) := ⟨HF.out _ _ (by rw [HSX.out, hk0]; rfl)⟩
          clear hk0
          go_wp2
          obtain ⟨b0, b3⟩ := HBC.out _ (Below.refl _ _)
          go_quiet (first | (go_at_call 48; exact Calls.quiet_of (HKY _).out))
          go_wp2
          rw [Exit.noGoto_ret]
          go_ret3
          exact ⟨ret3 HE.out, by repeat (first | exact hb3 | exact hbC | refine pw_below_drewN ?_ _ | refine below_drew ?_)⟩
        | true =>
          have HKY := fun W => Aside0.mk (key_q hk0 W)
          by_cases hi0 : i = 0
          · have hii : decide ((0 : Int) < (i : Int)) = false := decide_eq_false (by omega)
            have hii2 : decide ((i : Int) > (0 : Int)) = false := decide_eq_false (by omega)
            have hii3 : decide (0 < i) = false := decide_eq_false (by omega)
            have HBAD : Aside0 ((!okKey x.f0 || decide (x.f0 ≤ p)) = false) := ⟨by
              rw [hk0, HT.out.1 hi0]
              have := (okKey_iff.1 hk0).1
              simp; omega⟩
            clear hk0 hi0
            cases hk3 : okKey x.f3 with
            | false =>
              have HKO := fun W => Aside0.mk (key_q hk3 W)
              have HE : Aside0 (wrongF l = ((i : Int), 4, 12)) := ⟨HF.out _ _ (by rw [HSX.out, HBAD.out, hk3]; rfl)⟩
              clear hk3
              go_wp2
              obtain ⟨b0, b3⟩ := HBC.out _ (Below.refl _ _)
              have s3 := HK3.out _ hbC
              go_quiet (first | (go_at_call 48; exact Calls.quiet_of (HKY _).out))
              go_wp2
              obtain ⟨w3, hq⟩ : ∃ w3, w3 = World.drewN (wr.alloc (.cells #[.int .i64 x.f0, .int .i64 x.f1, .int .i64 x.f2, .int .i64 x.f3] 31)) nq := ⟨_, rfl⟩
              have hb3 : Below w.heap.size w w3 := by rw [hq]; exact pw_below_drewN hbC _
              have e3 : w3.cell? ⟨wr.heap.size, 3, none⟩ = some (.int .i64 x.f3) := by rw [hq]; exact (HBC.out _ (pw_below_drewN (Below.refl _ _) _)).2
              have t3 := HK3.out _ hb3
              rw [← hq]
              clear hq b0 b3 s3
              go_quiet (first | (go_at_call 48; exact Calls.quiet_of (HKO _).out))
              go_wp2
              rw [Exit.noGoto_ret]
              go_ret3
              exact ⟨ret3 HE.out, by repeat (first | exact hb3 | exact hbC | refine pw_below_drewN ?_ _ | refine below_drew ?_)⟩
            | true =>
              by_cases ho : x.f3 = y0.f3
              · have HKO := fun W => Aside0.mk (key_q hk3 W)
                have HNX : Aside0 (S = scanF (ownL l) (i + 1) x.f0 (l.drop (i + 1))) := ⟨by rw [HSX.out, HBAD.out, hk3, HOWN.out, if_neg (by decide), if_neg (by simpa using ho)]⟩
                have hoo : (x.f3 != y0.f3) = false := by simpa using ho
                clear hk3 ho
                go_wp2
                obtain ⟨b0, b3⟩ := HBC.out _ (Below.refl _ _)
                have s3 := HK3.out _ hbC
                go_quiet (first | (go_at_call 48; exact Calls.quiet_of (HKY _).out))
                go_wp2
                obtain ⟨w3, hq⟩ : ∃ w3, w3 = World.drewN (wr.alloc (.cells #[.int .i64 x.f0, .int .i64 x.f1, .int .i64 x.f2, .int .i64 x.f3] 31)) nq := ⟨_, rfl⟩
                have hb3 : Below w.heap.size w w3 := by rw [hq]; exact pw_below_drewN hbC _
                have e3 : w3.cell? ⟨wr.heap.size, 3, none⟩ = some (.int .i64 x.f3) := by rw [hq]; exact (HBC.out _ (pw_below_drewN (Below.refl _ _) _)).2
                have t3 := HK3.out _ hb3
                rw [← hq]
                clear hq b0 b3 s3
                go_quiet (first | (go_at_call 48; exact Calls.quiet_of (HKO _).out))
                go_wp2
                go_roundg (l.length - (i + 1))
                case measure => have := HG.out; omega
                case rel => exact ⟨i + 1, x.f0, rfl, by omega, by go_num, ⟨by omega, fun y _ hy => by rw [Nat.add_sub_cancel, HDX.out] at hy; injection hy with hy; rw [hy], HNX.out⟩, by repeat (first | exact hb3 | exact hbC | refine pw_below_drewN ?_ _ | refine below_drew ?_)⟩
              · have HKO := fun W => Aside0.mk (key_q hk3 W)
                have HE : Aside0 (wrongF l = ((i : Int), 4, 12)) := ⟨HF.out _ _ (by rw [HSX.out, HBAD.out, hk3, HOWN.out, if_neg (by decide), if_pos (by simpa using ho)])⟩
                have hoo : (x.f3 != y0.f3) = true := bne_iff_ne.2 ho
                clear hk3 ho
                go_wp2
                obtain ⟨b0, b3⟩ := HBC.out _ (Below.refl _ _)
                have s3 := HK3.out _ hbC
                go_quiet (first | (go_at_call 48; exact Calls.quiet_of (HKY _).out))
                go_wp2
                obtain ⟨w3, hq⟩ : ∃ w3, w3 = World.drewN (wr.alloc (.cells #[.int .i64 x.f0, .int .i64 x.f1, .int .i64 x.f2, .int .i64 x.f3] 31)) nq := ⟨_, rfl⟩
                have hb3 : Below w.heap.size w w3 := by rw [hq]; exact pw_below_drewN hbC _
                have e3 : w3.cell? ⟨wr.heap.size, 3, none⟩ = some (.int .i64 x.f3) := by rw [hq]; exact (HBC.out _ (pw_below_drewN (Below.refl _ _) _)).2
                have t3 := HK3.out _ hb3
                rw [← hq]
                clear hq b0 b3 s3
                go_quiet (first | (go_at_call 48; exact Calls.quiet_of (HKO _).out))
                go_wp2
                rw [Exit.noGoto_ret]
                go_ret3
                exact ⟨ret3 HE.out, by repeat (first | exact hb3 | exact hbC | refine pw_below_drewN ?_ _ | refine below_drew ?_)⟩
          · have hii : decide ((0 : Int) < (i : Int)) = true := decide_eq_true (by omega)
            have hii2 : decide ((i : Int) > (0 : Int)) = true := decide_eq_true (by omega)
            have hii3 : decide (0 < i) = true := decide_eq_true (by omega)
            have hi1 : i - 1 < l.length := by omega
            obtain ⟨ad'', px, hA, hdp, d0, _, _, _⟩ := C_link HR.out (i - 1) hi1
            obtain rfl : ad0 = ad'' := by injection hA
            clear hA
            have hpp : p = px.f0 := HT.out.2.1 px (by omega) hdp
            have hw1 : wrap64 ((i : Int) - 1) = ((i - 1 : Nat) : Int) := by rw [w64 (by omega) (by omega)]; omega
            have hw2 : ((i : Int) - 1) = ((i - 1 : Nat) : Int) := by omega
            have HPC : Aside0 (∀ W : World, Below (wr.alloc (.cells #[.int .i64 x.f0, .int .i64 x.f1, .int .i64 x.f2, .int .i64 x.f3] 31)).heap.size (wr.alloc (.cells #[.int .i64 x.f0, .int .i64 x.f1, .int .i64 x.f2, .int .i64 x.f3] 31)) W → W.cell? (ad0.add ((i - 1) * 4)) = some (.int .i64 px.f0)) := ⟨fun W h => pw_cell_below (below_then (below_alloc (Below.refl _ wr) _) h) (pw_cell_below hbel d0)⟩
            clear d0 hdp hi0
            by_cases hge : x.f0 ≤ px.f0
            · have HE : Aside0 (wrongF l = ((i : Int), 1, 12)) := ⟨HF.out _ _ (by rw [HSX.out, if_pos (by rw [hk0, hpp]; simpa using hge)])⟩
              have hge2 : decide (px.f0 ≥ x.f0) = true := decide_eq_true hge
              have hge3 : decide (x.f0 ≤ px.f0) = true := decide_eq_true hge
              clear hk0 hpp hge
              go_wp2
              obtain ⟨b0, b3⟩ := HBC.out _ (Below.refl _ _)
              have p0 := HPC.out _ (Below.refl _ _)
              go_quiet (first | (go_at_call 48; exact Calls.quiet_of (HKY _).out))
              go_wp2
              rw [Exit.noGoto_ret]
              go_ret3
              exact ⟨ret3 HE.out, by repeat (first | exact hb3 | exact hbC | refine pw_below_drewN ?_ _ | refine below_drew ?_)⟩
            · have HBAD : Aside0 ((!okKey x.f0 || decide (x.f0 ≤ p)) = false) := ⟨by rw [hk0, hpp]; simpa using hge⟩
              have hge2 : decide (px.f0 ≥ x.f0) = false := decide_eq_false hge
              have hge3 : decide (x.f0 ≤ px.f0) = false := decide_eq_false hge
              clear hk0 hpp hge
              cases hk3 : okKey x.f3 with
              | false =>
                have HKO := fun W => Aside0.mk (key_q hk3 W)
                have HE : Aside0 (wrongF l = ((i : Int), 4, 12)) := ⟨HF.out _ _ (by rw [HSX.out, HBAD.out, hk3]; rfl)⟩
                clear hk3
                go_wp2
                obtain ⟨b0, b3⟩ := HBC.out _ (Below.refl _ _)
                have s3 := HK3.out _ hbC
                have p0 := HPC.out _ (Below.refl _ _)
                go_quiet (first | (go_at_call 48; exact Calls.quiet_of (HKY _).out))
                go_wp2
                obtain ⟨w3, hq⟩ : ∃ w3, w3 = World.drewN (wr.alloc (.cells #[.int .i64 x.f0, .int .i64 x.f1, .int .i64 x.f2, .int .i64 x.f3] 31)) nq := ⟨_, rfl⟩
                have hb3 : Below w.heap.size w w3 := by rw [hq]; exact pw_below_drewN hbC _
                have e3 : w3.cell? ⟨wr.heap.size, 3, none⟩ = some (.int .i64 x.f3) := by rw [hq]; exact (HBC.out _ (pw_below_drewN (Below.refl _ _) _)).2
                have t3 := HK3.out _ hb3
                rw [← hq]
                clear hq b0 b3 s3
                go_quiet (first | (go_at_call 48; exact Calls.quiet_of (HKO _).out))
                go_wp2
                rw [Exit.noGoto_ret]
                go_ret3
                exact ⟨ret3 HE.out, by repeat (first | exact hb3 | exact hbC | refine pw_below_drewN ?_ _ | refine below_drew ?_)⟩
              | true =>
                by_cases ho : x.f3 = y0.f3
                · have HKO := fun W => Aside0.mk (key_q hk3 W)
                  have HNX : Aside0 (S = scanF (ownL l) (i + 1) x.f0 (l.drop (i + 1))) := ⟨by rw [HSX.out, HBAD.out, hk3, HOWN.out, if_neg (by decide), if_neg (by simpa using ho)]⟩
                  have hoo : (x.f3 != y0.f3) = false := by simpa using ho
                  clear hk3 ho
                  go_wp2
                  obtain ⟨b0, b3⟩ := HBC.out _ (Below.refl _ _)
                  have s3 := HK3.out _ hbC
                  have p0 := HPC.out _ (Below.refl _ _)
                  go_quiet (first | (go_at_call 48; exact Calls.quiet_of (HKY _).out))
                  go_wp2
                  obtain ⟨w3, hq⟩ : ∃ w3, w3 = World.drewN (wr.alloc (.cells #[.int .i64 x.f0, .int .i64 x.f1, .int .i64 x.f2, .int .i64 x.f3] 31)) nq := ⟨_, rfl⟩
                  have hb3 : Below w.heap.size w w3 := by rw [hq]; exact pw_below_drewN hbC _
                  have e3 : w3.cell? ⟨wr.heap.size, 3, none⟩ = some (.int .i64 x.f3) := by rw [hq]; exact (HBC.out _ (pw_below_drewN (Below.refl _ _) _)).2
                  have t3 := HK3.out _ hb3
                  rw [← hq]
                  clear hq b0 b3 s3
                  go_quiet (first | (go_at_call 48; exact Calls.quiet_of (HKO _).out))
                  go_wp2
                  go_roundg (l.length - (i + 1))
                  case measure => have := HG.out; omega
                  case rel => exact ⟨i + 1, x.f0, rfl, by omega, by go_num, ⟨by omega, fun y _ hy => by rw [Nat.add_sub_cancel, HDX.out] at hy; injection hy with hy; rw [hy], HNX.out⟩, by repeat (first | exact hb3 | exact hbC | refine pw_below_drewN ?_ _ | refine below_drew ?_)⟩
                · have HKO := fun W => Aside0.mk (key_q hk3 W)
                  have HE : Aside0 (wrongF l = ((i : Int), 4, 12)) := ⟨HF.out _ _ (by rw [HSX.out, HBAD.out, hk3, HOWN.out, if_neg (by decide), if_pos (by simpa using ho)])⟩
                  have hoo : (x.f3 != y0.f3) = true := bne_iff_ne.2 ho
                  clear hk3 ho
                  go_wp2
                  obtain ⟨b0, b3⟩ := HBC.out _ (Below.refl _ _)
                  have s3 := HK3.out _ hbC
                  have p0 := HPC.out _ (Below.refl _ _)
                  go_quiet (first | (go_at_call 48; exact Calls.quiet_of (HKY _).out))
                  go_wp2
                  obtain ⟨w3, hq⟩ : ∃ w3, w3 = World.drewN (wr.alloc (.cells #[.int .i64 x.f0, .int .i64 x.f1, .int .i64 x.f2, .int .i64 x.f3] 31)) nq := ⟨_, rfl⟩
                  have hb3 : Below w.heap.size w w3 := by rw [hq]; exact pw_below_drewN hbC _
                  have e3 : w3.cell? ⟨wr.heap.size, 3, none⟩ = some (.int .i64 x.f3) := by rw [hq]; exact (HBC.out _ (pw_below_drewN (Below.refl _ _) _)).2
                  have t3 := HK3.out _ hb3
                  rw [← hq]
                  clear hq b0 b3 s3
                  go_quiet (first | (go_at_call 48; exact Calls.quiet_of (HKO _).out))
                  go_wp2
                  rw [Exit.noGoto_ret]
                  go_ret3
                  exact ⟨ret3 HE.out, by repeat (first | exact hb3 | exact hbC | refine pw_below_drewN ?_ _ | refine below_drew ?_)⟩
      · obtain rfl : i = l.length := by omega
        have hSn : S = none := by rw [HT.out.2.2, List.drop_length, scanF]
        have HKK : Aside0 (KeysOk l) := ⟨scan_keys (HS.out.trans hSn)⟩
        have HWO : Aside0 (wfi y0.f3) := ⟨by
          have h1 := (scan_ok _ l 0 0 (HS.out.trans hSn)).1 y0 (List.mem_of_getElem? HD0.out)
          have h2 := HOWN.out
          unfold wfi
          omega⟩
        have HFR := Aside0.mk (HFN.out hSn)
        clear hSn HT HG hlt HFN HF HS hi
        have HN := fun (k : Int) (hw : wfi k) (hi : idxL k 0 l = -1) (W : World) (h : Below w.heap.size w W) => Aside0.mk (find_none hi (some ad0) c W (Kd.C_below HR.out h) HKK.out (by omega) hw)
        have HSM := fun (k : Int) (m : Nat) (hw : wfi k) (hi : idxL k 0 l = m) (W : World) (h : Below w.heap.size w W) => Aside0.mk (find_some hi (some ad0) c W (Kd.C_below HR.out h) HKK.out (by omega) hw)
        have s3 := HK3.out _ hbel
        have hnl : ¬ (l.length : Int) < (l.length : Int) := by omega
        rcases idxL_cases y0.f3 l with ⟨h1, _⟩ | ⟨own, h1, hol, y, hy, hye⟩
        · have HE : Aside0 (wrongF l = (0, 4, 12)) := ⟨by rw [HFR.out, HOWN.out, h1]; rfl⟩
          have H1 := Aside0.mk h1
          clear h1
          go_wp2_with (go_at_call 49; go_must (refine (HN _ HWO.out H1.out _ hbel).out.mono ?_; rintro e w2 ⟨⟨i', rfl⟩, hd⟩))
          rw [Exit.noGoto_ret]
          go_ret3
          exact ⟨ret3 HE.out, below_then hbel hd⟩
        · obtain ⟨E, hE⟩ := ring_ends HKK.out hy (l.length + 1) _ own (way_start hol) (by
            have : zeros (List.replicate l.length 0) ≤ l.length := by
              unfold zeros
              exact Nat.le_trans List.countP_le_length (by simp)
            omega)
          rw [hye] at hE
          have HE : Aside0 (wrongF l = ringEnd l E) := ⟨by rw [HFR.out, HOWN.out, h1, if_neg (by omega), Int.toNat_natCast, hE]⟩
          have H1 := Aside0.mk h1
          have HY := Aside0.mk hy
          have HYE := Aside0.mk hye
          have HRG := Aside0.mk hE
          have HWY : Aside0 (Way l own (List.replicate l.length 0) own) := ⟨way_start hol⟩
          clear h1 hy hye hE HFR
          go_wp2_with (first
            | (go_at_call 49; go_must (refine (HSM _ _ HWO.out H1.out _ hbel).out.mono ?_; rintro e w2 ⟨rfl, hd⟩; have hb2 := below_then hbel hd; clear hd))
            | ((with_reducible refine gate_dst (N := 83) rfl ?_); refine Kd.R_make Kd.bool (w0 := w) w.heap.size 4 rfl (N := 83) rfl 58 _ _ rfl (l.length : Int) rfl rfl Try.underlying58 (.bool false) 1 info4 rfl (by decide) (by omega) false (ok := fun _ => True) (okp := fun _ => True) rfl (fun _ hk => hk) trivial (by omega) (by simp; omega) hb2 hb2.size ?_; intro v10 w3 hO3 hb3 hg3 hat3; have HO3 := Aside0.mk hO3; clear hO3 hg3 hat3))
          obtain ⟨g, cp, eg, hgb, _⟩ := Kd.R_form HO3.out (by simpa using hpos)
          have hO3 := HO3.out
          rw [Int.toNat_natCast, List.length_replicate] at eg
          rw [Int.toNat_natCast] at hO3
          subst eg
          have HO4 := Aside0.mk hO3
          have HGB := Aside0.mk hgb
          clear HO3 hO3 hgb hb2 s3 hbel
          go_step3
          go_wp2
          go_loopg [7] (l.length + 1) (fun gk v7 wr => ∃ (now : Nat) (fr : List Int) (mb : List Bool), v7 = .int .i64 now ∧ Aside0 (Way l own fr now) ∧ Aside0 (ringF l y0.f3 own gk fr now = some E) ∧ Aside0 (mb.set now true = metB own fr ∧ mb.length = l.length) ∧ Aside0 (OB wr w.heap.size (.slice (some ⟨g, 0, none⟩) l.length cp) mb) ∧ Below w.heap.size w wr)
          case atStart => exact ⟨own, List.replicate l.length 0, List.replicate l.length false, rfl, HWY, HRG, ⟨metB_start _ _, by simp⟩, HO4, hb3⟩
          case round =>
            clear HO4 hb3 HRG HWY
            obtain ⟨now, fr, mb, rfl, HWY, HRG, HMB, HO, hbel⟩ := hrel
            cases gk with
            | zero => exact absurd HRG.out (by simp [ringF])
            | succ gf =>
              have hnow := HWY.out.nlt
              obtain ⟨ad', x, hA, hdx, c0, c1, c2, c3⟩ := C_link HR.out now hnow
              obtain rfl : ad0 = ad' := by injection hA
              clear hA
              have HC1 : Aside0 (∀ W, Below w.heap.size w W → W.cell? ⟨(ad0.add (now * 4)).block, (ad0.add (now * 4)).off + 1, none⟩ = some (.int .i64 x.f1)) := ⟨fun W h => pw_cell_below h c1⟩
              have HDX := Aside0.mk hdx
              have hR := HRG.out
              rw [ringF, hdx] at hR
              simp only at hR
              have HWX : Aside0 (wfi x.f1) := ⟨HW.out x (List.mem_of_getElem? hdx)⟩
              obtain ⟨hm0, hm1⟩ := Kd.R_celln false HO.out (now : Int) (by omega) (by omega)
              rw [Int.toNat_natCast] at hm0 hm1
              have HPUT := Aside0.mk (Kd.R_putg HO.out (now : Int) true)
              clear c0 c1 c2 c3 hdx
              rcases idxL_cases x.f1 l with ⟨hi1, _⟩ | ⟨n, hi1, hnl, z, hz, hze⟩
              · have hne : x.f1 ≠ y0.f3 := fun e => by rw [e, H1.out] at hi1; omega
                rw [if_neg hne, if_pos (by omega)] at hR
                simp only [Option.some.injEq] at hR
                have HE2 : Aside0 (wrongF l = ((now : Int), 2, 12)) := ⟨by rw [HE.out, ← hR]; rfl⟩
                have HI1 := Aside0.mk hi1
                clear hR hne hi1
                go_wp2_with (first
                  | ((with_reducible refine gate_store (t := 4) (p := 86) rfl ?_); refine store_event (t := 4) (p := 86) (v := ?vo_w5) (w1 := (wr.setCell ⟨g, now, none⟩ (.bool true))) ?hg ?ho ?hn ?hr ?_; (case ho => rfl); (case hg => rfl); (case hn => rfl); (case hr => first | (go_simp; done) | (go_simp; rfl)); intro w5 hw; have HO5 : Aside0 (OB w5 w.heap.size (.slice (some ⟨g, 0, none⟩) l.length cp) (metB own fr)) := ⟨by rw [hw]; have := HPUT.out.1; rw [Int.toNat_natCast, HMB.out.1] at this; exact this⟩; have hb5 : Below w.heap.size w w5 := (by rw [hw]; exact below_set hbel HGB.out); have c1 := HC1.out _ hb5; clear hw HPUT)
                  | (go_at_call 49; go_must (refine (HN _ HWX.out HI1.out _ hb5).out.mono ?_; rintro e w6 ⟨⟨i', rfl⟩, hd⟩; have hb6 := below_then hb5 hd; clear hd)))
                rw [Exit.noGoto_ret]
                go_ret3
                exact ⟨ret3 HE2.out, hb6⟩
              · by_cases e1 : x.f1 = y0.f3
                · obtain rfl : n = own := by rw [e1, H1.out] at hi1; omega
                  rw [if_pos e1] at hR
                  simp only [Option.some.injEq] at hR
                  have hkx := keys_in HKK.out HDX.out
                  obtain ⟨fin, hfin⟩ : ∃ fin, fin = fr.set n x.f0 := ⟨_, rfl⟩
                  have HE2 : Aside0 (wrongF l = ringEnd l (.inr fin)) := ⟨by rw [HE.out, ← hR, hfin]⟩
                  have HMF : Aside0 (metB n fr = fin.map (fun v => decide (v ≠ 0)) ∧ fin.length = l.length) := ⟨by rw [hfin]; exact ⟨metB_end n fr x.f0 (by omega), by rw [List.length_set]; exact HWY.out.len⟩⟩
                  have HFULL : Aside0 ((∀ v ∈ fin, v ≠ 0) → Full l fin) := ⟨fun h => ring_full HKK.out HY.out (gf + 1) fr now fin HWY.out (by rw [HYE.out, HRG.out, ← hR, hfin]) h⟩
                  have HI1 := Aside0.mk hi1
                  have HMN : Aside0 (rdOf false (metB n fr) (n : Int) = true) := ⟨by rw [metB_at _ _ _ (by rw [HWY.out.len]; exact hnl)]; simp⟩
                  have hoo : ((n : Int) != (n : Int)) = false := bne_self_eq_false _
                  have hoo2 : ((n : Int) == (n : Int)) = true := beq_self_eq_true _
                  clear hR e1 hi1 hz hze hkx hfin
                  cases hzf : zeroF 0 fin with
                  | some j =>
                    have HE3 : Aside0 (wrongF l = ((j : Int), 2, 12)) := ⟨by rw [HE2.out, ringEnd, hzf]⟩
                    have hj0 : (0 : Int) ≤ (j : Int) := by omega
                    have HIX := fun W h h2 => Aside0.mk (index_is fin (by have := HMF.out.2; omega) (r := (j : Int)) (by rw [hzf]) (some ⟨g, 0, none⟩) cp l.length HMF.out.2.symm W h h2)
                    clear hzf
                    go_wp2_with (first
                      | ((with_reducible refine gate_store (t := 4) (p := 86) rfl ?_); refine store_event (t := 4) (p := 86) (v := ?vo_w5) (w1 := (wr.setCell ⟨g, now, none⟩ (.bool true))) ?hg ?ho ?hn ?hr ?_; (case ho => rfl); (case hg => rfl); (case hn => rfl); (case hr => first | (go_simp; done) | (go_simp; rfl)); intro w5 hw; have HO5 : Aside0 (OB w5 w.heap.size (.slice (some ⟨g, 0, none⟩) l.length cp) (metB n fr)) := ⟨by rw [hw]; have := HPUT.out.1; rw [Int.toNat_natCast, HMB.out.1] at this; exact this⟩; have hb5 : Below w.heap.size w w5 := (by rw [hw]; exact below_set hbel HGB.out); have c1 := HC1.out _ hb5; clear hw HPUT)
                      | (go_at_call 49; go_must (refine (HSM _ _ HWX.out HI1.out _ hb5).out.mono ?_; rintro e w6 ⟨rfl, hd⟩; have hb6 := below_then hb5 hd; have HO6 := Aside0.mk (Kd.R_below HO5.out (hd.mono (Nat.le_refl _))); obtain ⟨hq0, _⟩ := Kd.R_celln false HO6.out (n : Int) (by omega) (by omega); rw [HMN.out, Int.toNat_natCast] at hq0; clear hd c1))
                      | (go_at_call 50; go_must (refine (HIX _ (by have := (Kd.R_reads' HO6.out).2.2; rw [HMF.out.1, List.length_map, HMF.out.2] at this; exact this) (Kd.R_reads' HO6.out).2.1).out.mono ?_; rintro e w7 ⟨rfl, hd⟩; have hb7 := below_then hb6 hd; clear hd hq0)))
                    rw [Exit.noGoto_ret]
                    go_ret3
                    exact ⟨ret3 HE3.out, hb7⟩
                  | none =>
                    have HFL : Aside0 (Full l fin) := ⟨HFULL.out ((zero_none fin 0).1 hzf)⟩
                    have HE3 : Aside0 (wrongF l = match priorF 0 l fin with | some i => ((i : Int), 3, 12) | none => (-1, 0, 0)) := ⟨by rw [HE2.out, ringEnd, hzf]; rfl⟩
                    have HIX := fun W h h2 => Aside0.mk (index_is fin (by have := HMF.out.2; omega) (r := (-1 : Int)) (by rw [hzf]) (some ⟨g, 0, none⟩) cp l.length HMF.out.2.symm W h h2)
                    clear hzf
                    go_wp2_with (first
                      | ((with_reducible refine gate_store (t := 4) (p := 86) rfl ?_); refine store_event (t := 4) (p := 86) (v := ?vo_w5) (w1 := (wr.setCell ⟨g, now, none⟩ (.bool true))) ?hg ?ho ?hn ?hr ?_; (case ho => rfl); (case hg => rfl); (case hn => rfl); (case hr => first | (go_simp; done) | (go_simp; rfl)); intro w5 hw; have HO5 : Aside0 (OB w5 w.heap.size (.slice (some ⟨g, 0, none⟩) l.length cp) (metB n fr)) := ⟨by rw [hw]; have := HPUT.out.1; rw [Int.toNat_natCast, HMB.out.1] at this; exact this⟩; have hb5 : Below w.heap.size w w5 := (by rw [hw]; exact below_set hbel HGB.out); have c1 := HC1.out _ hb5; clear hw HPUT)
                      | (go_at_call 49; go_must (refine (HSM _ _ HWX.out HI1.out _ hb5).out.mono ?_; rintro e w6 ⟨rfl, hd⟩; have hb6 := below_then hb5 hd; have HO6 := Aside0.mk (Kd.R_below HO5.out (hd.mono (Nat.le_refl _))); obtain ⟨hq0, _⟩ := Kd.R_celln false HO6.out (n : Int) (by omega) (by omega); rw [HMN.out, Int.toNat_natCast] at hq0; clear hd c1))
                      | (go_at_call 50; go_must (refine (HIX _ (by have := (Kd.R_reads' HO6.out).2.2; rw [HMF.out.1, List.length_map, HMF.out.2] at this; exact this) (Kd.R_reads' HO6.out).2.1).out.mono ?_; rintro e w7 ⟨rfl, hd⟩; have hb7 := below_then hb6 hd; clear hd hq0))
                      | ((with_reducible refine gate_dst (N := 124) rfl ?_); refine Kd.R_make (Kd.int .i64) (w0 := w) w.heap.size 3 rfl (N := 124) rfl 22 _ _ rfl (l.length : Int) rfl rfl Try.underlying22 (.int .i64 0) 8 info3 rfl (by decide) (by omega) 0 (ok := fun _ => True) (okp := fun _ => True) rfl (fun _ hk => hk) trivial (by omega) (by simp; omega) hb7 hb7.size ?_; intro v14 w8 hO8 hb8 hg8 hat8; have HO8 := Aside0.mk hO8; clear hO8 hg8 hat8))
                    obtain ⟨g2, cp2, eg, hgb, _⟩ := Kd.R_form HO8.out (by simpa using hpos)
                    have hO8 := HO8.out
                    rw [Int.toNat_natCast, List.length_replicate] at eg
                    rw [Int.toNat_natCast] at hO8
                    subst eg
                    have HO9 := Aside0.mk hO8
                    have HGB2 := Aside0.mk hgb
                    clear HO8 hO8 hgb
                    go_loopg [127] l.length (fun gk v127 wr => ∃ (i : Nat) (pr : List Int), gk = l.length - i ∧ i ≤ l.length ∧ v127 = .int .i64 i ∧ Aside0 (Laid l fin i pr) ∧ Aside0 (OI wr w.heap.size (.slice (some ⟨g2, 0, none⟩) l.length cp2) pr) ∧ Below w.heap.size w wr)
                    case atStart => exact ⟨0, List.replicate l.length 0, rfl, Nat.zero_le _, rfl, ⟨laid_start HFL.out⟩, HO9, hb8⟩
                    case round =>
                      clear HO9 hb8 hb7 hb5 hb6
                      obtain ⟨i, pr, hg, hi, rfl, HLD, HOP, hbel2⟩ := hrel
                      have HG := Aside0.mk hg
                      clear hg
                      by_cases hlt : i < l.length
                      · obtain ⟨ad', x2, hA, hdx, c0, c1, c2, c3⟩ := C_link HR.out i hlt
                        obtain rfl : ad0 = ad' := by injection hA
                        clear hA
                        replace c0 := pw_cell_below hbel2 c0
                        replace c1 := pw_cell_below hbel2 c1
                        replace c2 := pw_cell_below hbel2 c2
                        replace c3 := pw_cell_below hbel2 c3
                        obtain ⟨n2, hn1, hn2, hn3⟩ := HFL.out.next i x2 hdx
                        have HN1 := Aside0.mk hn1
                        have HWX2 : Aside0 (wfi x2.f1) := ⟨HW.out x2 (List.mem_of_getElem? hdx)⟩
                        have HLD2 := Aside0.mk (laid_step HLD.out hdx hn1 hn3)
                        have hbC := below_alloc hbel2 (.cells #[.int .i64 x2.f0, .int .i64 x2.f1, .int .i64 x2.f2, .int .i64 x2.f3] 31)
                        have HB0 : Aside0 (∀ W : World, Below (wr.alloc (.cells #[.int .i64 x2.f0, .int .i64 x2.f1, .int .i64 x2.f2, .int .i64 x2.f3] 31)).heap.size (wr.alloc (.cells #[.int .i64 x2.f0, .int .i64 x2.f1, .int .i64 x2.f2, .int .i64 x2.f3] 31)) W → W.cell? ⟨wr.heap.size, 0, none⟩ = some (.int .i64 x2.f0)) := ⟨fun W h => pw_cell_below h (by rw [World.cell?_alloc_new]; rfl)⟩
                        have HOC := Aside0.mk (Kd.R_alloc HOP.out (.cells #[.int .i64 x2.f0, .int .i64 x2.f1, .int .i64 x2.f2, .int .i64 x2.f3] 31))
                        clear hdx hn1 hn3
                        go_wp2_with (first
                          | (go_at_call 49; go_must (refine (HSM _ _ HWX2.out HN1.out _ hbC).out.mono ?_; rintro e w9 ⟨rfl, hd⟩; have hb9 := below_then hbC hd; have b0 := HB0.out _ hd; have HO9 := Aside0.mk (Kd.R_below HOC.out hd); obtain ⟨hq0, hq1⟩ := Kd.R_celln 0 HO9.out (n2 : Int) (by omega) (by omega); rw [Int.toNat_natCast] at hq0 hq1; have HPUT2 := Aside0.mk (Kd.R_putg HO9.out (n2 : Int) x2.f0); clear hd))
                          | ((with_reducible refine gate_store (t := 3) (p := 142) rfl ?_); refine store_event (t := 3) (p := 142) (v := ?vo_w10) (w1 := (w9.setCell ⟨g2, n2, none⟩ (.int .i64 x2.f0))) ?hg ?ho ?hn ?hr ?_; (case ho => rfl); (case hg => rfl); (case hn => rfl); (case hr => first | (go_simp; done) | (go_simp; rfl)); intro w10 hw; have HO10 : Aside0 (OI w10 w.heap.size (.slice (some ⟨g2, 0, none⟩) l.length cp2) (pr.set n2 x2.f0)) := ⟨by rw [hw]; have := HPUT2.out.1; rw [Int.toNat_natCast] at this; exact this⟩; have hb10 : Below w.heap.size w w10 := (by rw [hw]; exact below_set hb9 HGB2.out); clear hw HPUT2))
                        go_roundg (l.length - (i + 1))
                        case measure => have := HG.out; omega
                        case rel => exact ⟨i + 1, pr.set n2 x2.f0, rfl, by omega, by go_num, HLD2, HO10, hb10⟩
                      · obtain rfl : i = l.length := by omega
                        obtain rfl := laid_end HLD.out HFL.out
                        go_wp2
                        have HP0 : Aside0 (priorF 0 l pr = priorF 0 (l.drop 0) (pr.drop 0)) := ⟨rfl⟩
                        clear hlt HG hi
                        obtain ⟨wo, hwo⟩ : ∃ wo : World, wo = wr := ⟨_, rfl⟩
                        go_loopg [146] l.length (fun gk v146 wr => ∃ (i : Nat), gk = l.length - i ∧ i ≤ l.length ∧ v146 = .int .i64 i ∧ Aside0 (priorF 0 l pr = priorF i (l.drop i) (pr.drop i)) ∧ Aside0 (OI wr w.heap.size (.slice (some ⟨g2, 0, none⟩) l.length cp2) pr) ∧ Below w.heap.size w wr)
                        case atStart => exact ⟨0, rfl, Nat.zero_le _, rfl, HP0, HOP, hbel2⟩
                        case round =>
                          clear hbel2 HOP HP0
                          obtain ⟨i, hg, hi, rfl, HPR, HOP, hbel3⟩ := hrel
                          have HG := Aside0.mk hg
                          clear hg
                          by_cases hlt : i < l.length
                          · obtain ⟨ad', x2, hA, hdx, c0, c1, c2, c3⟩ := C_link HR.out i hlt
                            obtain rfl : ad0 = ad' := by injection hA
                            clear hA
                            replace c0 := pw_cell_below hbel3 c0
                            replace c1 := pw_cell_below hbel3 c1
                            replace c2 := pw_cell_below hbel3 c2
                            replace c3 := pw_cell_below hbel3 c3
                            have hpl : i < pr.length := by rw [HFL.out.len]; exact hlt
                            have hdrop : l.drop i = x2 :: l.drop (i + 1) := by
                              obtain ⟨q1, q2⟩ := List.getElem?_eq_some_iff.1 hdx
                              rw [List.drop_eq_getElem_cons q1, q2]
                            have hbC := below_alloc hbel3 (.cells #[.int .i64 x2.f0, .int .i64 x2.f1, .int .i64 x2.f2, .int .i64 x2.f3] 31)
                            have HOC := Aside0.mk (Kd.R_alloc HOP.out (.cells #[.int .i64 x2.f0, .int .i64 x2.f1, .int .i64 x2.f2, .int .i64 x2.f3] 31))
                            obtain ⟨hq0, _⟩ := Kd.R_celln 0 HOC.out (i : Int) (by omega) (by omega)
                            rw [Int.toNat_natCast, show rdOf 0 pr (i : Int) = pr[i] by simp [rdOf, List.getD_eq_getElem?_getD, List.getElem?_eq_getElem hpl]] at hq0
                            have hb2 : (wr.alloc (.cells #[.int .i64 x2.f0, .int .i64 x2.f1, .int .i64 x2.f2, .int .i64 x2.f3] 31)).cell? ⟨wr.heap.size, 2, none⟩ = some (.int .i64 x2.f2) := by rw [World.cell?_alloc_new]; rfl
                            by_cases hpe : x2.f2 = pr[i]
                            · have HPN : Aside0 (priorF 0 l pr = priorF (i + 1) (l.drop (i + 1)) (pr.drop (i + 1))) := ⟨by rw [HPR.out, hdrop, List.drop_eq_getElem_cons hpl, priorF, if_pos hpe]⟩
                              have hpb : (x2.f2 != pr[i]) = false := by simpa using hpe
                              clear hpe hdrop hdx
                              generalize pr[i] = vv at hq0 hpb
                              go_wp2
                              go_quiet (fail)
                              go_wp2
                              go_roundg (l.length - (i + 1))
                              case measure => have := HG.out; omega
                              case rel => exact ⟨i + 1, rfl, by omega, by go_num, HPN, ⟨by repeat (first | exact HOC.out | refine Kd.R_drewN ?_ _)⟩, by repeat (first | exact hbC | refine pw_below_drewN ?_ _)⟩
                            · have HE4 : Aside0 (wrongF l = ((i : Int), 3, 12)) := ⟨by rw [HE3.out, HPR.out, hdrop, List.drop_eq_getElem_cons hpl, priorF, if_neg hpe]⟩
                              have hpb : (x2.f2 != pr[i]) = true := bne_iff_ne.2 hpe
                              clear hpe hdrop hdx
                              generalize pr[i] = vv at hq0 hpb
                              go_wp2
                              go_quiet (fail)
                              go_wp2
                              rw [Exit.noGoto_ret]
                              go_ret3
                              exact ⟨ret3 HE4.out, by repeat (first | exact hbC | refine pw_below_drewN ?_ _)⟩
                          · have HE4 : Aside0 (wrongF l = (-1, 0, 0)) := ⟨by rw [HE3.out, HPR.out, List.drop_eq_nil_of_le (by omega)]; rfl⟩
                            go_wp2
                            rw [Exit.noGoto_ret]
                            go_ret3
                            exact ⟨ret3 HE4.out, hbel3⟩
                · have HI1 := Aside0.mk hi1
                  rw [if_neg e1, if_neg (by omega), hi1, Int.toNat_natCast] at hR
                  have hno : n ≠ own := fun e => by
                    subst e
                    rw [HY.out] at hz
                    injection hz with hz
                    subst hz
                    exact e1 (hze.symm.trans HYE.out)
                  have HNO := Aside0.mk hno
                  have HE1 := Aside0.mk e1
                  have HMA := Aside0.mk (metB_at own n fr (by rw [HWY.out.len]; exact hnl))
                  have hoo : ((n : Int) != (own : Int)) = true := bne_iff_ne.2 (by omega)
                  have hoo2 : ((n : Int) == (own : Int)) = false := beq_eq_false_iff_ne.2 (by omega)
                  clear hi1 e1 hz hze hno
                  by_cases hfz : fr.getD n 0 = 0
                  · rw [if_neg (fun h => h hfz)] at hR
                    have HMN : Aside0 (rdOf false (metB own fr) (n : Int) = false) := ⟨by rw [HMA.out, hfz, decide_eq_false HNO.out]; rfl⟩
                    have HR2 := Aside0.mk hR
                    have hkx := keys_in HKK.out HDX.out
                    have HST := Aside0.mk (way_step HKK.out HWY.out HDX.out HY.out HI1.out (by rw [HYE.out]; exact HE1.out) hfz)
                    have HMS := Aside0.mk (metB_step own n fr x.f0 (by omega) HNO.out)
                    clear hR hfz hkx
                    go_wp2_with (first
                      | ((with_reducible refine gate_store (t := 4) (p := 86) rfl ?_); refine store_event (t := 4) (p := 86) (v := ?vo_w5) (w1 := (wr.setCell ⟨g, now, none⟩ (.bool true))) ?hg ?ho ?hn ?hr ?_; (case ho => rfl); (case hg => rfl); (case hn => rfl); (case hr => first | (go_simp; done) | (go_simp; rfl)); intro w5 hw; have HO5 : Aside0 (OB w5 w.heap.size (.slice (some ⟨g, 0, none⟩) l.length cp) (metB own fr)) := ⟨by rw [hw]; have := HPUT.out.1; rw [Int.toNat_natCast, HMB.out.1] at this; exact this⟩; have hb5 : Below w.heap.size w w5 := (by rw [hw]; exact below_set hbel HGB.out); have c1 := HC1.out _ hb5; clear hw HPUT)
                      | (go_at_call 49; go_must (refine (HSM _ _ HWX.out HI1.out _ hb5).out.mono ?_; rintro e w6 ⟨rfl, hd⟩; have hb6 := below_then hb5 hd; have HO6 := Aside0.mk (Kd.R_below HO5.out (hd.mono (Nat.le_refl _))); obtain ⟨hq0, _⟩ := Kd.R_celln false HO6.out (n : Int) (by omega) (by omega); rw [HMN.out, Int.toNat_natCast] at hq0; clear hd c1)))
                    go_roundg gf
                    case measure => omega
                    case rel => exact ⟨n, fr.set n x.f0, metB own fr, rfl, ⟨HST.out.1⟩, HR2, ⟨HMS.out, by rw [metB_len]; exact HWY.out.len⟩, HO6, hb6⟩
                  · rw [if_pos hfz] at hR
                    simp only [Option.some.injEq] at hR
                    have HE2 : Aside0 (wrongF l = ((now : Int), 2, 12)) := ⟨by rw [HE.out, ← hR]; rfl⟩
                    have HMN : Aside0 (rdOf false (metB own fr) (n : Int) = true) := ⟨by rw [HMA.out, decide_eq_true hfz]; simp⟩
                    clear hR hfz
                    go_wp2_with (first
                      | ((with_reducible refine gate_store (t := 4) (p := 86) rfl ?_); refine store_event (t := 4) (p := 86) (v := ?vo_w5) (w1 := (wr.setCell ⟨g, now, none⟩ (.bool true))) ?hg ?ho ?hn ?hr ?_; (case ho => rfl); (case hg => rfl); (case hn => rfl); (case hr => first | (go_simp; done) | (go_simp; rfl)); intro w5 hw; have HO5 : Aside0 (OB w5 w.heap.size (.slice (some ⟨g, 0, none⟩) l.length cp) (metB own fr)) := ⟨by rw [hw]; have := HPUT.out.1; rw [Int.toNat_natCast, HMB.out.1] at this; exact this⟩; have hb5 : Below w.heap.size w w5 := (by rw [hw]; exact below_set hbel HGB.out); have c1 := HC1.out _ hb5; clear hw HPUT)
                      | (go_at_call 49; go_must (refine (HSM _ _ HWX.out HI1.out _ hb5).out.mono ?_; rintro e w6 ⟨rfl, hd⟩; have hb6 := below_then hb5 hd; have HO6 := Aside0.mk (Kd.R_below HO5.out (hd.mono (Nat.le_refl _))); obtain ⟨hq0, _⟩ := Kd.R_celln false HO6.out (n : Int) (by omega) (by omega); rw [HMN.out, Int.toNat_natCast] at hq0; clear hd c1)))
                    rw [Exit.noGoto_ret]
                    go_ret3
                    exact ⟨ret3 HE2.out, hb6⟩

end Go.Proofs.Ytilenkodmmpofaa.K

set_option linter.unusedVariables false
set_option linter.unusedSimpArgs false
namespace Go.Proofs.Ytilenkodmmpofaa.K
open Go.RowKit Go.Shelf Go.Proofs.YtilenkodmmpofaaW.PrintWords Go.Maps PC
attribute [local go_sem] Oper.semAt_some

def validL (l : List S31) : Bool := (wrongF l).2.2 == 0
theorem valid_is {l : List S31} {b : Bool} (h : validL l = b) (A : Option Addr) (c : Nat) (w : World) (hl : l.length ≤ 130) (hr : Kd.C k31 w A l.length l) (hw : ∀ x ∈ l, wfi x.f1) :
    Calls Try.prog 14 #[.slice A l.length c] w fun e w' => e = .returned (.bool b) ∧ Below w.heap.size w w' := by
  subst h
  have HC := Aside0.mk (Wrong_calls A c l w hl hr hw)
  unfold validL
  generalize wrongF l = F at HC
  obtain ⟨x, y, z⟩ := F
  clear hr hw
  go_enter Try.func14, Try.ntmps14
  go_wp2_with (go_at_call 12; go_must (refine HC.out.mono ?_; rintro e w2 ⟨rfl, hd⟩))
  go_ret
  exact ⟨rfl, hd⟩
theorem C_int {w : World} {A : Option Addr} {n : Nat} {xs : List Int} (h : Kd.C (Kd.int .i64) w A n xs) (i : Nat) (h1 : i < n) :
    ∃ ad x, A = some ad ∧ xs.drop i = x :: xs.drop (i + 1) ∧ w.cell? (ad.add i) = some (.int .i64 x) := by
  obtain ⟨ad, c, e, _, hK, hc0⟩ := Kd.C_get h (0 : Int) i (by omega) (by omega)
  have hn : xs.length = n := h.1
  have e1 : xs.getD ((i : Int).toNat) 0 = xs[i]'(by omega) := by simp [List.getD_eq_getElem?_getD, List.getElem?_eq_getElem (show i < xs.length by omega)]
  rw [e1] at hK
  have hK' : c = [.int .i64 (xs[i]'(by omega))] := hK
  rw [hK'] at hc0
  exact ⟨ad, xs[i]'(by omega), e, List.drop_eq_getElem_cons (by omega), by
    have := hc0 0 _ rfl
    simpa [Kd.int, Kd.scalar] using this⟩
theorem Values_calls (A : Option Addr) (len c : Nat) (w : World) :
    Calls Try.prog 77 #[.slice A len c] w fun e w' => e = .returned (.func (.func 87) #[] #[.pointer (some ⟨w.heap.size, 0, none⟩)]) ∧ w' = w.alloc (.cells #[.slice A len c] 22) := by
  go_enter Try.func77, Try.ntmps77
  go_wp2
  go_ret
  exact ⟨rfl, rfl⟩
set_option maxRecDepth 100000 in
set_option maxHeartbeats 2000000 in
theorem values1_in (F : Fence) (n : Nat) (h7 : F.fn 87) (hro : F.round = none) (hn : 1 ≤ n) (lp Bs : Nat) (A : Option Addr) (c : Nat) (l : List Int) (w0 : World) (hr : Kd.C (Kd.int .i64) w0 A l.length l) (J Jx : List Int → World → Prop)
    (hY : ∀ pre x W, J pre W → pre.length < l.length → YieldAt F (n - 1) Try.prog lp #[.int .i64 x] W fun e W' =>
      (e = .returned (.bool true) ∧ J (pre ++ [x]) W' ∧ Below w0.heap.size W W') ∨ (e = .returned (.bool false) ∧ Jx (pre ++ [x]) W'))
    (W : World) (hW : Below w0.heap.size w0 W) (hBs : W.cell? ⟨Bs, 0, none⟩ = some (.slice A l.length c)) (h0 : J [] W) :
    CallsIn F n Try.prog 87 #[.func (.yield lp) #[] #[], .pointer (some ⟨Bs, 0, none⟩)] W fun e W' => (∃ v, e = .returned v) ∧
      ((∃ ys, ys = l ∧ J ys W') ∨ (∃ pre, pre <+: l ∧ Jx pre W')) := by
  have HR := Aside0.mk hr
  have hm := (C_len hr).2
  clear hr
  refine callsIn_of_wp Try.func87 rfl h7 ?_ hro
  simp only [Try.ntmps87, List.size_toArray, List.length_cons, List.length_nil, Nat.reduceAdd, Nat.reduceSub, Array.replicate_succ, Array.replicate_zero, List.push_toArray, List.append_toArray, List.nil_append, List.cons_append]
  gi_wp2
  gi_loopw [7] (fun i wr => ∃ (k : Nat) (pre : List Int), k ≤ l.length ∧ i = .int .i64 k ∧ Aside0 (l = pre ++ l.drop k) ∧ Aside0 (pre.length = k) ∧ J pre wr ∧ Below w0.heap.size w0 wr) (fun i _ => l.length - (intOf i).toNat)
  case atStart => exact ⟨0, [], Nat.zero_le _, rfl, ⟨rfl⟩, ⟨rfl⟩, h0, hW⟩
  case round =>
    obtain ⟨k, pre, hk, rfl, HP, HPL, hJ, hbel⟩ := hrel
    by_cases hlt : k < l.length
    · obtain ⟨ad, x, hA, hdrop, hcell⟩ := C_int HR.out k hlt
      subst hA
      replace hcell := pw_cell_below hbel hcell
      have HD := Aside0.mk hdrop
      clear hdrop
      have hpl : pre.length < l.length := by have := HPL.out; omega
      obtain ⟨fn, tmps, assign, body, hy, hR⟩ := hY pre x wr hJ hpl
      clear hpl
      gi_wp2
      refine hR.mono ?_
      rintro e W3 (⟨rfl, hJ3, hk3⟩ | ⟨rfl, hJx3⟩)
      · gi_wp2
        go_roundw
        case rel => exact ⟨k + 1, pre ++ [x], by omega, by go_num, ⟨by rw [List.append_assoc, List.singleton_append, ← HD.out]; exact HP.out⟩, ⟨by have := HPL.out; simp; omega⟩, hJ3, hbel.trans hk3⟩
        case measure => simp [intOf]; omega
      · gi_wp2
        refine bodyPost_ret (results_none rfl _ _ _) rfl ?_
        exact ⟨⟨_, rfl⟩, .inr ⟨_, ⟨l.drop (k + 1), by rw [List.append_assoc, List.singleton_append, ← HD.out]; exact HP.out.symm⟩, hJx3⟩⟩
    · gi_wp2
      go_end0
      exact ⟨⟨_, rfl⟩, .inl ⟨pre, by rw [HP.out, List.drop_eq_nil_of_le (by omega), List.append_nil], hJ⟩⟩
theorem values_stops (F : Fence) (n : Nat) (h7 : F.fn 87) (hro : F.round = none) (hn : 1 ≤ n) (Bs : Nat) (A : Option Addr) (c : Nat) (l : List Int) (w0 w : World) (hr : Kd.C (Kd.int .i64) w0 A l.length l)
    (hB : Below w0.heap.size w0 w) (hBs : Bs < w.heap.size) (hc : w.cell? ⟨Bs, 0, none⟩ = some (.slice A l.length c)) :
    SeqStopsK F n Try.prog 87 #[.pointer (some ⟨Bs, 0, none⟩)] (fun x : Int => #[.int .i64 x]) (Below w0.heap.size) (fun ys => ys = l) (fun pre => pre <+: l) l.length w := fun lp J Jx W hW _ _ hY h0 =>
  values1_in F n h7 hro hn lp Bs A c l w0 hr J Jx hY W (hB.trans (hW.mono hB.size)) ((hW.cell (p := ⟨Bs, 0, none⟩) hBs).trans hc) h0
end Go.Proofs.Ytilenkodmmpofaa.K

set_option linter.unusedVariables false
set_option linter.unusedSimpArgs false
namespace Go.Proofs.Ytilenkodmmpofaa.K
open Go.RowKit Go.Shelf Go.Proofs.YtilenkodmmpofaaW.PrintWords Go.Maps PC
attribute [local go_sem] Oper.semAt_some

abbrev ints (xs : List Int) : List Value := xs.map (Value.int .i64)
/-- What an iterator over whole numbers gives, in a world: whatever is done with them, so it leaves alone what lay below a mark. -/
abbrev Gives (g : FuncId) (lb : Array Value) (n0 : Nat) (xs : List Int) (W : World) : Prop :=
  SeqStopsK Fence.wide 8 Try.prog g lb (fun x : Int => #[.int .i64 x]) (Below n0) (fun ys => ys = xs) (fun pre => pre <+: xs) xs.length W
set_option maxRecDepth 100000 in
set_option maxHeartbeats 2000000 in
theorem appendSeq_in (g : FuncId) (lb : Array Value) (eg : ∀ args w, (callFunc g args).run Try.prog w = .ok (.enter g args) w) (xs : List Int) (hx : xs.length ≤ 1000) (w : World)
    (hst : Gives g lb w.heap.size xs (w.alloc (.cells #[.slice none 0 0] 22))) :
    Calls Try.prog 79 #[.slice none 0 0, .func (.func g) #[] lb] w fun e w' => ∃ v, e = .returned v ∧ OI w' w.heap.size v xs ∧ Below w.heap.size w w' := by
  obtain ⟨i0, hi, hz0, hz1, hz2⟩ := info_parts info3
  refine (callsIn_wide (n := 9)).1 ?_
  refine callsIn_of_wp_marks Try.func79 rfl trivial ?_ rfl
  simp only [Try.ntmps79, List.size_toArray, List.length_cons, List.length_nil, Nat.reduceAdd, Nat.reduceSub, Array.replicate_succ, Array.replicate_zero, List.push_toArray, List.append_toArray, List.nil_append, List.cons_append]
  have hb0 := Boxed.new w 22 (.slice none 0 0)
  have hB0 : Below w.heap.size w (w.alloc (.cells #[.slice none 0 0] 22)) := (Below.refl _ w).alloc (Nat.le_refl _) _
  have hs0 : (w.alloc (.cells #[.slice none 0 0] 22)).heap.size = w.heap.size + 1 := by simp
  gi_wp2
  obtain ⟨W0, hW0⟩ : ∃ W0, w.alloc (.cells #[.slice none 0 0] 22) = W0 := ⟨_, rfl⟩
  rw [hW0] at hb0 hB0 hs0 hst ⊢
  clear hW0
  refine wpIn_rangeFunc_ownH (F := Fence.wide) (n := 9) rfl (by decide) (gf := g) (lb := lb) rfl trivial eg
    hst belowK_t (belowK_b (by omega)) (Below.refl _ _) (fun _ => rfl)
    (fun pre W => (∃ v, Boxed W w.heap.size 22 v ∧ W.ownsRow w.heap.size 3 1 v pre.length (ints pre) ∧ True) ∧ Below w.heap.size w W)
    (fun c pre W => False)
    (OwnFrom.and (Own.from (holdsRow_own w.heap.size w.heap.size 22 3 1 (fun pre : List Int => pre.length) (fun pre => ints pre) (fun _ _ => True)) _) (ownFrom_below (Nat.le_refl _) (by omega)))
    (fun c => fun _ _ _ _ h _ _ => h.elim)
    ⟨⟨_, hb0, ⟨rfl, .inl ⟨rfl, rfl⟩⟩, trivial⟩, hB0⟩
    (fun x a' W => a' = { tmps := #[.slice none 0 0, .func (.func g) #[] lb, .pointer (some ⟨w.heap.size, 0, none⟩), undef, .slice none 0 0, .int .i64 x, .func (.func g) #[] lb, .int .i64 x, undef, undef, undef, undef, undef], defers := [] })
    (fun x a' _ X Y row hs hg hr => hs)
    ?assign ?body ?done ?stop
  case assign =>
    rintro lp pre x W K hI hK
    gi_wp2
    exact hK _ _ (KeepsFrom.refl _ _) (Below.refl _ _) hI rfl
  case body =>
    rintro lp pre x a' W hl _ ⟨⟨v, hbx, hrow, _⟩, hB⟩ rfl hlt
    have hcb := hbx.cell
    have hfz := hbx.frozen
    have hBs := hB.size
    have hpl : pre.length < 1000 := by omega
    have HBX := Aside0.mk hbx
    have HROW := Aside0.mk hrow
    clear hbx hrow
    gi_wp2_with (first
      | (gi_at_builtin; refine wpListIn_append_own _ rfl _ _ 22 rfl w.heap.size 3 i0 (.int .i64 0) 1 8 Try.underlying22 hi hz0 hz1 hz2 rfl (by decide) _ _ _ rfl (HROW.out.alloc _) ⟨W.heap.size, 0, none⟩ 1 1 [.int .i64 x] rfl rfl (cell_one_new _ _ _) (by simp [Value.oneCell']) (by unfold maxLen; omega) (by omega) (by simp; omega) ?_; intro v' w3 hown' hg3 hnil3; obtain ⟨g', cap', ev⟩ := ownsRow_succ hown'; have HAP := Aside0.mk (HBX.out.appended (by decide) HROW.out hBs (Nat.le_refl _) hown' hg3); subst ev; have hc3 := HAP.out.1.cell; have hf3 := HAP.out.1.frozen; have HOW := Aside0.mk hown'; clear hown' hg3 hnil3))
    obtain ⟨_, h2, h3, h4, h5⟩ := HAP.out
    exact ⟨h4.from _, h5, ⟨_, h2, by simpa [ints] using h3, trivial⟩, hB.trans h5⟩
  case done =>
    rintro D ys W hD rfl ⟨⟨v, hbx, hrow, _⟩, hB⟩ hK
    have hcb := hbx.cell
    gi_wp2
    refine ⟨by simp, .inl ⟨_, _, rfl, run_takeDeferred hK, ?_⟩⟩
    refine ⟨v, by simp [results, Try.f79, go_sem], v, rfl, ?_, hB.trans (belowK_b (w := w) (Nat.le_refl _) _ D _ _ (by omega) hK rfl rfl)⟩
    exact Kd.R_of_own (enc := Value.int .i64) (h1 := fun _ => rfl) (ownsRow_putObj hrow _ hK rfl) (fun _ _ => trivial)
  case stop =>
    rintro D c pre W hD hpre h
    exact h.elim
theorem collect_in (g : FuncId) (lb : Array Value) (eg : ∀ args w, (callFunc g args).run Try.prog w = .ok (.enter g args) w) (xs : List Int) (hx : xs.length ≤ 1000) (w : World)
    (hst : Gives g lb w.heap.size xs (w.alloc (.cells #[.slice none 0 0] 22))) :
    Calls Try.prog 55 #[.func (.func g) #[] lb] w fun e w' => ∃ v, e = .returned v ∧ OI w' w.heap.size v xs ∧ Below w.heap.size w w' := by
  have HC := Aside0.mk (appendSeq_in g lb eg xs hx w hst)
  clear hst
  go_enter Try.func55, Try.ntmps55
  go_wp2_with (go_at_call 79; go_must (refine HC.out.mono ?_; rintro e w2 ⟨v, rfl, hO, hd⟩; have HO := Aside0.mk hO; clear hO))
  go_ret
  exact ⟨v, rfl, HO.out, hd⟩
end Go.Proofs.Ytilenkodmmpofaa.K

set_option linter.unusedVariables false
set_option linter.unusedSimpArgs false
namespace Go.Proofs.Ytilenkodmmpofaa.K
open Go.RowKit Go.Shelf Go.Sort Go.Proofs.YtilenkodmmpofaaW.PrintWords Go.Maps PC

def sortI (xs : List Int) : List Int := xs.mergeSort fun x y => decide (x ≤ y)
theorem sortI_len (xs : List Int) : (sortI xs).length = xs.length := by simp [sortI]
theorem sort_own {w : World} {base : Nat} {v : Value} {xs : List Int} (h : OI w base v xs) (hl : xs.length ≤ 1000) :
    Calls Try.prog 72 #[v] w fun e w' => e = .returned (.tuple #[]) ∧ OI w' base v (sortI xs) ∧ Below base w w' := by
  have ho := Kd.own_of_R (enc := Value.int .i64) (h1 := fun _ => rfl) h
  rcases ho.2 with ⟨rfl, hz⟩ | ⟨g, cap, cur, rfl, hb, hg, r1, r2, r3, r4⟩
  · have hx : xs = [] := List.eq_nil_of_length_eq_zero hz
    subst hx
    refine (Try.slices_Sort_int_none none 0 w).mono ?_
    rintro e w' ⟨rfl, rfl⟩
    exact ⟨rfl, by rw [show sortI [] = [] by simp [sortI]]; exact h, Below.refl _ _⟩
  · have hH : Holds (Value.int .i64) w g 0 xs.toArray := holds_of_blockI hg (by rw [Nat.mul_one] at r4; exact r4)
    have hgl : g < w.heap.size := (Array.getElem?_eq_some_iff.1 hg).1
    refine (Try.slices_Sort_int g 0 cap xs w hH hgl (by omega)).mono ?_
    rintro e w' ⟨rfl, n, os, rfl⟩
    have hl2 : (sortI xs).length = xs.length := sortI_len xs
    refine ⟨rfl, ?_, (Below.refl base w).grown (grownBy_sortedI _) (by have := h; omega) (fun k e => by cases e; exact hb)⟩
    have := ownsRow_sortedI (n := n) (os := os) hl2 hb hg r1 r2 r3
    refine Kd.R_of_own (enc := Value.int .i64) (h1 := fun _ => rfl) ?_ (fun _ _ => trivial)
    rw [hl2]
    exact this
theorem sorted_in (g : FuncId) (lb : Array Value) (eg : ∀ args w, (callFunc g args).run Try.prog w = .ok (.enter g args) w) (xs : List Int) (hx : xs.length ≤ 1000) (w : World)
    (hst : Gives g lb w.heap.size xs (w.alloc (.cells #[.slice none 0 0] 22))) :
    Calls Try.prog 76 #[.func (.func g) #[] lb] w fun e w' => ∃ v, e = .returned v ∧ OI w' w.heap.size v (sortI xs) ∧ Below w.heap.size w w' := by
  have HC := Aside0.mk (collect_in g lb eg xs hx w hst)
  clear hst
  go_enter Try.func76, Try.ntmps76
  go_wp2_with (first
    | (go_at_call 55; go_must (refine HC.out.mono ?_; rintro e w2 ⟨v, rfl, hO, hd⟩; have HO := Aside0.mk hO; clear hO))
    | (go_at_call 72; go_must (refine (sort_own HO.out hx).mono ?_; rintro e w3 ⟨rfl, hO3, hd3⟩; have HO3 := Aside0.mk hO3; clear hO3)))
  go_ret
  exact ⟨v, rfl, HO3.out, hd.trans hd3⟩
end Go.Proofs.Ytilenkodmmpofaa.K

set_option linter.unusedVariables false
set_option linter.unusedSimpArgs false
namespace Go.Proofs.Ytilenkodmmpofaa.K
open Go.RowKit Go.Proofs.YtilenkodmmpofaaW.PrintWords Go.Maps
section
variable {P : Program} {ops : Array Oper} {Q : Exit → Act → World → Prop} {md : Region.Mode} {S : World → Prop} {n : Nat}

/-- Whatever order is picked from here on; S holds behind every operation ahead of number n. -/
def wpAnyG (P : Program) (md : Region.Mode) (ops : Array Oper) (n : Nat) (Q : Exit → Act → World → Prop) (S : World → Prop) : Nat → Array Bool → Act → World → Prop
  | 0, listed, a, w => Region.ready md ops listed = [] ∧ Q .normal a w
  | fuel + 1, listed, a, w =>
    (Region.ready md ops listed = [] → Q .normal a w) ∧
    ∀ i ∈ Region.ready md ops listed, wpOp P ops Q i (fun a' w' => (S w' ∨ n ≤ i) ∧ wpAnyG P md ops n Q S fuel (listed.setIfInBounds i true) a' w') a w
theorem wpAny_of_heldG : ∀ (fuel : Nat) (listed : Array Bool) (a : Act) (w : World), wpAnyG P md ops n Q S fuel listed a w → wpAny P md ops Q fuel listed a w
  | 0, _, _, _, h => h
  | fuel + 1, _, _, _, h => ⟨h.1, fun i hi => wpOp_mono (fun a' w' h' => wpAny_of_heldG fuel _ a' w' h'.2) (h.2 i hi)⟩
theorem wpAnyG_first {i : Nat} {oi : Oper} {v : Value} (hi : ops[i]? = some oi) (hsel : ∀ (j : Nat) (o : Oper) cs b, ops[j]? = some o → o.op ≠ .select cs b)
    (hs : Region.sinkB md ops n = true) (hc : Region.chainB md ops n = true) (hn : n < ops.size) (hin : i < n)
    (hQ : ∀ c a w, Q (.panic c) (a.put oi.dst v) w → Q (.panic c) a w) :
    ∀ (fuel : Nat) (listed : Array Bool) (a : Act) (w : World), HeadInv md ops n listed →
      (∀ j oj, ops[j]? = some oj → j ≠ i → listed.getD j true = false → (∀ e ∈ oj.after, Region.binds md e = true → e.on ≠ i) → oi.apart ops oj = true) →
      i ∈ Region.ready md ops listed → YieldsIf P ops S oi v a → S w →
      wpAnyG P md ops n Q S fuel (listed.setIfInBounds i true) (a.put oi.dst v) w → wpAnyG P md ops n Q S (fuel + 1) listed a w := by
  intro fuel
  induction fuel with
  | zero =>
    intro listed a w inv _ hr hy hS H
    refine ⟨fun h => (by rw [h] at hr; cases hr), fun j hj => ?_⟩
    by_cases hji : j = i
    · subst hji; exact hy.wpOp hi hS ⟨.inl hS, H⟩
    · have := ready_mono hj hji
      rw [H.1] at this
      cases this
  | succ fuel ih =>
    intro listed a w inv hfree hr hy hS H
    have hun := (mem_ready.1 hr).1
    refine ⟨fun h => (by rw [h] at hr; cases hr), fun j hj => ?_⟩
    have hjn : j < n := by
      rcases Nat.lt_or_ge j n with h | h
      · exact h
      · exact absurd hj (tail_waits hs hc hn inv _ i rfl hin hun j h)
    by_cases hji : j = i
    · subst hji; exact hy.wpOp hi hS ⟨.inl hS, H⟩
    · have h1 := H.2 j (ready_mono hj hji)
      obtain ⟨hjun, oj, hoj, hall⟩ := mem_ready.1 hj
      have hnot : ∀ e ∈ oj.after, Region.binds md e = true → e.on ≠ i := fun e he hb heq => by
        have h1 := hall e he hb
        rw [heq, getD_both hun] at h1
        cases h1
      have h2 := wpOp_putIf hoj (hfree j oj hoj hji hjun hnot) (fun cs b => hsel i oi cs b hi) (fun cs b => hsel j oj cs b hoj) hQ hy h1
      have hfree' : ∀ k ok, ops[k]? = some ok → k ≠ i → (listed.setIfInBounds j true).getD k true = false →
          (∀ e ∈ ok.after, Region.binds md e = true → e.on ≠ i) → oi.apart ops ok = true := fun k ok hk hki hun hno => by
        refine hfree k ok hk hki ?_ hno
        by_cases hjk : j = k
        · subst hjk; exact hjun
        · rw [getD_set_ne true hjk] at hun; exact hun
      refine wpOp_mono (fun a' w' h3 => ?_) h2
      rcases h3.2.1 with hS' | h0
      · refine ⟨.inl hS', ih (listed.setIfInBounds j true) a' w' (inv.set hj hjn) hfree' (ready_mono hr (Ne.symm hji)) h3.1 hS' ?_⟩
        rw [Array.setIfInBounds_comm _ _ hji]
        exact h3.2.2
      · omega

/-- The walk's own form: S at the world at hand, and what was listed is listed rightly. -/
structure Held (P : Program) (ops : Array Oper) (n : Nat) (Q : Exit → Act → World → Prop) (S : World → Prop) (fuel : Nat) (listed : Array Bool) (a : Act) (w : World) : Prop where
  out : S w → HeadInv .any ops n listed → wpAnyG P .any ops n Q S fuel listed a w
def headB (ops : Array Oper) (n : Nat) : Bool := Region.noSelect ops && decide (n < ops.size) && Region.sinkB .any ops n && Region.chainB .any ops n
theorem Held.start {id : Nat} {a : Act} {w : World} (S : World → Prop) (n : Nat) (hm : P.follows .mixedOrders = true) (hn : n < ops.size) (hS : S w.drew) (h : Held P ops n Q S ops.size (Array.replicate ops.size false) a w.drew) : (Code.region id ops true).wp P Q a w := by
  have inv0 : HeadInv .any ops n (Array.replicate ops.size false) :=
    ⟨by simp, fun j oj _ hl => (by rw [getD_replicate_false] at hl; cases hl), fun t _ ht => getD_in (by simpa using ht) (getD_replicate_false _ _)⟩
  exact wp_region_any hm (wpAny_of_heldG _ _ _ _ (h.out hS inv0))
/-- Number i comes up now: whatever yields in every world of S. -/
theorem Held.take {fuel : Nat} {listed : Array Bool} {a : Act} {w : World} (i : Nat) {oi : Oper} {v : Value} (hi : ops[i]? = some oi)
    (hB : headB ops n = true) (hin : i < n) (hf : Region.free .any ops listed i = true) (hr : (Region.ready .any ops listed).contains i = true)
    (hQ : ∀ c a w, Q (.panic c) (a.put oi.dst v) w → Q (.panic c) a w) (hy : YieldsIf P ops S oi v a)
    (h : Held P ops n Q S fuel (listed.setIfInBounds i true) (a.put oi.dst v) w) : Held P ops n Q S (fuel + 1) listed a w := by
  simp only [headB, Bool.and_eq_true, decide_eq_true_eq] at hB
  obtain ⟨⟨⟨hsel, hn⟩, hs⟩, hc⟩ := hB
  have hr' : i ∈ Region.ready .any ops listed := by simpa using hr
  exact ⟨fun hS inv => wpAnyG_first hi (Region.noSelect_spec hsel) hs hc hn hin hQ fuel listed a w inv (Region.free_spec hi hf) hr' hy hS (h.out hS (inv.set hr' hin))⟩
/-- One alone may come up. -/
theorem Held.only {fuel : Nat} {listed : Array Bool} {a : Act} {w : World} (i : Nat) {oi : Oper} (hi : ops[i]? = some oi) (hin : i < n) (hr : Region.ready .any ops listed = [i])
    (h : ∀ K' : Act → World → Prop, Shut (∀ a w, S w → Held P ops n Q S fuel (listed.setIfInBounds i true) a w → K' a w) → if Region.wanted oi (yielded ops a.tmps) = true then Oper.wp P oi a w K' Q else K' (a.put oi.dst undef) w) : Held P ops n Q S (fuel + 1) listed a w := by
  refine ⟨fun hS inv => ⟨fun h0 => (by rw [hr] at h0; cases h0), fun j hj => ?_⟩⟩
  rw [hr] at hj
  have hji : j = i := by simpa using hj
  subst hji
  have hr' : j ∈ Region.ready .any ops listed := by rw [hr]; simp
  exact wpOp_step hi (fun K' hK => h K' (fun a w hS' hH => hK a w ⟨.inl hS', hH.out hS' (inv.set hr' hin)⟩))
/-- The last. -/
theorem Held.last {fuel : Nat} {listed : Array Bool} {a : Act} {w : World} (i : Nat) {oi : Oper} (hi : ops[i]? = some oi) (hin : n ≤ i) (hr : Region.ready .any ops listed = [i]) (hr2 : Region.ready .any ops (listed.setIfInBounds i true) = [])
    (h : ∀ K' : Act → World → Prop, Shut (∀ a w, Q .normal a w → K' a w) → if Region.wanted oi (yielded ops a.tmps) = true then Oper.wp P oi a w K' Q else K' (a.put oi.dst undef) w) : Held P ops n Q S (fuel + 1) listed a w := by
  refine ⟨fun hS inv => ⟨fun h0 => (by rw [hr] at h0; cases h0), fun j hj => ?_⟩⟩
  rw [hr] at hj
  have hji : j = i := by simpa using hj
  subst hji
  refine wpOp_step hi (fun K' hK => h K' (fun a w hq => hK a w ⟨.inr hin, ?_⟩))
  cases fuel with
  | zero => exact ⟨hr2, hq⟩
  | succ f => exact ⟨fun _ => hq, fun j hj => by rw [hr2] at hj; cases hj⟩
end
end Go.Proofs.Ytilenkodmmpofaa.K

set_option linter.unusedVariables false
set_option linter.unusedSimpArgs false
namespace Go.Proofs.Ytilenkodmmpofaa.K
open Go.RowKit Go.Proofs.YtilenkodmmpofaaW.PrintWords Go.Maps PC

theorem law3 : Keyed Try.prog 3 := int_keyed Try.underlying3
theorem zero4 (w : World) : (zeroValue 4).run Try.prog w = .ok (.bool false) w := by kernel_rfl
theorem zero88 (w : World) : (zeroValue 88).run Try.prog w = .ok (.pointer none) w := by kernel_rfl
theorem wfi_wf {x : Int} (h : wfi x) : (Lit.int .i64 x).wf = true := WalkArith.wf_i64 h
theorem plainElem_bool_inv {e : TypeId} (he : Try.prog.underlying e = some .bool) {v : Value} {z : DataW Unit × List MemPlace} (h : plainElem Try.prog e v = some z) : ∃ a, v = .bool a ∧ z = (.lit (.bool a), []) := by
  unfold plainElem at h
  rw [he] at h
  cases v <;> simp at h
  exact ⟨_, rfl, h.symm⟩
/-- Block b is a map whose keys are S, each with true. -/
def Met (w : World) (b : Nat) (S : List Int) : Prop :=
  ∃ D : DataW Unit, w.ownsMap Try.prog 3 (plainElem Try.prog 4) b S.length D ∧ Maps.size D = S.length ∧ ∀ x, wfi x → D.atKey (.int .i64 x) (.lit (.bool false)) = .lit (.bool (decide (x ∈ S))) ∧ Maps.has D (.int .i64 x) = decide (x ∈ S)
theorem met_made (w : World) : Met (w.alloc (.map #[] 0)) w.heap.size [] :=
  ⟨.map [], World.ownsMap_made _ _ _ _, rfl, fun x _ => by simp [DataW.atKey, Maps.has]⟩
theorem Met.lt {w : World} {b : Nat} {S : List Int} (h : Met w b S) : b < w.heap.size := by
  obtain ⟨D, h1, _⟩ := h
  exact h1.lt
theorem Met.kept {w w' : World} {b : Nat} {S : List Int} {row : Option Nat} (h : Met w b S) (hg : w.grownBy w' row) (hne : some b ≠ row) : Met w' b S := by
  obtain ⟨D, h1, h2⟩ := h
  exact ⟨D, h1.kept hg hne, h2⟩
theorem Met.below {w w' : World} {b : Nat} {S : List Int} (h : Met w b S) (hb : Below w.heap.size w w') : Met w' b S := h.kept (grown_of_below hb none) (by simp)
set_option maxRecDepth 100000 in
theorem Met.look {w : World} {b : Nat} {S : List Int} (h : Met w b S) {x : Int} (hx : wfi x) : (Instr.lookup 61 (.map (some b)) (.int .i64 x) false).run Try.prog w = .ok (.bool (decide (x ∈ S))) w := by
  obtain ⟨D, h1, h2, h3⟩ := h
  obtain ⟨v, ps, hrun, hv⟩ := h1.lookup law3 Try.underlying61 (zero4 w) (plainElem_bool Try.underlying4 false) (keyOf_int_mk Try.underlying3 (wfi_wf hx))
  rw [(h3 x hx).1] at hv
  obtain ⟨a, rfl, ha⟩ := plainElem_bool_inv Try.underlying4 hv
  injection ha with ha
  injection ha with ha
  injection ha with ha
  rw [hrun, ha]
set_option maxRecDepth 100000 in
theorem Met.put {w : World} {b : Nat} {S : List Int} (h : Met w b S) {x : Int} (hx : wfi x) (hn : x ∉ S) (hm : S.length < maxLen) :
    ∃ w', (Instr.mapUpdate 61 (.map (some b)) (.int .i64 x) (.bool true)).run Try.prog w = .ok () w' ∧ Met w' b (S ++ [x]) ∧ w.grownBy w' (some b) := by
  obtain ⟨D, h1, h2, h3⟩ := h
  obtain ⟨w', hr, hw, hg⟩ := h1.update law3 Try.underlying61 hm (keyOf_int_mk Try.underlying3 (wfi_wf hx)) (plainElem_bool Try.underlying4 true)
  have hk : WideAt.IsKeyLit (.int .i64 x) := trivial
  refine ⟨w', hr, ⟨_, by simpa using hw, ?_, fun y hy => ?_⟩, hg⟩
  · rw [size_put (h1.tidy law3), (h3 x hx).2, h2]
    simp [hn]
  · by_cases e : y = x
    · subst e
      rw [atKey_put_same h1.isMap hk, has_put_same h1.isMap hk]
      simp
    · have e' : Lit.int .i64 y ≠ Lit.int .i64 x := fun h => e (by injection h)
      rw [atKey_put_other e', has_put_other e', (h3 y hy).1, (h3 y hy).2]
      simp [e]
/-- How a pointer to a block's first cell is read: by the block's number. -/
def plink : Value → Option (DataW Unit × List MemPlace)
  | .pointer none => some (.lit (.int .i64 (-1)), [])
  | .pointer (some ⟨b, 0, none⟩) => some (.lit (.int .i64 (b : Int)), [])
  | _ => none
theorem plink_inv {v : Value} {g : Nat} {ps : List MemPlace} (h : plink v = some (.lit (.int .i64 (g : Int)), ps)) : v = .pointer (some ⟨g, 0, none⟩) := by
  unfold plink at h
  split at h
  · simp only [Option.some.injEq, Prod.mk.injEq, DataW.lit.injEq, Lit.int.injEq, true_and] at h
    omega
  · rename_i b
    simp only [Option.some.injEq, Prod.mk.injEq, DataW.lit.injEq, Lit.int.injEq, true_and] at h
    have : b = g := by omega
    rw [this]
  · cases h
/-- The block that stands with a key; -1 if none. -/
def lookP (f : List (Int × Nat)) (x : Int) : Int := match f.find? (fun p => p.1 == x) with | some p => (p.2 : Int) | none => -1
/-- Block b is a map from keys to links' blocks. -/
def PMap (w : World) (b : Nat) (f : List (Int × Nat)) : Prop :=
  ∃ D : DataW Unit, w.ownsMap Try.prog 3 plink b f.length D ∧ Maps.size D = f.length ∧ ∀ x, wfi x → D.atKey (.int .i64 x) (.lit (.int .i64 (-1))) = .lit (.int .i64 (lookP f x)) ∧ Maps.has D (.int .i64 x) = decide (x ∈ f.map (·.1))
theorem pmap_made (w : World) : PMap (w.alloc (.map #[] 0)) w.heap.size [] :=
  ⟨.map [], World.ownsMap_made _ _ _ _, rfl, fun x _ => by simp [DataW.atKey, Maps.has, lookP]⟩
theorem PMap.lt {w : World} {b : Nat} {f : List (Int × Nat)} (h : PMap w b f) : b < w.heap.size := by
  obtain ⟨D, h1, _⟩ := h
  exact h1.lt
theorem PMap.kept {w w' : World} {b : Nat} {f : List (Int × Nat)} {row : Option Nat} (h : PMap w b f) (hg : w.grownBy w' row) (hne : some b ≠ row) : PMap w' b f := by
  obtain ⟨D, h1, h2⟩ := h
  exact ⟨D, h1.kept hg hne, h2⟩
theorem PMap.below {w w' : World} {b : Nat} {f : List (Int × Nat)} (h : PMap w b f) (hb : Below w.heap.size w w') : PMap w' b f := h.kept (grown_of_below hb none) (by simp)
theorem PMap.not_cells {w : World} {b : Nat} {f : List (Int × Nat)} (h : PMap w b f) {g : Nat} {cs : Array Value} {t : TypeId} {fr : Nat × Nat} (hg : w.heap[g]? = some (.cells cs t fr)) : g ≠ b := by
  rintro rfl
  obtain ⟨D, ⟨es, clock, hb, _⟩, _⟩ := h
  rw [hb] at hg
  cases hg
set_option maxRecDepth 100000 in
theorem PMap.look {w : World} {b : Nat} {f : List (Int × Nat)} (h : PMap w b f) {x : Int} (hx : wfi x) {g : Nat} (hl : lookP f x = g) : (Instr.lookup 87 (.map (some b)) (.int .i64 x) false).run Try.prog w = .ok (.pointer (some ⟨g, 0, none⟩)) w := by
  obtain ⟨D, h1, h2, h3⟩ := h
  obtain ⟨v, ps, hrun, hv⟩ := h1.lookup law3 Try.underlying87 (zero88 w) (show plink (.pointer none) = some (.lit (.int .i64 (-1)), []) from rfl) (keyOf_int_mk Try.underlying3 (wfi_wf hx))
  rw [(h3 x hx).1, hl] at hv
  obtain rfl := plink_inv hv
  exact hrun
set_option maxRecDepth 100000 in
theorem PMap.put {w : World} {b : Nat} {f : List (Int × Nat)} (h : PMap w b f) {x : Int} {g : Nat} (hx : wfi x) (hn : x ∉ f.map (·.1)) (hm : f.length < maxLen) :
    ∃ w', (Instr.mapUpdate 87 (.map (some b)) (.int .i64 x) (.pointer (some ⟨g, 0, none⟩))).run Try.prog w = .ok () w' ∧ PMap w' b (f ++ [(x, g)]) ∧ w.grownBy w' (some b) := by
  obtain ⟨D, h1, h2, h3⟩ := h
  obtain ⟨w', hr, hw, hg⟩ := h1.update law3 Try.underlying87 hm (keyOf_int_mk Try.underlying3 (wfi_wf hx)) (show plink (.pointer (some ⟨g, 0, none⟩)) = some (.lit (.int .i64 (g : Int)), []) from rfl)
  have hk : WideAt.IsKeyLit (.int .i64 x) := trivial
  refine ⟨w', hr, ⟨_, by simpa using hw, ?_, fun y hy => ?_⟩, hg⟩
  · rw [size_put (h1.tidy law3), (h3 x hx).2, h2]
    simp only [decide_eq_true_eq]
    rw [if_neg hn]
    simp
  · by_cases e : y = x
    · subst e
      rw [atKey_put_same h1.isMap hk, has_put_same h1.isMap hk]
      have hno : f.find? (fun p => p.1 == y) = none := List.find?_eq_none.2 fun p hp => by
        simp only [beq_iff_eq]
        exact fun e => hn (e ▸ List.mem_map_of_mem hp)
      simp [lookP, List.find?_append, hno]
    · have e' : Lit.int .i64 y ≠ Lit.int .i64 x := fun h => e (by injection h)
      rw [atKey_put_other e', has_put_other e', (h3 y hy).1, (h3 y hy).2]
      have hb : ((x == y) = false) := beq_eq_false_iff_ne.2 (Ne.symm e)
      constructor
      · simp only [lookP, List.find?_append]
        cases f.find? (fun p => p.1 == y) with
        | some p => rfl
        | none => simp [hb]
      · simp [e]
/-- A link's block. -/
def LinkAt (w : World) (g : Nat) (x : S31) : Prop := w.heap[g]? = some (.cells #[.int .i64 x.f0, .int .i64 x.f1, .int .i64 x.f2, .int .i64 x.f3] 31 (0, 0))
theorem LinkAt.lt {w : World} {g : Nat} {x : S31} (h : LinkAt w g x) : g < w.heap.size := (Array.getElem?_eq_some_iff.1 h).1
theorem LinkAt.cells {w : World} {g : Nat} {x : S31} (h : LinkAt w g x) : w.cell? ⟨g, 0, none⟩ = some (.int .i64 x.f0) ∧ w.cell? ⟨g, 1, none⟩ = some (.int .i64 x.f1) ∧ w.cell? ⟨g, 2, none⟩ = some (.int .i64 x.f2) ∧ w.cell? ⟨g, 3, none⟩ = some (.int .i64 x.f3) := by
  have h' : w.heap[g]? = _ := h
  simp [World.cell?, h']
theorem LinkAt.kept {w w' : World} {g : Nat} {x : S31} {row : Option Nat} (h : LinkAt w g x) (hg : w.grownBy w' row) (hne : some g ≠ row) : LinkAt w' g x := (hg.block g h.lt hne).trans h
end Go.Proofs.Ytilenkodmmpofaa.K

set_option linter.unusedVariables false
set_option linter.unusedSimpArgs false
namespace Go.Proofs.Ytilenkodmmpofaa.K
open Go.RowKit Go.Proofs.YtilenkodmmpofaaW.PrintWords Go.Maps PC

/-- The link at a place of the round of owner and members. -/
def mkL (all : List Int) (o : Int) (j : Nat) : S31 := ⟨all.getD j 0, all.getD ((j + 1) % all.length) 0, all.getD ((j + all.length - 1) % all.length) 0, o⟩
theorem own_one {w : World} {base : Nat} (hb : base ≤ w.heap.size) (x : Int) : OI (w.alloc (.cells #[.int .i64 x] 3)) base (.slice (some ⟨w.heap.size, 0, none⟩) 1 1) [x] :=
  Kd.R_of_own (enc := Value.int .i64) (h1 := fun _ => rfl) ⟨rfl, .inr ⟨w.heap.size, 1, #[.int .i64 x], rfl, hb, World.alloc_heap_new w _, Nat.le_refl _, by decide, rfl, by simp [encs]⟩⟩ (fun _ _ => trivial)
theorem getD_cell {w : World} {A : Option Addr} {n : Nat} {xs : List Int} (h : Kd.C (Kd.int .i64) w A n xs) (i : Nat) (h1 : i < n) : ∃ ad, A = some ad ∧ w.cell? (ad.add i) = some (.int .i64 (xs.getD i 0)) := by
  obtain ⟨ad, x, hA, hd, hc⟩ := C_int h i h1
  have hn : xs.length = n := h.1
  have : xs.getD i 0 = x := by
    rw [List.drop_eq_getElem_cons (by omega)] at hd
    injection hd with h1 _
    rw [List.getD_eq_getElem?_getD, List.getElem?_eq_getElem (by omega), ← h1]; rfl
  exact ⟨ad, hA, by rw [this]; exact hc⟩
abbrev OL (w : World) (base : Nat) (v : Value) (xs : List S31) : Prop := Kd.R k31 31 w base (fun _ => True) v xs
/-- The links of the round by their keys. -/
def linkK (all : List Int) (o k : Int) : S31 := mkL all o (all.idxOf k)
def builtL (o : Int) (l : List Int) : List S31 := (sortI (o :: l)).map (linkK (o :: l) o)
/-- What the map has come to hold. -/
def FOk (all : List Int) (o : Int) (base i : Nat) (f : List (Int × Nat)) (W : World) : Prop :=
  f.map (·.1) = all.take i ∧ ∀ (j : Nat) (p : Int × Nat), f[j]? = some p → LinkAt W p.2 (mkL all o j) ∧ base ≤ p.2
theorem fok_start (all : List Int) (o : Int) (base : Nat) (W : World) : FOk all o base 0 [] W := ⟨rfl, fun j p h => by simp at h⟩
theorem fok_new {all : List Int} {o : Int} {base i : Nat} {f : List (Int × Nat)} {W : World} (hn : all.Nodup) (hi : ∀ x ∈ all, 1 ≤ x ∧ x ≤ 1000000) (h : FOk all o base i f W) (hlt : i < all.length) : all.getD i 0 ∉ f.map (·.1) ∧ wfi (all.getD i 0) := by
  have e : all.getD i 0 = all[i] := by rw [List.getD_eq_getElem?_getD, List.getElem?_eq_getElem hlt]; rfl
  rw [e]
  have h1 := hi _ (List.getElem_mem hlt)
  refine ⟨?_, by unfold wfi; omega⟩
  rw [h.1]
  intro hm
  obtain ⟨j, hj, hje⟩ := List.getElem_of_mem hm
  rw [List.getElem_take] at hje
  have hji : j < i := by simp at hj; omega
  have := List.pairwise_iff_getElem.1 hn j i (by omega) hlt hji
  exact this hje
theorem info31 : (Try.prog.info? 31).map (fun i => (i.zero, i.size, i.bytes)) = some (some (.agg #[.int .i64 0, .int .i64 0, .int .i64 0, .int .i64 0]), 4, 32) := by kernel_rfl
/-- What the call owns is what it was when a block that is no cells turns. -/
theorem R_own {α : Type} {d : Kd α} {e : Nat} {X Y : World} {base : Nat} {ok : Nat → Prop} {v : Value} {xs : List α} {row : Option Nat} (h : d.R e X base ok v xs) (hg : X.grownBy Y row) (hr : ∀ r, row = some r → ∃ o : Obj, X.heap[r]? = some o ∧ o.isCells = false) : d.R e Y base ok v xs :=
  Kd.R_mono (Kd.R_move (Kd.R_bound h) (fun k hk => hg.block k hk.2.2.1 (fun e' => by
    obtain ⟨o, ho, hc⟩ := hr k e'.symm
    obtain ⟨q, _, cells, hq⟩ := hk.2.2.2
    rw [hq] at ho
    injection ho with ho
    subst ho
    cases hc))) (fun _ hk => hk.1)
theorem PMap.obj {w : World} {b : Nat} {f : List (Int × Nat)} (h : PMap w b f) : ∃ o : Obj, w.heap[b]? = some o ∧ o.isCells = false := by
  obtain ⟨D, ⟨es, clock, hb, _⟩, _⟩ := h
  exact ⟨_, hb, rfl⟩
theorem fok_step {all : List Int} {o : Int} {base i b : Nat} {f f' : List (Int × Nat)} {W W2 W3 : World} {x : S31} (h : FOk all o base i f W) (hx : mkL all o i = x) (hlt : i < all.length) (hb : Below W.heap.size W W2) (hp : PMap W2 b f') (hg : W2.grownBy W3 (some b)) (hl : LinkAt W2 W.heap.size x) (hbase : base ≤ W.heap.size) : FOk all o base (i + 1) (f ++ [(x.f0, W.heap.size)]) W3 := by
  have hk : ∀ {g : Nat} {y : S31}, LinkAt W2 g y → LinkAt W3 g y := fun {g y} hy => hy.kept hg (fun e => hp.not_cells hy (by injection e))
  have hfl : f.length = i := by
    have := congrArg List.length h.1
    simp at this
    omega
  refine ⟨?_, fun j p hj => ?_⟩
  · rw [List.map_append, h.1, List.take_succ_eq_append_getElem hlt]
    congr 1
    have : x.f0 = all[i] := by rw [← hx]; simp [mkL, List.getD_eq_getElem?_getD, List.getElem?_eq_getElem hlt]
    simp [this]
  · rw [List.getElem?_append] at hj
    split at hj
    · obtain ⟨h1, h2⟩ := h.2 j p hj
      exact ⟨hk ((hb.block _ h1.lt).trans h1), h2⟩
    · rename_i hge
      have hj0 : j - f.length = 0 := by
        have := (List.getElem?_eq_some_iff.1 hj).1
        simpa using this
      rw [hj0] at hj
      simp only [List.getElem?_cons_zero, Option.some.injEq] at hj
      subst hj
      obtain rfl : j = i := by omega
      rw [hx]
      exact ⟨hk hl, hbase⟩
theorem fok_grown {all : List Int} {o : Int} {base i : Nat} {f : List (Int × Nat)} {W W2 : World} (h : FOk all o base i f W) (hb : Below W.heap.size W W2) : FOk all o base i f W2 :=
  ⟨h.1, fun j p hj => ⟨(hb.block _ (h.2 j p hj).1.lt).trans (h.2 j p hj).1, (h.2 j p hj).2⟩⟩
theorem fok_look {all : List Int} {o : Int} {base : Nat} {f : List (Int × Nat)} {W : World} (hn : all.Nodup) (h : FOk all o base all.length f W) {k : Int} (hk : k ∈ all) : ∃ g : Nat, lookP f k = (g : Int) ∧ LinkAt W g (linkK all o k) := by
  have hm : f.map (·.1) = all := by rw [h.1, List.take_length]
  have hj : all.idxOf k < all.length := List.idxOf_lt_length_iff.2 hk
  have hfl : f.length = all.length := by have := congrArg List.length hm; simpa using this
  have hjf : all.idxOf k < f.length := by rw [hfl]; exact hj
  have hp1 : (f[all.idxOf k]).1 = k := by
    have h1 : (f.map (·.1))[all.idxOf k]? = some (f[all.idxOf k]).1 := by rw [List.getElem?_map, List.getElem?_eq_getElem hjf]; rfl
    rw [hm, List.getElem?_eq_getElem hj] at h1
    injection h1 with h1
    rw [← h1]
    exact List.getElem_idxOf hj
  refine ⟨(f[all.idxOf k]).2, ?_, (h.2 _ _ (List.getElem?_eq_getElem hjf)).1⟩
  have hfind : ∀ (f : List (Int × Nat)) (j : Nat) (hj : j < f.length), (f.map (·.1)).Nodup → f.find? (fun p => p.1 == (f[j]).1) = some f[j] := by
    intro f
    induction f with
    | nil => intro j hj; exact absurd hj (by simp)
    | cons p r ih =>
      intro j hj hnd
      rw [List.map_cons, List.nodup_cons] at hnd
      cases j with
      | zero => simp
      | succ j =>
        have hj' : j < r.length := by simpa using hj
        have hne : (p.1 == (r[j]).1) = false := beq_eq_false_iff_ne.2 (fun e => hnd.1 (by rw [e]; exact List.mem_map_of_mem (List.getElem_mem hj')))
        rw [List.getElem_cons_succ, List.find?_cons, hne]
        exact ih j hj' hnd.2
  have := hfind f _ hjf (by rw [hm]; exact hn)
  rw [hp1] at this
  unfold lookP
  rw [this]
theorem sortI_mem {xs : List Int} {k : Int} (h : k ∈ sortI xs) : k ∈ xs := (List.mergeSort_perm xs _).mem_iff.1 h
set_option maxRecDepth 100000 in
set_option maxHeartbeats 8000000 in
theorem made_calls (o : Int) (A : Option Addr) (c : Nat) (l : List Int) (w : World) (hr : Kd.C (Kd.int .i64) w A l.length l) (hl : l.length ≤ 500) (hnd : (o :: l).Nodup) (hin : ∀ x ∈ o :: l, 1 ≤ x ∧ x ≤ 1000000) :
    Calls Try.prog 53 #[.int .i64 o, .slice A l.length c] w fun e w' => ∃ v, e = .returned v ∧ OL w' w.heap.size v (builtL o l) ∧ Below w.heap.size w w' := by
  have HR := Aside0.mk hr
  have hmm := @run_makeMap Try.prog
  obtain ⟨all, hall⟩ : ∃ all, all = o :: l := ⟨_, rfl⟩
  have han : all.length = l.length + 1 := by rw [hall]; rfl
  have HALL := Aside0.mk hall
  have HND : Aside0 all.Nodup := ⟨by rw [hall]; exact hnd⟩
  have HIN : Aside0 (∀ x ∈ all, 1 ≤ x ∧ x ≤ 1000000) := ⟨by rw [hall]; exact hin⟩
  have HAN := Aside0.mk han
  have hapos : 0 < all.length := by omega
  have hal : all.length ≤ 501 := by omega
  clear hr hnd hin hall han
  have mixed : Try.prog.follows .mixedOrders = true := by kernel_rfl
  go_enter Try.func53, Try.ntmps53
  go_wp2_with (first | ((with_reducible refine at_b (b := .append) (xs := #[.tmp 13, .tmp 14]) rfl ?_); go_must (refine Kd.R_append_rows (Kd.int .i64) (w0 := w) w.heap.size rfl (.tmp 13) (.tmp 14) 22 3 (.int .i64 0) 8 rfl Try.underlying22 info3 rfl (by decide) (by omega) _ [o] l _ _ _ (fun _ => True) (fun _ => False) rfl rfl (own_one (Nat.le_refl _) o) (Kd.C_below HR.out (below_alloc (Below.refl _ _) _)) (fun _ _ h => h) (fun _ h => h.elim) (fun _ _ => trivial) (below_alloc (Below.refl _ _) _) (by simp) (by simp; omega) ?_; intro v5 w1 hO1 hb1 hg1 hat1; rw [show [o] ++ l = all from HALL.out.symm] at hO1; obtain ⟨g5, cp5, e5, hgb5, _⟩ := Kd.R_form hO1 hapos; subst e5; have HO1 := Aside0.mk hO1; clear hO1 hg1 hat1))
    )
  have hbm := below_alloc hb1 (.map #[] 0)
  have HO2 := Aside0.mk (Kd.R_alloc HO1.out (.map #[] 0))
  have HPM := Aside0.mk (pmap_made w1)
  have hsz1 := hb1.size
  go_loopg [19] all.length (fun gk v19 wr => ∃ (i : Nat) (f : List (Int × Nat)), gk = all.length - i ∧ i ≤ all.length ∧ v19 = .int .i64 i ∧ Aside0 (FOk all o w.heap.size i f wr) ∧ Aside0 (PMap wr w1.heap.size f) ∧ Aside0 (OI wr w.heap.size (.slice (some ⟨g5, 0, none⟩) all.length cp5) all) ∧ Below w.heap.size w wr)
  case atStart => exact ⟨0, [], rfl, Nat.zero_le _, rfl, ⟨fok_start _ _ _ _⟩, HPM, HO2, hbm⟩
  case round =>
    clear hbm HO2 HPM HO1 hb1
    obtain ⟨i, f, hg, hi, rfl, HF, HPM, HO, hbel⟩ := hrel
    have HG := Aside0.mk hg
    clear hg
    by_cases hlt : i < all.length
    · have hC := (Kd.R_reads' HO.out).2.2
      obtain ⟨ad, hA, k0⟩ := getD_cell hC i hlt
      obtain ⟨ad', hA', k1⟩ := getD_cell hC ((i + 1) % all.length) (Nat.mod_lt _ hapos)
      obtain ⟨ad'', hA'', k2⟩ := getD_cell hC ((i + all.length - 1) % all.length) (Nat.mod_lt _ hapos)
      obtain rfl : ad = ⟨g5, 0, none⟩ := by injection hA with h; exact h.symm
      obtain rfl : ad' = ⟨g5, 0, none⟩ := by injection hA' with h; exact h.symm
      obtain rfl : ad'' = ⟨g5, 0, none⟩ := by injection hA'' with h; exact h.symm
      clear hA hA' hA''
      have ea : ∀ j, (⟨g5, 0, none⟩ : Addr).add j = ⟨g5, j, none⟩ := fun j => by unfold Addr.add; split <;> simp_all
      rw [ea] at k0 k1 k2
      clear ea
      have hr1 : Int.tmod ((i : Int) + 1) (all.length : Int) = (((i + 1) % all.length : Nat) : Int) := by rw [show ((i : Int) + 1) = ((i + 1 : Nat) : Int) by omega]; exact (Int.ofNat_tmod _ _).symm
      have hr2 : Int.tmod ((i : Int) + (all.length : Int) - 1) (all.length : Int) = (((i + all.length - 1) % all.length : Nat) : Int) := by rw [show ((i : Int) + (all.length : Int) - 1) = ((i + all.length - 1 : Nat) : Int) by omega]; exact (Int.ofNat_tmod _ _).symm
      have hm1 : (i + 1) % all.length < all.length := Nat.mod_lt _ hapos
      have hne : all ≠ [] := fun e => by rw [e] at hapos; exact absurd hapos (by decide)
      have hwr1 : IntKind.i64.wrap ((i : Int) + 1) = (i : Int) + 1 := by rw [Go.Proofs.YtilenkodmmpofaaW.PrintLast.i64_w]; exact w64 (by omega) (by omega)
      have hwr2 : IntKind.i64.wrap ((i : Int) + (all.length : Int)) = (i : Int) + (all.length : Int) := by rw [Go.Proofs.YtilenkodmmpofaaW.PrintLast.i64_w]; exact w64 (by omega) (by omega)
      have hwr3 : IntKind.i64.wrap ((i : Int) + (all.length : Int) - 1) = (i : Int) + (all.length : Int) - 1 := by rw [Go.Proofs.YtilenkodmmpofaaW.PrintLast.i64_w]; exact w64 (by omega) (by omega)
      have hm2 : (i + all.length - 1) % all.length < all.length := Nat.mod_lt _ hapos
      obtain ⟨x, hx⟩ : ∃ x, mkL all o i = x := ⟨_, rfl⟩
      have hx0 : all.getD i 0 = x.f0 := by rw [← hx]; rfl
      have hx1 : all.getD ((i + 1) % all.length) 0 = x.f1 := by rw [← hx]; rfl
      have hx2 : all.getD ((i + all.length - 1) % all.length) 0 = x.f2 := by rw [← hx]; rfl
      have hx3 : o = x.f3 := by rw [← hx]; rfl
      rw [hx0] at k0
      rw [hx1] at k1
      rw [hx2] at k2
      have HX := Aside0.mk hx
      have HX3 := Aside0.mk hx3
      have hxin : x.f0 ∉ f.map (·.1) ∧ wfi x.f0 := by
        rw [← hx0]
        exact fok_new HND.out HIN.out HF.out hlt
      have hflen : f.length < maxLen := by have := HF.out.1; have h2 := congrArg List.length this; simp at h2; unfold maxLen; omega
      have HPUT := Aside0.mk ((HPM.out.below (show Below wr.heap.size wr (wr.alloc (.cells #[.int .i64 x.f0, .int .i64 x.f1, .int .i64 x.f2, .int .i64 o] 31)).drew from below_drew (below_alloc (Below.refl _ _) _))).put (g := wr.heap.size) hxin.2 hxin.1 hflen)
      clear hx hx0 hx1 hx2 hx3 hxin hflen
      generalize (i + 1) % all.length = m1 at k1 hr1 hm1
      generalize (i + all.length - 1) % all.length = m2 at k2 hr2 hm2
      go_wp2
      refine wp_region_noPanic ?_
      refine Held.start (fun w' => w'.cell? ⟨g5, m1, none⟩ = some (.int .i64 x.f1) ∧ w'.cell? ⟨g5, m2, none⟩ = some (.int .i64 x.f2)) 25 mixed (by decide) (by go_keep) ?_
      refine Held.take 0 (v := ?v0) rfl (by kernel_rfl) (by decide) (by kernel_rfl) (by kernel_rfl) (fun _ _ _ h => h) (Or.inl ⟨by rfl, ?h0⟩) ?r0
      case h0 => intro w hSw; (try dsimp only at hSw); obtain ⟨hS1, hS2⟩ := hSw; go_simp; (try with_reducible rfl)
      try simp only [Act.put, List.setIfInBounds_toArray, List.set_cons_zero, List.set_cons_succ]
      refine Held.take 1 (v := ?v1) rfl (by kernel_rfl) (by decide) (by kernel_rfl) (by kernel_rfl) (fun _ _ _ h => h) (Or.inl ⟨by rfl, ?h1⟩) ?r1
      case h1 => intro w hSw; (try dsimp only at hSw); obtain ⟨hS1, hS2⟩ := hSw; go_simp; (try with_reducible rfl)
      try simp only [Act.put, List.setIfInBounds_toArray, List.set_cons_zero, List.set_cons_succ]
      refine Held.take 2 (v := ?v2) rfl (by kernel_rfl) (by decide) (by kernel_rfl) (by kernel_rfl) (fun _ _ _ h => h) (Or.inl ⟨by rfl, ?h2⟩) ?r2
      case h2 => intro w hSw; (try dsimp only at hSw); obtain ⟨hS1, hS2⟩ := hSw; go_simp; (try with_reducible rfl)
      try simp only [Act.put, List.setIfInBounds_toArray, List.set_cons_zero, List.set_cons_succ]
      refine Held.take 3 (v := ?v3) rfl (by kernel_rfl) (by decide) (by kernel_rfl) (by kernel_rfl) (fun _ _ _ h => h) (Or.inl ⟨by rfl, ?h3⟩) ?r3
      case h3 => intro w hSw; (try dsimp only at hSw); obtain ⟨hS1, hS2⟩ := hSw; go_simp; (try with_reducible rfl)
      try simp only [Act.put, List.setIfInBounds_toArray, List.set_cons_zero, List.set_cons_succ]
      refine Held.take 4 (v := ?v4) rfl (by kernel_rfl) (by decide) (by kernel_rfl) (by kernel_rfl) (fun _ _ _ h => h) (Or.inl ⟨by rfl, ?h4⟩) ?r4
      case h4 => intro w hSw; (try dsimp only at hSw); obtain ⟨hS1, hS2⟩ := hSw; go_simp; (try with_reducible rfl)
      try simp only [Act.put, List.setIfInBounds_toArray, List.set_cons_zero, List.set_cons_succ]
      refine Held.take 5 (v := ?v5) rfl (by kernel_rfl) (by decide) (by kernel_rfl) (by kernel_rfl) (fun _ _ _ h => h) (Or.inl ⟨by rfl, ?h5⟩) ?r5
      case h5 => intro w hSw; (try dsimp only at hSw); obtain ⟨hS1, hS2⟩ := hSw; go_simp; (try with_reducible rfl)
      try simp only [Act.put, List.setIfInBounds_toArray, List.set_cons_zero, List.set_cons_succ]
      refine Held.take 6 (v := ?v6) rfl (by kernel_rfl) (by decide) (by kernel_rfl) (by kernel_rfl) (fun _ _ _ h => h) (Or.inl ⟨by rfl, ?h6⟩) ?r6
      case h6 => intro w hSw; (try dsimp only at hSw); obtain ⟨hS1, hS2⟩ := hSw; go_simp; (try with_reducible rfl)
      try simp only [Act.put, List.setIfInBounds_toArray, List.set_cons_zero, List.set_cons_succ]
      refine Held.take 7 (v := ?v7) rfl (by kernel_rfl) (by decide) (by kernel_rfl) (by kernel_rfl) (fun _ _ _ h => h) (Or.inl ⟨by rfl, ?h7⟩) ?r7
      case h7 => intro w hSw; (try dsimp only at hSw); obtain ⟨hS1, hS2⟩ := hSw; go_simp; (try with_reducible rfl)
      try simp only [Act.put, List.setIfInBounds_toArray, List.set_cons_zero, List.set_cons_succ]
      refine Held.take 8 (v := ?v8) rfl (by kernel_rfl) (by decide) (by kernel_rfl) (by kernel_rfl) (fun _ _ _ h => h) (Or.inl ⟨by rfl, ?h8⟩) ?r8
      case h8 => intro w hSw; (try dsimp only at hSw); obtain ⟨hS1, hS2⟩ := hSw; go_simp; (try with_reducible rfl)
      try simp only [Act.put, List.setIfInBounds_toArray, List.set_cons_zero, List.set_cons_succ]
      refine Held.take 9 (v := ?v9) rfl (by kernel_rfl) (by decide) (by kernel_rfl) (by kernel_rfl) (fun _ _ _ h => h) (Or.inl ⟨by rfl, ?h9⟩) ?r9
      case h9 => intro w hSw; (try dsimp only at hSw); obtain ⟨hS1, hS2⟩ := hSw; go_simp; (try with_reducible rfl)
      try simp only [Act.put, List.setIfInBounds_toArray, List.set_cons_zero, List.set_cons_succ]
      refine Held.take 10 (v := ?v10) rfl (by kernel_rfl) (by decide) (by kernel_rfl) (by kernel_rfl) (fun _ _ _ h => h) (Or.inl ⟨by rfl, ?h10⟩) ?r10
      case h10 => intro w hSw; (try dsimp only at hSw); obtain ⟨hS1, hS2⟩ := hSw; go_simp; (try with_reducible rfl)
      try simp only [Act.put, List.setIfInBounds_toArray, List.set_cons_zero, List.set_cons_succ]
      refine Held.take 11 (v := ?v11) rfl (by kernel_rfl) (by decide) (by kernel_rfl) (by kernel_rfl) (fun _ _ _ h => h) (Or.inl ⟨by rfl, ?h11⟩) ?r11
      case h11 => intro w hSw; (try dsimp only at hSw); obtain ⟨hS1, hS2⟩ := hSw; go_simp; (try with_reducible rfl)
      try simp only [Act.put, List.setIfInBounds_toArray, List.set_cons_zero, List.set_cons_succ]
      refine Held.take 12 (v := ?v12) rfl (by kernel_rfl) (by decide) (by kernel_rfl) (by kernel_rfl) (fun _ _ _ h => h) (Or.inl ⟨by rfl, ?h12⟩) ?r12
      case h12 => intro w hSw; (try dsimp only at hSw); obtain ⟨hS1, hS2⟩ := hSw; go_simp; (try with_reducible rfl)
      try simp only [Act.put, List.setIfInBounds_toArray, List.set_cons_zero, List.set_cons_succ]
      refine Held.take 13 (v := ?v13) rfl (by kernel_rfl) (by decide) (by kernel_rfl) (by kernel_rfl) (fun _ _ _ h => h) (Or.inl ⟨by rfl, ?h13⟩) ?r13
      case h13 => intro w hSw; (try dsimp only at hSw); obtain ⟨hS1, hS2⟩ := hSw; go_simp; (try with_reducible rfl)
      try simp only [Act.put, List.setIfInBounds_toArray, List.set_cons_zero, List.set_cons_succ]
      refine Held.take 14 (v := ?v14) rfl (by kernel_rfl) (by decide) (by kernel_rfl) (by kernel_rfl) (fun _ _ _ h => h) (Or.inl ⟨by rfl, ?h14⟩) ?r14
      case h14 => intro w hSw; (try dsimp only at hSw); obtain ⟨hS1, hS2⟩ := hSw; go_simp; (try with_reducible rfl)
      try simp only [Act.put, List.setIfInBounds_toArray, List.set_cons_zero, List.set_cons_succ]
      refine Held.take 15 (v := ?v15) rfl (by kernel_rfl) (by decide) (by kernel_rfl) (by kernel_rfl) (fun _ _ _ h => h) (Or.inl ⟨by rfl, ?h15⟩) ?r15
      case h15 => intro w hSw; (try dsimp only at hSw); obtain ⟨hS1, hS2⟩ := hSw; go_simp; (try with_reducible rfl)
      try simp only [Act.put, List.setIfInBounds_toArray, List.set_cons_zero, List.set_cons_succ]
      refine Held.take 16 (v := ?v16) rfl (by kernel_rfl) (by decide) (by kernel_rfl) (by kernel_rfl) (fun _ _ _ h => h) (Or.inl ⟨by rfl, ?h16⟩) ?r16
      case h16 => intro w hSw; (try dsimp only at hSw); obtain ⟨hS1, hS2⟩ := hSw; go_simp; (try with_reducible rfl)
      try simp only [Act.put, List.setIfInBounds_toArray, List.set_cons_zero, List.set_cons_succ]
      refine Held.take 17 (v := ?v17) rfl (by kernel_rfl) (by decide) (by kernel_rfl) (by kernel_rfl) (fun _ _ _ h => h) (Or.inl ⟨by rfl, ?h17⟩) ?r17
      case h17 => intro w hSw; (try dsimp only at hSw); obtain ⟨hS1, hS2⟩ := hSw; go_simp; (try with_reducible rfl)
      try simp only [Act.put, List.setIfInBounds_toArray, List.set_cons_zero, List.set_cons_succ]
      refine Held.take 18 (v := ?v18) rfl (by kernel_rfl) (by decide) (by kernel_rfl) (by kernel_rfl) (fun _ _ _ h => h) (Or.inl ⟨by rfl, ?h18⟩) ?r18
      case h18 => intro w hSw; (try dsimp only at hSw); obtain ⟨hS1, hS2⟩ := hSw; go_simp; (try with_reducible rfl)
      try simp only [Act.put, List.setIfInBounds_toArray, List.set_cons_zero, List.set_cons_succ]
      refine Held.take 19 (v := ?v19) rfl (by kernel_rfl) (by decide) (by kernel_rfl) (by kernel_rfl) (fun _ _ _ h => h) (Or.inl ⟨by rfl, ?h19⟩) ?r19
      case h19 => intro w hSw; (try dsimp only at hSw); obtain ⟨hS1, hS2⟩ := hSw; go_simp; (try with_reducible rfl)
      try simp only [Act.put, List.setIfInBounds_toArray, List.set_cons_zero, List.set_cons_succ]
      refine Held.take 20 (v := ?v20) rfl (by kernel_rfl) (by decide) (by kernel_rfl) (by kernel_rfl) (fun _ _ _ h => h) (Or.inl ⟨by rfl, ?h20⟩) ?r20
      case h20 => intro w hSw; (try dsimp only at hSw); obtain ⟨hS1, hS2⟩ := hSw; go_simp; (try with_reducible rfl)
      try simp only [Act.put, List.setIfInBounds_toArray, List.set_cons_zero, List.set_cons_succ]
      refine Held.take 21 (v := ?v21) rfl (by kernel_rfl) (by decide) (by kernel_rfl) (by kernel_rfl) (fun _ _ _ h => h) (Or.inl ⟨by rfl, ?h21⟩) ?r21
      case h21 => intro w hSw; (try dsimp only at hSw); obtain ⟨hS1, hS2⟩ := hSw; go_simp; (try with_reducible rfl)
      try simp only [Act.put, List.setIfInBounds_toArray, List.set_cons_zero, List.set_cons_succ]
      refine Held.take 22 (v := ?v22) rfl (by kernel_rfl) (by decide) (by kernel_rfl) (by kernel_rfl) (fun _ _ _ h => h) (Or.inl ⟨by rfl, ?h22⟩) ?r22
      case h22 => intro w hSw; (try dsimp only at hSw); obtain ⟨hS1, hS2⟩ := hSw; go_simp; (try with_reducible rfl)
      try simp only [Act.put, List.setIfInBounds_toArray, List.set_cons_zero, List.set_cons_succ]
      refine Held.take 23 (v := ?v23) rfl (by kernel_rfl) (by decide) (by kernel_rfl) (by kernel_rfl) (fun _ _ _ h => h) (Or.inl ⟨by rfl, ?h23⟩) ?r23
      case h23 => intro w hSw; (try dsimp only at hSw); obtain ⟨hS1, hS2⟩ := hSw; go_simp; (try with_reducible rfl)
      try simp only [Act.put, List.setIfInBounds_toArray, List.set_cons_zero, List.set_cons_succ]
      refine Held.only 24 rfl (by decide) (by kernel_rfl) (fun K24 hK24 => ?_)
      go_simp
      refine hK24.out _ _ (by go_keep) ?_
      clear hK24 K24
      try simp only [Act.put, List.setIfInBounds_toArray, List.set_cons_zero, List.set_cons_succ]
      obtain ⟨w9, hput, hpm9, hgr9⟩ := HPUT.out
      refine Held.last 25 rfl (by decide) (by kernel_rfl) (by kernel_rfl) (fun K25 hK25 => ?_)
      go_simp
      refine hK25.out _ _ ?_
      clear hK25 K25
      refine NoPanic.normal ?_
      have hb9 := below_drew (below_alloc (Below.refl wr.heap.size wr) (.cells #[.int .i64 x.f0, .int .i64 x.f1, .int .i64 x.f2, .int .i64 o] 31))
      have hpm8 := HPM.out.below hb9
      have hl9 : LinkAt (wr.alloc (.cells #[.int .i64 x.f0, .int .i64 x.f1, .int .i64 x.f2, .int .i64 o] 31)).drew wr.heap.size x := by
        rw [HX3.out]
        exact World.alloc_heap_new wr _
      have HF9 := Aside0.mk (fok_step HF.out HX.out hlt hb9 hpm8 hgr9 hl9 hbel.size)
      have HO9 := Aside0.mk (R_own (Kd.R_below HO.out hb9) hgr9 (fun r e => by cases e; exact hpm8.obj))
      have hbel9 := (below_then hbel hb9).grown hgr9 (Nat.le_trans hbel.size hb9.size) (fun k e => by cases e; exact hsz1)
      have HPM9 := Aside0.mk hpm9
      clear hpm9 hpm8 hl9 hgr9 hput hb9 HPUT
      try simp only [Act.put, List.setIfInBounds_toArray, List.set_cons_zero, List.set_cons_succ]
      go_wp2
      go_roundg (all.length - (i + 1))
      case measure => have := HG.out; omega
      case rel => exact ⟨i + 1, f ++ [(x.f0, wr.heap.size)], rfl, by omega, by go_num, HF9, HPM9, HO9, hbel9⟩
    · obtain rfl : i = all.length := by omega
      have hCA := (Kd.R_reads' HO.out).2.2
      have hbv := below_alloc hbel (.cells #[.slice (some ⟨g5, 0, none⟩) all.length cp5] 22)
      have HGV : Aside0 (Gives 87 #[.pointer (some ⟨wr.heap.size, 0, none⟩)] (wr.alloc (.cells #[.slice (some ⟨g5, 0, none⟩) all.length cp5] 22)).heap.size all ((wr.alloc (.cells #[.slice (some ⟨g5, 0, none⟩) all.length cp5] 22)).alloc (.cells #[.slice none 0 0] 22))) := ⟨
        values_stops Fence.wide 8 trivial rfl (by decide) wr.heap.size (some ⟨g5, 0, none⟩) cp5 all (wr.alloc (.cells #[.slice (some ⟨g5, 0, none⟩) all.length cp5] 22)) _ (Kd.C_alloc hCA _) (below_alloc (Below.refl _ _) _) (by simp; omega) (pw_cell_below (below_alloc (Below.refl _ _) _) (by rw [World.cell?_alloc_new]; rfl))⟩
      have HSRT := Aside0.mk (sorted_in 87 #[.pointer (some ⟨wr.heap.size, 0, none⟩)] (enters_of Try.func87 (by kernel_rfl) rfl) all (by omega) (wr.alloc (.cells #[.slice (some ⟨g5, 0, none⟩) all.length cp5] 22)) HGV.out)
      clear hCA HGV
      go_wp2_with (first
        | (go_at_call 77; go_must (refine (Values_calls _ _ _ _).mono ?_; rintro e w2 ⟨rfl, rfl⟩))
        | (go_at_call 76; go_must (refine HSRT.out.mono ?_; rintro e w3 ⟨v52, rfl, hO3, hd3⟩; have hsl : 0 < (sortI all).length := by rw [sortI_len]; exact hapos
                                   obtain ⟨g6, cp6, e6, hgb6, _⟩ := Kd.R_form hO3 hsl; subst e6; have hb3 := below_then hbv hd3; have hwv : Below wr.heap.size wr w3 := below_then (below_alloc (Below.refl _ wr) _) hd3; have HF3 := Aside0.mk (fok_grown HF.out hwv); have HP3 := Aside0.mk (HPM.out.below hwv); have HC3 := Aside0.mk (Kd.R_reads' hO3).2.2; clear hO3 hd3 hsl)))
      clear hbv
      obtain ⟨ss, hss⟩ : ∃ ss, sortI all = ss := ⟨_, rfl⟩
      have HSS := Aside0.mk hss
      rw [hss] at HC3 ⊢
      have hsn : ss.length = all.length := by rw [← hss]; exact sortI_len all
      have HSM : Aside0 (∀ k ∈ ss, k ∈ all) := ⟨fun k hk => sortI_mem (by rw [hss]; exact hk)⟩
      have hs5 : ss.length ≤ 501 := by omega
      clear hss hsn
      go_loopg [9, 54] ss.length (fun gk v9 v54 wx => ∃ (i : Nat), gk = ss.length - i ∧ i ≤ ss.length ∧ v54 = .int .i64 i ∧ Aside0 (OL wx w3.heap.size v9 ((ss.take i).map (linkK all o))) ∧ Below w3.heap.size w3 wx)
      case atStart => exact ⟨0, rfl, Nat.zero_le _, rfl, ⟨Kd.R_nil _ _ _ _ _⟩, Below.refl _ _⟩
      case round =>
        obtain ⟨i, hg, hi2, rfl, HOL, hbx⟩ := hrel
        have HG2 := Aside0.mk hg
        clear hg
        by_cases hlt2 : i < ss.length
        · obtain ⟨ad, k, hA, hdk, q0⟩ := C_int HC3.out i hlt2
          obtain rfl : ad = ⟨g6, 0, none⟩ := by injection hA with h; exact h.symm
          have ea : (⟨g6, 0, none⟩ : Addr).add i = ⟨g6, i, none⟩ := by unfold Addr.add; split <;> simp_all
          rw [ea] at q0
          replace q0 := pw_cell_below hbx q0
          have hkm : k ∈ ss := by
            have := List.mem_of_mem_drop (show k ∈ ss.drop i by rw [hdk]; exact List.mem_cons_self ..)
            exact this
          have hka := HSM.out k hkm
          obtain ⟨g, hlg, hlat⟩ := fok_look HND.out (fok_grown HF3.out hbx) hka
          have hwk : wfi k := by have := HIN.out k hka; unfold wfi; omega
          have hlook := (HP3.out.below hbx).look hwk hlg
          obtain ⟨x, hx⟩ : ∃ x, linkK all o k = x := ⟨_, rfl⟩
          rw [hx] at hlat
          obtain ⟨r0, r1, r2, r3⟩ := hlat.cells
          have HTK : Aside0 ((ss.take (i + 1)).map (linkK all o) = (ss.take i).map (linkK all o) ++ [x]) := ⟨by
            rw [List.drop_eq_getElem_cons hlt2] at hdk
            injection hdk with h1 _
            rw [List.take_succ_eq_append_getElem hlt2, List.map_append, h1, ← hx]; rfl⟩
          have HL8 : Aside0 (((ss.take i).map (linkK all o)).length ≤ 501) := ⟨by rw [List.length_map, List.length_take]; omega⟩
          clear hA hdk hlat hlg hx hkm hka ea
          go_wp2_with ((with_reducible refine at_b (b := .append) (xs := #[.tmp 58, .tmp 64]) rfl ?_); go_must (refine Kd.R_append k31 (w0 := w3) (W := wr) w3.heap.size rfl (.tmp 58) (.tmp 64) 25 31 (.agg #[.int .i64 0, .int .i64 0, .int .i64 0, .int .i64 0]) 32 rfl Try.underlying25 info31 rfl (by decide) (by omega) u9 ((ss.take i).map (linkK all o)) x [.int .i64 x.f0, .int .i64 x.f1, .int .i64 x.f2, .int .i64 x.f3] (fun _ => True) (fun _ => False) rfl rfl (k31_mkM _ _ _ x) (fun _ h => h.elim) (fun _ _ => trivial) HOL.out hbx hbx.size ?bL ?_; (case bL => have := HL8.out; omega); intro v5 w5 ho5 hb5 hg5 hat5; have HO5 := Aside0.mk ho5; clear ho5 hat5))
          go_roundg (ss.length - (i + 1))
          case measure => have := HG2.out; omega
          case rel => exact ⟨i + 1, rfl, by omega, by go_num, ⟨by rw [HTK.out]; exact HO5.out⟩, hb5⟩
        · have e : ss.take i = ss := List.take_of_length_le (by omega)
          have HO4 : Aside0 (OL wr w3.heap.size u9 (builtL o l)) := ⟨by
            have := HOL.out
            rw [e, ← HSS.out, HALL.out] at this
            exact this⟩
          have hbw : Below w.heap.size w wr := hb3.trans (hbx.mono hb3.size)
          clear e
          go_wp2
          go_ret
          exact ⟨_, rfl, Kd.R_lower HO4.out hb3.size, hbw⟩
end Go.Proofs.Ytilenkodmmpofaa.K

set_option linter.unusedVariables false
set_option linter.unusedSimpArgs false
namespace Go.Proofs.Ytilenkodmmpofaa.K
open Go.RowKit Go.Proofs.YtilenkodmmpofaaW.PrintWords Go.Maps PC

def makeF (o : Int) (l : List Int) : List S31 × Int :=
  if (o :: l).all okKey = true then (if (o :: l).Nodup then (if 500 ≤ l.length then ([], 4) else (builtL o l, 0)) else ([], 1)) else ([], 1)
theorem ret_vl {v : Value} {F : List S31 × Int} {x : List S31} {y : Int} (h : F = (x, y)) : Ending.returned (.tuple #[v, .int .i64 y]) = Ending.returned (.tuple #[v, .int .i64 F.2]) := by rw [h]
theorem met_new {w : World} {b : Nat} {S : List Int} (h : Met w b S) : some b ≠ (Value.slice (some ⟨w.heap.size, 0, none⟩) 1 1).ownBlock := by
  have h1 := h.lt
  intro e
  have e2 : b = w.heap.size := by simpa [Value.ownBlock] using e
  omega
set_option maxRecDepth 100000 in
set_option maxHeartbeats 8000000 in
theorem Make_calls (o : Int) (A : Option Addr) (c : Nat) (l : List Int) (w : World) (hr : Kd.C (Kd.int .i64) w A l.length l) (hl : l.length ≤ 1000) (hwf : ∀ x ∈ o :: l, wfi x) :
    Calls Try.prog 15 #[.int .i64 o, .slice A l.length c] w fun e w' => ∃ v, e = .returned (.tuple #[v, .int .i64 (makeF o l).2]) ∧ OL w' w.heap.size v (makeF o l).1 ∧ Below w.heap.size w w' := by
  have HR := Aside0.mk hr
  have HWF := Aside0.mk hwf
  have hmx := (C_len hr).2
  have hmm := @run_makeMap Try.prog
  obtain ⟨w2, hput, hmet2, hgr2⟩ := (met_made w).put (x := o) (hwf o (List.mem_cons_self ..)) (by simp) (by decide)
  have hb2 : Below w.heap.size w w2 := (below_alloc (Below.refl _ w) (.map #[] 0)).grown hgr2 (by simp) (fun k e => by cases e; exact Nat.le_refl _)
  have HMET2 := Aside0.mk hmet2
  obtain ⟨all, hall⟩ : ∃ all, all = o :: l := ⟨_, rfl⟩
  have hapos : 0 < all.length := by rw [hall]; simp
  have hal : all.length ≤ 1001 := by rw [hall]; simp; omega
  have HALL := Aside0.mk hall
  clear hr hwf hgr2 hmet2 hall
  have HW2 := fun (W : World) (h : Below w.heap.size w W) => Aside0.mk (own_one (w := W) (base := w.heap.size) h.size o)
  go_enter Try.func15, Try.ntmps15
  go_wp2_with (first | ((with_reducible refine at_b (b := .append) (xs := #[.tmp 15, .tmp 16]) rfl ?_); go_must (refine Kd.R_append_rows (Kd.int .i64) (w0 := w) w.heap.size rfl (.tmp 15) (.tmp 16) 22 3 (.int .i64 0) 8 rfl Try.underlying22 info3 rfl (by decide) (by omega) _ [o] l _ _ _ (fun _ => True) (fun _ => False) rfl rfl (HW2 _ hb2).out (Kd.C_below HR.out (below_alloc hb2 _)) (fun _ _ h => h) (fun _ h => h.elim) (fun _ _ => trivial) (below_alloc hb2 _) (by have := hb2.size; simp; omega) (by simp; omega) ?_; intro v5 w3 hO3 hb3 hg3 hat3; rw [show [o] ++ l = all from HALL.out.symm] at hO3; obtain ⟨g5, cp5, e5, hgb5, _⟩ := Kd.R_form hO3 hapos; subst e5; have HO3 := Aside0.mk hO3; have HM3 := Aside0.mk ((HMET2.out.below (below_alloc (Below.refl _ w2) (.cells #[.int .i64 o] 3))).kept hg3 (met_new HMET2.out)); clear hO3 hg3 hat3)))
  have hbS := hb2.size
  go_loopg [19] all.length (fun gk v19 wr => ∃ (i : Nat), gk = all.length - i ∧ i ≤ all.length ∧ v19 = .int .i64 i ∧ Aside0 ((all.take i).all okKey = true) ∧ Aside0 (Met wr w.heap.size [o]) ∧ Aside0 (OI wr w.heap.size (.slice (some ⟨g5, 0, none⟩) all.length cp5) all) ∧ Below w.heap.size w wr)
  case atStart => exact ⟨0, rfl, Nat.zero_le _, rfl, ⟨rfl⟩, HM3, HO3, hb3⟩
  case round =>
    clear hb3 HM3 HO3 hb2 hput HMET2 HW2
    obtain ⟨i, hg, hi, rfl, HT, HM, HO, hbel⟩ := hrel
    have HG := Aside0.mk hg
    clear hg
    by_cases hlt : i < all.length
    · obtain ⟨ad, x, hA, hd, q0⟩ := C_int (Kd.R_reads' HO.out).2.2 i hlt
      obtain rfl : ad = ⟨g5, 0, none⟩ := by injection hA with h; exact h.symm
      have ea : (⟨g5, 0, none⟩ : Addr).add i = ⟨g5, i, none⟩ := by unfold Addr.add; split <;> simp_all
      rw [ea] at q0
      have hxe : all[i] = x := by
        rw [List.drop_eq_getElem_cons hlt] at hd
        injection hd
      have HXE := Aside0.mk hxe
      clear hA hd ea hxe
      cases hk : okKey x with
      | false =>
        have HKY := fun W => Aside0.mk (key_is hk W)
        have HF : Aside0 (makeF o l = ([], 1)) := ⟨by
          unfold makeF
          rw [if_neg]
          intro h
          rw [← HALL.out] at h
          have := List.all_eq_true.1 h all[i] (List.getElem_mem hlt)
          rw [HXE.out, hk] at this
          cases this⟩
        clear hk
        go_wp2_with (go_at_call 48; go_must (refine (HKY _).out.mono ?_; rintro e w4 ⟨rfl, hd⟩))
        go_ret2
        exact ⟨_, ret_vl HF.out, by rw [HF.out]; exact Kd.R_nil _ _ _ _ _, below_then hbel hd⟩
      | true =>
        have HKY := fun W => Aside0.mk (key_is hk W)
        have HT2 : Aside0 ((all.take (i + 1)).all okKey = true) := ⟨by rw [List.take_succ_eq_append_getElem hlt, List.all_append, HT.out, HXE.out]; simp [hk]⟩
        clear hk
        go_wp2_with (go_at_call 48; go_must (refine (HKY _).out.mono ?_; rintro e w4 ⟨rfl, hd⟩))
        go_roundg (all.length - (i + 1))
        case measure => have := HG.out; omega
        case rel => exact ⟨i + 1, rfl, by omega, by go_num, HT2, ⟨HM.out.below hd⟩, ⟨Kd.R_below HO.out hd⟩, below_then hbel hd⟩
    · have HT1 : Aside0 ((o :: l).all okKey = true) := ⟨by
        have := HT.out
        rw [List.take_of_length_le (show all.length ≤ i by omega), HALL.out] at this
        exact this⟩
      clear HT HG
      go_wp2
      clear HO hlt hi
      obtain ⟨wo, hwo⟩ : ∃ wo : World, wo = wr := ⟨_, rfl⟩
      go_loopg [29] l.length (fun gk v29 wr => ∃ (i : Nat), gk = l.length - i ∧ i ≤ l.length ∧ v29 = .int .i64 i ∧ Aside0 ((o :: l.take i).Nodup) ∧ Aside0 (Met wr w.heap.size (o :: l.take i)) ∧ Below w.heap.size w wr)
      case atStart => exact ⟨0, rfl, Nat.zero_le _, rfl, ⟨by simp⟩, ⟨by simpa using HM.out⟩, hbel⟩
      case round =>
        clear HM hbel hwo
        obtain ⟨i, hg, hi, rfl, HND, HM, hbel⟩ := hrel
        have HG := Aside0.mk hg
        clear hg
        by_cases hlt : i < l.length
        · obtain ⟨ad, x, hA, hd, q0⟩ := C_int HR.out i hlt
          subst hA
          replace q0 := pw_cell_below hbel q0
          have hxe : l[i] = x := by
            rw [List.drop_eq_getElem_cons hlt] at hd
            injection hd
          have hwx : wfi x := HWF.out x (List.mem_cons_of_mem _ (by rw [← hxe]; exact List.getElem_mem hlt))
          have HXE := Aside0.mk hxe
          clear hd hxe
          have hlook := HM.out.look hwx
          by_cases hin : x ∈ o :: l.take i
          · have HF : Aside0 (makeF o l = ([], 1)) := ⟨by
              unfold makeF
              rw [if_pos HT1.out, if_neg]
              intro h
              have h1 : (o :: l) = (o :: l.take i) ++ l.drop i := by rw [List.cons_append, List.take_append_drop]
              rw [h1, List.nodup_append] at h
              refine h.2.2 x hin x ?_ rfl
              rw [List.drop_eq_getElem_cons hlt, HXE.out]
              exact List.mem_cons_self ..⟩
            rw [decide_eq_true hin] at hlook
            clear hin hwx
            go_wp2
            go_ret2
            exact ⟨_, ret_vl HF.out, by rw [HF.out]; exact Kd.R_nil _ _ _ _ _, hbel⟩
          · rw [decide_eq_false hin] at hlook
            have htk : o :: l.take (i + 1) = (o :: l.take i) ++ [x] := by rw [List.take_succ_eq_append_getElem hlt, HXE.out]; rfl
            have HND2 : Aside0 ((o :: l.take (i + 1)).Nodup) := ⟨by
              rw [htk, List.nodup_append]
              refine ⟨HND.out, by simp, fun a ha b hb e => ?_⟩
              rw [List.mem_singleton.1 hb] at e
              exact hin (e ▸ ha)⟩
            obtain ⟨w4, hput, hmet4, hgr4⟩ := HM.out.put hwx hin (by simp; unfold maxLen; omega)
            have HM4 : Aside0 (Met w4 w.heap.size (o :: l.take (i + 1))) := ⟨by rw [htk]; exact hmet4⟩
            have hb4 := hbel.grown hgr4 hbel.size (fun k e => by cases e; exact Nat.le_refl _)
            clear hin hwx htk hmet4 hgr4
            go_wp2
            go_roundg (l.length - (i + 1))
            case measure => have := HG.out; omega
            case rel => exact ⟨i + 1, rfl, by omega, by go_num, HND2, HM4, hb4⟩
        · have HNF : Aside0 ((o :: l).Nodup) := ⟨by
            have := HND.out
            rw [List.take_of_length_le (show l.length ≤ i by omega)] at this
            exact this⟩
          by_cases h5 : 500 ≤ l.length
          · have HF : Aside0 (makeF o l = ([], 4)) := ⟨by unfold makeF; rw [if_pos HT1.out, if_pos HNF.out, if_pos h5]⟩
            have h50 : decide ((500 : Int) ≤ (l.length : Int)) = true := decide_eq_true (by omega)
            have h51 : (500 : Int) ≤ (l.length : Int) := by omega
            clear h5
            go_wp2
            go_ret2
            exact ⟨_, ret_vl HF.out, by rw [HF.out]; exact Kd.R_nil _ _ _ _ _, hbel⟩
          · have HF : Aside0 (makeF o l = (builtL o l, 0)) := ⟨by unfold makeF; rw [if_pos HT1.out, if_pos HNF.out, if_neg h5]⟩
            have h50 : decide ((500 : Int) ≤ (l.length : Int)) = false := decide_eq_false (by omega)
            have h51 : ¬ (500 : Int) ≤ (l.length : Int) := by omega
            have HC := Aside0.mk (made_calls o A c l wr (Kd.C_below HR.out hbel) (by omega) HNF.out (fun x hx => okKey_iff.1 (List.all_eq_true.1 HT1.out x hx)))
            clear h5
            go_wp2_with (go_at_call 53; go_must (refine HC.out.mono ?_; rintro e w5 ⟨v5, rfl, hO5, hd5⟩; have HO5 := Aside0.mk hO5; clear hO5))
            go_ret2
            exact ⟨_, ret_vl HF.out, by rw [HF.out]; exact Kd.R_lower HO5.out hbel.size, below_then hbel hd5⟩
end Go.Proofs.Ytilenkodmmpofaa.K

set_option linter.unusedVariables false
set_option linter.unusedSimpArgs false
namespace Go.Proofs.Ytilenkodmmpofaa.K
open Go.RowKit Go.Proofs.YtilenkodmmpofaaW.PrintWords Go.Maps PC

/-- How many stand ahead of x. -/
def upTo (x : Int) : List Int → Nat
  | [] => 0
  | y :: r => if y ≤ x then upTo x r + 1 else 0
def insA (out : List Int) (x : Int) : List Int := out.take (upTo x out) ++ x :: out.drop (upTo x out)
def ascF : List Int → List Int → List Int
  | out, [] => out
  | out, x :: r => ascF (insA out x) r
theorem upTo_le (x : Int) : ∀ out : List Int, upTo x out ≤ out.length
  | [] => Nat.le_refl _
  | y :: r => by
    rw [upTo]
    split
    · have := upTo_le x r; simp; omega
    · exact Nat.zero_le _
theorem upTo_at (x : Int) : ∀ (out : List Int) (j : Nat) (h : j < out.length), j ≤ upTo x out → (out[j] ≤ x ↔ j < upTo x out)
  | y :: r, 0, _, _ => by
    rw [upTo]
    by_cases e : y ≤ x <;> simp [e]
  | y :: r, j + 1, h, hj => by
    rw [upTo] at hj ⊢
    by_cases e : y ≤ x
    · rw [if_pos e] at hj ⊢
      have := upTo_at x r j (by simpa using h) (by omega)
      simpa using this
    · rw [if_neg e] at hj
      omega
theorem insA_len (out : List Int) (x : Int) : (insA out x).length = out.length + 1 := by
  have := upTo_le x out
  simp [insA]
  omega
theorem C_one_of {W : World} {a : Nat} {x : Int} (h : W.heap[a]? = some (.cells #[.int .i64 x] 3 (0, 0))) : Kd.C (Kd.int .i64) W (some ⟨a, 0, none⟩) 1 [x] := by
  refine ⟨rfl, by decide, fun _ => ⟨_, rfl, fun j p hj => ?_⟩⟩
  match j, hj with
  | 0, hj =>
    cases hj
    refine ⟨[_], rfl, rfl, fun i u hu => ?_⟩
    have hi : i = 0 := by
      have := (List.getElem?_eq_some_iff.1 hu).1
      simpa using this
    subst hi
    simp at hu
    subst hu
    rw [show (⟨a, 0, none⟩ : Addr).add (0 * (Kd.int .i64).sz + 0) = ⟨a, 0, none⟩ from rfl]
    simp [World.cell?, h]
theorem empty_own {W : World} {base : Nat} (hb : base ≤ W.heap.size) : OI (W.alloc (.cells #[] 3)) base (.slice (some ⟨W.heap.size, 0, none⟩) 0 0) [] :=
  ⟨fun _ _ => trivial, [], World.ownsRow_made W #[] 0 hb (Nat.zero_le _) rfl, Reps.none _ _⟩
set_option maxRecDepth 100000 in
set_option maxHeartbeats 16000000 in
theorem Ascending_calls (A : Option Addr) (c : Nat) (l : List Int) (w : World) (hr : Kd.C (Kd.int .i64) w A l.length l) (hl : l.length ≤ 1001) :
    Calls Try.prog 73 #[.slice A l.length c] w fun e w' => ∃ v, e = .returned v ∧ OI w' w.heap.size v (ascF [] l) ∧ Below w.heap.size w w' := by
  have HR := Aside0.mk hr
  have hmx := (C_len hr).2
  clear hr
  go_enter Try.func73, Try.ntmps73
  go_wp2
  go_loopg [3, 4] l.length (fun gk v3 v4 wr => ∃ (i : Nat) (out : List Int), gk = l.length - i ∧ i ≤ l.length ∧ v4 = .int .i64 i ∧ Aside0 (ascF [] l = ascF out (l.drop i) ∧ out.length = i) ∧ Aside0 (OI wr w.heap.size v3 out) ∧ Below w.heap.size w wr)
  case atStart => exact ⟨0, [], rfl, Nat.zero_le _, rfl, ⟨rfl, rfl⟩, ⟨Kd.R_nil _ _ _ _ _⟩, Below.refl _ _⟩
  case round =>
    obtain ⟨i, out, hg, hi, rfl, HT, HO, hbel⟩ := hrel
    have HG := Aside0.mk hg
    clear hg
    by_cases hlt : i < l.length
    · obtain ⟨ad, x, hA, hd, q0⟩ := C_int HR.out i hlt
      subst hA
      replace q0 := pw_cell_below hbel q0
      have HD := Aside0.mk hd
      obtain ⟨A3, c3, e3, hlc3, hC3⟩ := Kd.R_reads HO.out
      subst e3
      have HC3 := Aside0.mk hC3
      have hol : out.length ≤ 1001 := by have := HT.out.2; omega
      have HT2 : Aside0 (ascF [] l = ascF (insA out x) (l.drop (i + 1)) ∧ (insA out x).length = i + 1) := ⟨by rw [HT.out.1, hd, ascF], by rw [insA_len, HT.out.2]⟩
      clear hd hC3
      go_wp2
      obtain ⟨wo, hwo⟩ : ∃ wo : World, wo = wr := ⟨_, rfl⟩
      rw [← hwo]
      have hbo : Below w.heap.size w wo := by rw [hwo]; exact hbel
      have q0o : wo.cell? (ad.add i) = some (.int .i64 x) := by rw [hwo]; exact q0
      have HC3o : Aside0 (Kd.C (Kd.int .i64) wo A3 out.length out) := ⟨by rw [hwo]; exact HC3.out⟩
      have HOo : Aside0 (OI wo w.heap.size (.slice A3 out.length c3) out) := ⟨by rw [hwo]; exact HO.out⟩
      clear hwo q0 HC3 HO hbel
      go_loopg [5] out.length (fun gk v5 wq => ∃ (at' : Nat), gk = out.length - at' ∧ at' ≤ out.length ∧ v5 = .int .i64 at' ∧ Aside0 (at' ≤ upTo x out) ∧ Below wo.heap.size wo wq)
      case atStart => exact ⟨0, rfl, Nat.zero_le _, rfl, ⟨Nat.zero_le _⟩, Below.refl _ _⟩
      case round =>
        obtain ⟨at', hg2, hat, rfl, HUP, hbq⟩ := hrel
        have HG2 := Aside0.mk hg2
        clear hg2
        have q0r := pw_cell_below hbq q0o
        have hliI : decide ((i : Int) < (l.length : Int)) = true := decide_eq_true (by omega)
        by_cases hal : at' < out.length
        · have hdl : decide ((at' : Int) < (out.length : Int)) = true := decide_eq_true (by omega)
          have hdl2 : decide (at' < out.length) = true := decide_eq_true hal
          obtain ⟨ad3, hA3, p0⟩ := getD_cell (Kd.C_below HC3o.out hbq) at' hal
          subst hA3
          have hgt : out.getD at' 0 = out[at'] := by rw [List.getD_eq_getElem?_getD, List.getElem?_eq_getElem hal]; rfl
          have hiff := upTo_at x out at' hal HUP.out
          rw [hgt] at p0
          clear hgt
          by_cases hle : out[at'] ≤ x
          · have HUP2 : Aside0 (at' + 1 ≤ upTo x out) := ⟨hiff.1 hle⟩
            have hle2 : decide (out[at'] ≤ x) = true := decide_eq_true hle
            clear hiff hle
            generalize out[at'] = y at p0 hle2
            go_wp2
            go_quiet (fail)
            go_wp2
            go_roundg (out.length - (at' + 1))
            case measure => have := HG2.out; omega
            case rel => exact ⟨at' + 1, rfl, by omega, by go_num, HUP2, by repeat (first | exact hbq | refine pw_below_drewN ?_ _)⟩
          · have hup : upTo x out = at' := by have := HUP.out; have := fun h => hle (hiff.2 h); omega
            have HUPE := Aside0.mk hup
            have hle2 : decide (out[at'] ≤ x) = false := decide_eq_false hle
            clear hiff hle hup
            generalize out[at'] = y at p0 hle2
            go_wp2
            go_quiet (fail)
            go_wp2
            obtain ⟨wz, hwz⟩ : ∃ wz : World, wz = World.drewN wr nq := ⟨_, rfl⟩
            rw [← hwz]
            have hbz : Below wo.heap.size wo wz := by rw [hwz]; exact pw_below_drewN hbq _
            have q0z := pw_cell_below hbz q0o
            have HCz := Aside0.mk (Kd.C_below HC3o.out hbz)
            have HTK : Aside0 (Kd.C (Kd.int .i64) wz (some ad3) at' (out.take at')) := ⟨by have := Kd.C_take HCz.out hat; rwa [List.length_take, Nat.min_eq_left hat] at this⟩
            have HDP : Aside0 (Kd.C (Kd.int .i64) wz (if c3 = at' then some ad3 else some (ad3.add at')) (out.length - at') (out.drop at')) := ⟨by have := Kd.C_drop HCz.out hat hlc3; rw [List.length_drop] at this; simpa only [show (Kd.int .i64).sz = 1 from rfl, Nat.mul_one, Option.map_some] using this⟩
            have hbzw : Below w.heap.size w wz := below_then hbo hbz
            have hN0 : Aside0 (OI (wz.alloc (.cells #[] 3)).drew wz.heap.size (.slice (some ⟨wz.heap.size, 0, none⟩) 0 0) []) := ⟨Kd.R_drew (empty_own (Nat.le_refl _))⟩
            have hZ0 : Aside0 (OI ((wz.alloc (.cells #[] 3)).alloc (.cells #[.int .i64 x] 3)).drew wz.heap.size (.slice (some ⟨wz.heap.size, 0, none⟩) 0 0) []) := ⟨Kd.R_drew (Kd.R_alloc (empty_own (Nat.le_refl _)) _)⟩
            have hZ1 : Aside0 (OI ((wz.alloc (.cells #[.int .i64 x] 3)).alloc (.cells #[] 3)).drew wz.heap.size (.slice (some ⟨wz.heap.size + 1, 0, none⟩) 0 0) []) := ⟨by have := empty_own (W := wz.alloc (.cells #[.int .i64 x] 3)) (base := wz.heap.size) (by simp); rw [World.size_alloc] at this; exact Kd.R_drew this⟩
            have hX0 : Aside0 ((wz.alloc (.cells #[.int .i64 x] 3)).heap[wz.heap.size]? = some (.cells #[.int .i64 x] 3 (0, 0))) := ⟨World.alloc_heap_new wz _⟩
            have hX1 : Aside0 (((wz.alloc (.cells #[] 3)).alloc (.cells #[.int .i64 x] 3)).heap[wz.heap.size + 1]? = some (.cells #[.int .i64 x] 3 (0, 0))) := ⟨by have := World.alloc_heap_new (wz.alloc (.cells #[] 3)) (.cells #[.int .i64 x] 3); rwa [World.size_alloc] at this⟩
            have hcut : (out.take at').length + 1 ≤ 1002 := by rw [List.length_take]; omega
            have hat0 : (0 : Int) ≤ (at' : Int) := by omega
            have hatl : (at' : Int) ≤ (out.length : Int) := by omega
            have hatc : (at' : Int) ≤ (c3 : Int) := by omega
            have hlcI : (out.length : Int) ≤ (c3 : Int) := by omega
            clear hwz hbq q0r q0o p0 hle2
            go_region_held3 (fun w' => Below wz.heap.size wz w' ∧ w'.cell? (ad.add i) = some (.int .i64 x)) ((refine (fun h => ⟨h, pw_cell_below h q0z⟩ : Below wz.heap.size wz _ → _) ?_; (repeat first | exact Below.refl _ _ | exact HB1.out | exact HB2.out | exact HB3.out | refine below_drew ?_ | refine below_alloc ?_ _))) (first
              | (refine Kd.R_append_rows_step (Kd.int .i64) (w0 := wz) wz.heap.size (by rfl) (.tmp 29) (.tmp 32) 22 3 (.int .i64 0) 8 rfl Try.underlying22 info3 rfl (by decide) (by omega) _ [] (out.take at') _ _ _ (fun _ => True) (fun _ => False) rfl rfl ?bO ?bR (fun _ _ h => h) (fun _ h => h.elim) (fun _ _ => trivial) ?bB ?bS ?bL ?_; (case bO => first | exact hN0.out | exact hZ0.out | exact hZ1.out); (case bR => refine Kd.C_below HTK.out ?_; (repeat first | exact Below.refl _ _ | exact HB1.out | exact HB2.out | exact HB3.out | refine below_drew ?_ | refine below_alloc ?_ _)); (case bB => (repeat first | exact Below.refl _ _ | exact HB1.out | exact HB2.out | exact HB3.out | refine below_drew ?_ | refine below_alloc ?_ _)); (case bS => refine Below.size (B := wz.heap.size) (w := wz) ?_; (repeat first | exact Below.refl _ _ | exact HB1.out | exact HB2.out | exact HB3.out | refine below_drew ?_ | refine below_alloc ?_ _)); (case bL => simp; omega); intro v11 w11 ho11 hb11 hg11 hat11; rw [List.nil_append] at ho11; have HO11 := Aside0.mk ho11; have HB1 := Aside0.mk hb11; have HG11 := Aside0.mk hg11; clear ho11 hb11 hg11 hat11)
              | (refine Kd.R_append_rows_step (Kd.int .i64) (w0 := wz) wz.heap.size (by rfl) (.tmp 33) (.tmp 38) 22 3 (.int .i64 0) 8 rfl Try.underlying22 info3 rfl (by decide) (by omega) v11 (out.take at') [x] _ _ _ (fun _ => True) (fun _ => False) rfl rfl ?bO ?bR (fun _ _ h => h) (fun _ h => h.elim) (fun _ _ => trivial) ?bB ?bS ?bL ?_; (case bO => refine Kd.R_below HO11.out ?_; (repeat first | exact Below.refl _ _ | refine below_drew ?_ | refine below_alloc ?_ _)); (case bR => first | exact C_one_of (World.alloc_heap_new w11 _) | exact C_one_of ((HG11.out.block _ (by simp; try omega) (by show some (wz.heap.size + 1) ≠ some wz.heap.size; simp)).trans hX1.out) | exact C_one_of ((HG11.out.block _ (by simp; try omega) (by show some wz.heap.size ≠ some (wz.heap.size + 1); simp)).trans ((Below.heap_alloc _ _ _ (by simp)).trans hX0.out))); (case bB => (repeat first | exact Below.refl _ _ | exact HB1.out | exact HB2.out | exact HB3.out | refine below_drew ?_ | refine below_alloc ?_ _)); (case bS => refine Below.size (B := wz.heap.size) (w := wz) ?_; (repeat first | exact Below.refl _ _ | exact HB1.out | exact HB2.out | exact HB3.out | refine below_drew ?_ | refine below_alloc ?_ _)); (case bL => omega); intro v12 w12 ho12 hb12 hg12 hat12; have HO12 := Aside0.mk ho12; have HB2 := Aside0.mk hb12; clear ho12 hb12 hg12 hat12)
              | (refine Kd.R_append_rows_step (Kd.int .i64) (w0 := wz) wz.heap.size (by rfl) (.tmp 39) (.tmp 42) 22 3 (.int .i64 0) 8 rfl Try.underlying22 info3 rfl (by decide) (by omega) v12 (out.take at' ++ [x]) (out.drop at') _ _ _ (fun _ => True) (fun _ => False) rfl rfl ?bO ?bR (fun _ _ h => h) (fun _ h => h.elim) (fun _ _ => trivial) ?bB ?bS ?bL ?_; (case bO => refine Kd.R_below HO12.out ?_; (repeat first | exact Below.refl _ _ | refine below_drew ?_ | refine below_alloc ?_ _)); (case bR => refine Kd.C_below HDP.out ?_; (repeat first | exact Below.refl _ _ | exact HB1.out | exact HB2.out | exact HB3.out | refine below_drew ?_ | refine below_alloc ?_ _)); (case bB => (repeat first | exact Below.refl _ _ | exact HB1.out | exact HB2.out | exact HB3.out | refine below_drew ?_ | refine below_alloc ?_ _)); (case bS => refine Below.size (B := wz.heap.size) (w := wz) ?_; (repeat first | exact Below.refl _ _ | exact HB1.out | exact HB2.out | exact HB3.out | refine below_drew ?_ | refine below_alloc ?_ _)); (case bL => simp only [List.length_append, List.length_singleton]; omega); intro v13 w13 ho13 hb13 hg13 hat13; have HO13 := Aside0.mk ho13; have HB3 := Aside0.mk hb13; clear ho13 hb13 hg13 hat13))
            all_goals
              go_wp2
              all_goals
                go_roundg (l.length - (i + 1))
                case measure => have := HG.out; omega
                case rel => exact ⟨i + 1, insA out x, rfl, by omega, by go_num, HT2, ⟨by have := Kd.R_lower HO13.out hbzw.size; rw [List.append_assoc, List.singleton_append] at this; unfold insA; rw [HUPE.out]; exact this⟩, below_then hbzw HB3.out⟩
        · have hdl : decide ((at' : Int) < (out.length : Int)) = false := decide_eq_false (by omega)
          have hdl2 : decide (at' < out.length) = false := decide_eq_false hal
          have hup : upTo x out = at' := by have := HUP.out; have := upTo_le x out; omega
          have HUPE := Aside0.mk hup
          clear hup
          go_wp2
          go_quiet (fail)
          go_wp2
          obtain ⟨wz, hwz⟩ : ∃ wz : World, wz = World.drewN wr nq := ⟨_, rfl⟩
          rw [← hwz]
          have hbz : Below wo.heap.size wo wz := by rw [hwz]; exact pw_below_drewN hbq _
          have q0z := pw_cell_below hbz q0o
          have HCz := Aside0.mk (Kd.C_below HC3o.out hbz)
          have HTK : Aside0 (Kd.C (Kd.int .i64) wz (A3) at' (out.take at')) := ⟨by have := Kd.C_take HCz.out hat; rwa [List.length_take, Nat.min_eq_left hat] at this⟩
          have HDP : Aside0 (Kd.C (Kd.int .i64) wz (if c3 = at' then A3 else A3.map (·.add at')) (out.length - at') (out.drop at')) := ⟨by have := Kd.C_drop HCz.out hat hlc3; rw [List.length_drop] at this; simpa only [show (Kd.int .i64).sz = 1 from rfl, Nat.mul_one, Option.map_some] using this⟩
          have hbzw : Below w.heap.size w wz := below_then hbo hbz
          have hN0 : Aside0 (OI (wz.alloc (.cells #[] 3)).drew wz.heap.size (.slice (some ⟨wz.heap.size, 0, none⟩) 0 0) []) := ⟨Kd.R_drew (empty_own (Nat.le_refl _))⟩
          have hZ0 : Aside0 (OI ((wz.alloc (.cells #[] 3)).alloc (.cells #[.int .i64 x] 3)).drew wz.heap.size (.slice (some ⟨wz.heap.size, 0, none⟩) 0 0) []) := ⟨Kd.R_drew (Kd.R_alloc (empty_own (Nat.le_refl _)) _)⟩
          have hZ1 : Aside0 (OI ((wz.alloc (.cells #[.int .i64 x] 3)).alloc (.cells #[] 3)).drew wz.heap.size (.slice (some ⟨wz.heap.size + 1, 0, none⟩) 0 0) []) := ⟨by have := empty_own (W := wz.alloc (.cells #[.int .i64 x] 3)) (base := wz.heap.size) (by simp); rw [World.size_alloc] at this; exact Kd.R_drew this⟩
          have hX0 : Aside0 ((wz.alloc (.cells #[.int .i64 x] 3)).heap[wz.heap.size]? = some (.cells #[.int .i64 x] 3 (0, 0))) := ⟨World.alloc_heap_new wz _⟩
          have hX1 : Aside0 (((wz.alloc (.cells #[] 3)).alloc (.cells #[.int .i64 x] 3)).heap[wz.heap.size + 1]? = some (.cells #[.int .i64 x] 3 (0, 0))) := ⟨by have := World.alloc_heap_new (wz.alloc (.cells #[] 3)) (.cells #[.int .i64 x] 3); rwa [World.size_alloc] at this⟩
          have hcut : (out.take at').length + 1 ≤ 1002 := by rw [List.length_take]; omega
          have hat0 : (0 : Int) ≤ (at' : Int) := by omega
          have hatl : (at' : Int) ≤ (out.length : Int) := by omega
          have hatc : (at' : Int) ≤ (c3 : Int) := by omega
          have hlcI : (out.length : Int) ≤ (c3 : Int) := by omega
          clear hwz hbq q0r q0o 
          go_region_held3 (fun w' => Below wz.heap.size wz w' ∧ w'.cell? (ad.add i) = some (.int .i64 x)) ((refine (fun h => ⟨h, pw_cell_below h q0z⟩ : Below wz.heap.size wz _ → _) ?_; (repeat first | exact Below.refl _ _ | exact HB1.out | exact HB2.out | exact HB3.out | refine below_drew ?_ | refine below_alloc ?_ _))) (first
            | (refine Kd.R_append_rows_step (Kd.int .i64) (w0 := wz) wz.heap.size (by rfl) (.tmp 29) (.tmp 32) 22 3 (.int .i64 0) 8 rfl Try.underlying22 info3 rfl (by decide) (by omega) _ [] (out.take at') _ _ _ (fun _ => True) (fun _ => False) rfl rfl ?bO ?bR (fun _ _ h => h) (fun _ h => h.elim) (fun _ _ => trivial) ?bB ?bS ?bL ?_; (case bO => first | exact hN0.out | exact hZ0.out | exact hZ1.out); (case bR => refine Kd.C_below HTK.out ?_; (repeat first | exact Below.refl _ _ | exact HB1.out | exact HB2.out | exact HB3.out | refine below_drew ?_ | refine below_alloc ?_ _)); (case bB => (repeat first | exact Below.refl _ _ | exact HB1.out | exact HB2.out | exact HB3.out | refine below_drew ?_ | refine below_alloc ?_ _)); (case bS => refine Below.size (B := wz.heap.size) (w := wz) ?_; (repeat first | exact Below.refl _ _ | exact HB1.out | exact HB2.out | exact HB3.out | refine below_drew ?_ | refine below_alloc ?_ _)); (case bL => simp; omega); intro v11 w11 ho11 hb11 hg11 hat11; rw [List.nil_append] at ho11; have HO11 := Aside0.mk ho11; have HB1 := Aside0.mk hb11; have HG11 := Aside0.mk hg11; clear ho11 hb11 hg11 hat11)
            | (refine Kd.R_append_rows_step (Kd.int .i64) (w0 := wz) wz.heap.size (by rfl) (.tmp 33) (.tmp 38) 22 3 (.int .i64 0) 8 rfl Try.underlying22 info3 rfl (by decide) (by omega) v11 (out.take at') [x] _ _ _ (fun _ => True) (fun _ => False) rfl rfl ?bO ?bR (fun _ _ h => h) (fun _ h => h.elim) (fun _ _ => trivial) ?bB ?bS ?bL ?_; (case bO => refine Kd.R_below HO11.out ?_; (repeat first | exact Below.refl _ _ | refine below_drew ?_ | refine below_alloc ?_ _)); (case bR => first | exact C_one_of (World.alloc_heap_new w11 _) | exact C_one_of ((HG11.out.block _ (by simp; try omega) (by show some (wz.heap.size + 1) ≠ some wz.heap.size; simp)).trans hX1.out) | exact C_one_of ((HG11.out.block _ (by simp; try omega) (by show some wz.heap.size ≠ some (wz.heap.size + 1); simp)).trans ((Below.heap_alloc _ _ _ (by simp)).trans hX0.out))); (case bB => (repeat first | exact Below.refl _ _ | exact HB1.out | exact HB2.out | exact HB3.out | refine below_drew ?_ | refine below_alloc ?_ _)); (case bS => refine Below.size (B := wz.heap.size) (w := wz) ?_; (repeat first | exact Below.refl _ _ | exact HB1.out | exact HB2.out | exact HB3.out | refine below_drew ?_ | refine below_alloc ?_ _)); (case bL => omega); intro v12 w12 ho12 hb12 hg12 hat12; have HO12 := Aside0.mk ho12; have HB2 := Aside0.mk hb12; clear ho12 hb12 hg12 hat12)
            | (refine Kd.R_append_rows_step (Kd.int .i64) (w0 := wz) wz.heap.size (by rfl) (.tmp 39) (.tmp 42) 22 3 (.int .i64 0) 8 rfl Try.underlying22 info3 rfl (by decide) (by omega) v12 (out.take at' ++ [x]) (out.drop at') _ _ _ (fun _ => True) (fun _ => False) rfl rfl ?bO ?bR (fun _ _ h => h) (fun _ h => h.elim) (fun _ _ => trivial) ?bB ?bS ?bL ?_; (case bO => refine Kd.R_below HO12.out ?_; (repeat first | exact Below.refl _ _ | refine below_drew ?_ | refine below_alloc ?_ _)); (case bR => refine Kd.C_below HDP.out ?_; (repeat first | exact Below.refl _ _ | exact HB1.out | exact HB2.out | exact HB3.out | refine below_drew ?_ | refine below_alloc ?_ _)); (case bB => (repeat first | exact Below.refl _ _ | exact HB1.out | exact HB2.out | exact HB3.out | refine below_drew ?_ | refine below_alloc ?_ _)); (case bS => refine Below.size (B := wz.heap.size) (w := wz) ?_; (repeat first | exact Below.refl _ _ | exact HB1.out | exact HB2.out | exact HB3.out | refine below_drew ?_ | refine below_alloc ?_ _)); (case bL => simp only [List.length_append, List.length_singleton]; omega); intro v13 w13 ho13 hb13 hg13 hat13; have HO13 := Aside0.mk ho13; have HB3 := Aside0.mk hb13; clear ho13 hb13 hg13 hat13))
          all_goals
            go_wp2
            all_goals
              go_roundg (l.length - (i + 1))
              case measure => have := HG.out; omega
              case rel => exact ⟨i + 1, insA out x, rfl, by omega, by go_num, HT2, ⟨by have := Kd.R_lower HO13.out hbzw.size; rw [List.append_assoc, List.singleton_append] at this; unfold insA; rw [HUPE.out]; exact this⟩, below_then hbzw HB3.out⟩
    · have HF : Aside0 (ascF [] l = out) := ⟨by rw [HT.out.1, List.drop_eq_nil_of_le (by omega), ascF]⟩
      go_wp2
      go_ret
      exact ⟨_, rfl, by rw [HF.out]; exact HO.out, hbel⟩
end Go.Proofs.Ytilenkodmmpofaa.K

set_option linter.unusedVariables false
set_option linter.unusedSimpArgs false
namespace Go.Proofs.Ytilenkodmmpofaa.K
open PC

theorem insA_cons (y x : Int) (r : List Int) : insA (y :: r) x = if y ≤ x then y :: insA r x else x :: y :: r := by
  unfold insA
  rw [upTo]
  split <;> simp
theorem insA_perm (x : Int) : ∀ out : List Int, (insA out x).Perm (x :: out)
  | [] => by simp [insA, upTo]
  | y :: r => by
    rw [insA_cons]
    split
    · exact ((insA_perm x r).cons y).trans (List.Perm.swap x y r)
    · exact List.Perm.refl _
theorem insA_sorted (x : Int) : ∀ out : List Int, out.Pairwise (· ≤ ·) → (insA out x).Pairwise (· ≤ ·)
  | [], _ => by simp [insA, upTo]
  | y :: r, h => by
    rw [insA_cons]
    obtain ⟨hy, hr⟩ := List.pairwise_cons.1 h
    split
    · rename_i e
      refine List.pairwise_cons.2 ⟨fun z hz => ?_, insA_sorted x r hr⟩
      rcases List.mem_cons.1 ((insA_perm x r).mem_iff.1 hz) with rfl | hz
      · exact e
      · exact hy z hz
    · refine List.pairwise_cons.2 ⟨fun z hz => ?_, h⟩
      rcases List.mem_cons.1 hz with rfl | hz
      · omega
      · have := hy z hz; omega
theorem asc_perm : ∀ (l out : List Int), (ascF out l).Perm (out ++ l)
  | [], out => by simp [ascF]
  | x :: r, out => by
    rw [ascF]
    refine (asc_perm r _).trans (((insA_perm x out).append_right r).trans ?_)
    exact List.perm_middle.symm
theorem asc_sorted : ∀ (l out : List Int), out.Pairwise (· ≤ ·) → (ascF out l).Pairwise (· ≤ ·)
  | [], out, h => h
  | x :: r, out, h => by rw [ascF]; exact asc_sorted r _ (insA_sorted x out h)
theorem sortI_perm (l : List Int) : (sortI l).Perm l := List.mergeSort_perm ..
theorem sortI_sorted (l : List Int) : (sortI l).Pairwise (· ≤ ·) := by
  have := List.pairwise_mergeSort (le := fun x y : Int => decide (x ≤ y)) (fun a b c => by simp; omega) (fun a b => by simp; omega) l
  simpa [sortI] using this
theorem sorted_eq {a b : List Int} (ha : a.Pairwise (· ≤ ·)) (hb : b.Pairwise (· ≤ ·)) (h : a.Perm b) : a = b :=
  List.Perm.eq_of_pairwise (fun x y _ _ h1 h2 => by omega) ha hb h
theorem asc_is (l : List Int) : ascF [] l = sortI l :=
  sorted_eq (asc_sorted l [] .nil) (sortI_sorted l) ((asc_perm l []).trans (sortI_perm l).symm)

/-- How far the way round has come: the keys that were passed, and for each the one ahead of it. -/
structure Trace (l : List S31) (o : Int) (tr fr : List Int) (now : Nat) : Prop where
  nd : tr.Nodup
  head : tr[0]? = some o
  len : fr.length = l.length
  last : ∃ x, l[now]? = some x ∧ tr[tr.length - 1]? = some x.f0
  keys : ∀ k ∈ tr, ∃ x ∈ l, x.f0 = k
  step : ∀ (t : Nat) (a b : Int), tr[t]? = some a → tr[t + 1]? = some b → ∃ x ∈ l, x.f0 = a ∧ x.f1 = b
  hit : ∀ (m : Nat) (x : S31) (t : Nat), l[m]? = some x → tr[t + 1]? = some x.f0 → fr[m]? = tr[t]?
  miss : ∀ (m : Nat) (x : S31), l[m]? = some x → (∀ t, tr[t + 1]? ≠ some x.f0) → fr[m]? = some 0
theorem trace_start {l : List S31} {own : Nat} {y : S31} (hy : l[own]? = some y) : Trace l y.f0 [y.f0] (List.replicate l.length 0) own where
  nd := by simp
  head := rfl
  len := by simp
  last := ⟨y, hy, rfl⟩
  keys := fun k hk => ⟨y, List.mem_of_getElem? hy, (List.mem_singleton.1 hk).symm⟩
  step := fun t a b _ h => by simp at h
  hit := fun m x t _ h => by simp at h
  miss := fun m x h _ => by
    have := (List.getElem?_eq_some_iff.1 h).1
    simp [this]
theorem trace_step {l : List S31} (hk : KeysOk l) {o : Int} {now n : Nat} {tr fr : List Int} {x : S31} (hw : Trace l o tr fr now) (hx : l[now]? = some x) (hn : idxL x.f1 0 l = n) (hne : x.f1 ≠ o) (hz : x.f1 ∉ tr) : Trace l o (tr ++ [x.f1]) (fr.set n x.f0) n := by
  obtain ⟨z, hz1, hz2⟩ := idxL_key hk hn
  have hnl : n < l.length := (List.getElem?_eq_some_iff.1 hz1).1
  have hfl : n < fr.length := by rw [hw.len]; exact hnl
  have hpos : 0 < tr.length := (List.getElem?_eq_some_iff.1 hw.head).1
  have hlast : tr[tr.length - 1]? = some x.f0 := by
    obtain ⟨x', h1, h2⟩ := hw.last
    rw [hx] at h1; injection h1 with h1; subst h1; exact h2
  have old : ∀ t, t < tr.length → (tr ++ [x.f1])[t]? = tr[t]? := fun t ht => List.getElem?_append_left ht
  have new : (tr ++ [x.f1])[tr.length]? = some x.f1 := by simp
  have bnd : ∀ t v, (tr ++ [x.f1])[t]? = some v → t < tr.length ∨ (t = tr.length ∧ v = x.f1) := fun t v h => by
    have h1 := (List.getElem?_eq_some_iff.1 h).1
    rw [List.length_append, List.length_singleton] at h1
    by_cases e : t < tr.length
    · exact .inl e
    · right
      have : t = tr.length := by omega
      subst this
      rw [new] at h
      injection h with h
      exact ⟨rfl, h.symm⟩
  refine ⟨?_, ?_, ?_, ⟨z, hz1, ?_⟩, ?_, ?_, ?_, ?_⟩
  · rw [List.nodup_append]
    exact ⟨hw.nd, by simp, fun a ha b hb e => hz (by rw [List.mem_singleton.1 hb] at e; rw [← e]; exact ha)⟩
  · rw [old 0 hpos]; exact hw.head
  · rw [List.length_set]; exact hw.len
  · rw [List.length_append, List.length_singleton, Nat.add_sub_cancel, new, hz2]
  · intro k hk'
    rcases List.mem_append.1 hk' with h | h
    · exact hw.keys k h
    · exact ⟨z, List.mem_of_getElem? hz1, by rw [List.mem_singleton.1 h]; exact hz2⟩
  · intro t a b ha hb
    rcases bnd _ _ hb with h | ⟨h, rfl⟩
    · rw [old _ (by omega)] at ha; rw [old _ h] at hb
      exact hw.step t a b ha hb
    · rw [old _ (by omega), show t = tr.length - 1 by omega, hlast] at ha
      injection ha with ha
      exact ⟨x, List.mem_of_getElem? hx, ha, rfl⟩
  · intro m u t hm ht
    rcases bnd _ _ ht with h | ⟨h, e⟩
    · rw [old _ (by omega)]; rw [old _ h] at ht
      have hne2 : n ≠ m := by
        rintro rfl
        rw [hz1] at hm; injection hm with hm; subst hm
        exact hz (by rw [← hz2]; exact List.mem_of_getElem? ht)
      rw [List.getElem?_set, if_neg hne2]
      exact hw.hit m u t hm ht
    · have : m = n := key_inj hk hm hz1 (by rw [e, hz2])
      subst this
      rw [List.getElem?_set, if_pos rfl, if_pos hfl, old _ (by omega), show t = tr.length - 1 by omega, hlast]
  · intro m u hm ht
    have hne2 : n ≠ m := by
      rintro rfl
      rw [hz1] at hm; injection hm with hm; subst hm
      refine ht (tr.length - 1) ?_
      rw [show tr.length - 1 + 1 = tr.length by omega, new, hz2]
    rw [List.getElem?_set, if_neg hne2]
    refine hw.miss m u hm fun t ht2 => ht t ?_
    rw [old _ (List.getElem?_eq_some_iff.1 ht2).1]; exact ht2
theorem trace_mem {l : List S31} (hk : KeysOk l) {o : Int} {tr fr : List Int} {now m : Nat} {x : S31} (hw : Trace l o tr fr now) (hx : l[m]? = some x) (hne : x.f0 ≠ o) : fr.getD m 0 = 0 ↔ x.f0 ∉ tr := by
  constructor
  · intro h hm
    obtain ⟨t, ht, hte⟩ := List.getElem_of_mem hm
    match t, ht, hte with
    | 0, ht, hte =>
      have := hw.head
      rw [List.getElem?_eq_getElem ht] at this
      injection this with this
      exact hne (hte.symm.trans this)
    | t + 1, ht, hte =>
      have h1 := hw.hit m x t hx (by rw [List.getElem?_eq_getElem ht, hte])
      rw [List.getElem?_eq_getElem (show t < tr.length by omega)] at h1
      rw [List.getD_eq_getElem?_getD, h1] at h
      obtain ⟨y, hy, hye⟩ := hw.keys tr[t] (List.getElem_mem _)
      have := hk.1 y hy
      simp at h
      omega
  · intro h
    have := hw.miss m x hx (fun t ht => h (List.mem_of_getElem? ht))
    rw [List.getD_eq_getElem?_getD, this]; rfl
/-- A way that ends has passed a trace. -/
theorem ring_trace {l : List S31} (hk : KeysOk l) {o : Int} {own : Nat} : ∀ (f : Nat) (tr fr : List Int) (now : Nat) (fin : List Int), Trace l o tr fr now → ringF l o own f fr now = some (.inr fin) → ∃ tr' fr' now' x, Trace l o tr' fr' now' ∧ l[now']? = some x ∧ x.f1 = o ∧ fin = fr'.set own x.f0
  | 0, tr, fr, now, fin, _, h => by simp [ringF] at h
  | f + 1, tr, fr, now, fin, hw, h => by
    obtain ⟨x, hx, _⟩ := hw.last
    rw [ringF, hx] at h
    simp only at h
    split at h
    · rename_i e
      simp only [Option.some.injEq, Sum.inr.injEq] at h
      exact ⟨tr, fr, now, x, hw, hx, e, h.symm⟩
    · rename_i hne
      split at h
      · cases h
      · split at h
        · cases h
        · rename_i hneg hz
          obtain ⟨n, hn⟩ : ∃ n : Nat, idxL x.f1 0 l = n := ⟨(idxL x.f1 0 l).toNat, by omega⟩
          rw [hn, Int.toNat_natCast] at hz h
          obtain ⟨z, hz1, hz2⟩ := idxL_key hk hn
          have hz' : fr.getD n 0 = 0 := by simpa using hz
          have := (trace_mem hk hw hz1 (by rw [hz2]; exact hne)).1 hz'
          rw [hz2] at this
          exact ring_trace hk f _ _ n fin (trace_step hk hw hx hn hne this) h
/-- A ring: links that are made. -/
structure Ring (l : List S31) (o : Int) (m : List Int) : Prop where
  nd : (o :: m).Nodup
  ok : ∀ k ∈ o :: m, 1 ≤ k ∧ k ≤ 1000000
  eq : l = builtL o m
theorem prior_none : ∀ (l : List S31) (fr : List Int) (i : Nat), fr.length = l.length → (priorF i l fr = none ↔ ∀ (m : Nat) (x : S31), l[m]? = some x → fr[m]? = some x.f2)
  | [], fr, i, h => by simp [priorF]
  | x :: r, [], i, h => by simp at h
  | x :: r, y :: s, i, h => by
    rw [priorF]
    by_cases e : x.f2 = y
    · rw [if_pos e, prior_none r s (i + 1) (by simpa using h)]
      constructor
      · intro h1 m z hz
        match m, hz with
        | 0, hz => simp at hz; subst hz; simp [e]
        | m + 1, hz => exact h1 m z (by simpa using hz)
      · intro h1 m z hz
        exact h1 (m + 1) z (by simpa using hz)
    · rw [if_neg e]
      simp only [reduceCtorEq, false_iff]
      intro h1
      have := h1 0 x rfl
      simp at this
      exact e this.symm
theorem valid_parts {l : List S31} (h : validL l = true) : l ≠ [] ∧ l.length ≤ 500 ∧ scanF (ownL l) 0 0 l = none ∧ ∃ own : Nat, idxL (ownL l) 0 l = own ∧ ∃ fr, ringF l (ownL l) own (l.length + 1) (List.replicate l.length 0) own = some (.inr fr) ∧ zeroF 0 fr = none ∧ priorF 0 l fr = none := by
  unfold validL wrongF at h
  split at h
  · simp at h
  · rename_i h0
    split at h
    · simp at h
    · rename_i h5
      refine ⟨fun e => h0 (by rw [e]; rfl), by omega, ?_⟩
      split at h
      · simp at h
      · rename_i hs
        refine ⟨hs, ?_⟩
        split at h
        · simp at h
        · rename_i hi
          refine ⟨(idxL (ownL l) 0 l).toNat, by omega, ?_⟩
          split at h
          · -- no way is without end
            rename_i hr
            have hk := scan_keys hs
            obtain ⟨y, hy1, hy2⟩ := idxL_key hk (k := ownL l) (n := (idxL (ownL l) 0 l).toNat) (by omega)
            obtain ⟨e, he⟩ := ring_ends hk hy1 (l.length + 1) _ _ (way_start (List.getElem?_eq_some_iff.1 hy1).1) (by
              have : zeros (List.replicate l.length 0) ≤ (List.replicate l.length (0 : Int)).length := List.countP_le_length
              simp at this; omega)
            rw [hy2, hr] at he
            cases he
          · rename_i e hr
            rw [hr]
            match e, h with
            | .inl now, h => simp [ringEnd] at h
            | .inr fr, h =>
              refine ⟨fr, rfl, ?_⟩
              unfold ringEnd at h
              simp only at h
              split at h
              · simp at h
              · rename_i hz
                split at h
                · simp at h
                · rename_i hp
                  exact ⟨hz, hp⟩
theorem idx_get {all : List Int} (hn : all.Nodup) {t : Nat} {k : Int} (h : all[t]? = some k) : all.idxOf k = t := by
  obtain ⟨h1, h2⟩ := List.getElem?_eq_some_iff.1 h
  rw [← h2]
  exact hn.idxOf_getElem t h1
theorem getD_some {all : List Int} {t : Nat} {k : Int} (h : all[t]? = some k) : all.getD t 0 = k := by
  rw [List.getD_eq_getElem?_getD, h]; rfl
theorem round_on {n t : Nat} (h : t + 1 < n) : (t + 1) % n = t + 1 := Nat.mod_eq_of_lt h
theorem round_end {n t : Nat} (h : t + 1 = n) : (t + 1) % n = 0 := by rw [h, Nat.mod_self]
theorem round_back {n t : Nat} (h : t + 1 < n) : (t + 1 + n - 1) % n = t := by
  rw [show t + 1 + n - 1 = t + n by omega, Nat.add_mod_right, Nat.mod_eq_of_lt (by omega)]
theorem round_last {n : Nat} (h : 0 < n) : (0 + n - 1) % n = n - 1 := by
  rw [Nat.zero_add, Nat.mod_eq_of_lt (by omega)]
theorem keys_sorted {l : List S31} (hk : KeysOk l) {all : List Int} (hp : (l.map (·.f0)).Perm all) : l.map (·.f0) = sortI all := by
  refine sorted_eq ?_ (sortI_sorted all) (hp.trans (sortI_perm all).symm)
  rw [List.pairwise_map]
  exact hk.2.imp (fun h => by omega)
theorem keys_nodup {l : List S31} (hk : KeysOk l) : (l.map (·.f0)).Nodup := by
  unfold List.Nodup
  rw [List.pairwise_map]
  exact hk.2.imp (fun h => by omega)
/-- Each ring that is right is made. -/
theorem valid_ring {l : List S31} (h : validL l = true) : ∃ m, Ring l (ownL l) m := by
  obtain ⟨hne, h5, hs, own, hown, fin, hr, hz, hp⟩ := valid_parts h
  have hk := scan_keys hs
  have hsc := (scan_ok _ l 0 0 hs).1
  obtain ⟨y, hy, hyo⟩ := idxL_key hk hown
  obtain ⟨tr, fr, now, x, hT, hx, hxo, rfl⟩ := ring_trace hk _ _ _ _ _ (trace_start hy) (by rw [hyo]; exact hr)
  rw [hyo] at hT hxo
  have hol : own < fr.length := by rw [hT.len]; exact (List.getElem?_eq_some_iff.1 hy).1
  have hlenS : (fr.set own x.f0).length = l.length := by rw [List.length_set]; exact hT.len
  have hpr := (prior_none l _ 0 hlenS).1 hp
  have hnz := (zero_none _ 0).1 hz
  obtain ⟨m, hm⟩ : ∃ m, tr = ownL l :: m := by
    have := hT.head
    match tr, this with
    | a :: m, h => simp at h; exact ⟨m, by rw [h]⟩
  have hmem : ∀ (j : Nat) (u : S31), l[j]? = some u → u.f0 ∈ tr := by
    intro j u hu
    by_cases e : u.f0 = ownL l
    · rw [e, hm]; exact List.mem_cons_self ..
    · have hjo : own ≠ j := by rintro rfl; rw [hy] at hu; injection hu with hu; exact e (by rw [← hu, hyo])
      have hj : j < fr.length := by rw [hT.len]; exact (List.getElem?_eq_some_iff.1 hu).1
      have h1 : (fr.set own x.f0)[j]? = some fr[j] := by rw [List.getElem?_set, if_neg hjo, List.getElem?_eq_getElem hj]
      have h2 := hnz _ (List.mem_of_getElem? h1)
      have h3 := (trace_mem hk hT hu e)
      rw [List.getD_eq_getElem?_getD, List.getElem?_eq_getElem hj] at h3
      exact Decidable.byContradiction fun h4 => h2 (by simpa using h3.2 h4)
  have hperm : (l.map (·.f0)).Perm tr := by
    rw [List.perm_ext_iff_of_nodup (keys_nodup hk) hT.nd]
    intro a
    constructor
    · intro ha
      obtain ⟨u, hu, rfl⟩ := List.mem_map.1 ha
      obtain ⟨j, hj, rfl⟩ := List.getElem_of_mem hu
      exact hmem j _ (List.getElem?_eq_getElem hj)
    · intro ha
      obtain ⟨u, hu, rfl⟩ := hT.keys a ha
      exact List.mem_map_of_mem hu
  refine ⟨m, ⟨by rw [← hm]; exact hT.nd, fun k hk' => ?_, ?_⟩⟩
  · rw [← hm] at hk'
    obtain ⟨u, hu, rfl⟩ := hT.keys k hk'
    exact hk.1 u hu
  · unfold builtL
    rw [← hm, ← keys_sorted hk hperm, List.map_map]
    conv => lhs; rw [← List.map_id l]
    refine List.map_congr_left fun u hu => ?_
    obtain ⟨j, hj, rfl⟩ := List.getElem_of_mem hu
    have hu := List.getElem?_eq_getElem hj
    generalize l[j] = u at hu
    obtain ⟨t, ht, hte⟩ := List.getElem_of_mem (hmem j u hu)
    have htk : tr[t]? = some u.f0 := by rw [List.getElem?_eq_getElem ht, hte]
    have hpos : 0 < tr.length := by omega
    show u = mkL tr (ownL l) (tr.idxOf u.f0)
    rw [idx_get hT.nd htk]
    have hun : ∀ u' ∈ l, u'.f0 = u.f0 → u' = u := fun u' hu' e => by
      obtain ⟨j', hj', rfl⟩ := List.getElem_of_mem hu'
      have := key_inj hk (List.getElem?_eq_getElem hj') hu e
      subst this
      rw [List.getElem?_eq_getElem hj'] at hu
      injection hu
    have hlast : tr[tr.length - 1]? = some x.f0 := by
      obtain ⟨x', h1, h2⟩ := hT.last
      rw [hx] at h1; injection h1 with h1; subst h1; exact h2
    have f1 : u.f1 = tr.getD ((t + 1) % tr.length) 0 := by
      by_cases e : t + 1 < tr.length
      · obtain ⟨u', hu', e1, e2⟩ := hT.step t u.f0 tr[t + 1] htk (List.getElem?_eq_getElem e)
        have := hun u' hu' e1
        subst this
        rw [round_on e, getD_some (List.getElem?_eq_getElem e), e2]
      · rw [round_end (by omega), getD_some hT.head]
        rw [show tr.length - 1 = t by omega, htk] at hlast
        injection hlast with hlast
        rw [← hun x (List.mem_of_getElem? hx) hlast.symm, hxo]
    have f2 : u.f2 = tr.getD ((t + tr.length - 1) % tr.length) 0 := by
      have h1 := hpr j u hu
      match t, ht, hte, htk, f1 with
      | 0, ht, hte, htk, _ =>
        rw [hT.head] at htk
        injection htk with htk
        have : j = own := key_inj hk hu hy (by rw [hyo, ← htk])
        subst this
        rw [List.getElem?_set, if_pos rfl, if_pos hol] at h1
        injection h1 with h1
        rw [round_last hpos, getD_some hlast, h1]
      | t + 1, ht, hte, htk, _ =>
        have hjo : own ≠ j := by
          rintro rfl
          rw [hy] at hu; injection hu with hu
          rw [← hu, hyo] at htk
          have a := idx_get hT.nd htk
          have b := idx_get hT.nd hT.head
          omega
        rw [List.getElem?_set, if_neg hjo, hT.hit j u t hu htk] at h1
        rw [round_back ht, getD_some h1]
    have f3 := (hsc u (List.mem_of_getElem? hu)).2.2.1
    have f0 := getD_some htk
    obtain ⟨a, b, c, d⟩ := u
    simp only at f0 f1 f2 f3
    unfold mkL
    rw [f0, ← f1, ← f2, f3]
end Go.Proofs.Ytilenkodmmpofaa.K

set_option linter.unusedVariables false
set_option linter.unusedSimpArgs false
namespace Go.Proofs.Ytilenkodmmpofaa.K
open PC

theorem sorted_lt {a : List Int} (h : a.Pairwise (· ≤ ·)) (hn : a.Nodup) : a.Pairwise (· < ·) :=
  (h.and hn).imp (fun ⟨h1, h2⟩ => by omega)
theorem link_key {all : List Int} {o k : Int} (h : k ∈ all) : (linkK all o k).f0 = k := by
  have hj : all.idxOf k < all.length := List.idxOf_lt_length_iff.2 h
  show all.getD (all.idxOf k) 0 = k
  rw [List.getD_eq_getElem?_getD, List.getElem?_eq_getElem hj]
  exact List.getElem_idxOf hj
theorem Ring.map {l : List S31} {o : Int} {m : List Int} (h : Ring l o m) : l.map (·.f0) = sortI (o :: m) := by
  rw [h.eq]
  unfold builtL
  rw [List.map_map]
  conv => rhs; rw [← List.map_id (sortI (o :: m))]
  exact List.map_congr_left fun k hk => link_key ((sortI_perm _).mem_iff.1 hk)
theorem Ring.len {l : List S31} {o : Int} {m : List Int} (h : Ring l o m) : l.length = m.length + 1 := by
  rw [h.eq]; unfold builtL; rw [List.length_map, sortI_len]; rfl
theorem Ring.keys {l : List S31} {o : Int} {m : List Int} (h : Ring l o m) : KeysOk l := by
  constructor
  · intro x hx
    have : x.f0 ∈ sortI (o :: m) := by rw [← h.map]; exact List.mem_map_of_mem hx
    exact h.ok _ ((sortI_perm _).mem_iff.1 this)
  · have h1 : (l.map (·.f0)).Pairwise (· < ·) := by
      rw [h.map]
      exact sorted_lt (sortI_sorted _) ((sortI_perm _).nodup_iff.2 h.nd)
    rwa [List.pairwise_map] at h1
theorem Ring.mem {l : List S31} {o : Int} {m : List Int} (h : Ring l o m) {x : S31} (hx : x ∈ l) : ∃ t, (o :: m)[t]? = some x.f0 ∧ x = mkL (o :: m) o t := by
  have hx2 := hx
  rw [h.eq] at hx2
  obtain ⟨k, hk, rfl⟩ := List.mem_map.1 hx2
  have hk2 := (sortI_perm _).mem_iff.1 hk
  have hj : (o :: m).idxOf k < (o :: m).length := List.idxOf_lt_length_iff.2 hk2
  refine ⟨(o :: m).idxOf k, ?_, rfl⟩
  rw [link_key hk2, List.getElem?_eq_getElem hj, List.getElem_idxOf hj]
theorem Ring.at {l : List S31} {o : Int} {m : List Int} (h : Ring l o m) {t : Nat} {k : Int} (hk : (o :: m)[t]? = some k) : ∃ i : Nat, idxL k 0 l = i ∧ i < l.length ∧ l[i]? = some (mkL (o :: m) o t) := by
  have h1 : k ∈ sortI (o :: m) := (sortI_perm _).mem_iff.2 (List.mem_of_getElem? hk)
  have h2 : linkK (o :: m) o k ∈ l := by rw [h.eq]; exact List.mem_map_of_mem h1
  obtain ⟨i, hi, hie⟩ := List.getElem_of_mem h2
  have h3 : l[i]? = some (linkK (o :: m) o k) := by rw [List.getElem?_eq_getElem hi, hie]
  have h4 := keys_idx h.keys h3
  rw [link_key (List.mem_of_getElem? hk)] at h4
  refine ⟨i, h4, hi, ?_⟩
  rw [h3]
  unfold linkK
  rw [idx_get h.nd hk]
theorem Ring.none {l : List S31} {o : Int} {m : List Int} (h : Ring l o m) {k : Int} (hk : k ∉ o :: m) : idxL k 0 l = -1 := by
  refine idxL_none k l 0 fun x hx e => hk ?_
  obtain ⟨t, ht, _⟩ := h.mem hx
  rw [← e]
  exact List.mem_of_getElem? ht
theorem Ring.owner {l : List S31} {o : Int} {m : List Int} (h : Ring l o m) {x : S31} (hx : x ∈ l) : x.f3 = o := by
  obtain ⟨t, _, e⟩ := h.mem hx
  rw [e]; rfl
theorem Ring.head {l : List S31} {o : Int} {m : List Int} (h : Ring l o m) : ∃ x r, l = x :: r ∧ x.f3 = o ∧ ownL l = o := by
  have h1 := h.len
  match l, h1, h with
  | x :: r, _, h => exact ⟨x, r, rfl, h.owner (List.mem_cons_self ..), h.owner (List.mem_cons_self ..)⟩
theorem Ring.next {l : List S31} {o : Int} {m : List Int} (h : Ring l o m) {x : S31} (hx : x ∈ l) : x.f1 ∈ o :: m := by
  obtain ⟨t, ht, e⟩ := h.mem hx
  rw [e]
  show (o :: m).getD ((t + 1) % (o :: m).length) 0 ∈ _
  have : (t + 1) % (o :: m).length < (o :: m).length := Nat.mod_lt _ (by simp)
  rw [List.getD_eq_getElem?_getD, List.getElem?_eq_getElem this]
  exact List.getElem_mem _
theorem Ring.prior {l : List S31} {o : Int} {m : List Int} (h : Ring l o m) {x : S31} (hx : x ∈ l) : x.f2 ∈ o :: m := by
  obtain ⟨t, ht, e⟩ := h.mem hx
  rw [e]
  show (o :: m).getD ((t + (o :: m).length - 1) % (o :: m).length) 0 ∈ _
  have : (t + (o :: m).length - 1) % (o :: m).length < (o :: m).length := Nat.mod_lt _ (by simp)
  rw [List.getD_eq_getElem?_getD, List.getElem?_eq_getElem this]
  exact List.getElem_mem _
theorem scan_of {o : Int} (ho : okKey o = true) : ∀ (l : List S31) (i : Nat) (p : Int), (∀ x ∈ l, (1 ≤ x.f0 ∧ x.f0 ≤ 1000000) ∧ p < x.f0 ∧ x.f3 = o) → l.Pairwise (fun x y => x.f0 < y.f0) → scanF o i p l = none
  | [], _, _, _, _ => rfl
  | x :: r, i, p, h, hp => by
    obtain ⟨h1, h2⟩ := List.pairwise_cons.1 hp
    obtain ⟨a, b, c⟩ := h x (List.mem_cons_self ..)
    rw [scanF, okKey_iff.2 a, c, ho]
    rw [if_neg (by simp; omega), if_neg (by simp)]
    exact scan_of ho r (i + 1) x.f0 (fun y hy => ⟨(h y (List.mem_cons_of_mem _ hy)).1, h1 y hy, (h y (List.mem_cons_of_mem _ hy)).2.2⟩) h2
/-- The way round of what is made ends. -/
theorem ring_go {l : List S31} {o : Int} {m : List Int} (h : Ring l o m) {own : Nat} : ∀ (d f t : Nat) (fr : List Int) (now : Nat), t + 1 + d = (o :: m).length → d < f → Trace l o ((o :: m).take (t + 1)) fr now → ∃ fr' now' x, Trace l o (o :: m) fr' now' ∧ l[now']? = some x ∧ (o :: m)[m.length]? = some x.f0 ∧ ringF l o own f fr now = some (.inr (fr'.set own x.f0))
  | d, 0, t, fr, now, _, hf, _ => by omega
  | d, f + 1, t, fr, now, hd, hf, hT => by
    have hk := h.keys
    obtain ⟨x, hx, hxl⟩ := hT.last
    have htl : ((o :: m).take (t + 1)).length = t + 1 := by rw [List.length_take]; omega
    rw [htl, Nat.add_sub_cancel, List.getElem?_take_of_lt (by omega)] at hxl
    obtain ⟨i, hi1, _, hi2⟩ := h.at hxl
    have hni : now = i := key_inj hk hx hi2 (by
      show x.f0 = (o :: m).getD t 0
      rw [getD_some hxl])
    subst hni
    rw [hx] at hi2
    injection hi2 with hi2
    have hf1 : x.f1 = (o :: m).getD ((t + 1) % (o :: m).length) 0 := by rw [hi2]; rfl
    rw [ringF, hx]
    simp only
    match d, hd, hf with
    | 0, hd, hf =>
      rw [round_end (by omega)] at hf1
      rw [if_pos (by rw [hf1]; rfl)]
      have htk : (o :: m).take (t + 1) = o :: m := List.take_of_length_le (by omega)
      rw [htk] at hT
      refine ⟨fr, now, x, hT, hx, ?_, rfl⟩
      have : t = m.length := by simp at hd; omega
      rw [← this]; exact hxl
    | d + 1, hd, hf =>
      rw [round_on (by omega)] at hf1
      have hlt : t + 1 < (o :: m).length := by omega
      have hg : (o :: m)[t + 1]? = some x.f1 := by rw [hf1, List.getD_eq_getElem?_getD, List.getElem?_eq_getElem hlt]; rfl
      obtain ⟨n, hn1, _, hn2⟩ := h.at hg
      have hne : x.f1 ≠ o := fun e => by
        rw [e] at hg
        have a := idx_get h.nd hg
        have b := idx_get h.nd (show (o :: m)[0]? = some o from rfl)
        omega
      have hnot : x.f1 ∉ (o :: m).take (t + 1) := fun hm => by
        obtain ⟨s, hs, hse⟩ := List.getElem_of_mem hm
        rw [List.getElem_take] at hse
        have a := idx_get h.nd (show (o :: m)[s]? = some x.f1 by rw [← hse]; exact List.getElem?_eq_getElem _)
        have b := idx_get h.nd hg
        omega
      have hz2 : (mkL (o :: m) o (t + 1)).f0 = x.f1 := getD_some hg
      have hz : fr.getD n 0 = 0 := (trace_mem hk hT hn2 (by rw [hz2]; exact hne)).2 (by rw [hz2]; exact hnot)
      rw [if_neg hne, if_neg (by omega), hn1, Int.toNat_natCast, if_neg (by simpa using hz)]
      have h2 := trace_step hk hT hx hn1 hne hnot
      have htk : (o :: m).take (t + 1) ++ [x.f1] = (o :: m).take (t + 1 + 1) := by
        rw [List.take_succ_eq_append_getElem hlt]
        congr 1
        rw [List.getElem?_eq_getElem hlt] at hg
        injection hg with hg
        rw [hg]
      rw [htk] at h2
      exact ring_go h d f (t + 1) _ n (by omega) (by omega) h2
theorem Ring.right {l : List S31} {o : Int} {m : List Int} (h : Ring l o m) (h5 : l.length ≤ 500) : wrongF l = (-1, 0, 0) := by
  have hk := h.keys
  have hlen := h.len
  obtain ⟨x0, r0, e0, _, hown⟩ := h.head
  have hoo := h.ok o (List.mem_cons_self ..)
  obtain ⟨own, ho1, ho2, ho3⟩ := h.at (show (o :: m)[0]? = some o from rfl)
  have hs : scanF o 0 0 l = Option.none := scan_of (okKey_iff.2 hoo) l 0 0 (fun x hx => ⟨hk.1 x hx, by have := hk.1 x hx; omega, h.owner hx⟩) hk.2
  have hT0 := trace_start ho3
  rw [show (mkL (o :: m) o 0).f0 = o from rfl] at hT0
  obtain ⟨fr, now, x, hT, hx, hxl, hr⟩ := ring_go h (own := own) m.length (l.length + 1) 0 _ own (by simp; omega) (by omega) (by simpa using hT0)
  have hol : own < fr.length := by rw [hT.len]; exact ho2
  have hnz : zeroF 0 (fr.set own x.f0) = Option.none := by
    rw [zero_none]
    intro v hv
    obtain ⟨j, hj, hje⟩ := List.getElem_of_mem hv
    rw [List.length_set, hT.len] at hj
    have hv1 : (fr.set own x.f0)[j]? = some v := by rw [List.getElem?_eq_getElem (by rw [List.length_set, hT.len]; exact hj), hje]
    rw [List.getElem?_set] at hv1
    split at hv1
    · first | rw [if_pos hol] at hv1 | skip
      injection hv1 with hv1
      have := keys_in hk hx
      omega
    · rename_i hne
      have hu := List.getElem?_eq_getElem hj
      generalize l[j] = u at hu
      have hu0 : u.f0 ≠ o := fun e => hne (key_inj hk ho3 hu (by rw [e]; rfl))
      obtain ⟨t, ht, _⟩ := h.mem (List.mem_of_getElem? hu)
      have := (trace_mem hk hT hu hu0)
      rw [List.getD_eq_getElem?_getD, hv1] at this
      intro e
      exact this.1 (by rw [e]; rfl) (List.mem_of_getElem? ht)
  have hpn : priorF 0 l (fr.set own x.f0) = Option.none := by
    rw [prior_none _ _ _ (by rw [List.length_set]; exact hT.len)]
    intro j u hu
    obtain ⟨t, ht, e⟩ := h.mem (List.mem_of_getElem? hu)
    have hf2 : u.f2 = (o :: m).getD ((t + (o :: m).length - 1) % (o :: m).length) 0 := by rw [e]; rfl
    have htl := (List.getElem?_eq_some_iff.1 ht).1
    rw [List.getElem?_set]
    match t, ht, hf2, htl with
    | 0, ht, hf2, htl =>
      have : own = j := key_inj hk ho3 hu (by show o = u.f0; simpa using ht)
      rw [if_pos this, if_pos hol, hf2, round_last htl, show (o :: m).length - 1 = m.length by simp, getD_some hxl]
    | t + 1, ht, hf2, htl =>
      have hne : own ≠ j := by
        rintro rfl
        rw [ho3] at hu
        injection hu with hu
        rw [← hu] at ht
        have a := idx_get h.nd ht
        have b := idx_get h.nd (show (o :: m)[0]? = some o from rfl)
        rw [show (mkL (o :: m) o 0).f0 = o from rfl] at a
        omega
      rw [if_neg hne, hT.hit j u t hu ht, hf2, round_back htl, List.getD_eq_getElem?_getD, List.getElem?_eq_getElem (show t < (o :: m).length by omega)]
      rfl
  unfold wrongF
  rw [if_neg (by omega), if_neg (by omega), hown, hs]
  simp only
  rw [if_neg (by omega), ho1, Int.toNat_natCast, hr]
  simp only [ringEnd, hnz, hpn]
end Go.Proofs.Ytilenkodmmpofaa.K

set_option linter.unusedVariables false
set_option linter.unusedSimpArgs false
namespace Go.Proofs.Ytilenkodmmpofaa.K
open Go.RowKit Go.Proofs.YtilenkodmmpofaaW.PrintWords Go.Proofs.YtilenkodmmpofaaW.PrintLast Go.Proofs.YtilenkodmmpofaaW.PrintMore PC

/-- The first place of a number. -/
def idxN (a : Int) : Nat → List Int → Int
  | _, [] => -1
  | i, x :: r => if x = a then i else idxN a (i + 1) r
theorem idxN_mem (a : Int) : ∀ (l : List Int) (i : Nat), a ∈ l → idxN a i l = ((i + l.idxOf a : Nat) : Int)
  | x :: r, i, h => by
    rw [idxN]
    by_cases e : x = a
    · rw [if_pos e, e, List.idxOf_cons_self]; rfl
    · rw [if_neg e, idxN_mem a r (i + 1) ((List.mem_cons.1 h).resolve_left (fun h => e h.symm)), List.idxOf_cons, show (x == a) = false by simpa using e]
      simp only [cond_false]
      omega
theorem wr_next {l n : Nat} (h : l < n) (hn : n ≤ 100000) : wrap64 ((l : Int) + 1) = ((l + 1 : Nat) : Int) := by
  rw [w64 (by omega) (by omega)]; omega
theorem ref_Index_loop (l : List Int) (hl : l.length ≤ 1000) (a : Int) (n : Nat) : ∀ (i k : Nat), l.length - i ≤ n → i ≤ l.length → n + 1 ≤ k → ringworkref09_Index.l0 k l a (i : Int) = some (idxN a i (l.drop i)) := by
  induction n with
  | zero =>
    intro i k h1 h2 h3
    obtain ⟨k', rfl⟩ : ∃ k', k = k' + 1 := ⟨k - 1, by omega⟩
    rw [ringworkref09_Index.l0, if_neg (by omega), List.drop_eq_nil_of_le (by omega)]; rfl
  | succ n ih =>
    intro i k h1 h2 h3
    obtain ⟨k', rfl⟩ : ∃ k', k = k' + 1 := ⟨k - 1, by omega⟩
    rw [ringworkref09_Index.l0]
    by_cases hi : i < l.length
    · rw [if_pos (by omega), if_pos (by omega), rd_get l i hi, List.drop_eq_getElem_cons hi, idxN]
      by_cases e : l[i] = a
      · rw [if_pos e, if_pos e]
      · rw [if_neg e, if_neg e, wr_next hi (by omega)]
        exact ih (i + 1) k' (by omega) (by omega) (by omega)
    · rw [if_neg (by omega), List.drop_eq_nil_of_le (by omega)]; rfl
theorem ref_Index_is (l : List Int) (hl : l.length ≤ 1000) (a : Int) (k : Nat) (hk : 1001 ≤ k) : ringworkref09_Index.f k l a = some (idxN a 0 l) := by
  unfold ringworkref09_Index.f
  simpa using ref_Index_loop l hl a 1000 0 k (by omega) (by omega) (by omega)
def rightF : Nat → List Int → List Int → Bool
  | _, _, [] => true
  | i, all, x :: r => okKey x && !decide (idxN x 0 all < (i : Int)) && rightF (i + 1) all r
theorem ref_right_loop (l : List Int) (hl : l.length ≤ 1000) (n : Nat) : ∀ (i k : Nat), l.length - i ≤ n → i ≤ l.length → n + 1002 ≤ k → ringworkref09_right.l0 k l (i : Int) = some (rightF i l (l.drop i)) := by
  induction n with
  | zero =>
    intro i k h1 h2 h3
    obtain ⟨k', rfl⟩ : ∃ k', k = k' + 1 := ⟨k - 1, by omega⟩
    rw [ringworkref09_right.l0, if_neg (by omega), List.drop_eq_nil_of_le (by omega)]; rfl
  | succ n ih =>
    intro i k h1 h2 h3
    obtain ⟨k', rfl⟩ : ∃ k', k = k' + 1 := ⟨k - 1, by omega⟩
    rw [ringworkref09_right.l0]
    by_cases hi : i < l.length
    · rw [if_pos (by omega), if_pos (by omega), rd_get l i hi, List.drop_eq_getElem_cons hi, rightF, ref_Key_is, Option.bind_some]
      cases hk : okKey l[i] with
      | false => simp
      | true =>
        rw [if_pos rfl, ref_Index_is l hl _ k' (by omega), Option.bind_some]
        by_cases e : idxN l[i] 0 l < (i : Int)
        · rw [if_pos e]; simp [e]
        · rw [if_neg e, wr_next hi (by omega), ih (i + 1) k' (by omega) (by omega) (by omega)]
          simp [e]
    · rw [if_neg (by omega), List.drop_eq_nil_of_le (by omega)]; rfl
theorem right_iff (all : List Int) : ∀ (l : List Int) (i : Nat), all.drop i = l → (rightF i all l = true ↔ ∀ (j : Nat) (x : Int), i ≤ j → all[j]? = some x → okKey x = true ∧ (j : Int) ≤ idxN x 0 all)
  | [], i, h => by
    simp only [rightF, true_iff]
    intro j x hj hx
    have h1 := (List.getElem?_eq_some_iff.1 hx).1
    have h2 := congrArg List.length h
    simp at h2
    omega
  | x :: r, i, h => by
    have hi : i < all.length := by
      have h2 := congrArg List.length h
      simp at h2
      omega
    rw [List.drop_eq_getElem_cons hi] at h
    injection h with h1 h2
    rw [rightF, Bool.and_eq_true, right_iff all r (i + 1) h2]
    simp only [Bool.and_eq_true, Bool.not_eq_true', decide_eq_false_iff_not]
    constructor
    · rintro ⟨⟨a, b⟩, c⟩ j y hj hy
      by_cases e : j = i
      · subst e
        rw [List.getElem?_eq_getElem hi] at hy
        injection hy with hy
        rw [← hy, h1]
        exact ⟨a, by omega⟩
      · exact c j y (by omega) hy
    · intro c
      have := c i x (Nat.le_refl _) (by rw [List.getElem?_eq_getElem hi, h1])
      exact ⟨⟨this.1, by omega⟩, fun j y hj hy => c j y (by omega) hy⟩
theorem rightF_is (all : List Int) : rightF 0 all all = (all.all okKey && decide all.Nodup) := by
  rw [Bool.eq_iff_iff, right_iff all all 0 rfl, Bool.and_eq_true, decide_eq_true_eq, List.all_eq_true]
  constructor
  · intro h
    refine ⟨fun x hx => ?_, ?_⟩
    · obtain ⟨j, hj, rfl⟩ := List.getElem_of_mem hx
      exact (h j _ (Nat.zero_le _) (List.getElem?_eq_getElem hj)).1
    · unfold List.Nodup
      rw [List.pairwise_iff_getElem]
      intro i j hi hj hij e
      have h1 := (h j _ (Nat.zero_le _) (List.getElem?_eq_getElem hj)).2
      rw [idxN_mem _ _ _ (List.getElem_mem hj), ← e, Nat.zero_add] at h1
      have h2 : all.idxOf all[i] ≤ i := by
        have h3 : all.idxOf all[i] < all.length := List.idxOf_lt_length_iff.2 (List.getElem_mem hi)
        refine Decidable.byContradiction fun h4 => ?_
        have h5 : ∀ (l : List Int) (i : Nat) (hi : i < l.length), l.idxOf l[i] ≤ i := by
          intro l
          induction l with
          | nil => intro i hi; exact absurd hi (by simp)
          | cons x r ih =>
            intro i hi
            cases i with
            | zero => simp
            | succ i =>
              rw [List.getElem_cons_succ, List.idxOf_cons]
              have := ih i (by simpa using hi)
              cases (x == r[i]'(by simpa using hi)) <;> simp <;> omega
        exact h4 (h5 all i hi)
      omega
  · rintro ⟨h1, h2⟩ j x _ hx
    refine ⟨h1 x (List.mem_of_getElem? hx), ?_⟩
    rw [idxN_mem _ _ _ (List.mem_of_getElem? hx), idx_get h2 hx]
    omega
theorem ref_right_is (l : List Int) (hl : l.length ≤ 1000) (k : Nat) (hk : 2003 ≤ k) : ringworkref09_right.f k l = some (l.all okKey && decide l.Nodup) := by
  unfold ringworkref09_right.f
  rw [← rightF_is]
  simpa using ref_right_loop l hl 1000 0 k (by omega) (by omega) (by omega)
end Go.Proofs.Ytilenkodmmpofaa.K

set_option linter.unusedVariables false
set_option linter.unusedSimpArgs false
namespace Go.Proofs.Ytilenkodmmpofaa.K
open Go.RowKit Go.Proofs.YtilenkodmmpofaaW.PrintWords Go.Maps PC

theorem refIndex_calls (A : Option Addr) (c : Nat) (l : List Int) (a : Int) (w : World) (hr : Kd.C (Kd.int .i64) w A l.length l) (hc : l.length ≤ c) (hl : l.length ≤ 1000) :
    Calls Try.prog 64 #[.slice A l.length c, .int .i64 a] w fun e w' => e = .returned (.int .i64 (idxN a 0 l)) ∧ Below w.heap.size w w' :=
  (ringworkref09_Index.calls 1001 A c l a _ w hr hc (ref_Index_is l hl a 1001 (Nat.le_refl _))).mono fun e w' h => ⟨h.1, h.2.below⟩
theorem refRight_calls (A : Option Addr) (c : Nat) (l : List Int) (w : World) (hr : Kd.C (Kd.int .i64) w A l.length l) (hc : l.length ≤ c) (hl : l.length ≤ 1000) :
    Calls Try.prog 46 #[.slice A l.length c] w fun e w' => e = .returned (.bool (l.all okKey && decide l.Nodup)) ∧ Below w.heap.size w w' :=
  (ringworkref09_right.calls 2003 A c l _ w hr hc (ref_right_is l hl 2003 (Nat.le_refl _))).mono fun e w' h => ⟨h.1, h.2.below⟩
set_option maxRecDepth 100000 in
set_option maxHeartbeats 8000000 in
theorem Built_calls (o : Int) (A : Option Addr) (c : Nat) (l : List Int) (w : World) (hr : Kd.C (Kd.int .i64) w A l.length l) (hl : l.length ≤ 500) (hnd : (o :: l).Nodup) :
    Calls Try.prog 47 #[.int .i64 o, .slice A l.length c] w fun e w' => ∃ v, e = .returned v ∧ OL w' w.heap.size v (builtL o l) ∧ Below w.heap.size w w' := by
  have HR := Aside0.mk hr
  obtain ⟨all, hall⟩ : ∃ all, all = o :: l := ⟨_, rfl⟩
  have han : all.length = l.length + 1 := by rw [hall]; rfl
  have HALL := Aside0.mk hall
  have HND : Aside0 all.Nodup := ⟨by rw [hall]; exact hnd⟩
  have HAN := Aside0.mk han
  have hapos : 0 < all.length := by omega
  have hal : all.length ≤ 501 := by omega
  clear hr hnd hall han
  go_enter Try.func47, Try.ntmps47
  go_wp2_with (first
    | ((with_reducible refine at_b (b := .append) (xs := #[.tmp 11, .tmp 12]) rfl ?_); go_must (refine Kd.R_append_rows (Kd.int .i64) (w0 := w) w.heap.size rfl (.tmp 11) (.tmp 12) 22 3 (.int .i64 0) 8 rfl Try.underlying22 info3 rfl (by decide) (by omega) _ [o] l _ _ _ (fun _ => True) (fun _ => False) rfl rfl (own_one (Nat.le_refl _) o) (Kd.C_below HR.out (below_alloc (Below.refl _ _) _)) (fun _ _ h => h) (fun _ h => h.elim) (fun _ _ => trivial) (below_alloc (Below.refl _ _) _) (by simp) (by simp; omega) ?_; intro v5 w1 hO1 hb1 hg1 hat1; rw [show [o] ++ l = all from HALL.out.symm] at hO1; obtain ⟨g5, cp5, e5, hgb5, _⟩ := Kd.R_form hO1 hapos; subst e5; have HO1 := Aside0.mk hO1; have HC1 := Aside0.mk (Kd.R_reads' hO1).2.2; have hcp5 : all.length ≤ cp5 := (Kd.R_reads' hO1).2.1; clear hO1 hg1 hat1))
    | (go_at_call 73; go_must (refine (Ascending_calls _ _ all _ HC1.out (by omega)).mono ?_; rintro e w2 ⟨v6, rfl, hO2, hb2⟩; rw [asc_is] at hO2; have hsl : 0 < (sortI all).length := by rw [sortI_len]; exact hapos
                               obtain ⟨g6, cp6, e6, hgb6, _⟩ := Kd.R_form hO2 hsl; subst e6; have HC2 := Aside0.mk (Kd.C_below HC1.out hb2); have HS2 := Aside0.mk (Kd.R_reads' hO2).2.2; have hbw2 := below_then hb1 hb2; clear hO2 hsl)))
  obtain ⟨ss, hss⟩ : ∃ ss, sortI all = ss := ⟨_, rfl⟩
  have HSS := Aside0.mk hss
  rw [hss] at HS2 ⊢
  have hsn : ss.length = all.length := by rw [← hss]; exact sortI_len all
  have HSM : Aside0 (∀ k ∈ ss, k ∈ all) := ⟨fun k hk => sortI_mem (by rw [hss]; exact hk)⟩
  have hs5 : ss.length ≤ 501 := by omega
  clear hss hsn HO1 hb1 hb2
  go_loopg [7, 8] ss.length (fun gk v7 v8 wx => ∃ (i : Nat), gk = ss.length - i ∧ i ≤ ss.length ∧ v8 = .int .i64 i ∧ Aside0 (OL wx w2.heap.size v7 ((ss.take i).map (linkK all o))) ∧ Below w2.heap.size w2 wx)
  case atStart => exact ⟨0, rfl, Nat.zero_le _, rfl, ⟨Kd.R_nil _ _ _ _ _⟩, Below.refl _ _⟩
  case round =>
    obtain ⟨i, hg, hi2, rfl, HOL, hbx⟩ := hrel
    have HG := Aside0.mk hg
    clear hg
    by_cases hlt : i < ss.length
    · obtain ⟨ad, k, hA, hdk, q0⟩ := C_int HS2.out i hlt
      obtain rfl : ad = ⟨g6, 0, none⟩ := by injection hA with h; exact h.symm
      have ea : ∀ g j, (⟨g, 0, none⟩ : Addr).add j = ⟨g, j, none⟩ := fun g j => by unfold Addr.add; split <;> simp_all
      rw [ea] at q0
      have q02 := q0
      replace q0 := pw_cell_below hbx q0
      have hkm : k ∈ ss := List.mem_of_mem_drop (show k ∈ ss.drop i by rw [hdk]; exact List.mem_cons_self ..)
      have hka := HSM.out k hkm
      have HIX : Aside0 (idxN k 0 all = ((all.idxOf k : Nat) : Int)) := ⟨by rw [idxN_mem _ _ _ hka, Nat.zero_add]⟩
      have htl : all.idxOf k < all.length := List.idxOf_lt_length_iff.2 hka
      have hx : linkK all o k = ⟨k, all.getD ((all.idxOf k + 1) % all.length) 0, all.getD ((all.idxOf k + all.length - 1) % all.length) 0, o⟩ := by
        have := link_key (o := o) hka
        unfold linkK mkL at this ⊢
        simp only at this
        rw [this]
      have HX := Aside0.mk hx
      clear hx
      generalize all.idxOf k = t at htl HIX HX
      have HTK : Aside0 ((ss.take (i + 1)).map (linkK all o) = (ss.take i).map (linkK all o) ++ [linkK all o k]) := ⟨by
        rw [List.drop_eq_getElem_cons hlt] at hdk
        injection hdk with h1 _
        rw [List.take_succ_eq_append_getElem hlt, List.map_append, h1]; rfl⟩
      have HL8 : Aside0 (((ss.take i).map (linkK all o)).length ≤ 501) := ⟨by rw [List.length_map, List.length_take]; omega⟩
      have hC := HC2.out
      have HCX := Aside0.mk (Kd.C_below hC hbx)
      obtain ⟨ad', hA', k1⟩ := getD_cell hC ((t + 1) % all.length) (Nat.mod_lt _ hapos)
      obtain ⟨ad'', hA'', k2⟩ := getD_cell hC ((t + all.length - 1) % all.length) (Nat.mod_lt _ hapos)
      obtain rfl : ad' = ⟨g5, 0, none⟩ := by injection hA' with h; exact h.symm
      obtain rfl : ad'' = ⟨g5, 0, none⟩ := by injection hA'' with h; exact h.symm
      rw [ea] at k1 k2
      have hr1 : Int.tmod ((t : Int) + 1) (all.length : Int) = (((t + 1) % all.length : Nat) : Int) := by rw [show ((t : Int) + 1) = ((t + 1 : Nat) : Int) by omega]; exact (Int.ofNat_tmod _ _).symm
      have hr2 : Int.tmod ((t : Int) + (all.length : Int) - 1) (all.length : Int) = (((t + all.length - 1) % all.length : Nat) : Int) := by rw [show ((t : Int) + (all.length : Int) - 1) = ((t + all.length - 1 : Nat) : Int) by omega]; exact (Int.ofNat_tmod _ _).symm
      have hm1 : (t + 1) % all.length < all.length := Nat.mod_lt _ hapos
      have hm2 : (t + all.length - 1) % all.length < all.length := Nat.mod_lt _ hapos
      have hne : all ≠ [] := fun e => by rw [e] at hapos; exact absurd hapos (by decide)
      have hwr1 : IntKind.i64.wrap ((t : Int) + 1) = (t : Int) + 1 := by rw [Go.Proofs.YtilenkodmmpofaaW.PrintLast.i64_w]; exact w64 (by omega) (by omega)
      have hwr2 : IntKind.i64.wrap ((t : Int) + (all.length : Int)) = (t : Int) + (all.length : Int) := by rw [Go.Proofs.YtilenkodmmpofaaW.PrintLast.i64_w]; exact w64 (by omega) (by omega)
      have hwr3 : IntKind.i64.wrap ((t : Int) + (all.length : Int) - 1) = (t : Int) + (all.length : Int) - 1 := by rw [Go.Proofs.YtilenkodmmpofaaW.PrintLast.i64_w]; exact w64 (by omega) (by omega)
      generalize (t + 1) % all.length = m1 at k1 hr1 hm1 HX
      generalize (t + all.length - 1) % all.length = m2 at k2 hr2 hm2 HX
      generalize all.getD m1 0 = y1 at k1 HX
      generalize all.getD m2 0 = y2 at k2 HX
      clear hA hA' hA'' hdk hka hkm ea hC
      go_wp2_with (go_at_call 64; go_must (refine (refIndex_calls _ cp5 all k _ HCX.out hcp5 (by omega)).mono ?_; rintro e w4 ⟨rfl, hd⟩; rw [HIX.out]))
      have q04 := pw_cell_below hd q0
      have HOL4 := Aside0.mk (Kd.R_below HOL.out hd)
      have hbx4 := hbx.trans (hd.mono hbx.size)
      have k14 := pw_cell_below hbx4 k1
      have k24 := pw_cell_below hbx4 k2
      clear q0 hd HOL
      go_region_held3 (fun w' => Below w2.heap.size w2 w' ∧ w'.cell? ⟨g6, i, none⟩ = some (.int .i64 k) ∧ w'.cell? ⟨g5, m1, none⟩ = some (.int .i64 y1) ∧ w'.cell? ⟨g5, m2, none⟩ = some (.int .i64 y2)) ((refine (fun h => ⟨h, pw_cell_below h q02, pw_cell_below h k1, pw_cell_below h k2⟩ : Below w2.heap.size w2 _ → _) ?_; (repeat first | exact Below.refl _ _ | exact hbx4 | exact HB1.out | refine below_drew ?_ | refine below_alloc ?_ _))) (first
        | (refine Kd.R_append_step k31 (w0 := w2) (W := w4.drew) w2.heap.size (by rfl) (.tmp 28) (.tmp 54) 25 31 (.agg #[.int .i64 0, .int .i64 0, .int .i64 0, .int .i64 0]) 32 rfl Try.underlying25 info31 rfl (by decide) (by omega) _ ((ss.take i).map (linkK all o)) ⟨k, y1, y2, o⟩ [.int .i64 k, .int .i64 y1, .int .i64 y2, .int .i64 o] (fun _ => True) (fun _ => False) rfl rfl (k31_mkM _ _ _ _) (fun _ h => h.elim) (fun _ _ => trivial) ?bO ?bB ?bS ?bL ?_; (case bO => refine Kd.R_below HOL4.out ?_; (repeat first | exact Below.refl _ _ | exact hbx4 | exact HB1.out | refine below_drew ?_ | refine below_alloc ?_ _)); (case bB => (repeat first | exact Below.refl _ _ | exact hbx4 | exact HB1.out | refine below_drew ?_ | refine below_alloc ?_ _)); (case bS => exact Below.size (B := w2.heap.size) (w := w2) (below_drew hbx4)); (case bL => have := HL8.out; omega); intro v5 w5 ho5 hb5 hg5 hat5; have HO5 := Aside0.mk ho5; have HB1 := Aside0.mk hb5; clear ho5 hb5 hg5 hat5))
      all_goals
        go_wp2
        all_goals
          go_roundg (ss.length - (i + 1))
          case measure => have := HG.out; omega
          case rel => exact ⟨i + 1, rfl, by omega, by go_num, ⟨by rw [HTK.out, HX.out]; exact HO5.out⟩, HB1.out⟩
    · have e : ss.take i = ss := List.take_of_length_le (by omega)
      have HO4 : Aside0 (OL wr w2.heap.size u7 (builtL o l)) := ⟨by
        have := HOL.out
        rw [e, ← HSS.out, HALL.out] at this
        exact this⟩
      have hbw : Below w.heap.size w wr := hbw2.trans (hbx.mono hbw2.size)
      clear e
      go_wp2
      go_ret
      exact ⟨_, rfl, Kd.R_lower HO4.out hbw2.size, hbw⟩
end Go.Proofs.Ytilenkodmmpofaa.K

set_option linter.unusedVariables false
set_option linter.unusedSimpArgs false
namespace Go.Proofs.Ytilenkodmmpofaa.K
open Go.RowKit Go.Proofs.YtilenkodmmpofaaW.PrintWords Go.Maps PC

set_option maxRecDepth 100000 in
set_option maxHeartbeats 8000000 in
theorem refMake_calls (o : Int) (A : Option Addr) (c : Nat) (l : List Int) (w : World) (hr : Kd.C (Kd.int .i64) w A l.length l) (hl : l.length ≤ 900) :
    Calls Try.prog 11 #[.int .i64 o, .slice A l.length c] w fun e w' => ∃ v, e = .returned (.tuple #[v, .int .i64 (makeF o l).2]) ∧ OL w' w.heap.size v (makeF o l).1 ∧ Below w.heap.size w w' := by
  have HR := Aside0.mk hr
  obtain ⟨all, hall⟩ : ∃ all, all = o :: l := ⟨_, rfl⟩
  have han : all.length = l.length + 1 := by rw [hall]; rfl
  have HALL := Aside0.mk hall
  have hapos : 0 < all.length := by omega
  have hal : all.length ≤ 901 := by omega
  obtain ⟨b, hb⟩ : ∃ b, (all.all okKey && decide all.Nodup) = b := ⟨_, rfl⟩
  have HB := Aside0.mk hb
  have hlen : all.length = l.length + 1 := han
  have HAN := Aside0.mk han
  clear hr hall hb han hlen
  cases b with
  | false =>
    have HF : Aside0 (makeF o l = ([], 1)) := ⟨by
      have h := HB.out
      rw [HALL.out] at h
      unfold makeF
      split
      · rename_i h1
        rw [if_neg]
        intro h2
        rw [h1] at h
        simp [h2] at h
      · rfl⟩
    go_enter Try.func11, Try.ntmps11
    go_wp2_with (first
      | ((with_reducible refine at_b (b := .append) (xs := #[.tmp 8, .tmp 9]) rfl ?_); go_must (refine Kd.R_append_rows (Kd.int .i64) (w0 := w) w.heap.size rfl (.tmp 8) (.tmp 9) 22 3 (.int .i64 0) 8 rfl Try.underlying22 info3 rfl (by decide) (by omega) _ [o] l _ _ _ (fun _ => True) (fun _ => False) rfl rfl (own_one (Nat.le_refl _) o) (Kd.C_below HR.out (below_alloc (Below.refl _ _) _)) (fun _ _ h => h) (fun _ h => h.elim) (fun _ _ => trivial) (below_alloc (Below.refl _ _) _) (by simp) (by simp; omega) ?_; intro v5 w1 hO1 hb1 hg1 hat1; rw [show [o] ++ l = all from HALL.out.symm] at hO1; obtain ⟨g5, cp5, e5, hgb5, _⟩ := Kd.R_form hO1 hapos; subst e5; have HC1 := Aside0.mk (Kd.R_reads' hO1).2.2; have hcp5 : all.length ≤ cp5 := (Kd.R_reads' hO1).2.1; clear hO1 hg1 hat1))
      | (go_at_call 46; go_must (refine (refRight_calls _ cp5 all _ HC1.out hcp5 (by omega)).mono ?_; rintro e w2 ⟨rfl, hd2⟩; rw [HB.out])))
    go_ret2
    exact ⟨_, ret_vl HF.out, by rw [HF.out]; exact Kd.R_nil _ _ _ _ _, below_then hb1 hd2⟩
  | true =>
    have HOK : Aside0 ((o :: l).all okKey = true ∧ (o :: l).Nodup) := ⟨by
      have h := HB.out
      rw [HALL.out, Bool.and_eq_true, decide_eq_true_eq] at h
      exact h⟩
    by_cases h5 : 500 ≤ l.length
    · have HF : Aside0 (makeF o l = ([], 4)) := ⟨by unfold makeF; rw [if_pos HOK.out.1, if_pos HOK.out.2, if_pos h5]⟩
      have h5a : (500 : Int) < (all.length : Int) := by have := HAN.out; omega
      have h5b : decide ((500 : Int) < (all.length : Int)) = true := decide_eq_true h5a
      clear h5
      go_enter Try.func11, Try.ntmps11
      go_wp2_with (first
        | ((with_reducible refine at_b (b := .append) (xs := #[.tmp 8, .tmp 9]) rfl ?_); go_must (refine Kd.R_append_rows (Kd.int .i64) (w0 := w) w.heap.size rfl (.tmp 8) (.tmp 9) 22 3 (.int .i64 0) 8 rfl Try.underlying22 info3 rfl (by decide) (by omega) _ [o] l _ _ _ (fun _ => True) (fun _ => False) rfl rfl (own_one (Nat.le_refl _) o) (Kd.C_below HR.out (below_alloc (Below.refl _ _) _)) (fun _ _ h => h) (fun _ h => h.elim) (fun _ _ => trivial) (below_alloc (Below.refl _ _) _) (by simp) (by simp; omega) ?_; intro v5 w1 hO1 hb1 hg1 hat1; rw [show [o] ++ l = all from HALL.out.symm] at hO1; obtain ⟨g5, cp5, e5, hgb5, _⟩ := Kd.R_form hO1 hapos; subst e5; have HC1 := Aside0.mk (Kd.R_reads' hO1).2.2; have hcp5 : all.length ≤ cp5 := (Kd.R_reads' hO1).2.1; clear hO1 hg1 hat1))
        | (go_at_call 46; go_must (refine (refRight_calls _ cp5 all _ HC1.out hcp5 (by omega)).mono ?_; rintro e w2 ⟨rfl, hd2⟩; rw [HB.out])))
      go_ret2
      exact ⟨_, ret_vl HF.out, by rw [HF.out]; exact Kd.R_nil _ _ _ _ _, below_then hb1 hd2⟩
    · have HF : Aside0 (makeF o l = (builtL o l, 0)) := ⟨by unfold makeF; rw [if_pos HOK.out.1, if_pos HOK.out.2, if_neg h5]⟩
      have h5a : ¬ (500 : Int) < (all.length : Int) := by have := HAN.out; omega
      have h5b : decide ((500 : Int) < (all.length : Int)) = false := decide_eq_false h5a
      have hl5 : l.length ≤ 500 := by omega
      clear h5
      go_enter Try.func11, Try.ntmps11
      go_wp2_with (first
        | ((with_reducible refine at_b (b := .append) (xs := #[.tmp 8, .tmp 9]) rfl ?_); go_must (refine Kd.R_append_rows (Kd.int .i64) (w0 := w) w.heap.size rfl (.tmp 8) (.tmp 9) 22 3 (.int .i64 0) 8 rfl Try.underlying22 info3 rfl (by decide) (by omega) _ [o] l _ _ _ (fun _ => True) (fun _ => False) rfl rfl (own_one (Nat.le_refl _) o) (Kd.C_below HR.out (below_alloc (Below.refl _ _) _)) (fun _ _ h => h) (fun _ h => h.elim) (fun _ _ => trivial) (below_alloc (Below.refl _ _) _) (by simp) (by simp; omega) ?_; intro v5 w1 hO1 hb1 hg1 hat1; rw [show [o] ++ l = all from HALL.out.symm] at hO1; obtain ⟨g5, cp5, e5, hgb5, _⟩ := Kd.R_form hO1 hapos; subst e5; have HC1 := Aside0.mk (Kd.R_reads' hO1).2.2; have hcp5 : all.length ≤ cp5 := (Kd.R_reads' hO1).2.1; clear hO1 hg1 hat1))
        | (go_at_call 46; go_must (refine (refRight_calls _ cp5 all _ HC1.out hcp5 (by omega)).mono ?_; rintro e w2 ⟨rfl, hd2⟩; rw [HB.out]))
        | (go_at_call 47; go_must (refine (Built_calls o A c l _ (Kd.C_below HR.out (below_then hb1 hd2)) hl5 HOK.out.2).mono ?_; rintro e w3 ⟨v3, rfl, hO3, hd3⟩; have HO3 := Aside0.mk hO3; clear hO3)))
      go_ret2
      exact ⟨_, ret_vl HF.out, by rw [HF.out]; exact Kd.R_lower HO3.out (below_then hb1 hd2).size, below_then (below_then hb1 hd2) hd3⟩
end Go.Proofs.Ytilenkodmmpofaa.K

set_option linter.unusedVariables false
set_option linter.unusedSimpArgs false
namespace Go.Proofs.Ytilenkodmmpofaa.K
open Go.RowKit Go.Proofs.YtilenkodmmpofaaW.PrintWords Go.Maps PC
attribute [local go_sem high] eqA31

theorem make_awake : makeF 5 [2, 9] = ([⟨2, 9, 5, 5⟩, ⟨5, 2, 9, 5⟩, ⟨9, 5, 2, 5⟩], 0) := by
  unfold makeF builtL
  rw [← asc_is, if_pos (by decide), if_pos (by decide), if_neg (by decide)]
  rfl
theorem own_two {w : World} {base : Nat} (hb : base ≤ w.heap.size) (x y : Int) : OI (w.alloc (.cells #[.int .i64 x, .int .i64 y] 3)) base (.slice (some ⟨w.heap.size, 0, none⟩) 2 2) [x, y] :=
  Kd.R_of_own (enc := Value.int .i64) (h1 := fun _ => rfl) ⟨rfl, .inr ⟨w.heap.size, 2, #[.int .i64 x, .int .i64 y], rfl, hb, World.alloc_heap_new w _, Nat.le_refl _, by decide, rfl, by simp [encs]⟩⟩ (fun _ _ => trivial)
set_option maxRecDepth 100000 in
set_option maxHeartbeats 8000000 in
theorem awake_calls (w : World) : Calls Try.prog 10 #[] w fun e w' => e = .returned (.bool true) ∧ Below w.heap.size w w' := by
  have HM := Aside0.mk (Make_calls 5 (some ⟨w.heap.size, 0, none⟩) 2 [2, 9] (w.alloc (.cells #[.int .i64 2, .int .i64 9] 3)) (Kd.R_reads' (own_two (Nat.le_refl _) 2 9)).2.2 (by decide) (by intro x hx; simp at hx; unfold wfi; omega))
  have HMA := Aside0.mk make_awake
  go_enter Try.func10, Try.ntmps10
  go_wp2_with (go_at_call 15; go_must (refine HM.out.mono ?_; rintro e w2 ⟨v1, rfl, hO, hd⟩; rw [HMA.out] at hO ⊢; obtain ⟨g1, c1, e1, hgb1, _⟩ := Kd.R_form hO (by decide); subst e1; have hC := (Kd.R_reads' hO).2.2; have ea : ∀ j, (⟨g1, 0, none⟩ : Addr).add j = ⟨g1, j, none⟩ := (fun j => by unfold Addr.add; split <;> simp_all); obtain ⟨ad, x0, hA, hx0, a0, a1, a2, a3⟩ := C_link hC 0 (by decide); obtain rfl : ad = ⟨g1, 0, none⟩ := (by injection hA with h; exact h.symm); obtain ⟨ad', x2, hA', hx2, b0, b1, b2, b3⟩ := C_link hC 2 (by decide); obtain rfl : ad' = ⟨g1, 0, none⟩ := (by injection hA' with h; exact h.symm); injection hx0 with hx0; injection hx2 with hx2; subst hx0 hx2; rw [ea] at a0 a1 a2 a3 b0 b1 b2 b3; clear hA hA' hC hO ea))
  go_ret
  exact ⟨rfl, below_then (below_alloc (Below.refl _ _) _) hd⟩
end Go.Proofs.Ytilenkodmmpofaa.K

set_option linter.unusedVariables false
set_option linter.unusedSimpArgs false
namespace Go.Proofs.Ytilenkodmmpofaa.K
open PC

theorem Ring.place {l : List S31} {o : Int} {m : List Int} (h : Ring l o m) {i : Nat} {x : S31} (hx : l[i]? = some x) : ∃ t, t < (o :: m).length ∧ (o :: m)[t]? = some x.f0 ∧ x = mkL (o :: m) o t := by
  obtain ⟨t, h1, h2⟩ := h.mem (List.mem_of_getElem? hx)
  exact ⟨t, (List.getElem?_eq_some_iff.1 h1).1, h1, h2⟩
theorem Ring.next_surj {l : List S31} {o : Int} {m : List Int} (h : Ring l o m) {k : Int} (hk : k ∈ o :: m) : ∃ (j : Nat) (x : S31), l[j]? = some x ∧ x.f1 = k := by
  obtain ⟨s, hs, rfl⟩ := List.getElem_of_mem hk
  match s, hs with
  | 0, hs =>
    obtain ⟨j, _, _, hj⟩ := h.at (List.getElem?_eq_getElem (show m.length < (o :: m).length by simp))
    refine ⟨j, _, hj, ?_⟩
    show (o :: m).getD ((m.length + 1) % (o :: m).length) 0 = _
    rw [round_end (by simp)]; rfl
  | s + 1, hs =>
    obtain ⟨j, _, _, hj⟩ := h.at (List.getElem?_eq_getElem (show s < (o :: m).length by omega))
    refine ⟨j, _, hj, ?_⟩
    show (o :: m).getD ((s + 1) % (o :: m).length) 0 = _
    rw [round_on hs, getD_some (List.getElem?_eq_getElem hs)]
theorem round_lt {n t : Nat} (h : t < n) : (t + 1) % n < n := Nat.mod_lt _ (by omega)
theorem round_inj {n s t : Nat} (hs : s < n) (ht : t < n) (h : (s + 1) % n = (t + 1) % n) : s = t := by
  by_cases e : s + 1 < n
  · rw [round_on e] at h
    by_cases e2 : t + 1 < n
    · rw [round_on e2] at h; omega
    · rw [round_end (by omega)] at h; omega
  · rw [round_end (by omega)] at h
    by_cases e2 : t + 1 < n
    · rw [round_on e2] at h; omega
    · omega
theorem round_inv {n t : Nat} (ht : t < n) : ((t + 1) % n + n - 1) % n = t := by
  by_cases e : t + 1 < n
  · rw [round_on e, round_back e]
  · rw [round_end (by omega), round_last (by omega)]; omega
theorem nodup_getD {all : List Int} (hn : all.Nodup) {s t : Nat} (hs : s < all.length) (ht : t < all.length) (h : all.getD s 0 = all.getD t 0) : s = t := by
  have a := idx_get hn (List.getElem?_eq_getElem hs)
  have b := idx_get hn (List.getElem?_eq_getElem ht)
  rw [getD_some (List.getElem?_eq_getElem hs), getD_some (List.getElem?_eq_getElem ht)] at h
  rw [h] at a
  omega
theorem Ring.next_inj {l : List S31} {o : Int} {m : List Int} (h : Ring l o m) {i j : Nat} {x y : S31} (hx : l[i]? = some x) (hy : l[j]? = some y) (e : x.f1 = y.f1) : i = j := by
  obtain ⟨s, hs, hs1, ex⟩ := h.place hx
  obtain ⟨t, ht, ht1, ey⟩ := h.place hy
  rw [ex, ey] at e
  have := round_inj hs ht (nodup_getD h.nd (round_lt hs) (round_lt ht) e)
  subst this
  rw [hs1] at ht1
  injection ht1 with ht1
  exact key_inj h.keys hx hy ht1
theorem Ring.prior_of {l : List S31} {o : Int} {m : List Int} (h : Ring l o m) {i j : Nat} {x y : S31} (hx : l[i]? = some x) (hy : l[j]? = some y) (e : y.f1 = x.f0) : x.f2 = y.f0 := by
  obtain ⟨s, hs, hs1, ex⟩ := h.place hx
  obtain ⟨t, ht, ht1, ey⟩ := h.place hy
  have h1 : (o :: m).getD ((t + 1) % (o :: m).length) 0 = (o :: m).getD s 0 := by
    rw [getD_some hs1, ← e, ey]; rfl
  have h2 := nodup_getD h.nd (round_lt ht) hs h1
  have h3 : x.f2 = (o :: m).getD ((s + (o :: m).length - 1) % (o :: m).length) 0 := by rw [ex]; rfl
  rw [h3, ← h2, round_inv ht, getD_some ht1]
theorem set_same {l : List S31} {i : Nat} {x x' : S31} (hx : l[i]? = some x) : (l.set i x')[i]? = some x' := by
  rw [List.getElem?_set, if_pos rfl, if_pos (List.getElem?_eq_some_iff.1 hx).1]
theorem set_else {l : List S31} {i j : Nat} {x' y : S31} (hy : l[j]? = some y) (h : i ≠ j) : (l.set i x')[j]? = some y := by
  rw [List.getElem?_set, if_neg h]; exact hy
theorem set_keys {l : List S31} {i : Nat} {x x' : S31} (hx : l[i]? = some x) (h : x'.f0 = x.f0) : (l.set i x').map (·.f0) = l.map (·.f0) := by
  rw [List.map_set, h]
  obtain ⟨h1, h2⟩ := List.getElem?_eq_some_iff.1 hx
  have : x.f0 = (l.map (·.f0))[i]'(by simpa using h1) := by rw [List.getElem_map, h2]
  rw [this, List.set_getElem_self]
theorem Ring.mem_iff {l : List S31} {o : Int} {m : List Int} (h : Ring l o m) {k : Int} : k ∈ o :: m ↔ k ∈ l.map (·.f0) := by
  rw [h.map, (sortI_perm _).mem_iff]
theorem damage_next {l : List S31} {o : Int} {m : List Int} (h : Ring l o m) {i : Nat} {x x' : S31} (hx : l[i]? = some x) (h0 : x'.f0 = x.f0) (h1 : x'.f1 ≠ x.f1) : validL (l.set i x') = false := by
  cases hv : validL (l.set i x') with
  | false => rfl
  | true =>
    exfalso
    obtain ⟨m', h'⟩ := valid_ring hv
    have hx' := set_same (x' := x') hx
    have hm : x'.f1 ∈ o :: m := by
      rw [h.mem_iff, ← set_keys hx h0, ← h'.mem_iff]
      exact h'.next (List.mem_of_getElem? hx')
    obtain ⟨j, y, hy, hye⟩ := h.next_surj hm
    have hne : i ≠ j := by
      rintro rfl
      rw [hx] at hy; injection hy with hy
      exact h1 (by rw [hy, hye])
    exact hne (h'.next_inj hx' (set_else hy hne) hye.symm)
theorem damage_prior {l : List S31} {o : Int} {m : List Int} (h : Ring l o m) {i : Nat} {x x' : S31} (hx : l[i]? = some x) (h0 : x'.f0 = x.f0) (h1 : x'.f1 = x.f1) (h2 : x'.f2 ≠ x.f2) : validL (l.set i x') = false := by
  cases hv : validL (l.set i x') with
  | false => rfl
  | true =>
    exfalso
    obtain ⟨m', h'⟩ := valid_ring hv
    have hx' := set_same (x' := x') hx
    obtain ⟨t, _, ht, _⟩ := h.place hx
    obtain ⟨j, y, hy, hye⟩ := h.next_surj (List.mem_of_getElem? ht)
    have e1 := h.prior_of hx hy hye
    have : ∃ y', (l.set i x')[j]? = some y' ∧ y'.f1 = y.f1 ∧ y'.f0 = y.f0 := by
      by_cases e : i = j
      · subst e
        rw [hx] at hy; injection hy with hy
        subst hy
        exact ⟨x', hx', h1, h0⟩
      · exact ⟨y, set_else hy e, rfl, rfl⟩
    obtain ⟨y', hy', e2, e3⟩ := this
    have e4 := h'.prior_of hx' hy' (by rw [e2, hye, h0])
    exact h2 (by rw [e4, e3, e1])
theorem damage_owner {l : List S31} {o : Int} {m : List Int} (h : Ring l o m) {i : Nat} {x x' : S31} (hx : l[i]? = some x) (h0 : x'.f0 = x.f0) (h3 : x'.f3 ≠ x.f3) : validL (l.set i x') = false := by
  cases hv : validL (l.set i x') with
  | false => rfl
  | true =>
    exfalso
    obtain ⟨m', h'⟩ := valid_ring hv
    have hx' := set_same (x' := x') hx
    have hxo := h.owner (List.mem_of_getElem? hx)
    have hno : ownL (l.set i x') ≠ o := by rw [← h'.owner (List.mem_of_getElem? hx'), ← hxo]; exact h3
    have hsm : ownL (l.set i x') ∈ o :: m := by
      rw [h.mem_iff, ← set_keys hx h0, ← h'.mem_iff]; exact List.mem_cons_self ..
    obtain ⟨t, ht, hte⟩ := List.getElem_of_mem hsm
    obtain ⟨j, _, _, hj⟩ := h.at (List.getElem?_eq_getElem ht)
    obtain ⟨k, _, _, hk⟩ := h.at (show (o :: m)[0]? = some o from rfl)
    have hown : ∀ (n : Nat) (y : S31), l[n]? = some y → n = i := fun n y hy => Decidable.byContradiction fun e => by
      have := h'.owner (List.mem_of_getElem? (set_else (x' := x') hy (fun e' => e e'.symm)))
      rw [h.owner (List.mem_of_getElem? hy)] at this
      exact hno this.symm
    have a := hown j _ hj
    have b := hown k _ hk
    rw [a, hx] at hj
    rw [b, hx] at hk
    rw [hj] at hk
    injection hk with hk
    have hk0 := congrArg S31.f0 hk
    have : (mkL (o :: m) o t).f0 = ownL (l.set i x') := by rw [← hte]; exact getD_some (List.getElem?_eq_getElem ht)
    rw [this] at hk0
    exact hno hk0
end Go.Proofs.Ytilenkodmmpofaa.K

set_option linter.unusedVariables false
set_option linter.unusedSimpArgs false
namespace Go.Proofs.Ytilenkodmmpofaa.K
open Go.RowKit Go.Proofs.YtilenkodmmpofaaW.PrintWords Go.Proofs.YtilenkodmmpofaaW.PrintLast Go.Proofs.YtilenkodmmpofaaW.PrintMore Go.Maps PC

theorem C_blk {α : Type} {d : Kd α} {W : World} {a : Nat} {cs : Array Value} {t : TypeId} {xs : List α} (h : W.heap[a]? = some (.cells cs t (0, 0))) (hr : Reps (d.K W) d.sz xs cs.toList) (hm : xs.length ≤ 9223372036854775807) : Kd.C d W (some ⟨a, 0, none⟩) xs.length xs := by
  refine ⟨rfl, hm, fun _ => ⟨_, rfl, fun j p hj => ⟨(cs.toList.drop (j * d.sz)).take d.sz, ?_, hr.2 j p hj, fun i u hu => ?_⟩⟩⟩
  · exact d.K_len (hr.2 j p hj)
  · rw [List.getElem?_take] at hu
    split at hu
    · rw [List.getElem?_drop] at hu
      have e : (⟨a, 0, none⟩ : Addr).add (j * d.sz + i) = ⟨a, j * d.sz + i, none⟩ := by unfold Addr.add; split <;> simp_all
      rw [e]
      simpa [World.cell?, h] using hu
    · cases hu
theorem rows_one {W : World} {a : Nat} {A : Option Addr} {c : Nat} {l : List Int} {t : TypeId} (h : W.heap[a]? = some (.cells #[.slice A l.length c] t (0, 0))) (hc : l.length ≤ c) (hr : Kd.C (Kd.int .i64) W A l.length l) : Kd.C (Kd.slice 3 (Kd.int .i64)) W (some ⟨a, 0, none⟩) 1 [l] :=
  C_blk (xs := [l]) h (Reps.snoc (R := (Kd.slice 3 (Kd.int .i64)).K W) (Reps.none _ _) ⟨A, c, rfl, hc, hr⟩ rfl) (by simp)
theorem light_one (l : List Int) : ringworklaw09_light.f 3 [l] = some (decide (l.length ≤ 120)) := by
  unfold ringworklaw09_light.f
  by_cases h : l.length ≤ 120
  · have : ¬ (l.length : Int) > 120 := by omega
    simp [ringworklaw09_light.l0, rd_L1, h, this, w64]
  · have : (l.length : Int) > 120 := by omega
    simp [ringworklaw09_light.l0, rd_L1, h, this, w64]
/-- The numbers of a link, in order. -/
def encL (x : S31) : List Value := [.int .i64 x.f0, .int .i64 x.f1, .int .i64 x.f2, .int .i64 x.f3]
theorem C_setf {W : World} {g n i k : Nat} {l : List S31} {x x' : S31} {u : Int} (h : Kd.C k31 W (some ⟨g, 0, none⟩) n l) (hx : l[i]? = some x) (hk : k < 4) (he : encL x' = (encL x).set k (.int .i64 u)) :
    Kd.C k31 (W.setCell ⟨g, i * 4 + k, none⟩ (.int .i64 u)) (some ⟨g, 0, none⟩) n (l.set i x') := by
  have ea : ∀ j, (⟨g, 0, none⟩ : Addr).add j = ⟨g, j, none⟩ := fun j => by unfold Addr.add; split <;> simp_all
  obtain ⟨h1, h2, h3⟩ := h
  have hil := (List.getElem?_eq_some_iff.1 hx).1
  obtain ⟨ad, e, hc⟩ := h3 (by omega)
  injection e with e
  subst e
  have hcell : ∀ (j : Nat) (p : S31), l[j]? = some p → ∀ (q : Nat) (v : Value), (encL p)[q]? = some v → W.cell? ⟨g, j * 4 + q, none⟩ = some v := fun j p hj q v hq => by
    obtain ⟨c, _, hK, hv⟩ := hc j p hj
    rw [k31_open hK] at hv
    have := hv q v hq
    rw [ea] at this
    exact this
  refine ⟨by rw [List.length_set]; exact h1, h2, fun _ => ⟨_, rfl, fun j p hj => ⟨encL p, rfl, k31_mk _ p, fun q v hq => ?_⟩⟩⟩
  rw [ea]
  show (W.setCell ⟨g, i * 4 + k, none⟩ (.int .i64 u)).cell? ⟨g, j * 4 + q, none⟩ = some v
  have hq4 : q < 4 := (List.getElem?_eq_some_iff.1 hq).1
  by_cases eij : i = j
  · subst eij
    rw [List.getElem?_set, if_pos rfl, if_pos hil] at hj
    injection hj with hj
    subst hj
    rw [he] at hq
    by_cases eq : k = q
    · subst eq
      rw [List.getElem?_set, if_pos rfl, if_pos (show k < (encL x).length from hk)] at hq
      injection hq with hq
      obtain ⟨v0, hv0⟩ : ∃ v0, (encL x)[k]? = some v0 := ⟨_, List.getElem?_eq_getElem hk⟩
      rw [World.cell?_setCell_same' _ _ _ (by rw [hcell i x hx k v0 hv0]; rfl), hq]
    · rw [List.getElem?_set, if_neg eq] at hq
      rw [World.cell?_setCell_other _ _ _ _ (by intro e; injection e with _ e; omega)]
      exact hcell i x hx q v hq
  · rw [List.getElem?_set, if_neg eij] at hj
    rw [World.cell?_setCell_other _ _ _ _ (by intro e; injection e with _ e; omega)]
    exact hcell j p hj q v hq
theorem empty31 {W : World} {base : Nat} (hb : base ≤ W.heap.size) : OL (W.alloc (.cells #[] 31)) base (.slice (some ⟨W.heap.size, 0, none⟩) 0 0) [] :=
  ⟨fun _ _ => trivial, [], World.ownsRow_made W #[] 0 hb (Nat.zero_le _) rfl, Reps.none _ _⟩
theorem refWrong_calls (A : Option Addr) (c : Nat) (l : List S31) (w : World) (hl : l.length ≤ 130) (hr : Kd.C k31 w A l.length l) (hc : l.length ≤ c) :
    Calls Try.prog 13 #[.slice A l.length c] w fun e w' => e = .returned (.tuple #[.int .i64 (wrongF l).1, .int .i64 (wrongF l).2.1, .int .i64 (wrongF l).2.2]) ∧ Below w.heap.size w w' := by
  exact ringworkref09_Wrong.calls 800 A c l (wrongF l).1 (wrongF l).2.1 (wrongF l).2.2 w hr hc (by rw [ref_Wrong_is l hl])
end Go.Proofs.Ytilenkodmmpofaa.K

set_option linter.unusedVariables false
set_option linter.unusedSimpArgs false
namespace Go.Proofs.Ytilenkodmmpofaa.K
open Go.RowKit Go.Proofs.YtilenkodmmpofaaW.PrintWords Go.Maps PC

theorem built_ring {o : Int} {l : List Int} (h1 : (o :: l).all okKey = true) (h2 : (o :: l).Nodup) : Ring (builtL o l) o l :=
  ⟨h2, fun k hk => okKey_iff.1 (List.all_eq_true.1 h1 k hk), rfl⟩
/-- What Make answers: an error and nothing, or a ring. -/
theorem make_cases (o : Int) (l : List Int) : (∃ e, makeF o l = ([], e) ∧ (e = 1 ∨ e = 4)) ∨ (makeF o l = (builtL o l, 0) ∧ Ring (builtL o l) o l ∧ l.length < 500) := by
  unfold makeF
  split
  · rename_i h1
    split
    · rename_i h2
      split
      · exact .inl ⟨4, rfl, .inr rfl⟩
      · exact .inr ⟨rfl, built_ring h1 h2, by omega⟩
    · exact .inl ⟨1, rfl, .inl rfl⟩
  · exact .inl ⟨1, rfl, .inl rfl⟩
theorem wrap_wfi (x : Int) : wfi (IntKind.i64.wrap x) := by
  rw [Go.Proofs.YtilenkodmmpofaaW.PrintLast.i64_w]
  unfold wfi wrap64
  omega
theorem wrap_ne {x b : Int} (hx : 1 ≤ x ∧ x ≤ 1000000) (hb : b ≠ 0) (hw : wfi b) : IntKind.i64.wrap (x + b) ≠ x := by
  rw [Go.Proofs.YtilenkodmmpofaaW.PrintLast.i64_w]
  unfold wfi at hw
  unfold wrap64
  omega
theorem u64_nat (x : Int) : ∃ n : Nat, IntKind.u64.wrap x = (n : Int) := by
  refine ⟨(IntKind.u64.wrap x).toNat, ?_⟩
  have : 0 ≤ IntKind.u64.wrap x := by
    simp only [IntKind.wrap]
    first | omega | (simp [IntKind.signed, IntKind.bits]; omega) | (simp [IntKind.signed, IntKind.bits])
  omega
theorem u64_same {n : Nat} (h : n ≤ 1000000) : IntKind.u64.wrap (n : Int) = (n : Int) := by
  simp only [IntKind.wrap]
  first | omega | (simp [IntKind.signed, IntKind.bits]; omega) | (simp [IntKind.signed, IntKind.bits])
theorem i64_same {n : Nat} (h : n ≤ 1000000) : IntKind.i64.wrap (n : Int) = (n : Int) := by
  rw [Go.Proofs.YtilenkodmmpofaaW.PrintLast.i64_w]; exact w64 (by omega) (by omega)
theorem ring_wfi {l : List S31} {o : Int} {m : List Int} (h : Ring l o m) : ∀ x ∈ l, wfi x.f1 := fun x hx => by
  have := h.ok _ (h.next hx)
  unfold wfi; omega
theorem ring_fields {l : List S31} {o : Int} {m : List Int} (h : Ring l o m) {x : S31} (hx : x ∈ l) : (1 ≤ x.f1 ∧ x.f1 ≤ 1000000) ∧ (1 ≤ x.f2 ∧ x.f2 ≤ 1000000) ∧ (1 ≤ x.f3 ∧ x.f3 ≤ 1000000) :=
  ⟨h.ok _ (h.next hx), h.ok _ (h.prior hx), by rw [h.owner hx]; exact h.ok o (List.mem_cons_self ..)⟩
theorem set_wfi {l : List S31} (h : ∀ x ∈ l, wfi x.f1) {i : Nat} {x' : S31} (hx : wfi x'.f1) : ∀ x ∈ l.set i x', wfi x.f1 := fun x hm => by
  rcases List.mem_or_eq_of_mem_set hm with hm | rfl
  · exact h x hm
  · exact hx
theorem frz {W : World} {g o : Nat} {cells : Array Value} {t : TypeId} (h : W.heap[g]? = some (.cells cells t (0, 0))) : W.frozen? ⟨g, o, none⟩ = false := by
  simp [World.frozen?, h]
theorem Wrong_at {n : Nat} {l : List S31} {F1 F2 F3 : Int} (hn : n = l.length) (hF : wrongF l = (F1, F2, F3)) (A : Option Addr) (c : Nat) (w : World) (hl : n ≤ 130) (hr : Kd.C k31 w A n l) (hw : ∀ x ∈ l, wfi x.f1) :
    Calls Try.prog 12 #[.slice A n c] w fun e w' => e = .returned (.tuple #[.int .i64 F1, .int .i64 F2, .int .i64 F3]) ∧ Below w.heap.size w w' := by
  subst hn
  have := Wrong_calls A c l w hl hr hw
  rwa [hF] at this
theorem refWrong_at {n : Nat} {l : List S31} {F1 F2 F3 : Int} (hn : n = l.length) (hF : wrongF l = (F1, F2, F3)) (A : Option Addr) (c : Nat) (w : World) (hl : n ≤ 130) (hr : Kd.C k31 w A n l) (hc : n ≤ c) :
    Calls Try.prog 13 #[.slice A n c] w fun e w' => e = .returned (.tuple #[.int .i64 F1, .int .i64 F2, .int .i64 F3]) ∧ Below w.heap.size w w' := by
  subst hn
  have := refWrong_calls A c l w hl hr hc
  rwa [hF] at this
theorem valid_at {n : Nat} {l : List S31} {b : Bool} (hn : n = l.length) (h : validL l = b) (A : Option Addr) (c : Nat) (w : World) (hl : n ≤ 130) (hr : Kd.C k31 w A n l) (hw : ∀ x ∈ l, wfi x.f1) :
    Calls Try.prog 14 #[.slice A n c] w fun e w' => e = .returned (.bool b) ∧ Below w.heap.size w w' := by
  subst hn
  exact valid_is h A c w hl hr hw
theorem wf_wfi {x : Int} (h : (Lit.int .i64 x).wf = true) : wfi x := by
  unfold wfi
  simp only [Lit.wf] at h
  have a : IntKind.i64.min = -9223372036854775808 := by rfl
  have b : IntKind.i64.max = 9223372036854775807 := by rfl
  first | (simp [IntKind.inRange, a, b] at h; omega) | (simp [a, b] at h; omega)

set_option maxRecDepth 100000 in
set_option maxHeartbeats 8000000 in
theorem damage_calls (o : Int) (A : Option Addr) (c : Nat) (l : List Int) (a3 a4 a5 : Int) (w : World) (hr : Kd.C (Kd.int .i64) w A l.length l) (hlc : l.length ≤ c) (hw5 : wfi a5) :
    Calls Try.prog 3 #[.int .i64 o, .slice A l.length c, .int .i64 a3, .int .i64 a4, .int .i64 a5] w fun e w' => e = .returned (.bool true) ∧ Below w.heap.size w w' := by
  have HR := Aside0.mk hr
  have HLT := fun (W : World) h => ringworklaw09_light.calls 3 (some ⟨w.heap.size, 0, none⟩) 1 [l] (decide (l.length ≤ 120)) W h (by simp) (light_one l)
  obtain ⟨b, hb⟩ : ∃ b, decide (l.length ≤ 120) = b := ⟨_, rfl⟩
  have HLB := Aside0.mk hb
  clear hr
  cases b with
  | false =>
    clear hb
    go_enter Try.func3, Try.ntmps3
    go_wp2_with (first
      | (go_at_call 9; go_must (refine (HLT _ (rows_one (World.alloc_heap_new w _) hlc (Kd.C_below HR.out (below_alloc (Below.refl _ _) _)))).mono ?_; rintro e w1 ⟨rfl, hd1⟩; rw [HLB.out]; have hb1 := below_then (below_alloc (Below.refl _ w) _) hd1.below))
      | (go_at_call 10; go_must (refine (awake_calls _).mono ?_; rintro e wa ⟨rfl, hba⟩)))
    go_ret
    exact ⟨rfl, below_then hb1 hba⟩
  | true =>
    have hl120 : l.length ≤ 120 := of_decide_eq_true hb
    clear hb
    by_cases h0 : a5 = 0
    · subst h0
      go_enter Try.func3, Try.ntmps3
      go_wp2_with (first
        | (go_at_call 9; go_must (refine (HLT _ (rows_one (World.alloc_heap_new w _) hlc (Kd.C_below HR.out (below_alloc (Below.refl _ _) _)))).mono ?_; rintro e w1 ⟨rfl, hd1⟩; rw [HLB.out]; have hb1 := below_then (below_alloc (Below.refl _ w) _) hd1.below))
        | (go_at_call 10; go_must (refine (awake_calls _).mono ?_; rintro e wa ⟨rfl, hba⟩)))
      go_ret
      exact ⟨rfl, below_then hb1 hba⟩
    · have hd0 : decide (a5 = 0) = false := decide_eq_false h0
      rcases make_cases o l with ⟨e, hF, he⟩ | ⟨hF, hRing, h500⟩
      · have HF := Aside0.mk hF
        have he0 : ¬ e = 0 := by omega
        have he1 : decide (e = 0) = false := decide_eq_false he0
        clear hF he
        go_enter Try.func3, Try.ntmps3
        go_wp2_with (first
          | (go_at_call 9; go_must (refine (HLT _ (rows_one (World.alloc_heap_new w _) hlc (Kd.C_below HR.out (below_alloc (Below.refl _ _) _)))).mono ?_; rintro e w1 ⟨rfl, hd1⟩; rw [HLB.out]; have hb1 := below_then (below_alloc (Below.refl _ w) _) hd1.below))
          | (go_at_call 11; go_must (refine (refMake_calls o A c l _ (Kd.C_below HR.out hb1) (by omega)).mono ?_; rintro e w2 ⟨v2, rfl, hO2, hd2⟩; rw [HF.out] at hO2 ⊢; have hb2 := below_then hb1 hd2; clear hO2 hd2))
          | (go_at_call 10; go_must (refine (awake_calls _).mono ?_; rintro e wa ⟨rfl, hba⟩)))
        go_ret
        exact ⟨rfl, below_then hb2 hba⟩
      · have HF := Aside0.mk hF
        have HRING := Aside0.mk hRing
        have hlen := hRing.len
        obtain ⟨L, hL⟩ : ∃ L, L = builtL o l := ⟨_, rfl⟩
        rw [← hL] at HF HRING hlen
        have HWFI := Aside0.mk (ring_wfi HRING.out)
        have hL121 : L.length ≤ 121 := by omega
        have hLpos : 0 < L.length := by omega
        have hLne : L ≠ [] := fun e => by rw [e] at hLpos; exact absurd hLpos (by decide)
        have hLn0 : ¬ ((L.length : Int) = 0) := by omega
        obtain ⟨ua, hua⟩ := u64_nat a3
        obtain ⟨uf, huf⟩ := u64_nat a4
        have hun := u64_same (n := L.length) (by omega)
        have hmod : Int.tmod (ua : Int) (L.length : Int) = ((ua % L.length : Nat) : Int) := (Int.ofNat_tmod _ _).symm
        have hlt : ua % L.length < L.length := Nat.mod_lt _ hLpos
        have hiw := i64_same (n := ua % L.length) (by omega)
        have hm3 : Int.tmod (uf : Int) 3 = ((uf % 3 : Nat) : Int) := (Int.ofNat_tmod _ _).symm
        have hf3 : uf % 3 = 0 ∨ uf % 3 = 1 ∨ uf % 3 = 2 := by omega
        generalize uf % 3 = fld at hm3 hf3
        generalize ua % L.length = i at hmod hlt hiw
        clear hF hRing hL hlen
        have hL1 : 1 ≤ L.length := hLpos
        rcases hf3 with rfl | rfl | rfl
        · obtain ⟨x, hx⟩ : ∃ x, L[i]? = some x := ⟨_, List.getElem?_eq_getElem hlt⟩
          have HX := Aside0.mk hx
          have hfx := (ring_fields HRING.out (List.mem_of_getElem? hx)).1
          have hne := wrap_ne hfx h0 hw5
          obtain ⟨y, hy⟩ : ∃ y, IntKind.i64.wrap (x.f1 + a5) = y := ⟨_, rfl⟩
          rw [hy] at hne
          have HNE := Aside0.mk hne
          have YW : Aside0 (wfi y) := ⟨by rw [← hy]; exact wrap_wfi _⟩
          clear hfx hne hx
          have HV : Aside0 (validL (L.set i ⟨x.f0, y, x.f2, x.f3⟩) = false) := ⟨damage_next HRING.out HX.out rfl HNE.out⟩
          have HSW : Aside0 (∀ z ∈ L.set i ⟨x.f0, y, x.f2, x.f3⟩, wfi z.f1) := ⟨set_wfi HWFI.out (x' := ⟨x.f0, y, x.f2, x.f3⟩) (by exact YW.out)⟩
          obtain ⟨L', hL'⟩ : ∃ L', L.set i ⟨x.f0, y, x.f2, x.f3⟩ = L' := ⟨_, rfl⟩
          have HL' := Aside0.mk hL'
          have hl' : L.length = L'.length := by rw [← hL', List.length_set]
          have HLL := Aside0.mk hl'
          rw [hL'] at HV HSW
          obtain ⟨F1, F2, F3, hFF⟩ : ∃ F1 F2 F3, wrongF L' = (F1, F2, F3) := ⟨_, _, _, rfl⟩
          have HFF := Aside0.mk hFF
          clear hFF
          clear hL' hl'
          go_enter Try.func3, Try.ntmps3
          go_wp2_with (first
            | (go_at_call 9; go_must (refine (HLT _ (rows_one (World.alloc_heap_new w _) hlc (Kd.C_below HR.out (below_alloc (Below.refl _ _) _)))).mono ?_; rintro e w1 ⟨rfl, hd1⟩; rw [HLB.out]; have hb1 := below_then (below_alloc (Below.refl _ w) _) hd1.below))
            | (go_at_call 11; go_must (refine (refMake_calls o A c l _ (Kd.C_below HR.out hb1) (by omega)).mono ?_; rintro e w2 ⟨v2, rfl, hO2, hd2⟩; rw [HF.out] at hO2 ⊢; have hb2 := below_then hb1 hd2; obtain ⟨A2, c2, e2, hc2, hC2⟩ := Kd.R_reads hO2; subst e2; have HC2 := Aside0.mk hC2; clear hO2 hd2 hC2))
            | ((with_reducible refine at_b (b := .append) (xs := #[.tmp 44, .tmp 45]) rfl ?_); go_must (refine Kd.R_append_rows k31 (w0 := w) w.heap.size rfl (.tmp 44) (.tmp 45) 25 31 (.agg #[.int .i64 0, .int .i64 0, .int .i64 0, .int .i64 0]) 32 rfl Try.underlying25 info31 rfl (by decide) (by omega) _ [] L _ _ _ (fun _ => True) (fun _ => False) rfl rfl (empty31 hb2.size) (Kd.C_below HC2.out (below_alloc (Below.refl _ _) _)) (fun _ _ h => h) (fun _ h => h.elim) (fun _ _ => trivial) (below_alloc hb2 _) (by have := hb2.size; simp; omega) (by simp; omega) ?_; intro v3 w3 hO3 hb3 hg3 hat3; rw [List.nil_append] at hO3; obtain ⟨g, cp, e3, hgb, _, cl3, hcl3⟩ := Kd.R_form hO3 hLpos; subst e3; have hC3 := (Kd.R_reads' hO3).2.2; have hcp : L.length ≤ cp := (Kd.R_reads' hO3).2.1; have ea : ∀ j, (⟨g, 0, none⟩ : Addr).add j = ⟨g, j, none⟩ := (fun j => by unfold Addr.add; split <;> simp_all); obtain ⟨ad, x1, hA1, hx1, q0, q1, q2, q3⟩ := C_link hC3 i hlt; obtain rfl : ad = ⟨g, 0, none⟩ := (by injection hA1 with h; exact h.symm); rw [HX.out] at hx1; injection hx1 with hx1; subst hx1; rw [ea] at q0 q1 q2 q3; have hfz := frz (o := i * 4 + 1) hcl3; have HCS : Aside0 (Kd.C k31 (w3.setCell ⟨g, i * 4 + 1, none⟩ (.int .i64 y)) (some ⟨g, 0, none⟩) L.length L') := ⟨(by rw [← HL'.out]; exact C_setf hC3 HX.out (by decide) rfl)⟩; have HBS : Aside0 (Below w.heap.size w (w3.setCell ⟨g, i * 4 + 1, none⟩ (.int .i64 y))) := ⟨hb3.setCell hgb _⟩; clear hA1 hC3 ea hg3 hat3 hb3 hO3 hgb hcl3 cl3))
            | (go_at_call 12; go_must (refine (Wrong_at HLL.out HFF.out _ _ _ (by omega) HCS.out HSW.out).mono ?_; rintro e w5 ⟨rfl, hd5⟩))
            | (go_at_call 13; go_must (refine (refWrong_at HLL.out HFF.out _ _ _ (by omega) (Kd.C_below HCS.out hd5) hcp).mono ?_; rintro e w6 ⟨rfl, hd6⟩; have hd56 := below_then hd5 hd6))
            | (go_at_call 14; go_must (refine (valid_at HLL.out HV.out _ _ _ (by omega) (Kd.C_below HCS.out hd56) HSW.out).mono ?_; rintro e w7 ⟨rfl, hd7⟩; have hd57 := below_then hd56 hd7))
            | (go_at_call 10; go_must (refine (awake_calls _).mono ?_; rintro e wa ⟨rfl, hba⟩)))
          go_ret
          exact ⟨rfl, below_then (below_then HBS.out hd57) hba⟩
        · obtain ⟨x, hx⟩ : ∃ x, L[i]? = some x := ⟨_, List.getElem?_eq_getElem hlt⟩
          have HX := Aside0.mk hx
          have hfx := (ring_fields HRING.out (List.mem_of_getElem? hx)).2.1
          have hne := wrap_ne hfx h0 hw5
          obtain ⟨y, hy⟩ : ∃ y, IntKind.i64.wrap (x.f2 + a5) = y := ⟨_, rfl⟩
          rw [hy] at hne
          have HNE := Aside0.mk hne
          have YW : Aside0 (wfi y) := ⟨by rw [← hy]; exact wrap_wfi _⟩
          clear hfx hne hx
          have HV : Aside0 (validL (L.set i ⟨x.f0, x.f1, y, x.f3⟩) = false) := ⟨damage_prior HRING.out HX.out rfl rfl HNE.out⟩
          have HSW : Aside0 (∀ z ∈ L.set i ⟨x.f0, x.f1, y, x.f3⟩, wfi z.f1) := ⟨set_wfi HWFI.out (x' := ⟨x.f0, x.f1, y, x.f3⟩) (by exact (HWFI.out x (List.mem_of_getElem? HX.out)))⟩
          obtain ⟨L', hL'⟩ : ∃ L', L.set i ⟨x.f0, x.f1, y, x.f3⟩ = L' := ⟨_, rfl⟩
          have HL' := Aside0.mk hL'
          have hl' : L.length = L'.length := by rw [← hL', List.length_set]
          have HLL := Aside0.mk hl'
          rw [hL'] at HV HSW
          obtain ⟨F1, F2, F3, hFF⟩ : ∃ F1 F2 F3, wrongF L' = (F1, F2, F3) := ⟨_, _, _, rfl⟩
          have HFF := Aside0.mk hFF
          clear hFF
          clear hL' hl'
          go_enter Try.func3, Try.ntmps3
          go_wp2_with (first
            | (go_at_call 9; go_must (refine (HLT _ (rows_one (World.alloc_heap_new w _) hlc (Kd.C_below HR.out (below_alloc (Below.refl _ _) _)))).mono ?_; rintro e w1 ⟨rfl, hd1⟩; rw [HLB.out]; have hb1 := below_then (below_alloc (Below.refl _ w) _) hd1.below))
            | (go_at_call 11; go_must (refine (refMake_calls o A c l _ (Kd.C_below HR.out hb1) (by omega)).mono ?_; rintro e w2 ⟨v2, rfl, hO2, hd2⟩; rw [HF.out] at hO2 ⊢; have hb2 := below_then hb1 hd2; obtain ⟨A2, c2, e2, hc2, hC2⟩ := Kd.R_reads hO2; subst e2; have HC2 := Aside0.mk hC2; clear hO2 hd2 hC2))
            | ((with_reducible refine at_b (b := .append) (xs := #[.tmp 44, .tmp 45]) rfl ?_); go_must (refine Kd.R_append_rows k31 (w0 := w) w.heap.size rfl (.tmp 44) (.tmp 45) 25 31 (.agg #[.int .i64 0, .int .i64 0, .int .i64 0, .int .i64 0]) 32 rfl Try.underlying25 info31 rfl (by decide) (by omega) _ [] L _ _ _ (fun _ => True) (fun _ => False) rfl rfl (empty31 hb2.size) (Kd.C_below HC2.out (below_alloc (Below.refl _ _) _)) (fun _ _ h => h) (fun _ h => h.elim) (fun _ _ => trivial) (below_alloc hb2 _) (by have := hb2.size; simp; omega) (by simp; omega) ?_; intro v3 w3 hO3 hb3 hg3 hat3; rw [List.nil_append] at hO3; obtain ⟨g, cp, e3, hgb, _, cl3, hcl3⟩ := Kd.R_form hO3 hLpos; subst e3; have hC3 := (Kd.R_reads' hO3).2.2; have hcp : L.length ≤ cp := (Kd.R_reads' hO3).2.1; have ea : ∀ j, (⟨g, 0, none⟩ : Addr).add j = ⟨g, j, none⟩ := (fun j => by unfold Addr.add; split <;> simp_all); obtain ⟨ad, x1, hA1, hx1, q0, q1, q2, q3⟩ := C_link hC3 i hlt; obtain rfl : ad = ⟨g, 0, none⟩ := (by injection hA1 with h; exact h.symm); rw [HX.out] at hx1; injection hx1 with hx1; subst hx1; rw [ea] at q0 q1 q2 q3; have hfz := frz (o := i * 4 + 2) hcl3; have HCS : Aside0 (Kd.C k31 (w3.setCell ⟨g, i * 4 + 2, none⟩ (.int .i64 y)) (some ⟨g, 0, none⟩) L.length L') := ⟨(by rw [← HL'.out]; exact C_setf hC3 HX.out (by decide) rfl)⟩; have HBS : Aside0 (Below w.heap.size w (w3.setCell ⟨g, i * 4 + 2, none⟩ (.int .i64 y))) := ⟨hb3.setCell hgb _⟩; clear hA1 hC3 ea hg3 hat3 hb3 hO3 hgb hcl3 cl3))
            | (go_at_call 12; go_must (refine (Wrong_at HLL.out HFF.out _ _ _ (by omega) HCS.out HSW.out).mono ?_; rintro e w5 ⟨rfl, hd5⟩))
            | (go_at_call 13; go_must (refine (refWrong_at HLL.out HFF.out _ _ _ (by omega) (Kd.C_below HCS.out hd5) hcp).mono ?_; rintro e w6 ⟨rfl, hd6⟩; have hd56 := below_then hd5 hd6))
            | (go_at_call 14; go_must (refine (valid_at HLL.out HV.out _ _ _ (by omega) (Kd.C_below HCS.out hd56) HSW.out).mono ?_; rintro e w7 ⟨rfl, hd7⟩; have hd57 := below_then hd56 hd7))
            | (go_at_call 10; go_must (refine (awake_calls _).mono ?_; rintro e wa ⟨rfl, hba⟩)))
          go_ret
          exact ⟨rfl, below_then (below_then HBS.out hd57) hba⟩
        · obtain ⟨x, hx⟩ : ∃ x, L[i]? = some x := ⟨_, List.getElem?_eq_getElem hlt⟩
          have HX := Aside0.mk hx
          have hfx := (ring_fields HRING.out (List.mem_of_getElem? hx)).2.2
          have hne := wrap_ne hfx h0 hw5
          obtain ⟨y, hy⟩ : ∃ y, IntKind.i64.wrap (x.f3 + a5) = y := ⟨_, rfl⟩
          rw [hy] at hne
          have HNE := Aside0.mk hne
          have YW : Aside0 (wfi y) := ⟨by rw [← hy]; exact wrap_wfi _⟩
          clear hfx hne hx
          have HV : Aside0 (validL (L.set i ⟨x.f0, x.f1, x.f2, y⟩) = false) := ⟨damage_owner HRING.out HX.out rfl HNE.out⟩
          have HSW : Aside0 (∀ z ∈ L.set i ⟨x.f0, x.f1, x.f2, y⟩, wfi z.f1) := ⟨set_wfi HWFI.out (x' := ⟨x.f0, x.f1, x.f2, y⟩) (by exact (HWFI.out x (List.mem_of_getElem? HX.out)))⟩
          obtain ⟨L', hL'⟩ : ∃ L', L.set i ⟨x.f0, x.f1, x.f2, y⟩ = L' := ⟨_, rfl⟩
          have HL' := Aside0.mk hL'
          have hl' : L.length = L'.length := by rw [← hL', List.length_set]
          have HLL := Aside0.mk hl'
          rw [hL'] at HV HSW
          obtain ⟨F1, F2, F3, hFF⟩ : ∃ F1 F2 F3, wrongF L' = (F1, F2, F3) := ⟨_, _, _, rfl⟩
          have HFF := Aside0.mk hFF
          clear hFF
          clear hL' hl'
          go_enter Try.func3, Try.ntmps3
          go_wp2_with (first
            | (go_at_call 9; go_must (refine (HLT _ (rows_one (World.alloc_heap_new w _) hlc (Kd.C_below HR.out (below_alloc (Below.refl _ _) _)))).mono ?_; rintro e w1 ⟨rfl, hd1⟩; rw [HLB.out]; have hb1 := below_then (below_alloc (Below.refl _ w) _) hd1.below))
            | (go_at_call 11; go_must (refine (refMake_calls o A c l _ (Kd.C_below HR.out hb1) (by omega)).mono ?_; rintro e w2 ⟨v2, rfl, hO2, hd2⟩; rw [HF.out] at hO2 ⊢; have hb2 := below_then hb1 hd2; obtain ⟨A2, c2, e2, hc2, hC2⟩ := Kd.R_reads hO2; subst e2; have HC2 := Aside0.mk hC2; clear hO2 hd2 hC2))
            | ((with_reducible refine at_b (b := .append) (xs := #[.tmp 44, .tmp 45]) rfl ?_); go_must (refine Kd.R_append_rows k31 (w0 := w) w.heap.size rfl (.tmp 44) (.tmp 45) 25 31 (.agg #[.int .i64 0, .int .i64 0, .int .i64 0, .int .i64 0]) 32 rfl Try.underlying25 info31 rfl (by decide) (by omega) _ [] L _ _ _ (fun _ => True) (fun _ => False) rfl rfl (empty31 hb2.size) (Kd.C_below HC2.out (below_alloc (Below.refl _ _) _)) (fun _ _ h => h) (fun _ h => h.elim) (fun _ _ => trivial) (below_alloc hb2 _) (by have := hb2.size; simp; omega) (by simp; omega) ?_; intro v3 w3 hO3 hb3 hg3 hat3; rw [List.nil_append] at hO3; obtain ⟨g, cp, e3, hgb, _, cl3, hcl3⟩ := Kd.R_form hO3 hLpos; subst e3; have hC3 := (Kd.R_reads' hO3).2.2; have hcp : L.length ≤ cp := (Kd.R_reads' hO3).2.1; have ea : ∀ j, (⟨g, 0, none⟩ : Addr).add j = ⟨g, j, none⟩ := (fun j => by unfold Addr.add; split <;> simp_all); obtain ⟨ad, x1, hA1, hx1, q0, q1, q2, q3⟩ := C_link hC3 i hlt; obtain rfl : ad = ⟨g, 0, none⟩ := (by injection hA1 with h; exact h.symm); rw [HX.out] at hx1; injection hx1 with hx1; subst hx1; rw [ea] at q0 q1 q2 q3; have hfz := frz (o := i * 4 + 3) hcl3; have HCS : Aside0 (Kd.C k31 (w3.setCell ⟨g, i * 4 + 3, none⟩ (.int .i64 y)) (some ⟨g, 0, none⟩) L.length L') := ⟨(by rw [← HL'.out]; exact C_setf hC3 HX.out (by decide) rfl)⟩; have HBS : Aside0 (Below w.heap.size w (w3.setCell ⟨g, i * 4 + 3, none⟩ (.int .i64 y))) := ⟨hb3.setCell hgb _⟩; clear hA1 hC3 ea hg3 hat3 hb3 hO3 hgb hcl3 cl3))
            | (go_at_call 12; go_must (refine (Wrong_at HLL.out HFF.out _ _ _ (by omega) HCS.out HSW.out).mono ?_; rintro e w5 ⟨rfl, hd5⟩))
            | (go_at_call 13; go_must (refine (refWrong_at HLL.out HFF.out _ _ _ (by omega) (Kd.C_below HCS.out hd5) hcp).mono ?_; rintro e w6 ⟨rfl, hd6⟩; have hd56 := below_then hd5 hd6))
            | (go_at_call 14; go_must (refine (valid_at HLL.out HV.out _ _ _ (by omega) (Kd.C_below HCS.out hd56) HSW.out).mono ?_; rintro e w7 ⟨rfl, hd7⟩; have hd57 := below_then hd56 hd7))
            | (go_at_call 10; go_must (refine (awake_calls _).mono ?_; rintro e wa ⟨rfl, hba⟩)))
          go_ret
          exact ⟨rfl, below_then (below_then HBS.out hd57) hba⟩
theorem damage_row (w : World) (o : Int) (_ : (Lit.int .i64 o).wf = true) (A : Option Addr) (c : Nat) (l : List Int) (hc : l.length ≤ c) (hr : Kd.C (Kd.int .i64) w A l.length l) (_ : ∀ n ∈ l, (Lit.int .i64 n).wf = true) (a3 : Int) (_ : (Lit.int .i64 a3).wf = true) (a4 : Int) (_ : (Lit.int .i64 a4).wf = true) (a5 : Int) (h5 : (Lit.int .i64 a5).wf = true) :
    Calls Try.prog 3 #[.int .i64 o, .slice A l.length c, .int .i64 a3, .int .i64 a4, .int .i64 a5] w fun e w' => e = .returned (.bool true) ∧ Below w.heap.size w w' := damage_calls o A c l a3 a4 a5 w hr hc (wf_wfi h5)
end Go.Proofs.Ytilenkodmmpofaa.K
