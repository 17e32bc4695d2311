/- ValidItems of package item. -/
import Derived.Test.YtibgjfeifpanhaaDoorProg
import Derived.Below
import Derived.Deep.Draws
import Derived.Deep.AppendLies
import Derived.Maps.AppendAt
import Derived.Maps.OwnSet
import Derived.OwnWalk
import Derived.Laws.BytesArg
import Derived.Laws.MakeOwn
import Derived.Laws.OwnMore
import Derived.Deep.OwnRows
import Derived.Tactics
import Derived.Laws.Slices
import Derived.WalkKit
import Derived.KernelRfl
import Derived.RowKit3
import Derived.Deep.LoopGhost
import Derived.Deep.QuietTactic
import Derived.BigQuiet
import Derived.WideLaws
import Derived.Deep.DeepCutAuto
import Derived.Deep.CutBlock
import Derived.Deep.RegionHeld3
import Derived.Laws.Rows
import Derived.ArgAppend
import Derived.Laws.IdiomCopy
import Derived.OrdersHeld
import Derived.Laws.BitsLemmas
import Derived.Outline
import Derived.WalkSpells
import Derived.Lib.Hide
import Derived.RowKit
import Derived.Deep.DeepMust
import Derived.Laws.EntriesVeiled
import Derived.Test.YtibgjfeifpanhaaDoorV1
import Derived.Test.YtibgjfeifpanhaaDoorP6
set_option linter.unusedVariables false
set_option linter.unusedSimpArgs false
namespace Go.Proofs.YtibgjfeifpanhaaDoor.B
open Go.RowKit Go.Proofs.YtibgjfeifpanhaaDoorW.PrintWords Go.Maps PItemValid

/-- An item as the program holds it. -/
def vI (x : S32) : Value := .agg #[.string x.f0, .int .i64 x.f1, .int .i64 x.f2, .int .i64 x.f3, .int .i64 x.f4]
theorem C_item {w : World} {A : Option Addr} {n : Nat} {xs : List S32} (h : Kd.C k32 w A n xs) (i : Nat) (h1 : i < n) :
    ∃ ad x, A = some ad ∧ xs.drop i = x :: xs.drop (i + 1) ∧ w.cell? (ad.add (i * 5)) = some (.string x.f0) ∧ w.cell? ⟨(ad.add (i * 5)).block, (ad.add (i * 5)).off + 1, none⟩ = some (.int .i64 x.f1) ∧ w.cell? ⟨(ad.add (i * 5)).block, (ad.add (i * 5)).off + 2, none⟩ = some (.int .i64 x.f2) ∧ w.cell? ⟨(ad.add (i * 5)).block, (ad.add (i * 5)).off + 3, none⟩ = some (.int .i64 x.f3) ∧ w.cell? ⟨(ad.add (i * 5)).block, (ad.add (i * 5)).off + 4, none⟩ = some (.int .i64 x.f4) := by
  obtain ⟨ad, e, c0, c1, c2, c3, c4⟩ := at_T32 h i (by omega) (by omega)
  have hn : xs.length = n := h.1
  have e1 : rd_T32 xs (i : Int) = xs[i]'(by omega) := rd32_get xs i (by omega)
  rw [e1] at c0 c1 c2 c3 c4
  exact ⟨ad, xs[i]'(by omega), e, List.drop_eq_getElem_cons (by omega), c0, c1, c2, c3, c4⟩
theorem ValidItem_is {x : S32} {r : Bool} (h : okI x = r) (w : World) : Calls Tryd.prog 14 #[vI x] w fun e w' => e = .returned (.bool r) ∧ Below w.heap.size w w' := by
  subst h
  refine (item_ValidItem.calls 40 x.f0 x.f1 x.f2 x.f3 x.f4 _ w (item_ValidItem_is x)).mono ?_
  rintro e w' ⟨rfl, hd⟩
  exact ⟨rfl, by first | exact hd | exact hd.below⟩
theorem okI_len {x : S32} (h : okI x = true) : x.f0.size ≤ 16 := by
  unfold okI nmI at h
  rw [Bool.and_eq_true] at h
  have h1 := h.1
  by_cases h0 : 0 < x.f0.size
  · rw [nameF_of x.f0 h0] at h1
    simp at h1
    exact h1.1.1
  · omega
set_option maxRecDepth 100000 in
set_option maxHeartbeats 4000000 in
theorem ValidItems_calls (A : Option Addr) (c : Nat) (l : List S32) (w : World) (hl : l.length ≤ 20) (hr : Kd.C k32 w A l.length l) :
    Calls Tryd.prog 20 #[.slice A l.length c] w fun e w' => e = .returned (.bool (validF l)) ∧ Below w.heap.size w w' := by
  have HR := Aside0.mk hr
  clear hr
  have hmm := @run_makeMap Tryd.prog
  have HV : Aside0 (validF l = ((decide (1 ≤ (l.length : Int)) && decide ((l.length : Int) ≤ 8)) && seenL [] (l.drop 0))) := ⟨rfl⟩
  go_enter Tryd.func20, Tryd.ntmps20
  go_wp2
  go_loopg [9] l.length (fun g v9 wr => ∃ (i : Nat) (S : List (List UInt8)), g = l.length - i ∧ i ≤ l.length ∧ v9 = .int .i64 i ∧ Aside0 (validF l = ((decide (1 ≤ (l.length : Int)) && decide ((l.length : Int) ≤ 8)) && seenL S (l.drop i))) ∧ Aside0 (S.length ≤ i) ∧ Met wr w.heap.size S ∧ Below w.heap.size w wr)
  case atStart => exact ⟨0, [], rfl, Nat.zero_le _, rfl, HV, ⟨Nat.le_refl _⟩, met_made w, (Below.refl _ _).alloc (Nat.le_refl _) _⟩
  case round =>
    obtain ⟨i, S, hg, hi, rfl, HT, HSL, hmet, hbel⟩ := hrel
    have HG := Aside0.mk hg
    clear hg HV
    by_cases hlt : i < l.length
    · obtain ⟨ad, x, hA, hdx, c0, c1, c2, c3, c4⟩ := C_item HR.out i hlt
      subst hA
      replace c0 := pw_cell_below hbel c0
      replace c1 := pw_cell_below hbel c1
      replace c2 := pw_cell_below hbel c2
      replace c3 := pw_cell_below hbel c3
      replace c4 := pw_cell_below hbel c4
      have HD := Aside0.mk hdx
      clear hdx
      have hb2 := below_alloc hbel (.cells #[.string x.f0, .int .i64 x.f1, .int .i64 x.f2, .int .i64 x.f3, .int .i64 x.f4] 32)
      have hmet2 := hmet.below (below_alloc (Below.refl _ wr) (.cells #[.string x.f0, .int .i64 x.f1, .int .i64 x.f2, .int .i64 x.f3, .int .i64 x.f4] 32))
      cases hok : okI x with
      | false =>
        have HC := fun W => Aside0.mk (ValidItem_is hok W)
        unfold vI at HC
        have HOK := Aside0.mk hok
        clear hok
        go_wp2_with (go_at_call 14; go_must (refine (HC _).out.mono ?_; rintro e w2 ⟨rfl, hd⟩))
        go_ret
        exact ⟨ret_bool (by rw [HT.out, HD.out, seenL, HOK.out]; simp), below_then hb2 hd⟩
      | true =>
        have HC := fun W => Aside0.mk (ValidItem_is hok W)
        unfold vI at HC
        have HOK := Aside0.mk hok
        have hsz : x.f0.size ≤ 1000000 := by have := okI_len hok; omega
        have HSZ := Aside0.mk hsz
        clear hok hsz
        have hbx : (wr.alloc (.cells #[.string x.f0, .int .i64 x.f1, .int .i64 x.f2, .int .i64 x.f3, .int .i64 x.f4] 32)).cell? ⟨wr.heap.size, 0, none⟩ = some (.string x.f0) := by simp
        by_cases hin : nmL x.f0 ∈ S
        · have HIN := Aside0.mk hin
          clear hin
          go_wp2_with (go_at_call 14; go_must (refine (HC _).out.mono ?_; rintro e w2 ⟨rfl, hd⟩; have hlook := (hmet2.below hd).look HSZ.out; rw [decide_eq_true HIN.out] at hlook; have hbx2 := pw_cell_below hd hbx))
          go_ret
          exact ⟨ret_bool (by rw [HT.out, HD.out, seenL, decide_eq_true (show nmI x ∈ S from HIN.out)]; simp), below_then hb2 hd⟩
        · have HIN := Aside0.mk hin
          clear hin
          have hs8 : S.length < maxLen := by have := HSL.out; unfold maxLen; omega
          have HS8 := Aside0.mk hs8
          clear hs8
          go_wp2_with (go_at_call 14; go_must (refine (HC _).out.mono ?_; rintro e w2 ⟨rfl, hd⟩; have hlook := (hmet2.below hd).look HSZ.out; rw [decide_eq_false HIN.out] at hlook; have hbx2 := pw_cell_below hd hbx; obtain ⟨w3, hput, hmet3, hgr⟩ := (hmet2.below hd).put HSZ.out HIN.out HS8.out; have hb3 := below_then hb2 hd))
          go_roundg (l.length - (i + 1))
          case measure => have := HG.out; omega
          case rel => exact ⟨i + 1, S ++ [nmL x.f0], rfl, by omega, by go_num, ⟨by rw [HT.out, HD.out, seenL, HOK.out, decide_eq_false (show nmI x ∉ S from HIN.out)]; rfl⟩, ⟨by have := HSL.out; simp; omega⟩, hmet3, hb3.grown hgr hb3.size (fun j hj => by cases hj; exact Nat.le_refl _)⟩
    · have HE : Aside0 (validF l = (decide (1 ≤ (l.length : Int)) && decide ((l.length : Int) ≤ 8))) := ⟨by rw [HT.out, List.drop_eq_nil_of_le (by omega), seenL, Bool.and_true]⟩
      go_wp2_with (go_at_call 54; go_must (refine (within_calls _ _ _ _).mono ?_; rintro e w2 ⟨rfl, hd⟩))
      go_ret
      exact ⟨ret_bool HE.out.symm, below_then hbel hd.below⟩
end Go.Proofs.YtibgjfeifpanhaaDoor.B
