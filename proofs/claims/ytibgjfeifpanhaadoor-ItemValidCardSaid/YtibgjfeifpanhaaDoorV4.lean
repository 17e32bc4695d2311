/- Fits: the loops. -/
import Derived.Test.YtibgjfeifpanhaaDoorProg
import Derived.Below
import Derived.Deep.Draws
import Derived.Deep.AppendLies
import Derived.Maps.AppendAt
import Derived.Maps.OwnSet
import Derived.OwnWalk
import Derived.Laws.BytesArg
import Derived.Laws.MakeOwn
import Derived.Laws.OwnMore
import Derived.Deep.OwnRows
import Derived.Tactics
import Derived.Laws.Slices
import Derived.WalkKit
import Derived.KernelRfl
import Derived.RowKit3
import Derived.Deep.LoopGhost
import Derived.Deep.QuietTactic
import Derived.BigQuiet
import Derived.WideLaws
import Derived.Deep.DeepCutAuto
import Derived.Deep.CutBlock
import Derived.Deep.RegionHeld3
import Derived.Laws.Rows
import Derived.ArgAppend
import Derived.Laws.IdiomCopy
import Derived.OrdersHeld
import Derived.Laws.BitsLemmas
import Derived.Outline
import Derived.WalkSpells
import Derived.Lib.Hide
import Derived.RowKit
import Derived.Deep.DeepMust
import Derived.Laws.EntriesVeiled
import Derived.Test.YtibgjfeifpanhaaDoorV3
set_option linter.unusedVariables false
set_option linter.unusedSimpArgs false
namespace Go.Proofs.YtibgjfeifpanhaaDoor.B
open Go.RowKit Go.Proofs.YtibgjfeifpanhaaDoorW.PrintWords Go.Maps PItemValid

set_option maxRecDepth 100000 in
set_option maxHeartbeats 4000000 in
theorem EqualFunc_calls (A : Option Addr) (c : Nat) (a : List S32) (A' : Option Addr) (c' : Nat) (b : List S29) (w : World) (hx : Kd.C k32 w A a.length a) (hy : Kd.C k29 w A' b.length b) :
    Calls Tryd.prog 61 #[.slice A a.length c, .slice A' b.length c', .func (.func 62) #[] #[]] w fun e w' => e = .returned (.bool (eqF a b)) ∧ Below w.heap.size w w' := by
  have HX := Aside0.mk hx
  have HY := Aside0.mk hy
  have hmx := (C_len hx).2
  have hmy := (C_len hy).2
  clear hx hy
  by_cases hl : a.length = b.length
  · have hl1 : ((a.length : Int) != (b.length : Int)) = false := by rw [hl]; exact bne_self_eq_false _
    have HL := Aside0.mk hl
    have HS : Aside0 (eqF a b = fitsL (a.drop 0) (b.drop 0)) := ⟨by unfold eqF; rw [decide_eq_true hl]; rfl⟩
    clear hl
    go_enter Tryd.func61, Tryd.ntmps61
    go_wp2
    go_loopg [17] a.length (fun g v17 wr => ∃ (i : Nat), g = a.length - i ∧ i ≤ a.length ∧ v17 = .int .i64 i ∧ Aside0 (eqF a b = fitsL (a.drop i) (b.drop i)) ∧ Below w.heap.size w wr)
    case atStart => exact ⟨0, rfl, Nat.zero_le _, rfl, HS, Below.refl _ _⟩
    case round =>
      obtain ⟨i, hg, hi, rfl, HT, hbel⟩ := hrel
      have HG := Aside0.mk hg
      clear hg HS
      by_cases hlt : i < a.length
      · have hlb : i < b.length := by have := HL.out; omega
        obtain ⟨ad, x, hA, hdx, c0, c1, c2, c3, c4⟩ := C_item HX.out i hlt
        subst hA
        replace c0 := pw_cell_below hbel c0
        replace c1 := pw_cell_below hbel c1
        replace c2 := pw_cell_below hbel c2
        replace c3 := pw_cell_below hbel c3
        replace c4 := pw_cell_below hbel c4
        obtain ⟨ad', y, hA', hdy, d0, d1, d2⟩ := C_val HY.out i hlb
        subst hA'
        have hbelA := below_alloc hbel (.cells #[.string x.f0, .int .i64 x.f1, .int .i64 x.f2, .int .i64 x.f3, .int .i64 x.f4] 32)
        replace d0 := pw_cell_below hbelA d0
        replace d1 := pw_cell_below hbelA d1
        replace d2 := pw_cell_below hbelA d2
        have HD := Aside0.mk hdx
        have HE := Aside0.mk hdy
        clear hdx hdy
        have hb3 := below_alloc hbelA (.cells #[.int .i64 y.f0, .int .i64 y.f1, .string y.f2] 29)
        cases hq : holdsF x y with
        | false =>
          have HC := fun W => Aside0.mk (takes_is hq W)
          have HQ := Aside0.mk hq
          unfold vV vI at HC
          clear hq
          go_wp2_with (go_at_call 62; go_must (refine (HC _).out.mono ?_; rintro e w2 ⟨rfl, hd⟩))
          go_ret
          exact ⟨ret_bool (by rw [HT.out, HD.out, HE.out, fitsL, HQ.out]; rfl), below_then hb3 hd⟩
        | true =>
          have HC := fun W => Aside0.mk (takes_is hq W)
          have HQ := Aside0.mk hq
          unfold vV vI at HC
          clear hq
          go_wp2_with (go_at_call 62; go_must (refine (HC _).out.mono ?_; rintro e w2 ⟨rfl, hd⟩))
          go_roundg (a.length - (i + 1))
          case measure => have := HG.out; omega
          case rel => exact ⟨i + 1, rfl, by omega, by go_num, ⟨by rw [HT.out, HD.out, HE.out, fitsL, HQ.out]; rfl⟩, below_then hb3 hd⟩
      · go_wp2
        go_ret
        exact ⟨ret_bool (by rw [HT.out, List.drop_eq_nil_of_le (show a.length ≤ i by omega)]; rfl), hbel⟩
  · have hl1 : ((a.length : Int) != (b.length : Int)) = true := bne_iff_ne.2 (by omega)
    have HF : Aside0 (eqF a b = false) := ⟨by unfold eqF; rw [decide_eq_false hl]; rfl⟩
    clear hl
    go_enter Tryd.func61, Tryd.ntmps61
    go_wp2
    go_ret
    exact ⟨ret_bool HF.out.symm, Below.refl _ _⟩
theorem items_is {l : List S32} {r : Bool} (h : validF l = r) (hl : l.length ≤ 20) (A : Option Addr) (c : Nat) (w : World) (hr : Kd.C k32 w A l.length l) :
    Calls Tryd.prog 20 #[.slice A l.length c] w fun e w' => e = .returned (.bool r) ∧ Below w.heap.size w w' := by
  subst h
  exact ValidItems_calls A c l w hl hr
theorem Fits_is {a : List S32} {b : List S29} {r : Bool} (h : fitsF a b = r) (hl : a.length ≤ 20) (A : Option Addr) (c : Nat) (A' : Option Addr) (c' : Nat) (w : World) (hx : Kd.C k32 w A a.length a) (hy : Kd.C k29 w A' b.length b) :
    Calls Tryd.prog 22 #[.slice A a.length c, .slice A' b.length c'] w fun e w' => e = .returned (.bool r) ∧ Below w.heap.size w w' := by
  subst h
  have HX := Aside0.mk hx
  have HY := Aside0.mk hy
  cases hv : validF a with
  | false =>
    have HF : Aside0 (fitsF a b = false) := ⟨by unfold fitsF; rw [hv]; rfl⟩
    have HC := Aside0.mk (items_is hv hl A c w hx)
    clear hv hx hy
    go_enter Tryd.func22, Tryd.ntmps22
    go_wp2_with (go_at_call 20; go_must (refine HC.out.mono ?_; rintro e w2 ⟨rfl, hd⟩))
    go_ret
    exact ⟨ret_bool HF.out.symm, hd⟩
  | true =>
    have HF : Aside0 (fitsF a b = eqF a b) := ⟨by unfold fitsF; rw [hv]; rfl⟩
    have HC := Aside0.mk (items_is hv hl A c w hx)
    have HE := fun W h => Aside0.mk (EqualFunc_calls A c a A' c' b W (Kd.C_below HX.out h) (Kd.C_below HY.out h))
    clear hv hx hy
    generalize eqF a b = q at HF HE
    go_enter Tryd.func22, Tryd.ntmps22
    go_wp2_with (first | (go_at_call 20; go_must (refine HC.out.mono ?_; rintro e w2 ⟨rfl, hd⟩)) | (go_at_call 61; go_must (refine (HE _ hd).out.mono ?_; rintro e w3 ⟨rfl, hd3⟩)))
    go_ret
    exact ⟨ret_bool (by first | (rw [HF.out]; done) | (rw [HF.out]; simp)), below_then hd hd3⟩
theorem ref_Holds_is (x : S32) (v : S29) (k : Nat) : ringworkref01_Holds.f (k + 1) x.f0 x.f1 x.f2 x.f3 x.f4 v.f0 v.f1 v.f2 = some (holdsF x v) := by
  unfold ringworkref01_Holds.f ringworkref01_Holds.j0 holdsF
  rw [ref_ValidValue_is]
  simp only [Option.bind_some]
  cases okV v with
  | false => rfl
  | true =>
    simp only [if_true, Bool.true_and]
    by_cases e : v.f0 = x.f1
    · rw [show (v.f0 != x.f1) = false by simpa using e, show (v.f0 == x.f1) = true by simpa using e]
      simp only [Bool.false_eq_true, if_false, Bool.true_and]
      by_cases k1 : v.f0 = 1
      · rw [if_pos k1, if_pos k1]
        by_cases h : x.f2 ≤ v.f1 <;> simp [h]
      · rw [if_neg k1, if_neg k1]
    · rw [show (v.f0 != x.f1) = true by simpa using e, show (v.f0 == x.f1) = false by simpa using e]
      simp
theorem ref_fits_loop (l : List S32) (r : List S29) (hl : l.length ≤ 20) (hr : l.length = r.length) (n : Nat) : ∀ (i k : Nat), l.length - i ≤ n → i ≤ l.length → n + 2 ≤ k → ringworkref01_Fits.l0 k l r (i : Int) = some (fitsL (l.drop i) (r.drop i)) := by
  induction n with
  | zero =>
    intro i k hn hi hk
    obtain ⟨k', rfl⟩ : ∃ k', k = k' + 1 := ⟨k - 1, by omega⟩
    unfold ringworkref01_Fits.l0
    rw [if_neg (by omega), List.drop_eq_nil_of_le (by omega)]
    rfl
  | succ n IH =>
    intro i k hn hi hk
    obtain ⟨k', rfl⟩ : ∃ k', k = k' + 1 + 1 := ⟨k - 2, by omega⟩
    unfold ringworkref01_Fits.l0
    by_cases h1 : i < l.length
    · have h2 : i < r.length := by omega
      rw [if_pos (by omega), if_pos (by omega), if_pos (by omega), rd32_get l i h1, rd_get r i h2, ref_Holds_is, List.drop_eq_getElem_cons h1, List.drop_eq_getElem_cons h2, fitsL, w64 (by omega) (by omega)]
      simp only [Option.bind_some]
      cases holdsF l[i] r[i] with
      | false => rw [if_neg (by simp)]; rfl
      | true =>
        rw [if_pos rfl]
        have := IH (i + 1) (k' + 1) (by omega) (by omega) (by omega)
        simpa using this
    · rw [if_neg (by omega), List.drop_eq_nil_of_le (by omega)]
      rfl
theorem ref_Fits_is (l : List S32) (r : List S29) (hl : l.length ≤ 20) : ringworkref01_Fits.f 70 l r = some (fitsF l r) := by
  unfold ringworkref01_Fits.f fitsF eqF
  rw [ref_ValidItems_is l hl 70 (by omega)]
  simp only [Option.bind_some]
  cases validF l with
  | false => rfl
  | true =>
    rw [if_pos rfl]
    by_cases e : l.length = r.length
    · rw [show ((r.length : Int) != (l.length : Int)) = false by rw [e]; exact bne_self_eq_false _, decide_eq_true e]
      show ringworkref01_Fits.l0 69 l r ((0 : Nat) : Int) = _
      rw [ref_fits_loop l r hl e 20 0 69 (by omega) (by omega) (by omega)]
      rfl
    · rw [show ((r.length : Int) != (l.length : Int)) = true from bne_iff_ne.2 (by omega), decide_eq_false e]
      rfl
end Go.Proofs.YtibgjfeifpanhaaDoor.B
