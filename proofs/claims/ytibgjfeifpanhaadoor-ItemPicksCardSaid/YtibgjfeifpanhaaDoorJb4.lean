/- Texts of the proof, joined, what is not named cut out: N9, N10, N2, N11, L2, L4, L5, R3. -/
import Derived.Below
import Derived.Deep.Draws
import Derived.Deep.AppendLies
import Derived.Maps.AppendAt
import Derived.Maps.OwnSet
import Derived.OwnWalk
import Derived.Laws.BytesArg
import Derived.Laws.MakeOwn
import Derived.Laws.OwnMore
import Derived.Deep.OwnRows
import Derived.Tactics
import Derived.Laws.Slices
import Derived.WalkKit
import Derived.KernelRfl
import Derived.RowKit3
import Derived.Deep.LoopGhost
import Derived.Deep.QuietTactic
import Derived.BigQuiet
import Derived.WideLaws
import Derived.Deep.DeepCutAuto
import Derived.Deep.CutBlock
import Derived.Deep.RegionHeld3
import Derived.Laws.Rows
import Derived.ArgAppend
import Derived.Laws.IdiomCopy
import Derived.OrdersHeld
import Derived.Laws.BitsLemmas
import Derived.Outline
import Derived.WalkSpells
import Derived.Lib.Hide
import Derived.RowKit
import Derived.Deep.DeepMust
import Derived.Laws.EntriesVeiled
import Derived.Test.YtibgjfeifpanhaaDoorProg
import Derived.Test.YtibgjfeifpanhaaDoorJb2
import Derived.Test.YtibgjfeifpanhaaDoorJb3

set_option linter.unusedVariables false
set_option linter.unusedSimpArgs false
namespace Go.Proofs.YtibgjfeifpanhaaDoor.B
open Go.RowKit Go.Proofs.YtibgjfeifpanhaaDoorW.PrintWords Go.Maps PItemValid

theorem OVal_empty {w : World} {base : Nat} (hb : base ≤ w.heap.size) : OVal (w.alloc (.cells #[] 29)) base (.slice (some ⟨w.heap.size, 0, none⟩) 0 0) [] :=
  ⟨fun _ _ => trivial, [], World.ownsRow_made w #[] 0 hb (Nat.zero_le _) rfl, Reps.none _ _⟩
theorem CloneV_calls (A : Option Addr) (c : Nat) (l : List S29) (w : World) (hx : Kd.C k29 w A l.length l) (hne : 0 < l.length) (hs : l.length ≤ 1000) :
    Calls Tryd.prog 74 #[.slice A l.length c] w fun e w' => ∃ g cp, e = .returned (.slice (some ⟨g, 0, none⟩) l.length cp) ∧ w.heap.size ≤ g ∧ OVal w' w.heap.size (.slice (some ⟨g, 0, none⟩) l.length cp) l ∧ Below w.heap.size w w' := by
  have HX := Aside0.mk hx
  obtain ⟨ad, x, rfl, _⟩ := C_val hx 0 hne
  clear hx
  have hnil := fun (W : World) => Lib.run_eql_slice_nil (P := Tryd.prog) W 23 29 (some ad) l.length c 0 0 Tryd.underlying23
  go_enter Tryd.func74, Tryd.ntmps74
  go_wp2_with (first | ((with_reducible refine at_b (b := .append) (xs := #[.tmp 5, .tmp 6]) rfl ?_); go_must (refine Kd.R_append_rows k29 (w0 := w) w.heap.size rfl (.tmp 5) (.tmp 6) 23 29 (.agg #[(.int .i64 0), (.int .i64 0), (.string ⟨#[]⟩)]) 32 rfl Tryd.underlying23 info29 rfl (by decide) (by omega) _ [] l _ _ _ Tr (fun _ => False) rfl rfl (OVal_empty (Nat.le_refl _)) (Kd.C_below HX.out (below_alloc (Below.refl _ _) _)) (fun _ _ h => h) (fun _ h => h.elim) (fun _ _ => trivial) (below_alloc (Below.refl _ _) _) (by simp) (by simp; omega) ?_; intro v1 w1 ho hb1 hg1 hat1; have HI := Aside0.mk ho; clear ho hg1 hat1)))
  go_ret
  obtain ⟨g, cp, e, hg, _⟩ := Kd.R_form HI.out (by simpa using hne)
  have hI := HI.out
  subst e
  exact ⟨g, cp, rfl, hg, hI, hb1⟩
end Go.Proofs.YtibgjfeifpanhaaDoor.B

set_option linter.unusedVariables false
set_option linter.unusedSimpArgs false
namespace Go.Proofs.YtibgjfeifpanhaaDoor.B
open Go.RowKit Go.Proofs.YtibgjfeifpanhaaDoorW.PrintWords Go.Maps PItemValid

/-- A row with another value for an item. -/
def putF (l : List S32) (r : List S29) (nm : ByteArray) (v : S29) : List S29 × Int :=
  if fitsF l r = true then (if idxN nm.data.toList 0 l < 0 then ([], 5) else (if okV v = true then (if holdsF (l.getD (idxN nm.data.toList 0 l).toNat z32) v = true then (r.set (idxN nm.data.toList 0 l).toNat v, 0) else ([], 7)) else ([], 1))) else ([], 1)
theorem then_alloc {w W : World} {o : Obj} (h : Below (w.alloc o).heap.size (w.alloc o) W) : Below w.heap.size w W := below_then (below_alloc (Below.refl _ w) _) h
set_option maxRecDepth 100000 in
set_option maxHeartbeats 4000000 in
theorem Put_calls (A : Option Addr) (c : Nat) (l : List S32) (A1 : Option Addr) (c1 : Nat) (r : List S29) (nm : ByteArray) (v : S29) (w : World) (hl : l.length ≤ 20) (hr : Kd.C k32 w A l.length l) (h1 : Kd.C k29 w A1 r.length r) :
    Calls Tryd.prog 40 #[.slice A l.length c, .slice A1 r.length c1, .string nm, vV v] w fun e w' => ∃ x, e = .returned (.tuple #[x, .int .i64 (putF l r nm v).2]) ∧ OVal w' w.heap.size x (putF l r nm v).1 ∧ Below w.heap.size w w' := by
  have HR := Aside0.mk hr
  have H1 := Aside0.mk h1
  have hmx := (C_len hr).2
  have hm1 := (C_len h1).2
  have HBX : Aside0 (∀ W : World, Below (w.alloc (.cells #[.int .i64 v.f0, .int .i64 v.f1, .string v.f2] 29)).heap.size (w.alloc (.cells #[.int .i64 v.f0, .int .i64 v.f1, .string v.f2] 29)) W → W.cell? ⟨w.heap.size, 0, none⟩ = some (.int .i64 v.f0) ∧ W.cell? ⟨w.heap.size, 1, none⟩ = some (.int .i64 v.f1) ∧ W.cell? ⟨w.heap.size, 2, none⟩ = some (.string v.f2)) := ⟨fun W h =>
    ⟨pw_cell_below h (by rw [World.cell?_alloc_new]; rfl), pw_cell_below h (by rw [World.cell?_alloc_new]; rfl), pw_cell_below h (by rw [World.cell?_alloc_new]; rfl)⟩⟩
  have HSZ : Aside0 (∀ W : World, Below (w.alloc (.cells #[.int .i64 v.f0, .int .i64 v.f1, .string v.f2] 29)).heap.size (w.alloc (.cells #[.int .i64 v.f0, .int .i64 v.f1, .string v.f2] 29)) W → w.heap.size ≤ W.heap.size) := ⟨fun W h => (then_alloc h).size⟩
  unfold vV
  cases hv : fitsF l r with
  | false =>
    have HC := fun (W : World) (h : Below (w.alloc (.cells #[.int .i64 v.f0, .int .i64 v.f1, .string v.f2] 29)).heap.size (w.alloc (.cells #[.int .i64 v.f0, .int .i64 v.f1, .string v.f2] 29)) W) => Aside0.mk (Fits_is hv hl A c A1 c1 W (Kd.C_below HR.out (then_alloc h)) (Kd.C_below H1.out (then_alloc h)))
    have HF : Aside0 (putF l r nm v = ([], 1)) := ⟨by unfold putF; rw [hv]; rfl⟩
    clear hv hr h1
    go_enter Tryd.func40, Tryd.ntmps40
    go_wp2_with (go_at_call 22; go_must (refine (HC _ (Below.refl _ _)).out.mono ?_; rintro e w2 ⟨rfl, hb2⟩))
    go_ret2
    exact ⟨_, ret_vv HF.out, by rw [HF.out]; exact Kd.R_nil _ _ _ _ _, then_alloc (below_then (Below.refl _ _) hb2)⟩
  | true =>
    have HC := fun (W : World) (h : Below (w.alloc (.cells #[.int .i64 v.f0, .int .i64 v.f1, .string v.f2] 29)).heap.size (w.alloc (.cells #[.int .i64 v.f0, .int .i64 v.f1, .string v.f2] 29)) W) => Aside0.mk (Fits_is hv hl A c A1 c1 W (Kd.C_below HR.out (then_alloc h)) (Kd.C_below H1.out (then_alloc h)))
    have hlr : l.length = r.length := by
      have := hv
      unfold fitsF eqF at this
      simp only [Bool.and_eq_true, decide_eq_true_eq] at this
      exact this.2.1
    have hq0 := idxN_lt nm.data.toList l 0
    obtain ⟨q, hq⟩ : ∃ q, idxN nm.data.toList 0 l = q := ⟨_, rfl⟩
    have HP : ∀ (W : World) (h : Below (w.alloc (.cells #[.int .i64 v.f0, .int .i64 v.f1, .string v.f2] 29)).heap.size (w.alloc (.cells #[.int .i64 v.f0, .int .i64 v.f1, .string v.f2] 29)) W), Aside0 (Calls Tryd.prog 71 #[.slice A l.length c, .string nm] W fun e w' => e = .returned (.int .i64 q) ∧ Below W.heap.size W w') := fun W h => ⟨by rw [← hq]; exact place_calls A c l nm W (Kd.C_below HR.out (then_alloc h))⟩
    rw [hq] at hq0
    by_cases hneg : q < 0
    · have HF : Aside0 (putF l r nm v = ([], 5)) := ⟨by unfold putF; rw [if_pos hv, hq, if_pos hneg]⟩
      clear hv hq hr h1 hlr
      go_enter Tryd.func40, Tryd.ntmps40
      go_wp2_with (first | (go_at_call 22; go_must (refine (HC _ (Below.refl _ _)).out.mono ?_; rintro e w2 ⟨rfl, hb2⟩)) | (go_at_call 71; go_must (refine (HP _ hb2).out.mono ?_; rintro e w3 ⟨rfl, hd3⟩; have hb3 := below_then hb2 hd3; obtain ⟨b0, b1, b2⟩ := HBX.out _ hb3; clear hd3)))
      go_ret2
      exact ⟨_, ret_vv HF.out, by rw [HF.out]; exact Kd.R_nil _ _ _ _ _, then_alloc hb3⟩
    · obtain ⟨m, rfl⟩ : ∃ m : Nat, q = m := ⟨q.toNat, by omega⟩
      have hml : m < l.length := by omega
      cases hok : okV v with
      | false =>
        have HO := fun W => Aside0.mk (valid_is hok W)
        unfold vV at HO
        have HF : Aside0 (putF l r nm v = ([], 1)) := ⟨by unfold putF; rw [if_pos hv, hq, if_neg hneg, if_neg (by rw [hok]; decide)]⟩
        clear hv hq hr h1 hlr hok
        go_enter Tryd.func40, Tryd.ntmps40
        go_wp2_with (first | (go_at_call 22; go_must (refine (HC _ (Below.refl _ _)).out.mono ?_; rintro e w2 ⟨rfl, hb2⟩)) | (go_at_call 71; go_must (refine (HP _ hb2).out.mono ?_; rintro e w3 ⟨rfl, hd3⟩; have hb3 := below_then hb2 hd3; obtain ⟨b0, b1, b2⟩ := HBX.out _ hb3; clear hd3)) | (go_at_call 12; go_must (refine (HO _).out.mono ?_; rintro e w4 ⟨rfl, hd4⟩; have hb4 := below_then hb3 hd4; clear hd4)))
        go_ret2
        exact ⟨_, ret_vv HF.out, by rw [HF.out]; exact Kd.R_nil _ _ _ _ _, then_alloc hb4⟩
      | true =>
        have HO := fun W => Aside0.mk (valid_is hok W)
        obtain ⟨ad, x, hA, hdx, d0, d1, d2, d3, d4⟩ := C_item HR.out m hml
        subst hA
        have hxd : l.getD m z32 = x := by
          rw [List.drop_eq_getElem_cons hml] at hdx
          injection hdx with h1 _
          rw [List.getD_eq_getElem?_getD, List.getElem?_eq_getElem hml, ← h1]; rfl
        have HXC : Aside0 (∀ W : World, Below (w.alloc (.cells #[.int .i64 v.f0, .int .i64 v.f1, .string v.f2] 29)).heap.size (w.alloc (.cells #[.int .i64 v.f0, .int .i64 v.f1, .string v.f2] 29)) W → W.cell? (ad.add (m * 5)) = some (.string x.f0) ∧ W.cell? ⟨(ad.add (m * 5)).block, (ad.add (m * 5)).off + 1, none⟩ = some (.int .i64 x.f1) ∧ W.cell? ⟨(ad.add (m * 5)).block, (ad.add (m * 5)).off + 2, none⟩ = some (.int .i64 x.f2) ∧ W.cell? ⟨(ad.add (m * 5)).block, (ad.add (m * 5)).off + 3, none⟩ = some (.int .i64 x.f3) ∧ W.cell? ⟨(ad.add (m * 5)).block, (ad.add (m * 5)).off + 4, none⟩ = some (.int .i64 x.f4)) := ⟨fun W h =>
          ⟨pw_cell_below (then_alloc h) d0, pw_cell_below (then_alloc h) d1, pw_cell_below (then_alloc h) d2, pw_cell_below (then_alloc h) d3, pw_cell_below (then_alloc h) d4⟩⟩
        clear d0 d1 d2 d3 d4
        have hmr : m < r.length := by omega
        have HPI : Aside0 ((0 : Int) ≤ (m : Int)) := ⟨by omega⟩
        have HPI2 : Aside0 ((m : Int) < (r.length : Int)) := ⟨by omega⟩
        have HCL := fun (W : World) (h : Below (w.alloc (.cells #[.int .i64 v.f0, .int .i64 v.f1, .string v.f2] 29)).heap.size (w.alloc (.cells #[.int .i64 v.f0, .int .i64 v.f1, .string v.f2] 29)) W) => Aside0.mk (CloneV_calls A1 c1 r W (Kd.C_below H1.out (then_alloc h)) (by omega) (by omega))
        cases hh : holdsF x v with
        | false =>
          have HT := fun W => Aside0.mk (takes_is hh W)
          unfold vV at HO
          unfold vI vV at HT
          have HF : Aside0 (putF l r nm v = ([], 7)) := ⟨by unfold putF; rw [if_pos hv, hq, if_neg hneg, if_pos hok, Int.toNat_natCast, hxd, if_neg (by rw [hh]; decide)]⟩
          clear hv hq hr h1 hlr hok hdx hxd hh
          go_enter Tryd.func40, Tryd.ntmps40
          go_wp2_with (first | (go_at_call 22; go_must (refine (HC _ (Below.refl _ _)).out.mono ?_; rintro e w2 ⟨rfl, hb2⟩)) | (go_at_call 71; go_must (refine (HP _ hb2).out.mono ?_; rintro e w3 ⟨rfl, hd3⟩; have hb3 := below_then hb2 hd3; obtain ⟨b0, b1, b2⟩ := HBX.out _ hb3; clear hd3)) | (go_at_call 12; go_must (refine (HO _).out.mono ?_; rintro e w4 ⟨rfl, hd4⟩; have hb4 := below_then hb3 hd4; obtain ⟨b0, b1, b2⟩ := HBX.out _ hb4; obtain ⟨c0, c1, c2, c3, c4⟩ := HXC.out _ hb4; clear hd4)))
          go_region_held3 (fun w' => Below (w.alloc (.cells #[.int .i64 v.f0, .int .i64 v.f1, .string v.f2] 29)).heap.size (w.alloc (.cells #[.int .i64 v.f0, .int .i64 v.f1, .string v.f2] 29)) w' ∧ w'.cell? ⟨w.heap.size, 0, none⟩ = some (.int .i64 v.f0) ∧ w'.cell? ⟨w.heap.size, 1, none⟩ = some (.int .i64 v.f1) ∧ w'.cell? ⟨w.heap.size, 2, none⟩ = some (.string v.f2) ∧ w'.cell? (ad.add (m * 5)) = some (.string x.f0) ∧ w'.cell? ⟨(ad.add (m * 5)).block, (ad.add (m * 5)).off + 1, none⟩ = some (.int .i64 x.f1) ∧ w'.cell? ⟨(ad.add (m * 5)).block, (ad.add (m * 5)).off + 2, none⟩ = some (.int .i64 x.f2) ∧ w'.cell? ⟨(ad.add (m * 5)).block, (ad.add (m * 5)).off + 3, none⟩ = some (.int .i64 x.f3) ∧ w'.cell? ⟨(ad.add (m * 5)).block, (ad.add (m * 5)).off + 4, none⟩ = some (.int .i64 x.f4)) ((refine (fun h => ⟨h, (HBX.out _ h).1, (HBX.out _ h).2.1, (HBX.out _ h).2.2, HXC.out _ h⟩ : Below (w.alloc (.cells #[.int .i64 v.f0, .int .i64 v.f1, .string v.f2] 29)).heap.size (w.alloc (.cells #[.int .i64 v.f0, .int .i64 v.f1, .string v.f2] 29)) _ → _) ?_; (repeat first | exact hb4 | exact hr5 | refine below_drew ?_ | refine below_alloc ?_ _))) (first | (go_at_call 62; go_must (refine (HT _).out.mono ?_; rintro e w5 ⟨rfl, hd⟩; have hr5 := below_then (‹Below (w.alloc (.cells #[.int .i64 v.f0, .int .i64 v.f1, .string v.f2] 29)).heap.size (w.alloc (.cells #[.int .i64 v.f0, .int .i64 v.f1, .string v.f2] 29)) _ ∧ _›).1 hd; clear hd)))
          all_goals
            go_wp2
            go_ret2
            exact ⟨_, ret_vv HF.out, by rw [HF.out]; exact Kd.R_nil _ _ _ _ _, then_alloc hr5⟩
        | true =>
          have HT := fun W => Aside0.mk (takes_is hh W)
          unfold vV at HO
          unfold vI vV at HT
          have HF : Aside0 (putF l r nm v = (r.set m v, 0)) := ⟨by unfold putF; rw [if_pos hv, hq, if_neg hneg, if_pos hok, Int.toNat_natCast, hxd, if_pos hh]⟩
          clear hv hq hr h1 hlr hok hdx hxd hh
          go_enter Tryd.func40, Tryd.ntmps40
          go_wp2_with (first | (go_at_call 22; go_must (refine (HC _ (Below.refl _ _)).out.mono ?_; rintro e w2 ⟨rfl, hb2⟩)) | (go_at_call 71; go_must (refine (HP _ hb2).out.mono ?_; rintro e w3 ⟨rfl, hd3⟩; have hb3 := below_then hb2 hd3; obtain ⟨b0, b1, b2⟩ := HBX.out _ hb3; clear hd3)) | (go_at_call 12; go_must (refine (HO _).out.mono ?_; rintro e w4 ⟨rfl, hd4⟩; have hb4 := below_then hb3 hd4; obtain ⟨b0, b1, b2⟩ := HBX.out _ hb4; obtain ⟨c0, c1, c2, c3, c4⟩ := HXC.out _ hb4; clear hd4)))
          go_region_held3 (fun w' => Below (w.alloc (.cells #[.int .i64 v.f0, .int .i64 v.f1, .string v.f2] 29)).heap.size (w.alloc (.cells #[.int .i64 v.f0, .int .i64 v.f1, .string v.f2] 29)) w' ∧ w'.cell? ⟨w.heap.size, 0, none⟩ = some (.int .i64 v.f0) ∧ w'.cell? ⟨w.heap.size, 1, none⟩ = some (.int .i64 v.f1) ∧ w'.cell? ⟨w.heap.size, 2, none⟩ = some (.string v.f2) ∧ w'.cell? (ad.add (m * 5)) = some (.string x.f0) ∧ w'.cell? ⟨(ad.add (m * 5)).block, (ad.add (m * 5)).off + 1, none⟩ = some (.int .i64 x.f1) ∧ w'.cell? ⟨(ad.add (m * 5)).block, (ad.add (m * 5)).off + 2, none⟩ = some (.int .i64 x.f2) ∧ w'.cell? ⟨(ad.add (m * 5)).block, (ad.add (m * 5)).off + 3, none⟩ = some (.int .i64 x.f3) ∧ w'.cell? ⟨(ad.add (m * 5)).block, (ad.add (m * 5)).off + 4, none⟩ = some (.int .i64 x.f4)) ((refine (fun h => ⟨h, (HBX.out _ h).1, (HBX.out _ h).2.1, (HBX.out _ h).2.2, HXC.out _ h⟩ : Below (w.alloc (.cells #[.int .i64 v.f0, .int .i64 v.f1, .string v.f2] 29)).heap.size (w.alloc (.cells #[.int .i64 v.f0, .int .i64 v.f1, .string v.f2] 29)) _ → _) ?_; (repeat first | exact hb4 | exact hr5 | refine below_drew ?_ | refine below_alloc ?_ _))) (first | (go_at_call 62; go_must (refine (HT _).out.mono ?_; rintro e w5 ⟨rfl, hd⟩; have hr5 := below_then (‹Below (w.alloc (.cells #[.int .i64 v.f0, .int .i64 v.f1, .string v.f2] 29)).heap.size (w.alloc (.cells #[.int .i64 v.f0, .int .i64 v.f1, .string v.f2] 29)) _ ∧ _›).1 hd; clear hd)))
          all_goals
            have hb5 := hr5
            go_wp2_with (first | (go_at_call 74; go_must (refine (HCL _ hb5).out.mono ?_; rintro e w6 ⟨g, cp, rfl, hg, hO, hd6⟩; have hb6 := below_then hb5 hd6; have hg6 : w.heap.size ≤ g := Nat.le_trans (HSZ.out _ hb5) hg; have HG6 := Aside0.mk hg6; have HO6 := Aside0.mk (Kd.R_lower hO (HSZ.out _ hb5)); obtain ⟨b0, b1, b2⟩ := HBX.out _ hb6; clear hg6 hg hO hd6; obtain ⟨ce, hcl, hM, hcc, hfr⟩ := Kd.R_elem HO6.out z29 (m : Int) HPI.out HPI2.out; obtain rfl := k29_openM hM; have HPS := Aside0.mk (Kd.R_seg HO6.out (m : Int) HPI.out HPI2.out (seg := [.int .i64 v.f0, .int .i64 v.f1, .string v.f2]) (j := 0) hcl hcc (show 3 ≤ 3 from by decide) (x' := v) (k29_mkM _ _ _ v) (fun _ hk => hk)); have hc0 := hcc 0 _ rfl; have hc1 := hcc 1 _ rfl; have hc2 := hcc 2 _ rfl; have hf0 := hfr 0; have hf1 := hfr 1; have hf2 := hfr 2; simp only [show (k29).sz = 3 from rfl, Nat.add_zero, Int.toNat_natCast] at hc0 hc1 hc2 hf0 hf1 hf2; clear hcl hcc hfr hM)) | ((with_reducible refine gate_store (t := 29) (p := 39) rfl ?_); refine store_event (t := 29) (p := 39) (v := ?vo_w18) (w1 := (((w6.setCell ⟨g, m * 3, none⟩ (.int .i64 v.f0)).setCell ⟨g, m * 3 + 1, none⟩ (.int .i64 v.f1)).setCell ⟨g, m * 3 + 2, none⟩ (.string v.f2))) ?hg ?ho ?hn ?hr ?_; (case ho => rfl); (case hg => rfl); (case hn => rfl); (case hr => first | (go_simp; done) | (go_simp; rfl)); intro w18 hw; have HO7 : Aside0 (OVal w18 w.heap.size (.slice (some ⟨g, 0, none⟩) r.length cp) (r.set m v)) := ⟨by rw [hw]; have := HPS.out.1; rw [Int.toNat_natCast] at this; exact this⟩; have hb7 : Below w.heap.size w w18 := (by rw [hw]; exact below_set (below_set (below_set (below_then (below_alloc (Below.refl _ w) _) hb6) HG6.out) HG6.out) HG6.out); clear hw HPS))
            go_ret2
            exact ⟨_, ret_vv HF.out, by rw [HF.out]; exact HO7.out, hb7⟩
end Go.Proofs.YtibgjfeifpanhaaDoor.B

namespace Go.Proofs.YtibgjfeifpanhaaDoor.PItemValid
open Go.RowKit Go.Proofs.YtibgjfeifpanhaaDoorW.PrintWords Go.Proofs.YtibgjfeifpanhaaDoorW.PrintLast Go.Proofs.YtibgjfeifpanhaaDoorW.PrintMore
attribute [local go_sem] max2_int min2_int max_two min_two max_three min_three max_four min_four   -- for this text's walks alone
set_option linter.unusedVariables false
set_option linter.unusedSimpArgs false

/-! ### ringworkref01_Pick: function 37 -/
def ringworkref01_Pick.l0 : Nat → List (S32) → List (S29) → List ByteArray → List (S29) → Int → Option ((List (S29)) × Int)
  | 0, _, _, _, _, _ => none
  | k + 1, x0, x1, x2, x8, x9 => if x9 < (x2.length : Int) then (if 0 ≤ x9 then ((ringworkref01_index.f k x0 (rdOf ByteArray.empty x2 x9)).bind fun t171 => (if t171 < 0 then (some (([] : List (S29)), 5)) else (if 0 ≤ t171 then (if t171 < (x1.length : Int) then (if x8.length < 4398046511104 then (ringworkref01_Pick.l0 k x0 x1 x2 (x8 ++ [(⟨(rd_T29 x1 t171).f0, (rd_T29 x1 t171).f1, (rd_T29 x1 t171).f2⟩ : S29)]) (wrap64 (x9 + 1))) else (none)) else (none)) else (none)))) else (none)) else (if (x2.length : Int) > 8 then (some (([] : List (S29)), 4)) else (some (x8, 0)))
def ringworkref01_Pick.f (k : Nat) (l0 : List (S32)) (l1 : List (S29)) (l2 : List ByteArray) : Option ((List (S29)) × Int) := (ringworkref01_Fits.f k l0 l1).bind fun t169 => (if t169 = true then (ringworkref01_Pick.l0 k l0 l1 l2 ([] : List (S29)) 0) else (some (([] : List (S29)), 1)))
theorem ringworkref01_Pick.mono_l : ∀ k, (∀ y0 y1 y2 y3 y4, LeO (ringworkref01_Pick.l0 k y0 y1 y2 y3 y4) (ringworkref01_Pick.l0 (k + 1) y0 y1 y2 y3 y4))
  | 0 => fun _ _ _ _ _ r h => by simp [ringworkref01_Pick.l0] at h
  | k + 1 => by
    have ih0 := ringworkref01_Pick.mono_l k
    · intro y0 y1 y2 y3 y4
      unfold ringworkref01_Pick.l0
      repeat' first
      | (with_reducible exact ih0 _ _ _ _ _)
      | (with_reducible exact ringworkref01_Fits.mono _ _ _)
      | (with_reducible exact ringworkref01_index.mono _ _ _)
      | (with_reducible exact LeO.refl _)
      | (with_reducible exact LeO.none _)
      | (with_reducible refine LeO.ite ?_ ?_)
      | (with_reducible refine LeO.bind ?_ (fun _ => ?_))
      | exact ih0 _ _ _ _ _
      | exact ringworkref01_Fits.mono _ _ _
      | exact ringworkref01_index.mono _ _ _
      | exact LeO.none _
      | refine LeO.ite ?_ ?_
      | refine LeO.bind ?_ (fun _ => ?_)
theorem ringworkref01_Pick.mono : ∀ a0 a1 a2 k, LeO (ringworkref01_Pick.f k a0 a1 a2) (ringworkref01_Pick.f (k + 1) a0 a1 a2) := by
  intro a0 a1 a2 k
  have ih0 := ringworkref01_Pick.mono_l k
  unfold ringworkref01_Pick.f
  repeat' first
      | (with_reducible exact ih0 _ _ _ _ _)
      | (with_reducible exact ringworkref01_Fits.mono _ _ _)
      | (with_reducible exact ringworkref01_index.mono _ _ _)
      | (with_reducible exact LeO.refl _)
      | (with_reducible exact LeO.none _)
      | (with_reducible refine LeO.ite ?_ ?_)
      | (with_reducible refine LeO.bind ?_ (fun _ => ?_))
      | exact ih0 _ _ _ _ _
      | exact ringworkref01_Fits.mono _ _ _
      | exact ringworkref01_index.mono _ _ _
      | exact LeO.none _
      | refine LeO.ite ?_ ?_
      | refine LeO.bind ?_ (fun _ => ?_)
set_option maxHeartbeats 8000000 in
set_option maxRecDepth 100000 in
theorem ringworkref01_Pick.calls (k : Nat) (A0 : Option Addr) (c0 : Nat) (l0 : List (S32)) (A1 : Option Addr) (c1 : Nat) (l1 : List (S29)) (A2 : Option Addr) (c2 : Nat) (l2 : List ByteArray) (r1 : List (S29)) (r2 : Int) (w : World) (hr0 : Kd.C k32 w A0 l0.length l0) (hc0 : l0.length ≤ c0) (hr1 : Kd.C k29 w A1 l1.length l1) (hc1 : l1.length ≤ c1) (hr2 : Kd.C Kd.string w A2 l2.length l2) (hc2 : l2.length ≤ c2) (h : ringworkref01_Pick.f k l0 l1 l2 = some (r1, r2)) :
    Calls Tryd.prog 37 #[.slice A0 l0.length c0, .slice A1 l1.length c1, .slice A2 l2.length c2] w fun e w' => ∃ v0_ : Value, e = .returned (.tuple #[v0_, .int .i64 r2]) ∧ Kd.R k29 29 w' w.heap.size (fun _ => True) v0_ r1 ∧ Below w.heap.size w w' := by
  have hu29 := Tryd.underlying29
  have HR0 := Aside0.mk hr0
  have HC0 := Aside0.mk hc0
  clear hr0 hc0
  have HR1 := Aside0.mk hr1
  have HC1 := Aside0.mk hc1
  clear hr1 hc1
  have HR2 := Aside0.mk hr2
  have HC2 := Aside0.mk hc2
  clear hr2 hc2
  have HB := Aside0.mk (Below.refl w.heap.size w)
  have H : ((ringworkref01_Fits.f k l0 l1).bind fun t169 => (if t169 = true then (ringworkref01_Pick.l0 k l0 l1 l2 ([] : List (S29)) 0) else (some (([] : List (S29)), 1)))) = some (r1, r2) := h
  clear h
  replace H := Option.bind_eq_some_iff.mp H
  obtain ⟨t169, A40, H⟩ := H
  replace H : (if t169 = true then (ringworkref01_Pick.l0 k l0 l1 l2 ([] : List (S29)) 0) else (some (([] : List (S29)), 1))) = some (r1, r2) := H
  have A4 := Aside0.mk A40
  clear A40
  by_cases c5 : t169 = true
  · subst c5
    have H1 : (ringworkref01_Pick.l0 k l0 l1 l2 ([] : List (S29)) 0) = some (r1, r2) := by rw [if_pos rfl] at H; exact H
    clear H
    have H := H1
    clear H1
    have H' := Aside0.mk H
    clear H
    go_enter Tryd.func37, Tryd.ntmps37
    go_wp2_with (first | ((with_reducible refine gate_callee (f := 23) rfl ?_); refine goesL_ (some 13) rfl rfl Tryd.func23 (by kernel_rfl) rfl #[.slice A0 l0.length c0, .slice A1 l1.length c1] rfl (by (try simp only [List.map_toArray, List.map_cons, List.map_nil]); first | done | rfl | (simp only [List.length_drop, List.length_take]; rfl)) ?_; (with_reducible refine (ringworkref01_Fits.calls k _ _ l0 _ _ l1 true _ ?side1 ?side2 ?side3 ?side4 A4.out).mono ?_); (case side1 => repeat (first | exact HR0.out | (with_reducible refine Kd.C_alloc ?_ _) | (with_reducible refine Kd.C_drewN ?_ _) | (with_reducible refine Kd.C_drew ?_))); (case side2 => exact HC0.out); (case side3 => repeat (first | exact HR1.out | (with_reducible refine Kd.C_alloc ?_ _) | (with_reducible refine Kd.C_drewN ?_ _) | (with_reducible refine Kd.C_drew ?_))); (case side4 => exact HC1.out); rintro e w6 ⟨rfl, hb⟩; refine ⟨_, rfl, ?_⟩; have n0_ := Aside0.mk (below_step (by repeat (first | (with_reducible first | exact HB.out | apply below_alloc | apply pw_below_drewN | apply below_drew1) | exact HB.out)) hb); clear HB; have HB := n0_; clear n0_; (try clear hb); (try clear hb2); (try clear hk); (try clear hi)))
    go_loopg [8, 9] k (fun kq v8 v9 w' => ∃ (x8_1 : List (S29)) (x9_1 : Int), v9 = .int .i64 x9_1 ∧ Aside0 (ringworkref01_Pick.l0 kq l0 l1 l2 x8_1 x9_1 = some (r1, r2)) ∧ Aside0 (kq ≤ k) ∧ Aside0 (Kd.R k29 29 w' w.heap.size (fun _ => True) v8 x8_1) ∧ Aside0 (Below w.heap.size w w'))
    case atStart => exact ⟨(([] : List (S29))), (0), (by first | rfl | (simp; done) | (simp [*]; done)), H', ⟨Nat.le_refl _⟩, ⟨by first | exact Kd.R_nil _ _ _ _ _ | exact Kd.N_nil _ _ _ _ _ | exact Kd.V_nil _ _ _ _ _ | exact Kd.Q_nil _ _ _ _ _ | exact Kd.S_nil _ _ _ _ _⟩, ⟨by repeat (first | (with_reducible first | exact HB.out | apply below_alloc | apply pw_below_drewN | apply below_drew1) | exact HB.out)⟩⟩
    case round =>
      clear H'
      try clear c1
      try clear c2
      try clear p2
      try clear c3
      try clear c5
      obtain ⟨x8_1, x9_1, rfl, HA, HK1, HO_8, HB⟩ := hrel
      cases gk with
      | zero => exact absurd HA.out (by simp [ringworkref01_Pick.l0])
      | succ k1 =>
        have H := HA.out
        clear HA
        simp only [ringworkref01_Pick.l0] at H
        by_cases c7 : x9_1 < (l2.length : Int)
        · rw [if_pos c7] at H
          have c7b0 : decide (x9_1 < (l2.length : Int)) = true := decide_eq_true c7
          clear c7
          by_cases c8 : 0 ≤ x9_1
          · rw [if_pos c8] at H
            have c8b0 : decide (0 ≤ x9_1) = true := decide_eq_true c8
            clear c8
            replace H := Option.bind_eq_some_iff.mp H
            obtain ⟨t171, A90, H⟩ := H
            replace H : (if t171 < 0 then (some (([] : List (S29)), 5)) else (if 0 ≤ t171 then (if t171 < (l1.length : Int) then (if x8_1.length < 4398046511104 then (ringworkref01_Pick.l0 k1 l0 l1 l2 (x8_1 ++ [(⟨(rd_T29 l1 t171).f0, (rd_T29 l1 t171).f1, (rd_T29 l1 t171).f2⟩ : S29)]) (wrap64 (x9_1 + 1))) else (none)) else (none)) else (none))) = some (r1, r2) := H
            have A9 := Aside0.mk A90
            clear A90
            by_cases c10 : t171 < 0
            · rw [if_pos c10] at H
              have c10b0 : decide (t171 < 0) = true := decide_eq_true c10
              clear c10
              simp only [Option.some.injEq, Prod.mk.injEq] at H
              obtain ⟨rfl, rfl⟩ := H
              have p170 : 0 ≤ (x9_1 : Int) := of_decide_eq_true (by first | (with_reducible assumption) | assumption)
              have q170 : x9_1 < (l2.length : Int) := of_decide_eq_true (by first | (with_reducible assumption) | assumption)
              obtain ⟨ad170, e170, hx170_0⟩ := Kd.at_string HR2.out x9_1 p170 q170
              cases e170
              replace hx170_0 := (HB.out.cell (World.block_lt_of_cell? w _ hx170_0)).trans hx170_0
              replace p170 := eq_true p170
              replace q170 := eq_true q170
              go_wp2_with (first | ((with_reducible refine gate_callee (f := 72) rfl ?_); refine goesL_ (some 26) rfl rfl Tryd.func72 (by kernel_rfl) rfl #[.slice A0 l0.length c0, .string (rdOf ByteArray.empty l2 x9_1)] rfl (by (try simp only [List.map_toArray, List.map_cons, List.map_nil]); first | done | rfl | (simp only [List.length_drop, List.length_take]; rfl)) ?_; (with_reducible refine (ringworkref01_index.calls k1 _ _ l0 (rdOf ByteArray.empty l2 x9_1) t171 _ ?side1 ?side2 A9.out).mono ?_); (case side1 => repeat (first | exact (Kd.C_below HR0.out HB.out) | (with_reducible refine Kd.C_alloc ?_ _) | (with_reducible refine Kd.C_drewN ?_ _) | (with_reducible refine Kd.C_drew ?_))); (case side2 => exact HC0.out); rintro e w' ⟨rfl, ⟨nd, rfl⟩⟩; refine ⟨_, rfl, ?_⟩))
              go_ret2
              exact ⟨_, by first | rfl | (simp [errW_none, errW_some] <;> rfl) | (simp [*, errW_none, errW_some] <;> rfl), by first | exact Kd.R_nil _ _ _ _ _ | exact Kd.N_nil _ _ _ _ _ | exact Kd.V_nil _ _ _ _ _ | exact Kd.Q_nil _ _ _ _ _ | exact Kd.S_nil _ _ _ _ _, by repeat (first | (with_reducible first | exact HB.out | apply below_alloc | apply pw_below_drewN | apply below_drew1) | exact HB.out)⟩
            · rw [if_neg c10] at H
              have c10b0 : decide (t171 < 0) = false := decide_eq_false c10
              clear c10
              by_cases c11 : 0 ≤ t171
              · rw [if_pos c11] at H
                have c11b0 : decide (0 ≤ t171) = true := decide_eq_true c11
                clear c11
                by_cases c12 : t171 < (l1.length : Int)
                · rw [if_pos c12] at H
                  have c12b0 : decide (t171 < (l1.length : Int)) = true := decide_eq_true c12
                  clear c12
                  by_cases c13 : x8_1.length < 4398046511104
                  · rw [if_pos c13] at H
                    have LMc13 := Aside0.mk c13
                    clear c13
                    obtain ⟨y173, hy173⟩ : ∃ y_ : List (S29), y_ = (x8_1 ++ [(⟨(rd_T29 l1 t171).f0, (rd_T29 l1 t171).f1, (rd_T29 l1 t171).f2⟩ : S29)]) := ⟨_, rfl⟩
                    replace H : (ringworkref01_Pick.l0 k1 l0 l1 l2 y173 (wrap64 (x9_1 + 1))) = some (r1, r2) := by first | (rw [hy173]; with_reducible exact H) | (have H2_ := (Option.bind_some _ _).symm.trans H; rw [hy173]; with_reducible exact H2_) | (have H2_ := (Option.bind_some _ _).symm.trans H; with_reducible exact H2_) | with_reducible exact H | (rw [hy173]; exact H) | exact H
                    have Ny173 := Aside0.mk hy173
                    clear hy173
                    have H' := Aside0.mk H
                    clear H
                    have p170 : 0 ≤ (x9_1 : Int) := of_decide_eq_true (by first | (with_reducible assumption) | assumption)
                    have q170 : x9_1 < (l2.length : Int) := of_decide_eq_true (by first | (with_reducible assumption) | assumption)
                    obtain ⟨ad170, e170, hx170_0⟩ := Kd.at_string HR2.out x9_1 p170 q170
                    cases e170
                    replace hx170_0 := (HB.out.cell (World.block_lt_of_cell? w _ hx170_0)).trans hx170_0
                    replace p170 := eq_true p170
                    replace q170 := eq_true q170
                    go_wp2_with (first | ((with_reducible refine gate_callee (f := 72) rfl ?_); refine goesL_ (some 26) rfl rfl Tryd.func72 (by kernel_rfl) rfl #[.slice A0 l0.length c0, .string (rdOf ByteArray.empty l2 x9_1)] rfl (by (try simp only [List.map_toArray, List.map_cons, List.map_nil]); first | done | rfl | (simp only [List.length_drop, List.length_take]; rfl)) ?_; (with_reducible refine (ringworkref01_index.calls k1 _ _ l0 (rdOf ByteArray.empty l2 x9_1) t171 _ ?side1 ?side2 A9.out).mono ?_); (case side1 => repeat (first | exact (Kd.C_below HR0.out HB.out) | (with_reducible refine Kd.C_alloc ?_ _) | (with_reducible refine Kd.C_drewN ?_ _) | (with_reducible refine Kd.C_drew ?_))); (case side2 => exact HC0.out); rintro e w' ⟨rfl, ⟨nd, rfl⟩⟩; refine ⟨_, rfl, ?_⟩; have p172 : 0 ≤ (t171 : Int) := of_decide_eq_true (by first | (with_reducible assumption) | assumption); have q172 : t171 < (l1.length : Int) := of_decide_eq_true (by first | (with_reducible assumption) | assumption); obtain ⟨ad172, e172, hx172_0, hx172_1, hx172_2⟩ := at_T29 HR1.out t171 p172 q172; cases e172; replace hx172_0 := (HB.out.cell (World.block_lt_of_cell? w _ hx172_0)).trans hx172_0; replace hx172_1 := (HB.out.cell (World.block_lt_of_cell? w _ hx172_1)).trans hx172_1; replace hx172_2 := (HB.out.cell (World.block_lt_of_cell? w _ hx172_2)).trans hx172_2; replace p172 := eq_true p172; replace q172 := eq_true q172) | ((with_reducible refine gate_builtin (b := .append) (xs := #[.tmp 29, .tmp 34]) rfl ?_); at_builtin; refine Kd.R_append k29 (w0 := w) w.heap.size rfl (.tmp 29) (.tmp 34) 23 29 (.agg #[(.int .i64 0), (.int .i64 0), (.string ⟨#[]⟩)]) 32 rfl Tryd.underlying23 info29 rfl (by decide) (by omega) u8 x8_1 (⟨(rd_T29 l1 t171).f0, (rd_T29 l1 t171).f1, (rd_T29 l1 t171).f2⟩ : S29) [.int .i64 ((rd_T29 l1 t171).f0), .int .i64 ((rd_T29 l1 t171).f1), .string ((rd_T29 l1 t171).f2)] (fun _ => True) (fun _ => False) rfl rfl ?aP (fun _ hk => hk.elim) ?aF ?aO ?aB ?aS ?aL ?_; (case aP => exact k29_mkM _ _ _ (⟨(rd_T29 l1 t171).f0, (rd_T29 l1 t171).f1, (rd_T29 l1 t171).f2⟩ : S29)); (case aB => exact (by repeat (first | (with_reducible first | exact HB.out | apply below_alloc | apply pw_below_drewN | apply below_drew1) | exact HB.out))); (case aF => exact (fun _ _ => trivial)); (case aO => exact (by (with_reducible repeat (first | apply Kd.R_alloc | apply Kd.R_drewN | apply Kd.R_drew)); exact HO_8.out)); (case aS => exact (below_size (by repeat (first | (with_reducible first | exact HB.out | apply below_alloc | apply pw_below_drewN | apply below_drew1) | exact HB.out)))); (case aL => have := LMc13.out; omega); intro v174 w14 ho hb hg hat; rw [← Ny173.out] at ho; have n0_ := Aside0.mk (hb); have n1_ := Aside0.mk (ho); clear HB; clear HO_8; have HB := n0_; have HO175 := n1_; clear n0_ n1_; clear ho hb hg hat))
                    go_roundg k1
                    case measure => have := HK1.out; omega
                    case rel => exact ⟨(y173), (wrap64 (x9_1 + 1)), (by first | rfl | (simp; done) | (simp [*]; done)), H', ⟨by have := HK1.out; omega⟩, ⟨by (with_reducible repeat (first | apply Kd.R_alloc | apply Kd.R_drewN | apply Kd.R_drew)); exact HO175.out⟩, ⟨by repeat (first | (with_reducible first | exact HB.out | apply below_alloc | apply pw_below_drewN | apply below_drew1) | exact HB.out)⟩⟩
                  · rw [if_neg c13] at H
                    exact absurd H (by simp)
                · rw [if_neg c12] at H
                  exact absurd H (by simp)
              · rw [if_neg c11] at H
                exact absurd H (by simp)
          · rw [if_neg c8] at H
            exact absurd H (by simp)
        · rw [if_neg c7] at H
          have c7b0 : decide (x9_1 < (l2.length : Int)) = false := decide_eq_false c7
          clear c7
          by_cases c15 : (l2.length : Int) > 8
          · rw [if_pos c15] at H
            have c15b0 : decide (8 < (l2.length : Int)) = true := decide_eq_true c15
            have c15b1 : decide (8 < l2.length) = true := decide_eq_true (by omega)
            clear c15
            simp only [Option.some.injEq, Prod.mk.injEq] at H
            obtain ⟨rfl, rfl⟩ := H
            go_wp2
            go_ret2
            exact ⟨_, by first | rfl | (simp [errW_none, errW_some] <;> rfl) | (simp [*, errW_none, errW_some] <;> rfl), by first | exact Kd.R_nil _ _ _ _ _ | exact Kd.N_nil _ _ _ _ _ | exact Kd.V_nil _ _ _ _ _ | exact Kd.Q_nil _ _ _ _ _ | exact Kd.S_nil _ _ _ _ _, by repeat (first | (with_reducible first | exact HB.out | apply below_alloc | apply pw_below_drewN | apply below_drew1) | exact HB.out)⟩
          · rw [if_neg c15] at H
            have c15b0 : decide (8 < (l2.length : Int)) = false := decide_eq_false c15
            have c15b1 : decide (8 < l2.length) = false := decide_eq_false (by omega)
            clear c15
            simp only [Option.some.injEq, Prod.mk.injEq] at H
            obtain ⟨rfl, rfl⟩ := H
            go_wp2
            go_ret2
            exact ⟨_, by first | rfl | (simp [errW_none, errW_some] <;> rfl) | (simp [*, errW_none, errW_some] <;> rfl), by (with_reducible repeat (first | apply Kd.R_alloc | apply Kd.R_drewN | apply Kd.R_drew)); exact HO_8.out, by repeat (first | (with_reducible first | exact HB.out | apply below_alloc | apply pw_below_drewN | apply below_drew1) | exact HB.out)⟩
  · replace c5 := Bool.eq_false_iff.mpr c5
    subst c5
    have H1 : (some (([] : List (S29)), 1)) = some (r1, r2) := by rw [if_neg (show ¬ (false = true) by decide)] at H; exact H
    clear H
    have H := H1
    clear H1
    simp only [Option.some.injEq, Prod.mk.injEq] at H
    obtain ⟨rfl, rfl⟩ := H
    go_enter Tryd.func37, Tryd.ntmps37
    go_wp2_with (first | ((with_reducible refine gate_callee (f := 23) rfl ?_); refine goesL_ (some 13) rfl rfl Tryd.func23 (by kernel_rfl) rfl #[.slice A0 l0.length c0, .slice A1 l1.length c1] rfl (by (try simp only [List.map_toArray, List.map_cons, List.map_nil]); first | done | rfl | (simp only [List.length_drop, List.length_take]; rfl)) ?_; (with_reducible refine (ringworkref01_Fits.calls k _ _ l0 _ _ l1 false _ ?side1 ?side2 ?side3 ?side4 A4.out).mono ?_); (case side1 => repeat (first | exact HR0.out | (with_reducible refine Kd.C_alloc ?_ _) | (with_reducible refine Kd.C_drewN ?_ _) | (with_reducible refine Kd.C_drew ?_))); (case side2 => exact HC0.out); (case side3 => repeat (first | exact HR1.out | (with_reducible refine Kd.C_alloc ?_ _) | (with_reducible refine Kd.C_drewN ?_ _) | (with_reducible refine Kd.C_drew ?_))); (case side4 => exact HC1.out); rintro e w16 ⟨rfl, hb⟩; refine ⟨_, rfl, ?_⟩; have n0_ := Aside0.mk (below_step (by repeat (first | (with_reducible first | exact HB.out | apply below_alloc | apply pw_below_drewN | apply below_drew1) | exact HB.out)) hb); clear HB; have HB := n0_; clear n0_; (try clear hb); (try clear hb2); (try clear hk); (try clear hi)))
    go_ret2
    exact ⟨_, by first | rfl | (simp [errW_none, errW_some] <;> rfl) | (simp [*, errW_none, errW_some] <;> rfl), by first | exact Kd.R_nil _ _ _ _ _ | exact Kd.N_nil _ _ _ _ _ | exact Kd.V_nil _ _ _ _ _ | exact Kd.Q_nil _ _ _ _ _ | exact Kd.S_nil _ _ _ _ _, by repeat (first | (with_reducible first | exact HB.out | apply below_alloc | apply pw_below_drewN | apply below_drew1) | exact HB.out)⟩


/-! ### ringworkref01_Find: function 39 -/
def ringworkref01_Find.f (k : Nat) (l0 : List (S32)) (a1 : ByteArray) : Option (Int × Int) := (ringworkref01_ValidItems.f k l0).bind fun t176 => (if t176 = true then ((ringworkref01_index.f k l0 a1).bind fun t177 => (if t177 < 0 then (some (0, 5)) else (some (t177, 0)))) else (some (0, 1)))
theorem ringworkref01_Find.mono : ∀ a0 a1 k, LeO (ringworkref01_Find.f k a0 a1) (ringworkref01_Find.f (k + 1) a0 a1) := by
  intro a0 a1 k
  unfold ringworkref01_Find.f
  repeat' first
      | (with_reducible exact ringworkref01_ValidItems.mono _ _)
      | (with_reducible exact ringworkref01_index.mono _ _ _)
      | (with_reducible exact LeO.refl _)
      | (with_reducible exact LeO.none _)
      | (with_reducible refine LeO.ite ?_ ?_)
      | (with_reducible refine LeO.bind ?_ (fun _ => ?_))
      | exact ringworkref01_ValidItems.mono _ _
      | exact ringworkref01_index.mono _ _ _
      | exact LeO.none _
      | refine LeO.ite ?_ ?_
      | refine LeO.bind ?_ (fun _ => ?_)
set_option maxHeartbeats 8000000 in
set_option maxRecDepth 100000 in
theorem ringworkref01_Find.calls (k : Nat) (A0 : Option Addr) (c0 : Nat) (l0 : List (S32)) (a1 : ByteArray) (r1 : Int) (r2 : Int) (w : World) (hr0 : Kd.C k32 w A0 l0.length l0) (hc0 : l0.length ≤ c0) (h : ringworkref01_Find.f k l0 a1 = some (r1, r2)) :
    Calls Tryd.prog 39 #[.slice A0 l0.length c0, .string a1] w fun e w' => e = .returned (.tuple #[.int .i64 r1, .int .i64 r2]) ∧ Below w.heap.size w w' := by
  have HR0 := Aside0.mk hr0
  have HC0 := Aside0.mk hc0
  clear hr0 hc0
  have HB := Aside0.mk (Below.refl w.heap.size w)
  have H : ((ringworkref01_ValidItems.f k l0).bind fun t176 => (if t176 = true then ((ringworkref01_index.f k l0 a1).bind fun t177 => (if t177 < 0 then (some (0, 5)) else (some (t177, 0)))) else (some (0, 1)))) = some (r1, r2) := h
  clear h
  replace H := Option.bind_eq_some_iff.mp H
  obtain ⟨t176, A30, H⟩ := H
  replace H : (if t176 = true then ((ringworkref01_index.f k l0 a1).bind fun t177 => (if t177 < 0 then (some (0, 5)) else (some (t177, 0)))) else (some (0, 1))) = some (r1, r2) := H
  have A3 := Aside0.mk A30
  clear A30
  by_cases c4 : t176 = true
  · subst c4
    have H1 : ((ringworkref01_index.f k l0 a1).bind fun t177 => (if t177 < 0 then (some (0, 5)) else (some (t177, 0)))) = some (r1, r2) := by rw [if_pos rfl] at H; exact H
    clear H
    have H := H1
    clear H1
    replace H := Option.bind_eq_some_iff.mp H
    obtain ⟨t177, A50, H⟩ := H
    replace H : (if t177 < 0 then (some (0, 5)) else (some (t177, 0))) = some (r1, r2) := H
    have A5 := Aside0.mk A50
    clear A50
    by_cases c6 : t177 < 0
    · rw [if_pos c6] at H
      have c6b0 : decide (t177 < 0) = true := decide_eq_true c6
      clear c6
      simp only [Option.some.injEq, Prod.mk.injEq] at H
      obtain ⟨rfl, rfl⟩ := H
      go_enter Tryd.func39, Tryd.ntmps39
      go_wp2_with (first | ((with_reducible refine gate_callee (f := 21) rfl ?_); refine goesL_ (some 8) rfl rfl Tryd.func21 (by kernel_rfl) rfl #[.slice A0 l0.length c0] rfl (by (try simp only [List.map_toArray, List.map_cons, List.map_nil]); first | done | rfl | (simp only [List.length_drop, List.length_take]; rfl)) ?_; (with_reducible refine (ringworkref01_ValidItems.calls k _ _ l0 true _ ?side1 ?side2 A3.out).mono ?_); (case side1 => repeat (first | exact HR0.out | (with_reducible refine Kd.C_alloc ?_ _) | (with_reducible refine Kd.C_drewN ?_ _) | (with_reducible refine Kd.C_drew ?_))); (case side2 => exact HC0.out); rintro e w7 ⟨rfl, hb⟩; refine ⟨_, rfl, ?_⟩; have n0_ := Aside0.mk (below_step (by repeat (first | (with_reducible first | exact HB.out | apply below_alloc | apply pw_below_drewN | apply below_drew1) | exact HB.out)) hb); clear HB; have HB := n0_; clear n0_; (try clear hb); (try clear hb2); (try clear hk); (try clear hi)) | ((with_reducible refine gate_callee (f := 72) rfl ?_); refine goesL_ (some 12) rfl rfl Tryd.func72 (by kernel_rfl) rfl #[.slice A0 l0.length c0, .string a1] rfl (by (try simp only [List.map_toArray, List.map_cons, List.map_nil]); first | done | rfl | (simp only [List.length_drop, List.length_take]; rfl)) ?_; (with_reducible refine (ringworkref01_index.calls k _ _ l0 a1 t177 _ ?side1 ?side2 A5.out).mono ?_); (case side1 => repeat (first | exact (Kd.C_below HR0.out HB.out) | (with_reducible refine Kd.C_alloc ?_ _) | (with_reducible refine Kd.C_drewN ?_ _) | (with_reducible refine Kd.C_drew ?_))); (case side2 => exact HC0.out); rintro e w' ⟨rfl, ⟨nd, rfl⟩⟩; refine ⟨_, rfl, ?_⟩))
      go_ret2
      exact ⟨by first | rfl | (simp [errW_none, errW_some] <;> rfl) | (simp [*, errW_none, errW_some] <;> rfl), by repeat (first | (with_reducible first | exact HB.out | apply below_alloc | apply pw_below_drewN | apply below_drew1) | exact HB.out)⟩
    · rw [if_neg c6] at H
      have c6b0 : decide (t177 < 0) = false := decide_eq_false c6
      clear c6
      simp only [Option.some.injEq, Prod.mk.injEq] at H
      obtain ⟨rfl, rfl⟩ := H
      go_enter Tryd.func39, Tryd.ntmps39
      go_wp2_with (first | ((with_reducible refine gate_callee (f := 21) rfl ?_); refine goesL_ (some 8) rfl rfl Tryd.func21 (by kernel_rfl) rfl #[.slice A0 l0.length c0] rfl (by (try simp only [List.map_toArray, List.map_cons, List.map_nil]); first | done | rfl | (simp only [List.length_drop, List.length_take]; rfl)) ?_; (with_reducible refine (ringworkref01_ValidItems.calls k _ _ l0 true _ ?side1 ?side2 A3.out).mono ?_); (case side1 => repeat (first | exact HR0.out | (with_reducible refine Kd.C_alloc ?_ _) | (with_reducible refine Kd.C_drewN ?_ _) | (with_reducible refine Kd.C_drew ?_))); (case side2 => exact HC0.out); rintro e w8 ⟨rfl, hb⟩; refine ⟨_, rfl, ?_⟩; have n0_ := Aside0.mk (below_step (by repeat (first | (with_reducible first | exact HB.out | apply below_alloc | apply pw_below_drewN | apply below_drew1) | exact HB.out)) hb); clear HB; have HB := n0_; clear n0_; (try clear hb); (try clear hb2); (try clear hk); (try clear hi)) | ((with_reducible refine gate_callee (f := 72) rfl ?_); refine goesL_ (some 12) rfl rfl Tryd.func72 (by kernel_rfl) rfl #[.slice A0 l0.length c0, .string a1] rfl (by (try simp only [List.map_toArray, List.map_cons, List.map_nil]); first | done | rfl | (simp only [List.length_drop, List.length_take]; rfl)) ?_; (with_reducible refine (ringworkref01_index.calls k _ _ l0 a1 t177 _ ?side1 ?side2 A5.out).mono ?_); (case side1 => repeat (first | exact (Kd.C_below HR0.out HB.out) | (with_reducible refine Kd.C_alloc ?_ _) | (with_reducible refine Kd.C_drewN ?_ _) | (with_reducible refine Kd.C_drew ?_))); (case side2 => exact HC0.out); rintro e w' ⟨rfl, ⟨nd, rfl⟩⟩; refine ⟨_, rfl, ?_⟩))
      go_ret2
      exact ⟨by first | rfl | (simp [errW_none, errW_some] <;> rfl) | (simp [*, errW_none, errW_some] <;> rfl), by repeat (first | (with_reducible first | exact HB.out | apply below_alloc | apply pw_below_drewN | apply below_drew1) | exact HB.out)⟩
  · replace c4 := Bool.eq_false_iff.mpr c4
    subst c4
    have H1 : (some (0, 1)) = some (r1, r2) := by rw [if_neg (show ¬ (false = true) by decide)] at H; exact H
    clear H
    have H := H1
    clear H1
    simp only [Option.some.injEq, Prod.mk.injEq] at H
    obtain ⟨rfl, rfl⟩ := H
    go_enter Tryd.func39, Tryd.ntmps39
    go_wp2_with (first | ((with_reducible refine gate_callee (f := 21) rfl ?_); refine goesL_ (some 8) rfl rfl Tryd.func21 (by kernel_rfl) rfl #[.slice A0 l0.length c0] rfl (by (try simp only [List.map_toArray, List.map_cons, List.map_nil]); first | done | rfl | (simp only [List.length_drop, List.length_take]; rfl)) ?_; (with_reducible refine (ringworkref01_ValidItems.calls k _ _ l0 false _ ?side1 ?side2 A3.out).mono ?_); (case side1 => repeat (first | exact HR0.out | (with_reducible refine Kd.C_alloc ?_ _) | (with_reducible refine Kd.C_drewN ?_ _) | (with_reducible refine Kd.C_drew ?_))); (case side2 => exact HC0.out); rintro e w9 ⟨rfl, hb⟩; refine ⟨_, rfl, ?_⟩; have n0_ := Aside0.mk (below_step (by repeat (first | (with_reducible first | exact HB.out | apply below_alloc | apply pw_below_drewN | apply below_drew1) | exact HB.out)) hb); clear HB; have HB := n0_; clear n0_; (try clear hb); (try clear hb2); (try clear hk); (try clear hi)))
    go_ret2
    exact ⟨by first | rfl | (simp [errW_none, errW_some] <;> rfl) | (simp [*, errW_none, errW_some] <;> rfl), by repeat (first | (with_reducible first | exact HB.out | apply below_alloc | apply pw_below_drewN | apply below_drew1) | exact HB.out)⟩



/-! ### ringworkref01_Put: function 41 -/
def ringworkref01_Put.f (k : Nat) (l0 : List (S32)) (l1 : List (S29)) (a2 : ByteArray) (a3_0 : Int) (a3_1 : Int) (a3_2 : ByteArray) : Option ((List (S29)) × Int) := (ringworkref01_Fits.f k l0 l1).bind fun t180 => (if t180 = true then ((ringworkref01_index.f k l0 a2).bind fun t181 => (if t181 < 0 then (some (([] : List (S29)), 5)) else ((ringworkref01_ValidValue.f a3_0 a3_1 a3_2).bind fun t182 => (if t182 = true then (if 0 ≤ t181 then (if t181 < (l0.length : Int) then ((ringworkref01_Holds.f k ((rd_T32 l0 t181).f0) ((rd_T32 l0 t181).f1) ((rd_T32 l0 t181).f2) ((rd_T32 l0 t181).f3) ((rd_T32 l0 t181).f4) a3_0 a3_1 a3_2).bind fun t184 => (if t184 = true then ((some (([] : List (S29)) : List (S29))).bind fun y185 => (if y185.length + l1.length < 4398046511104 then ((some (y185 ++ l1 : List (S29))).bind fun y188 => (if t181 < (y188.length : Int) then (some ((y188.set (t181 : Int).toNat (⟨a3_0, a3_1, a3_2⟩ : S29)), 0)) else (none))) else (none))) else (some (([] : List (S29)), 7)))) else (none)) else (none)) else (some (([] : List (S29)), 1)))))) else (some (([] : List (S29)), 1)))
theorem ringworkref01_Put.mono : ∀ a0 a1 a2 a3 a4 a5 k, LeO (ringworkref01_Put.f k a0 a1 a2 a3 a4 a5) (ringworkref01_Put.f (k + 1) a0 a1 a2 a3 a4 a5) := by
  intro a0 a1 a2 a3 a4 a5 k
  unfold ringworkref01_Put.f
  repeat' first
      | (with_reducible exact ringworkref01_Fits.mono _ _ _)
      | (with_reducible exact ringworkref01_Holds.mono _ _ _ _ _ _ _ _ _)
      | (with_reducible exact ringworkref01_index.mono _ _ _)
      | (with_reducible exact LeO.refl _)
      | (with_reducible exact LeO.none _)
      | (with_reducible refine LeO.ite ?_ ?_)
      | (with_reducible refine LeO.bind ?_ (fun _ => ?_))
      | exact ringworkref01_Fits.mono _ _ _
      | exact ringworkref01_Holds.mono _ _ _ _ _ _ _ _ _
      | exact ringworkref01_index.mono _ _ _
      | exact LeO.none _
      | refine LeO.ite ?_ ?_
      | refine LeO.bind ?_ (fun _ => ?_)
def ringworkref01_Put.T8 : Bool × List (List Nat × List Nat) := (true, [([], []), ([], []), ([0, 1], [0, 1]), ([2], [2]), ([], []), ([3, 4], [3, 4]), ([5], [5]), ([6, 5], [6])])
def ringworkref01_Put.B8 : List Nat := [0, 0, 3, 7, 0, 31, 63, 127]
theorem ringworkref01_Put.tab8 : rtab .any (opsOf Tryd.f41 8) = ringworkref01_Put.T8 := by kernel_rfl
theorem ringworkref01_Put.bits8 : waitsOk ringworkref01_Put.T8.2 ringworkref01_Put.B8 = true := by kernel_rfl
set_option maxHeartbeats 8000000 in
set_option maxRecDepth 100000 in
theorem ringworkref01_Put.calls (k : Nat) (A0 : Option Addr) (c0 : Nat) (l0 : List (S32)) (A1 : Option Addr) (c1 : Nat) (l1 : List (S29)) (a2 : ByteArray) (a3_0 : Int) (a3_1 : Int) (a3_2 : ByteArray) (r1 : List (S29)) (r2 : Int) (w : World) (hr0 : Kd.C k32 w A0 l0.length l0) (hc0 : l0.length ≤ c0) (hr1 : Kd.C k29 w A1 l1.length l1) (hc1 : l1.length ≤ c1) (h : ringworkref01_Put.f k l0 l1 a2 a3_0 a3_1 a3_2 = some (r1, r2)) :
    Calls Tryd.prog 41 #[.slice A0 l0.length c0, .slice A1 l1.length c1, .string a2, .agg #[.int .i64 a3_0, .int .i64 a3_1, .string a3_2]] w fun e w' => ∃ v0_ : Value, e = .returned (.tuple #[v0_, .int .i64 r2]) ∧ Kd.R k29 29 w' w.heap.size (fun _ => True) v0_ r1 ∧ Below w.heap.size w w' := by
  have hu29 := Tryd.underlying29
  have hu32 := Tryd.underlying32
  have HR0 := Aside0.mk hr0
  have HC0 := Aside0.mk hc0
  clear hr0 hc0
  have HR1 := Aside0.mk hr1
  have HC1 := Aside0.mk hc1
  clear hr1 hc1
  have HB := Aside0.mk (Below.refl w.heap.size w)
  have H : ((ringworkref01_Fits.f k l0 l1).bind fun t180 => (if t180 = true then ((ringworkref01_index.f k l0 a2).bind fun t181 => (if t181 < 0 then (some (([] : List (S29)), 5)) else ((ringworkref01_ValidValue.f a3_0 a3_1 a3_2).bind fun t182 => (if t182 = true then (if 0 ≤ t181 then (if t181 < (l0.length : Int) then ((ringworkref01_Holds.f k ((rd_T32 l0 t181).f0) ((rd_T32 l0 t181).f1) ((rd_T32 l0 t181).f2) ((rd_T32 l0 t181).f3) ((rd_T32 l0 t181).f4) a3_0 a3_1 a3_2).bind fun t184 => (if t184 = true then ((some (([] : List (S29)) : List (S29))).bind fun y185 => (if y185.length + l1.length < 4398046511104 then ((some (y185 ++ l1 : List (S29))).bind fun y188 => (if t181 < (y188.length : Int) then (some ((y188.set (t181 : Int).toNat (⟨a3_0, a3_1, a3_2⟩ : S29)), 0)) else (none))) else (none))) else (some (([] : List (S29)), 7)))) else (none)) else (none)) else (some (([] : List (S29)), 1)))))) else (some (([] : List (S29)), 1)))) = some (r1, r2) := h
  clear h
  replace H := Option.bind_eq_some_iff.mp H
  obtain ⟨t180, A50, H⟩ := H
  replace H : (if t180 = true then ((ringworkref01_index.f k l0 a2).bind fun t181 => (if t181 < 0 then (some (([] : List (S29)), 5)) else ((ringworkref01_ValidValue.f a3_0 a3_1 a3_2).bind fun t182 => (if t182 = true then (if 0 ≤ t181 then (if t181 < (l0.length : Int) then ((ringworkref01_Holds.f k ((rd_T32 l0 t181).f0) ((rd_T32 l0 t181).f1) ((rd_T32 l0 t181).f2) ((rd_T32 l0 t181).f3) ((rd_T32 l0 t181).f4) a3_0 a3_1 a3_2).bind fun t184 => (if t184 = true then ((some (([] : List (S29)) : List (S29))).bind fun y185 => (if y185.length + l1.length < 4398046511104 then ((some (y185 ++ l1 : List (S29))).bind fun y188 => (if t181 < (y188.length : Int) then (some ((y188.set (t181 : Int).toNat (⟨a3_0, a3_1, a3_2⟩ : S29)), 0)) else (none))) else (none))) else (some (([] : List (S29)), 7)))) else (none)) else (none)) else (some (([] : List (S29)), 1)))))) else (some (([] : List (S29)), 1))) = some (r1, r2) := H
  have A5 := Aside0.mk A50
  clear A50
  by_cases c6 : t180 = true
  · subst c6
    have H1 : ((ringworkref01_index.f k l0 a2).bind fun t181 => (if t181 < 0 then (some (([] : List (S29)), 5)) else ((ringworkref01_ValidValue.f a3_0 a3_1 a3_2).bind fun t182 => (if t182 = true then (if 0 ≤ t181 then (if t181 < (l0.length : Int) then ((ringworkref01_Holds.f k ((rd_T32 l0 t181).f0) ((rd_T32 l0 t181).f1) ((rd_T32 l0 t181).f2) ((rd_T32 l0 t181).f3) ((rd_T32 l0 t181).f4) a3_0 a3_1 a3_2).bind fun t184 => (if t184 = true then ((some (([] : List (S29)) : List (S29))).bind fun y185 => (if y185.length + l1.length < 4398046511104 then ((some (y185 ++ l1 : List (S29))).bind fun y188 => (if t181 < (y188.length : Int) then (some ((y188.set (t181 : Int).toNat (⟨a3_0, a3_1, a3_2⟩ : S29)), 0)) else (none))) else (none))) else (some (([] : List (S29)), 7)))) else (none)) else (none)) else (some (([] : List (S29)), 1)))))) = some (r1, r2) := by rw [if_pos rfl] at H; exact H
    clear H
    have H := H1
    clear H1
    replace H := Option.bind_eq_some_iff.mp H
    obtain ⟨t181, A70, H⟩ := H
    replace H : (if t181 < 0 then (some (([] : List (S29)), 5)) else ((ringworkref01_ValidValue.f a3_0 a3_1 a3_2).bind fun t182 => (if t182 = true then (if 0 ≤ t181 then (if t181 < (l0.length : Int) then ((ringworkref01_Holds.f k ((rd_T32 l0 t181).f0) ((rd_T32 l0 t181).f1) ((rd_T32 l0 t181).f2) ((rd_T32 l0 t181).f3) ((rd_T32 l0 t181).f4) a3_0 a3_1 a3_2).bind fun t184 => (if t184 = true then ((some (([] : List (S29)) : List (S29))).bind fun y185 => (if y185.length + l1.length < 4398046511104 then ((some (y185 ++ l1 : List (S29))).bind fun y188 => (if t181 < (y188.length : Int) then (some ((y188.set (t181 : Int).toNat (⟨a3_0, a3_1, a3_2⟩ : S29)), 0)) else (none))) else (none))) else (some (([] : List (S29)), 7)))) else (none)) else (none)) else (some (([] : List (S29)), 1))))) = some (r1, r2) := H
    have A7 := Aside0.mk A70
    clear A70
    by_cases c8 : t181 < 0
    · rw [if_pos c8] at H
      have c8b0 : decide (t181 < 0) = true := decide_eq_true c8
      clear c8
      simp only [Option.some.injEq, Prod.mk.injEq] at H
      obtain ⟨rfl, rfl⟩ := H
      go_enter Tryd.func41, Tryd.ntmps41
      go_wp2_with (first | ((with_reducible refine gate_dst (N := 7) rfl ?_); refine box_event ?hg (N := 7) ?hd (cs := #[.int .i64 a3_0, .int .i64 a3_1, .string a3_2]) (t := 29) ?hr ?_; (case hd => rfl); (case hg => rfl); (case hr => first | (go_simp; done) | (go_simp; rfl)); intro gb179 hg w9 hbox hb; have n0_ := Aside0.mk (below_step (by repeat (first | (with_reducible first | exact HB.out | apply below_alloc | apply pw_below_drewN | apply below_drew1) | exact HB.out)) hb); have n1_ := Aside0.mk (hbox); have n2_ := Aside0.mk ((by rw [hg]; exact (below_size (by repeat (first | (with_reducible first | exact HB.out | apply below_alloc | apply pw_below_drewN | apply below_drew1) | exact HB.out))) : w.heap.size ≤ gb179)); have n3_ := Aside0.mk ((by rw [hg]; exact (below_size (by repeat (first | (with_reducible first | exact HB.out | apply below_alloc | apply pw_below_drewN | apply below_drew1) | exact HB.out))) : w.heap.size ≤ gb179)); clear HB; have HB := n0_; have BK179 := n1_; have GW179 := n2_; have GE179 := n3_; clear n0_ n1_ n2_ n3_; clear hb hbox hg) | ((with_reducible refine gate_callee (f := 23) rfl ?_); refine goesL_ (some 14) rfl rfl Tryd.func23 (by kernel_rfl) rfl #[.slice A0 l0.length c0, .slice A1 l1.length c1] rfl (by (try simp only [List.map_toArray, List.map_cons, List.map_nil]); first | done | rfl | (simp only [List.length_drop, List.length_take]; rfl)) ?_; (with_reducible refine (ringworkref01_Fits.calls k _ _ l0 _ _ l1 true _ ?side1 ?side2 ?side3 ?side4 A5.out).mono ?_); (case side1 => repeat (first | exact (Kd.C_below HR0.out HB.out) | (with_reducible refine Kd.C_alloc ?_ _) | (with_reducible refine Kd.C_drewN ?_ _) | (with_reducible refine Kd.C_drew ?_))); (case side2 => exact HC0.out); (case side3 => repeat (first | exact (Kd.C_below HR1.out HB.out) | (with_reducible refine Kd.C_alloc ?_ _) | (with_reducible refine Kd.C_drewN ?_ _) | (with_reducible refine Kd.C_drew ?_))); (case side4 => exact HC1.out); rintro e w10 ⟨rfl, hb⟩; refine ⟨_, rfl, ?_⟩; have n0_ := Aside0.mk (blk_below (g := gb179) (o := .cells #[.int .i64 a3_0, .int .i64 a3_1, .string a3_2] 29 (0, 0)) (by (with_reducible repeat (first | refine blk_drewN ?_ _ | refine blk_drew ?_ | refine blk_alloc ?_ _)); exact BK179.out) hb); have n1_ := Aside0.mk (below_step (by repeat (first | (with_reducible first | exact HB.out | apply below_alloc | apply pw_below_drewN | apply below_drew1 | refine below_set ?_ GE179.out) | exact HB.out)) hb); clear BK179; clear HB; have BK179 := n0_; have HB := n1_; clear n0_ n1_; (try clear hb); (try clear hb2); (try clear hk); (try clear hi)) | ((with_reducible refine gate_callee (f := 72) rfl ?_); refine goesL_ (some 18) rfl rfl Tryd.func72 (by kernel_rfl) rfl #[.slice A0 l0.length c0, .string a2] rfl (by (try simp only [List.map_toArray, List.map_cons, List.map_nil]); first | done | rfl | (simp only [List.length_drop, List.length_take]; rfl)) ?_; (with_reducible refine (ringworkref01_index.calls k _ _ l0 a2 t181 _ ?side1 ?side2 A7.out).mono ?_); (case side1 => repeat (first | exact (Kd.C_below HR0.out HB.out) | (with_reducible refine Kd.C_alloc ?_ _) | (with_reducible refine Kd.C_drewN ?_ _) | (with_reducible refine Kd.C_drew ?_))); (case side2 => exact HC0.out); rintro e w' ⟨rfl, ⟨nd, rfl⟩⟩; refine ⟨_, rfl, ?_⟩))
      go_ret2
      exact ⟨_, by first | rfl | (simp [errW_none, errW_some] <;> rfl) | (simp [*, errW_none, errW_some] <;> rfl), by first | exact Kd.R_nil _ _ _ _ _ | exact Kd.N_nil _ _ _ _ _ | exact Kd.V_nil _ _ _ _ _ | exact Kd.Q_nil _ _ _ _ _ | exact Kd.S_nil _ _ _ _ _, by repeat (first | (with_reducible first | exact HB.out | apply below_alloc | apply pw_below_drewN | apply below_drew1 | refine below_set ?_ GE179.out) | exact HB.out)⟩
    · rw [if_neg c8] at H
      have c8b0 : decide (t181 < 0) = false := decide_eq_false c8
      clear c8
      replace H := Option.bind_eq_some_iff.mp H
      obtain ⟨t182, A110, H⟩ := H
      replace H : (if t182 = true then (if 0 ≤ t181 then (if t181 < (l0.length : Int) then ((ringworkref01_Holds.f k ((rd_T32 l0 t181).f0) ((rd_T32 l0 t181).f1) ((rd_T32 l0 t181).f2) ((rd_T32 l0 t181).f3) ((rd_T32 l0 t181).f4) a3_0 a3_1 a3_2).bind fun t184 => (if t184 = true then ((some (([] : List (S29)) : List (S29))).bind fun y185 => (if y185.length + l1.length < 4398046511104 then ((some (y185 ++ l1 : List (S29))).bind fun y188 => (if t181 < (y188.length : Int) then (some ((y188.set (t181 : Int).toNat (⟨a3_0, a3_1, a3_2⟩ : S29)), 0)) else (none))) else (none))) else (some (([] : List (S29)), 7)))) else (none)) else (none)) else (some (([] : List (S29)), 1))) = some (r1, r2) := H
      have A11 := Aside0.mk A110
      clear A110
      by_cases c12 : t182 = true
      · subst c12
        have H1 : (if 0 ≤ t181 then (if t181 < (l0.length : Int) then ((ringworkref01_Holds.f k ((rd_T32 l0 t181).f0) ((rd_T32 l0 t181).f1) ((rd_T32 l0 t181).f2) ((rd_T32 l0 t181).f3) ((rd_T32 l0 t181).f4) a3_0 a3_1 a3_2).bind fun t184 => (if t184 = true then ((some (([] : List (S29)) : List (S29))).bind fun y185 => (if y185.length + l1.length < 4398046511104 then ((some (y185 ++ l1 : List (S29))).bind fun y188 => (if t181 < (y188.length : Int) then (some ((y188.set (t181 : Int).toNat (⟨a3_0, a3_1, a3_2⟩ : S29)), 0)) else (none))) else (none))) else (some (([] : List (S29)), 7)))) else (none)) else (none)) = some (r1, r2) := by rw [if_pos rfl] at H; exact H
        clear H
        have H := H1
        clear H1
        by_cases c13 : 0 ≤ t181
        · rw [if_pos c13] at H
          have c13b0 : decide (0 ≤ t181) = true := decide_eq_true c13
          clear c13
          by_cases c14 : t181 < (l0.length : Int)
          · rw [if_pos c14] at H
            have c14b0 : decide (t181 < (l0.length : Int)) = true := decide_eq_true c14
            clear c14
            replace H := Option.bind_eq_some_iff.mp H
            obtain ⟨t184, A150, H⟩ := H
            replace H : (if t184 = true then ((some (([] : List (S29)) : List (S29))).bind fun y185 => (if y185.length + l1.length < 4398046511104 then ((some (y185 ++ l1 : List (S29))).bind fun y188 => (if t181 < (y188.length : Int) then (some ((y188.set (t181 : Int).toNat (⟨a3_0, a3_1, a3_2⟩ : S29)), 0)) else (none))) else (none))) else (some (([] : List (S29)), 7))) = some (r1, r2) := H
            have A15 := Aside0.mk A150
            clear A150
            by_cases c16 : t184 = true
            · subst c16
              have H1 : ((some (([] : List (S29)) : List (S29))).bind fun y185 => (if y185.length + l1.length < 4398046511104 then ((some (y185 ++ l1 : List (S29))).bind fun y188 => (if t181 < (y188.length : Int) then (some ((y188.set (t181 : Int).toNat (⟨a3_0, a3_1, a3_2⟩ : S29)), 0)) else (none))) else (none))) = some (r1, r2) := by rw [if_pos rfl] at H; exact H
              clear H
              have H := H1
              clear H1
              obtain ⟨y185, hy185⟩ : ∃ y_ : List (S29), y_ = (([] : List (S29))) := ⟨_, rfl⟩
              replace H : (if y185.length + l1.length < 4398046511104 then ((some (y185 ++ l1 : List (S29))).bind fun y188 => (if t181 < (y188.length : Int) then (some ((y188.set (t181 : Int).toNat (⟨a3_0, a3_1, a3_2⟩ : S29)), 0)) else (none))) else (none)) = some (r1, r2) := by first | (rw [hy185]; with_reducible exact H) | (have H2_ := (Option.bind_some _ _).symm.trans H; rw [hy185]; with_reducible exact H2_) | (have H2_ := (Option.bind_some _ _).symm.trans H; with_reducible exact H2_) | with_reducible exact H | (rw [hy185]; exact H) | exact H
              have Ny185 := Aside0.mk hy185
              clear hy185
              by_cases c17 : y185.length + l1.length < 4398046511104
              · rw [if_pos c17] at H
                have LMc17 := Aside0.mk c17
                clear c17
                obtain ⟨y188, hy188⟩ : ∃ y_ : List (S29), y_ = (y185 ++ l1) := ⟨_, rfl⟩
                replace H : (if t181 < (y188.length : Int) then (some ((y188.set (t181 : Int).toNat (⟨a3_0, a3_1, a3_2⟩ : S29)), 0)) else (none)) = some (r1, r2) := by first | (rw [hy188]; with_reducible exact H) | (have H2_ := (Option.bind_some _ _).symm.trans H; rw [hy188]; with_reducible exact H2_) | (have H2_ := (Option.bind_some _ _).symm.trans H; with_reducible exact H2_) | with_reducible exact H | (rw [hy188]; exact H) | exact H
                have Ny188 := Aside0.mk hy188
                clear hy188
                by_cases c18 : t181 < (y188.length : Int)
                · rw [if_pos c18] at H
                  have c18b0 : decide (t181 < (y188.length : Int)) = true := decide_eq_true c18
                  clear c18
                  obtain ⟨y191, hy191⟩ : ∃ y_ : List (S29), y_ = (y188.set (t181 : Int).toNat (⟨a3_0, a3_1, a3_2⟩ : S29)) := ⟨_, rfl⟩
                  replace H : (some (y191, 0)) = some (r1, r2) := by first | (rw [hy191]; with_reducible exact H) | (have H2_ := (Option.bind_some _ _).symm.trans H; rw [hy191]; with_reducible exact H2_) | (have H2_ := (Option.bind_some _ _).symm.trans H; with_reducible exact H2_) | with_reducible exact H | (rw [hy191]; exact H) | exact H
                  have Ny191 := Aside0.mk hy191
                  clear hy191
                  simp only [Option.some.injEq, Prod.mk.injEq] at H
                  obtain ⟨rfl, rfl⟩ := H
                  go_enter Tryd.func41, Tryd.ntmps41
                  try go_wp2_with (first | ((with_reducible refine gate_dst (N := 7) rfl ?_); refine box_event ?hg (N := 7) ?hd (cs := #[.int .i64 a3_0, .int .i64 a3_1, .string a3_2]) (t := 29) ?hr ?_; (case hd => rfl); (case hg => rfl); (case hr => first | (go_simp; done) | (go_simp; rfl)); intro gb179 hg w20 hbox hb; have n0_ := Aside0.mk (below_step (by repeat (first | (with_reducible first | exact HB.out | apply below_alloc | apply pw_below_drewN | apply below_drew1) | exact HB.out)) hb); have n1_ := Aside0.mk (hbox); have n2_ := Aside0.mk ((by rw [hg]; exact (below_size (by repeat (first | (with_reducible first | exact HB.out | apply below_alloc | apply pw_below_drewN | apply below_drew1) | exact HB.out))) : w.heap.size ≤ gb179)); have n3_ := Aside0.mk ((by rw [hg]; exact (below_size (by repeat (first | (with_reducible first | exact HB.out | apply below_alloc | apply pw_below_drewN | apply below_drew1) | exact HB.out))) : w.heap.size ≤ gb179)); clear HB; have HB := n0_; have BK179 := n1_; have GW179 := n2_; have GE179 := n3_; clear n0_ n1_ n2_ n3_; clear hb hbox hg) | ((with_reducible refine gate_callee (f := 23) rfl ?_); refine goesL_ (some 14) rfl rfl Tryd.func23 (by kernel_rfl) rfl #[.slice A0 l0.length c0, .slice A1 l1.length c1] rfl (by (try simp only [List.map_toArray, List.map_cons, List.map_nil]); first | done | rfl | (simp only [List.length_drop, List.length_take]; rfl)) ?_; (with_reducible refine (ringworkref01_Fits.calls k _ _ l0 _ _ l1 true _ ?side1 ?side2 ?side3 ?side4 A5.out).mono ?_); (case side1 => repeat (first | exact (Kd.C_below HR0.out HB.out) | (with_reducible refine Kd.C_alloc ?_ _) | (with_reducible refine Kd.C_drewN ?_ _) | (with_reducible refine Kd.C_drew ?_))); (case side2 => exact HC0.out); (case side3 => repeat (first | exact (Kd.C_below HR1.out HB.out) | (with_reducible refine Kd.C_alloc ?_ _) | (with_reducible refine Kd.C_drewN ?_ _) | (with_reducible refine Kd.C_drew ?_))); (case side4 => exact HC1.out); rintro e w21 ⟨rfl, hb⟩; refine ⟨_, rfl, ?_⟩; have n0_ := Aside0.mk (blk_below (g := gb179) (o := .cells #[.int .i64 a3_0, .int .i64 a3_1, .string a3_2] 29 (0, 0)) (by (with_reducible repeat (first | refine blk_drewN ?_ _ | refine blk_drew ?_ | refine blk_alloc ?_ _)); exact BK179.out) hb); have n1_ := Aside0.mk (below_step (by repeat (first | (with_reducible first | exact HB.out | apply below_alloc | apply pw_below_drewN | apply below_drew1 | refine below_set ?_ GE179.out) | exact HB.out)) hb); clear BK179; clear HB; have BK179 := n0_; have HB := n1_; clear n0_ n1_; (try clear hb); (try clear hb2); (try clear hk); (try clear hi)) | ((with_reducible refine gate_callee (f := 72) rfl ?_); refine goesL_ (some 18) rfl rfl Tryd.func72 (by kernel_rfl) rfl #[.slice A0 l0.length c0, .string a2] rfl (by (try simp only [List.map_toArray, List.map_cons, List.map_nil]); first | done | rfl | (simp only [List.length_drop, List.length_take]; rfl)) ?_; (with_reducible refine (ringworkref01_index.calls k _ _ l0 a2 t181 _ ?side1 ?side2 A7.out).mono ?_); (case side1 => repeat (first | exact (Kd.C_below HR0.out HB.out) | (with_reducible refine Kd.C_alloc ?_ _) | (with_reducible refine Kd.C_drewN ?_ _) | (with_reducible refine Kd.C_drew ?_))); (case side2 => exact HC0.out); rintro e w' ⟨rfl, ⟨nd, rfl⟩⟩; refine ⟨_, rfl, ?_⟩; (try (rw [drewN_self w21]; generalize hq_ : World.drewN w21 _ = w21; have n0_ : Aside0 (w21.heap[gb179]? = some (.cells #[.int .i64 a3_0, .int .i64 a3_1, .string a3_2] 29 (0, 0))) := ⟨by rw [← hq_]; exact (by (with_reducible repeat (first | refine blk_drewN ?_ _ | refine blk_drew ?_ | refine blk_alloc ?_ _)); exact BK179.out)⟩; have n1_ : Aside0 (Below w.heap.size w w21) := ⟨by rw [← hq_]; exact (by repeat (first | (with_reducible first | exact HB.out | apply below_alloc | apply pw_below_drewN | apply below_drew1 | refine below_set ?_ GE179.out) | exact HB.out))⟩; clear BK179 HB hq_; have BK179 := n0_; have HB := n1_; clear n0_ n1_)); have hcz22_0 : w21.cell? ⟨gb179, 0, none⟩ = some (.int .i64 a3_0) := (blk_cell BK179.out 0).trans rfl; have hcz22_1 : w21.cell? ⟨gb179, 1, none⟩ = some (.int .i64 a3_1) := (blk_cell BK179.out 1).trans rfl; have hcz22_2 : w21.cell? ⟨gb179, 2, none⟩ = some (.string a3_2) := (blk_cell BK179.out 2).trans rfl; have hfz22_0 := blk_frozen BK179.out 0; have hfz22_1 := blk_frozen BK179.out 1; have hfz22_2 := blk_frozen BK179.out 2) | ((with_reducible refine gate_callee (f := 13) rfl ?_); refine goesL_ (some 24) rfl rfl Tryd.func13 (by kernel_rfl) rfl #[.agg #[.int .i64 a3_0, .int .i64 a3_1, .string a3_2]] rfl (by (try simp only [List.map_toArray, List.map_cons, List.map_nil]); first | done | rfl | (simp only [List.length_drop, List.length_take]; rfl)) ?_; (with_reducible refine (ringworkref01_ValidValue.calls a3_0 a3_1 a3_2 true _ A11.out).mono ?_); rintro e w23 ⟨rfl, hb⟩; refine ⟨_, rfl, ?_⟩; have n0_ := Aside0.mk (blk_below (g := gb179) (o := .cells #[.int .i64 a3_0, .int .i64 a3_1, .string a3_2] 29 (0, 0)) (by (with_reducible repeat (first | refine blk_drewN ?_ _ | refine blk_drew ?_ | refine blk_alloc ?_ _)); exact BK179.out) hb); have n1_ := Aside0.mk (below_step (by repeat (first | (with_reducible first | exact HB.out | apply below_alloc | apply pw_below_drewN | apply below_drew1 | refine below_set ?_ GE179.out) | exact HB.out)) hb); clear BK179; clear HB; have BK179 := n0_; have HB := n1_; clear n0_ n1_; (try clear hb); (try clear hb2); (try clear hk); (try clear hi)))
                  have n0_ := Aside0.mk (blk_drew BK179.out)
                  have n1_ := Aside0.mk (below_drew1 HB.out)
                  clear BK179
                  clear HB
                  have BK179 := n0_
                  have HB := n1_
                  clear n0_ n1_
                  have p183 : 0 ≤ (t181 : Int) := of_decide_eq_true (by first | (with_reducible assumption) | assumption)
                  have q183 : t181 < (l0.length : Int) := of_decide_eq_true (by first | (with_reducible assumption) | assumption)
                  obtain ⟨ad183, e183, hx183_0, hx183_1, hx183_2, hx183_3, hx183_4⟩ := at_T32 HR0.out t181 p183 q183
                  have hw183_4 := hx183_4
                  have hw183_3 := hx183_3
                  have hw183_2 := hx183_2
                  have hw183_1 := hx183_1
                  have hw183_0 := hx183_0
                  cases e183
                  replace hx183_0 := (HB.out.cell (World.block_lt_of_cell? w _ hx183_0)).trans hx183_0
                  replace hx183_1 := (HB.out.cell (World.block_lt_of_cell? w _ hx183_1)).trans hx183_1
                  replace hx183_2 := (HB.out.cell (World.block_lt_of_cell? w _ hx183_2)).trans hx183_2
                  replace hx183_3 := (HB.out.cell (World.block_lt_of_cell? w _ hx183_3)).trans hx183_3
                  replace hx183_4 := (HB.out.cell (World.block_lt_of_cell? w _ hx183_4)).trans hx183_4
                  replace p183 := eq_true p183
                  replace q183 := eq_true q183
                  refine start_ (n := 8) (S := fun w' => w'.cell? ⟨gb179, 0, none⟩ = some (.int .i64 a3_0) ∧ w'.cell? ⟨gb179, 1, none⟩ = some (.int .i64 a3_1) ∧ w'.cell? ⟨gb179, 2, none⟩ = some (.string a3_2) ∧ w'.cell? (ad183.add ((t181).toNat * 5)) = some (.string ((rd_T32 l0 t181).f0)) ∧ w'.cell? ⟨(ad183.add ((t181).toNat * 5)).block, (ad183.add ((t181).toNat * 5)).off + 1, none⟩ = some (.int .i64 ((rd_T32 l0 t181).f1)) ∧ w'.cell? ⟨(ad183.add ((t181).toNat * 5)).block, (ad183.add ((t181).toNat * 5)).off + 2, none⟩ = some (.int .i64 ((rd_T32 l0 t181).f2)) ∧ w'.cell? ⟨(ad183.add ((t181).toNat * 5)).block, (ad183.add ((t181).toNat * 5)).off + 3, none⟩ = some (.int .i64 ((rd_T32 l0 t181).f3)) ∧ w'.cell? ⟨(ad183.add ((t181).toNat * 5)).block, (ad183.add ((t181).toNat * 5)).off + 4, none⟩ = some (.int .i64 ((rd_T32 l0 t181).f4))) (ds := []) #[false, false, false, false, false, false, false, false] (by kernel_rfl) rfl rfl ⟨(blk_cell BK179.out 0).trans rfl, (blk_cell BK179.out 1).trans rfl, (blk_cell BK179.out 2).trans rfl, ((HB.out.cell (World.block_lt_of_cell? w _ hw183_0)).trans hw183_0), ((HB.out.cell (World.block_lt_of_cell? w _ hw183_1)).trans hw183_1), ((HB.out.cell (World.block_lt_of_cell? w _ hw183_2)).trans hw183_2), ((HB.out.cell (World.block_lt_of_cell? w _ hw183_3)).trans hw183_3), ((HB.out.cell (World.block_lt_of_cell? w _ hw183_4)).trans hw183_4)⟩ (fun hHeld => ?_); refine with_tabW ringworkref01_Put.tab8 ringworkref01_Put.bits8 (fun HT_ HW_ => ?_)
                  generalize w23.drew = w24 at BK179 HB hx183_0 hx183_1 hx183_2 hx183_3 hx183_4 hHeld ⊢
                  refine pure_ (i := 0) (N := some 27) (v := ?_) (a' := ?_) #[true, false, false, false, false, false, false, false] rfl rfl (any_of HT_.out (by kernel_rfl)) (fun _ _ _ h => h) (Or.inl ⟨by rfl, ?_⟩) ?_ ?_
                  rotate_left
                  · intro w'
                    go_simp
                    with_reducible rfl
                  rotate_left
                  · simp only [Act.put, List.setIfInBounds_toArray, List.set_cons_zero, List.set_cons_succ, i64_w, i32_w]
                    rfl
                  refine pure_ (i := 1) (N := some 28) (v := ?_) (a' := ?_) #[true, true, false, false, false, false, false, false] rfl rfl (any_of HT_.out (by kernel_rfl)) (fun _ _ _ h => h) (Or.inl ⟨by rfl, ?_⟩) ?_ ?_
                  rotate_left
                  · intro w'
                    go_simp
                    with_reducible rfl
                  rotate_left
                  · simp only [Act.put, List.setIfInBounds_toArray, List.set_cons_zero, List.set_cons_succ, i64_w, i32_w]
                    rfl
                  refine pure_ (i := 2) (N := some 29) (v := ?_) (a' := ?_) #[true, true, true, false, false, false, false, false] rfl rfl (any_of HT_.out (by kernel_rfl)) (fun _ _ _ h => h) (Or.inl ⟨by rfl, ?_⟩) ?_ ?_
                  rotate_left
                  · intro w'
                    go_simp
                    with_reducible rfl
                  rotate_left
                  · simp only [Act.put, List.setIfInBounds_toArray, List.set_cons_zero, List.set_cons_succ, i64_w, i32_w]
                    rfl
                  refine take_ (i := 3) (N := some 30) (v := ?_) (a' := ?_) #[true, true, true, true, false, false, false, false] rfl rfl (take_ofW HT_.out HW_.out (by kernel_rfl)) (fun _ _ _ h => h) (Or.inl ⟨by rfl, ?_⟩) hHeld ?_ ?_
                  rotate_left
                  · rintro w' ⟨s0, s1, s2, s3, s4, s5, s6, s7⟩
                    go_simp
                    with_reducible rfl
                  rotate_left
                  · simp only [Act.put, List.setIfInBounds_toArray, List.set_cons_zero, List.set_cons_succ, i64_w, i32_w]
                    rfl
                  refine take_ (i := 4) (N := some 31) (v := ?_) (a' := ?_) #[true, true, true, true, true, false, false, false] rfl rfl (take_ofW HT_.out HW_.out (by kernel_rfl)) (fun _ _ _ h => h) (Or.inl ⟨by rfl, ?_⟩) hHeld ?_ ?_
                  rotate_left
                  · rintro w' ⟨s0, s1, s2, s3, s4, s5, s6, s7⟩
                    go_simp
                    with_reducible rfl
                  rotate_left
                  · simp only [Act.put, List.setIfInBounds_toArray, List.set_cons_zero, List.set_cons_succ, i64_w, i32_w]
                    rfl
                  refine one_ (i := 5) (N := some 32) #[true, true, true, true, true, true, false, false] rfl rfl (one_of HT_.out (by kernel_rfl)) (by decide) (fun K hK => ?_)
                  refine goes_ Tryd.func63 (by kernel_rfl) rfl #[.agg #[.string ((rd_T32 l0 t181).f0), .int .i64 ((rd_T32 l0 t181).f1), .int .i64 ((rd_T32 l0 t181).f2), .int .i64 ((rd_T32 l0 t181).f3), .int .i64 ((rd_T32 l0 t181).f4)], .agg #[.int .i64 a3_0, .int .i64 a3_1, .string a3_2]] (by rfl) rfl rfl (by (try simp only [List.map_toArray, List.map_cons, List.map_nil]); first | done | rfl | (simp only [List.length_drop, List.length_take]; rfl)) ?_
                  with_reducible refine (ringworkref01_Holds.calls k ((rd_T32 l0 t181).f0) ((rd_T32 l0 t181).f1) ((rd_T32 l0 t181).f2) ((rd_T32 l0 t181).f3) ((rd_T32 l0 t181).f4) a3_0 a3_1 a3_2 true _ A15.out).mono ?_
                  rintro e w25 ⟨rfl, hb⟩
                  refine ⟨_, rfl, ?_⟩
                  have n0_ := Aside0.mk (blk_below (g := gb179) (o := .cells #[.int .i64 a3_0, .int .i64 a3_1, .string a3_2] 29 (0, 0)) (by (with_reducible repeat (first | refine blk_drewN ?_ _ | refine blk_drew ?_ | refine blk_alloc ?_ _)); exact BK179.out) hb)
                  have n1_ := Aside0.mk (below_step (by repeat (first | (with_reducible first | exact HB.out | apply below_alloc | apply pw_below_drewN | apply below_drew1 | refine below_set ?_ GE179.out) | exact HB.out)) hb)
                  clear BK179
                  clear HB
                  have BK179 := n0_
                  have HB := n1_
                  clear n0_ n1_
                  (try clear hb)
                  (try clear hb2)
                  (try clear hk)
                  (try clear hi)
                  refine hK.out _ _ ⟨(blk_cell BK179.out 0).trans rfl, (blk_cell BK179.out 1).trans rfl, (blk_cell BK179.out 2).trans rfl, ((HB.out.cell (World.block_lt_of_cell? w _ hw183_0)).trans hw183_0), ((HB.out.cell (World.block_lt_of_cell? w _ hw183_1)).trans hw183_1), ((HB.out.cell (World.block_lt_of_cell? w _ hw183_2)).trans hw183_2), ((HB.out.cell (World.block_lt_of_cell? w _ hw183_3)).trans hw183_3), ((HB.out.cell (World.block_lt_of_cell? w _ hw183_4)).trans hw183_4)⟩ (fun hHeld => ?_)
                  clear hK K
                  refine norm_ (a' := ?_) ?_ ?_
                  rotate_left
                  · show Act.put _ (some 32) _ = _
                    simp only [Act.put, List.setIfInBounds_toArray, List.set_cons_zero, List.set_cons_succ, i64_w, i32_w]
                    rfl
                  refine pure_ (i := 6) (N := some 33) (v := ?_) (a' := ?_) #[true, true, true, true, true, true, true, false] rfl rfl (any_of HT_.out (by kernel_rfl)) (fun _ _ _ h => h) (Or.inl ⟨by rfl, ?_⟩) ?_ ?_
                  rotate_left
                  · intro w'
                    go_simp
                    with_reducible rfl
                  rotate_left
                  · simp only [Act.put, List.setIfInBounds_toArray, List.set_cons_zero, List.set_cons_succ, i64_w, i32_w]
                    rfl
                  refine pure_ (i := 7) (N := some 26) (v := ?_) (a' := ?_) #[true, true, true, true, true, true, true, true] rfl rfl (any_of HT_.out (by kernel_rfl)) (fun _ _ _ h => h) (Or.inl ⟨by rfl, ?_⟩) ?_ ?_
                  rotate_left
                  · intro w'
                    go_simp
                    with_reducible rfl
                  rotate_left
                  · simp only [Act.put, List.setIfInBounds_toArray, List.set_cons_zero, List.set_cons_succ, i64_w, i32_w]
                    rfl
                  refine done_ (done_of HT_.out (by kernel_rfl)) ?_
                  try go_wp2_with (first | ((with_reducible refine gate_dst (N := 34) rfl ?_); refine Kd.R_lit k29 _ 29 ?hg (N := 34) ?hd (xs := ([] : List (S29))) (inner := []) (ok := fun _ => True) (okp := fun _ => True) ?hr ?hp (fun _ hk => hk) trivial (Below.refl _ _) (Nat.le_refl _) (by simp) ?_; (case hd => rfl); (case hg => rfl); (case hr => first | (go_simp; done) | (go_simp; rfl)); (case hp => exact (Reps.none _ _)); intro v186 w26 ho27 hb hg_ hnew_; clear hg_ hnew_; (first | rw [← Ny185.out] at ho27 | (simp only [Int.reduceToNat] at ho27; rw [← Ny185.out] at ho27)); have n0_ := Aside0.mk (Kd.R_lower (Kd.R_newB ho27 (g := gb179) (o := .cells #[.int .i64 a3_0, .int .i64 a3_1, .string a3_2] 29 (0, 0)) (by (with_reducible repeat (first | refine blk_drewN ?_ _ | refine blk_drew ?_ | refine blk_alloc ?_ _)); exact BK179.out)) (below_size (by repeat (first | (with_reducible first | exact HB.out | apply below_alloc | apply pw_below_drewN | apply below_drew1 | refine below_set ?_ GE179.out) | exact HB.out)))); have n1_ := Aside0.mk (blk_below (g := gb179) (o := .cells #[.int .i64 a3_0, .int .i64 a3_1, .string a3_2] 29 (0, 0)) (by (with_reducible repeat (first | refine blk_drewN ?_ _ | refine blk_drew ?_ | refine blk_alloc ?_ _)); exact BK179.out) hb); have n2_ := Aside0.mk (below_step (by repeat (first | (with_reducible first | exact HB.out | apply below_alloc | apply pw_below_drewN | apply below_drew1 | refine below_set ?_ GE179.out) | exact HB.out)) hb); clear BK179; clear HB; have HO187 := n0_; have BK179 := n1_; have HB := n2_; clear n0_ n1_ n2_; clear hb ho27) | ((with_reducible refine gate_builtin (b := .append) (xs := #[.tmp 34, .tmp 35]) rfl ?_); at_builtin; refine Kd.R_append_rows k29 (w0 := w) w.heap.size rfl (.tmp 34) (.tmp 35) 23 29 (.agg #[(.int .i64 0), (.int .i64 0), (.string ⟨#[]⟩)]) 32 rfl Tryd.underlying23 info29 rfl (by decide) (by omega) v186 y185 l1 _ _ _ (fun k_ => k_ ≠ gb179) (fun _ => False) rfl rfl ?aO ?aR (fun _ _ h => h) (fun _ h => h.elim) ?aF ?aB ?aS ?aL ?_; (case aR => repeat (first | exact (Kd.C_below HR1.out HB.out) | (with_reducible refine Kd.C_alloc ?_ _) | (with_reducible refine Kd.C_drewN ?_ _) | (with_reducible refine Kd.C_drew ?_))); (case aB => exact (by repeat (first | (with_reducible first | exact HB.out | apply below_alloc | apply pw_below_drewN | apply below_drew1 | refine below_set ?_ GE179.out) | exact HB.out))); (case aF => exact (fun k_ hk => Kd.freshB (g := gb179) (o := .cells #[.int .i64 a3_0, .int .i64 a3_1, .string a3_2] 29 (0, 0)) (by (with_reducible repeat (first | refine blk_drewN ?_ _ | refine blk_drew ?_ | refine blk_alloc ?_ _)); exact BK179.out) k_ hk)); (case aO => exact (by (with_reducible repeat (first | apply Kd.R_alloc | apply Kd.R_drewN | apply Kd.R_drew)); exact Kd.R_mono HO187.out (fun _ hk => hk.2))); (case aS => exact (below_size (by repeat (first | (with_reducible first | exact HB.out | apply below_alloc | apply pw_below_drewN | apply below_drew1 | refine below_set ?_ GE179.out) | exact HB.out)))); (case aL => have := LMc17.out; omega); intro v189 w28 ho hb hg hat; rw [← Ny188.out] at ho; have n0_ := Aside0.mk (blk_grown (g := gb179) (o := .cells #[.int .i64 a3_0, .int .i64 a3_1, .string a3_2] 29 (0, 0)) (by (with_reducible repeat (first | refine blk_drewN ?_ _ | refine blk_drew ?_ | refine blk_alloc ?_ _)); exact BK179.out) hg (Kd.R_away HO187.out (fun _ hk => hk.2))); have n1_ := Aside0.mk (hb); have n2_ := Aside0.mk (ho); clear BK179; clear HB; clear HO187; have BK179 := n0_; have HB := n1_; have HO190 := n2_; clear n0_ n1_ n2_; clear ho hb hg hat; have hcz29_0 : w28.cell? ⟨gb179, 0, none⟩ = some (.int .i64 a3_0) := (blk_cell BK179.out 0).trans rfl; have hcz29_1 : w28.cell? ⟨gb179, 1, none⟩ = some (.int .i64 a3_1) := (blk_cell BK179.out 1).trans rfl; have hcz29_2 : w28.cell? ⟨gb179, 2, none⟩ = some (.string a3_2) := (blk_cell BK179.out 2).trans rfl; have hfz29_0 := blk_frozen BK179.out 0; have hfz29_1 := blk_frozen BK179.out 1; have hfz29_2 := blk_frozen BK179.out 2; have p19 : 0 ≤ (t181 : Int) := of_decide_eq_true (by first | (with_reducible assumption) | assumption); have q19 : (t181 : Int) < ((y188.length : Int) : Int) := of_decide_eq_true (by first | (with_reducible assumption) | assumption); obtain ⟨go19, co19, eo19, gb19, gl19, cl19, HG19⟩ := Kd.R_form HO190.out (by omega); (first | cases eo19 | (injection eo19 with ea_ en_ ec_; (first | subst ea_ | (injection ea_ with ea_; subst ea_)); subst ec_; clear en_)); have GB19 := Aside0.mk gb19; have GG19 := Aside0.mk HG19; clear gb19 gl19 HG19; obtain ⟨ce19, hcl19, hM19, hcc19, hfr19⟩ := Kd.R_elem HO190.out z29 (t181 : Int) p19 q19; obtain rfl := k29_openM hM19; have hx19_0 : w28.cell? ⟨go19, (t181 : Int).toNat * 3, none⟩ = some (.int .i64 ((rd_T29 y188 t181).f0)) := hcc19 0 _ rfl; have hx19_1 : w28.cell? ⟨go19, (t181 : Int).toNat * 3 + 1, none⟩ = some (.int .i64 ((rd_T29 y188 t181).f1)) := hcc19 1 _ rfl; have hx19_2 : w28.cell? ⟨go19, (t181 : Int).toNat * 3 + 2, none⟩ = some (.string ((rd_T29 y188 t181).f2)) := hcc19 2 _ rfl; have hf19_0 : w28.frozen? ⟨go19, (t181 : Int).toNat * 3, none⟩ = false := hfr19 0; have hf19_1 : w28.frozen? ⟨go19, (t181 : Int).toNat * 3 + 1, none⟩ = false := hfr19 1; have hf19_2 : w28.frozen? ⟨go19, (t181 : Int).toNat * 3 + 2, none⟩ = false := hfr19 2; clear hcl19 hcc19 hfr19 hM19; replace p19 := eq_true p19; replace q19 := eq_true q19; have HX30 := Aside0.mk (show Kd.R k29 29 w28 w.heap.size (fun k_ => k_ ≠ gb179) (.slice (some ⟨go19, 0, none⟩) y188.length co19) y188 from (by (with_reducible repeat (first | apply Kd.R_alloc | apply Kd.R_drewN | apply Kd.R_drew)); exact HO190.out)); obtain ⟨ce30, hcl30, hM30, hcc30, hfr30⟩ := Kd.R_elem HX30.out z29 (t181 : Int) (of_decide_eq_true (by first | (with_reducible assumption) | assumption)) (by have h_ : (t181 : Int) < ((y188.length : Int) : Int) := of_decide_eq_true (by first | (with_reducible assumption) | assumption); first | exact h_ | (have e_ := (Kd.R_reads' HO190.out).1; omega) | simpa using h_); obtain rfl := k29_openM hM30; have HP30 := Kd.R_seg HX30.out (t181 : Int) (of_decide_eq_true (by first | (with_reducible assumption) | assumption)) (by have h_ : (t181 : Int) < ((y188.length : Int) : Int) := of_decide_eq_true (by first | (with_reducible assumption) | assumption); first | exact h_ | (have e_ := (Kd.R_reads' HO190.out).1; omega) | simpa using h_) (seg := [.int .i64 a3_0, .int .i64 a3_1, .string a3_2]) (j := 0) hcl30 hcc30 (show 3 ≤ 3 from by decide) (x' := (⟨a3_0, a3_1, a3_2⟩ : S29)) (k29_mkM _ _ _ (⟨a3_0, a3_1, a3_2⟩ : S29) ) (fun _ hk => hk); have hx30_0 := hcc30 0 _ rfl; (try simp only [show (k29).sz = 3 from rfl, Nat.mul_one, Nat.add_zero] at hx30_0); have hf30_0 := hfr30 0; (try simp only [show (k29).sz = 3 from rfl, Nat.mul_one, Nat.add_zero] at hf30_0); have hx30_1 := hcc30 1 _ rfl; (try simp only [show (k29).sz = 3 from rfl, Nat.mul_one, Nat.add_zero] at hx30_1); have hf30_1 := hfr30 1; (try simp only [show (k29).sz = 3 from rfl, Nat.mul_one, Nat.add_zero] at hf30_1); have hx30_2 := hcc30 2 _ rfl; (try simp only [show (k29).sz = 3 from rfl, Nat.mul_one, Nat.add_zero] at hx30_2); have hf30_2 := hfr30 2; (try simp only [show (k29).sz = 3 from rfl, Nat.mul_one, Nat.add_zero] at hf30_2); clear hcl30 hcc30 hfr30 hM30) | ((with_reducible refine gate_store (t := 29) (p := 40) rfl ?_); refine store_event (t := 29) (p := 40) (v := ?vo_w31) (w1 := (((w28.setCell ⟨go19, (t181 : Int).toNat * 3, none⟩ (.int .i64 a3_0)).setCell ⟨go19, (t181 : Int).toNat * 3 + 1, none⟩ (.int .i64 a3_1)).setCell ⟨go19, (t181 : Int).toNat * 3 + 2, none⟩ (.string a3_2))) ?hg ?ho ?hn ?hr ?_; (case ho => rfl); (case hg => rfl); (case hn => rfl); (case hr => first | (go_simp; done) | (go_simp; rfl)); intro w31 hw; have hg : w28.grownBy w31 (some go19) := (by rw [hw]; exact HP30.2); have hp_ : Kd.R k29 29 w31 w.heap.size (fun k_ => k_ ≠ gb179) (.slice (some ⟨go19, 0, none⟩) y188.length co19) y191 := (by rw [hw, Ny191.out]; exact HP30.1); clear HP30; have n0_ := Aside0.mk (blk_grown (g := gb179) (o := .cells #[.int .i64 a3_0, .int .i64 a3_1, .string a3_2] 29 (0, 0)) (by (with_reducible repeat (first | refine blk_drewN ?_ _ | refine blk_drew ?_ | refine blk_alloc ?_ _)); exact BK179.out) hg (Kd.R_away HO190.out (fun _ hk => hk))); have n1_ := Aside0.mk (hp_); have n2_ := Aside0.mk ((by rw [hw]; exact below_set (below_set (below_set (HB.out) GB19.out) GB19.out) GB19.out : Below w.heap.size w w31)); clear BK179; clear HO190; clear HB; have BK179 := n0_; have HO190 := n1_; have HB := n2_; clear n0_ n1_ n2_; clear hg hw hp_))
                  go_ret2
                  exact ⟨_, by first | rfl | (simp [errW_none, errW_some] <;> rfl) | (simp [*, errW_none, errW_some] <;> rfl), by (with_reducible repeat (first | apply Kd.R_alloc | apply Kd.R_drewN | apply Kd.R_drew)); exact Kd.R_mono HO190.out (fun _ hk => trivial), by repeat (first | (with_reducible first | exact HB.out | apply below_alloc | apply pw_below_drewN | apply below_drew1 | refine below_set ?_ GE179.out) | exact HB.out)⟩
                · rw [if_neg c18] at H
                  exact absurd H (by simp)
              · rw [if_neg c17] at H
                exact absurd H (by simp)
            · replace c16 := Bool.eq_false_iff.mpr c16
              subst c16
              have H1 : (some (([] : List (S29)), 7)) = some (r1, r2) := by rw [if_neg (show ¬ (false = true) by decide)] at H; exact H
              clear H
              have H := H1
              clear H1
              simp only [Option.some.injEq, Prod.mk.injEq] at H
              obtain ⟨rfl, rfl⟩ := H
              go_enter Tryd.func41, Tryd.ntmps41
              try go_wp2_with (first | ((with_reducible refine gate_dst (N := 7) rfl ?_); refine box_event ?hg (N := 7) ?hd (cs := #[.int .i64 a3_0, .int .i64 a3_1, .string a3_2]) (t := 29) ?hr ?_; (case hd => rfl); (case hg => rfl); (case hr => first | (go_simp; done) | (go_simp; rfl)); intro gb179 hg w32 hbox hb; have n0_ := Aside0.mk (below_step (by repeat (first | (with_reducible first | exact HB.out | apply below_alloc | apply pw_below_drewN | apply below_drew1) | exact HB.out)) hb); have n1_ := Aside0.mk (hbox); have n2_ := Aside0.mk ((by rw [hg]; exact (below_size (by repeat (first | (with_reducible first | exact HB.out | apply below_alloc | apply pw_below_drewN | apply below_drew1) | exact HB.out))) : w.heap.size ≤ gb179)); have n3_ := Aside0.mk ((by rw [hg]; exact (below_size (by repeat (first | (with_reducible first | exact HB.out | apply below_alloc | apply pw_below_drewN | apply below_drew1) | exact HB.out))) : w.heap.size ≤ gb179)); clear HB; have HB := n0_; have BK179 := n1_; have GW179 := n2_; have GE179 := n3_; clear n0_ n1_ n2_ n3_; clear hb hbox hg) | ((with_reducible refine gate_callee (f := 23) rfl ?_); refine goesL_ (some 14) rfl rfl Tryd.func23 (by kernel_rfl) rfl #[.slice A0 l0.length c0, .slice A1 l1.length c1] rfl (by (try simp only [List.map_toArray, List.map_cons, List.map_nil]); first | done | rfl | (simp only [List.length_drop, List.length_take]; rfl)) ?_; (with_reducible refine (ringworkref01_Fits.calls k _ _ l0 _ _ l1 true _ ?side1 ?side2 ?side3 ?side4 A5.out).mono ?_); (case side1 => repeat (first | exact (Kd.C_below HR0.out HB.out) | (with_reducible refine Kd.C_alloc ?_ _) | (with_reducible refine Kd.C_drewN ?_ _) | (with_reducible refine Kd.C_drew ?_))); (case side2 => exact HC0.out); (case side3 => repeat (first | exact (Kd.C_below HR1.out HB.out) | (with_reducible refine Kd.C_alloc ?_ _) | (with_reducible refine Kd.C_drewN ?_ _) | (with_reducible refine Kd.C_drew ?_))); (case side4 => exact HC1.out); rintro e w33 ⟨rfl, hb⟩; refine ⟨_, rfl, ?_⟩; have n0_ := Aside0.mk (blk_below (g := gb179) (o := .cells #[.int .i64 a3_0, .int .i64 a3_1, .string a3_2] 29 (0, 0)) (by (with_reducible repeat (first | refine blk_drewN ?_ _ | refine blk_drew ?_ | refine blk_alloc ?_ _)); exact BK179.out) hb); have n1_ := Aside0.mk (below_step (by repeat (first | (with_reducible first | exact HB.out | apply below_alloc | apply pw_below_drewN | apply below_drew1 | refine below_set ?_ GE179.out) | exact HB.out)) hb); clear BK179; clear HB; have BK179 := n0_; have HB := n1_; clear n0_ n1_; (try clear hb); (try clear hb2); (try clear hk); (try clear hi)) | ((with_reducible refine gate_callee (f := 72) rfl ?_); refine goesL_ (some 18) rfl rfl Tryd.func72 (by kernel_rfl) rfl #[.slice A0 l0.length c0, .string a2] rfl (by (try simp only [List.map_toArray, List.map_cons, List.map_nil]); first | done | rfl | (simp only [List.length_drop, List.length_take]; rfl)) ?_; (with_reducible refine (ringworkref01_index.calls k _ _ l0 a2 t181 _ ?side1 ?side2 A7.out).mono ?_); (case side1 => repeat (first | exact (Kd.C_below HR0.out HB.out) | (with_reducible refine Kd.C_alloc ?_ _) | (with_reducible refine Kd.C_drewN ?_ _) | (with_reducible refine Kd.C_drew ?_))); (case side2 => exact HC0.out); rintro e w' ⟨rfl, ⟨nd, rfl⟩⟩; refine ⟨_, rfl, ?_⟩; have hcz34_0 : w33.cell? ⟨gb179, 0, none⟩ = some (.int .i64 a3_0) := (blk_cell BK179.out 0).trans rfl; have hcz34_1 : w33.cell? ⟨gb179, 1, none⟩ = some (.int .i64 a3_1) := (blk_cell BK179.out 1).trans rfl; have hcz34_2 : w33.cell? ⟨gb179, 2, none⟩ = some (.string a3_2) := (blk_cell BK179.out 2).trans rfl; have hfz34_0 := blk_frozen BK179.out 0; have hfz34_1 := blk_frozen BK179.out 1; have hfz34_2 := blk_frozen BK179.out 2) | ((with_reducible refine gate_callee (f := 13) rfl ?_); refine goesL_ (some 24) rfl rfl Tryd.func13 (by kernel_rfl) rfl #[.agg #[.int .i64 a3_0, .int .i64 a3_1, .string a3_2]] rfl (by (try simp only [List.map_toArray, List.map_cons, List.map_nil]); first | done | rfl | (simp only [List.length_drop, List.length_take]; rfl)) ?_; (with_reducible refine (ringworkref01_ValidValue.calls a3_0 a3_1 a3_2 true _ A11.out).mono ?_); rintro e w35 ⟨rfl, hb⟩; refine ⟨_, rfl, ?_⟩; have n0_ := Aside0.mk (blk_below (g := gb179) (o := .cells #[.int .i64 a3_0, .int .i64 a3_1, .string a3_2] 29 (0, 0)) (by (with_reducible repeat (first | refine blk_drewN ?_ _ | refine blk_drew ?_ | refine blk_alloc ?_ _)); exact BK179.out) hb); have n1_ := Aside0.mk (below_step (by repeat (first | (with_reducible first | exact HB.out | apply below_alloc | apply pw_below_drewN | apply below_drew1 | refine below_set ?_ GE179.out) | exact HB.out)) hb); clear BK179; clear HB; have BK179 := n0_; have HB := n1_; clear n0_ n1_; (try clear hb); (try clear hb2); (try clear hk); (try clear hi)))
              have n0_ := Aside0.mk (blk_drew BK179.out)
              have n1_ := Aside0.mk (below_drew1 HB.out)
              clear BK179
              clear HB
              have BK179 := n0_
              have HB := n1_
              clear n0_ n1_
              have p183 : 0 ≤ (t181 : Int) := of_decide_eq_true (by first | (with_reducible assumption) | assumption)
              have q183 : t181 < (l0.length : Int) := of_decide_eq_true (by first | (with_reducible assumption) | assumption)
              obtain ⟨ad183, e183, hx183_0, hx183_1, hx183_2, hx183_3, hx183_4⟩ := at_T32 HR0.out t181 p183 q183
              have hw183_4 := hx183_4
              have hw183_3 := hx183_3
              have hw183_2 := hx183_2
              have hw183_1 := hx183_1
              have hw183_0 := hx183_0
              cases e183
              replace hx183_0 := (HB.out.cell (World.block_lt_of_cell? w _ hx183_0)).trans hx183_0
              replace hx183_1 := (HB.out.cell (World.block_lt_of_cell? w _ hx183_1)).trans hx183_1
              replace hx183_2 := (HB.out.cell (World.block_lt_of_cell? w _ hx183_2)).trans hx183_2
              replace hx183_3 := (HB.out.cell (World.block_lt_of_cell? w _ hx183_3)).trans hx183_3
              replace hx183_4 := (HB.out.cell (World.block_lt_of_cell? w _ hx183_4)).trans hx183_4
              replace p183 := eq_true p183
              replace q183 := eq_true q183
              refine start_ (n := 8) (S := fun w' => w'.cell? ⟨gb179, 0, none⟩ = some (.int .i64 a3_0) ∧ w'.cell? ⟨gb179, 1, none⟩ = some (.int .i64 a3_1) ∧ w'.cell? ⟨gb179, 2, none⟩ = some (.string a3_2) ∧ w'.cell? (ad183.add ((t181).toNat * 5)) = some (.string ((rd_T32 l0 t181).f0)) ∧ w'.cell? ⟨(ad183.add ((t181).toNat * 5)).block, (ad183.add ((t181).toNat * 5)).off + 1, none⟩ = some (.int .i64 ((rd_T32 l0 t181).f1)) ∧ w'.cell? ⟨(ad183.add ((t181).toNat * 5)).block, (ad183.add ((t181).toNat * 5)).off + 2, none⟩ = some (.int .i64 ((rd_T32 l0 t181).f2)) ∧ w'.cell? ⟨(ad183.add ((t181).toNat * 5)).block, (ad183.add ((t181).toNat * 5)).off + 3, none⟩ = some (.int .i64 ((rd_T32 l0 t181).f3)) ∧ w'.cell? ⟨(ad183.add ((t181).toNat * 5)).block, (ad183.add ((t181).toNat * 5)).off + 4, none⟩ = some (.int .i64 ((rd_T32 l0 t181).f4))) (ds := []) #[false, false, false, false, false, false, false, false] (by kernel_rfl) rfl rfl ⟨(blk_cell BK179.out 0).trans rfl, (blk_cell BK179.out 1).trans rfl, (blk_cell BK179.out 2).trans rfl, ((HB.out.cell (World.block_lt_of_cell? w _ hw183_0)).trans hw183_0), ((HB.out.cell (World.block_lt_of_cell? w _ hw183_1)).trans hw183_1), ((HB.out.cell (World.block_lt_of_cell? w _ hw183_2)).trans hw183_2), ((HB.out.cell (World.block_lt_of_cell? w _ hw183_3)).trans hw183_3), ((HB.out.cell (World.block_lt_of_cell? w _ hw183_4)).trans hw183_4)⟩ (fun hHeld => ?_); refine with_tabW ringworkref01_Put.tab8 ringworkref01_Put.bits8 (fun HT_ HW_ => ?_)
              generalize w35.drew = w36 at BK179 HB hx183_0 hx183_1 hx183_2 hx183_3 hx183_4 hHeld ⊢
              refine pure_ (i := 0) (N := some 27) (v := ?_) (a' := ?_) #[true, false, false, false, false, false, false, false] rfl rfl (any_of HT_.out (by kernel_rfl)) (fun _ _ _ h => h) (Or.inl ⟨by rfl, ?_⟩) ?_ ?_
              rotate_left
              · intro w'
                go_simp
                with_reducible rfl
              rotate_left
              · simp only [Act.put, List.setIfInBounds_toArray, List.set_cons_zero, List.set_cons_succ, i64_w, i32_w]
                rfl
              refine pure_ (i := 1) (N := some 28) (v := ?_) (a' := ?_) #[true, true, false, false, false, false, false, false] rfl rfl (any_of HT_.out (by kernel_rfl)) (fun _ _ _ h => h) (Or.inl ⟨by rfl, ?_⟩) ?_ ?_
              rotate_left
              · intro w'
                go_simp
                with_reducible rfl
              rotate_left
              · simp only [Act.put, List.setIfInBounds_toArray, List.set_cons_zero, List.set_cons_succ, i64_w, i32_w]
                rfl
              refine pure_ (i := 2) (N := some 29) (v := ?_) (a' := ?_) #[true, true, true, false, false, false, false, false] rfl rfl (any_of HT_.out (by kernel_rfl)) (fun _ _ _ h => h) (Or.inl ⟨by rfl, ?_⟩) ?_ ?_
              rotate_left
              · intro w'
                go_simp
                with_reducible rfl
              rotate_left
              · simp only [Act.put, List.setIfInBounds_toArray, List.set_cons_zero, List.set_cons_succ, i64_w, i32_w]
                rfl
              refine take_ (i := 3) (N := some 30) (v := ?_) (a' := ?_) #[true, true, true, true, false, false, false, false] rfl rfl (take_ofW HT_.out HW_.out (by kernel_rfl)) (fun _ _ _ h => h) (Or.inl ⟨by rfl, ?_⟩) hHeld ?_ ?_
              rotate_left
              · rintro w' ⟨s0, s1, s2, s3, s4, s5, s6, s7⟩
                go_simp
                with_reducible rfl
              rotate_left
              · simp only [Act.put, List.setIfInBounds_toArray, List.set_cons_zero, List.set_cons_succ, i64_w, i32_w]
                rfl
              refine take_ (i := 4) (N := some 31) (v := ?_) (a' := ?_) #[true, true, true, true, true, false, false, false] rfl rfl (take_ofW HT_.out HW_.out (by kernel_rfl)) (fun _ _ _ h => h) (Or.inl ⟨by rfl, ?_⟩) hHeld ?_ ?_
              rotate_left
              · rintro w' ⟨s0, s1, s2, s3, s4, s5, s6, s7⟩
                go_simp
                with_reducible rfl
              rotate_left
              · simp only [Act.put, List.setIfInBounds_toArray, List.set_cons_zero, List.set_cons_succ, i64_w, i32_w]
                rfl
              refine one_ (i := 5) (N := some 32) #[true, true, true, true, true, true, false, false] rfl rfl (one_of HT_.out (by kernel_rfl)) (by decide) (fun K hK => ?_)
              refine goes_ Tryd.func63 (by kernel_rfl) rfl #[.agg #[.string ((rd_T32 l0 t181).f0), .int .i64 ((rd_T32 l0 t181).f1), .int .i64 ((rd_T32 l0 t181).f2), .int .i64 ((rd_T32 l0 t181).f3), .int .i64 ((rd_T32 l0 t181).f4)], .agg #[.int .i64 a3_0, .int .i64 a3_1, .string a3_2]] (by rfl) rfl rfl (by (try simp only [List.map_toArray, List.map_cons, List.map_nil]); first | done | rfl | (simp only [List.length_drop, List.length_take]; rfl)) ?_
              with_reducible refine (ringworkref01_Holds.calls k ((rd_T32 l0 t181).f0) ((rd_T32 l0 t181).f1) ((rd_T32 l0 t181).f2) ((rd_T32 l0 t181).f3) ((rd_T32 l0 t181).f4) a3_0 a3_1 a3_2 false _ A15.out).mono ?_
              rintro e w37 ⟨rfl, hb⟩
              refine ⟨_, rfl, ?_⟩
              have n0_ := Aside0.mk (blk_below (g := gb179) (o := .cells #[.int .i64 a3_0, .int .i64 a3_1, .string a3_2] 29 (0, 0)) (by (with_reducible repeat (first | refine blk_drewN ?_ _ | refine blk_drew ?_ | refine blk_alloc ?_ _)); exact BK179.out) hb)
              have n1_ := Aside0.mk (below_step (by repeat (first | (with_reducible first | exact HB.out | apply below_alloc | apply pw_below_drewN | apply below_drew1 | refine below_set ?_ GE179.out) | exact HB.out)) hb)
              clear BK179
              clear HB
              have BK179 := n0_
              have HB := n1_
              clear n0_ n1_
              (try clear hb)
              (try clear hb2)
              (try clear hk)
              (try clear hi)
              refine hK.out _ _ ⟨(blk_cell BK179.out 0).trans rfl, (blk_cell BK179.out 1).trans rfl, (blk_cell BK179.out 2).trans rfl, ((HB.out.cell (World.block_lt_of_cell? w _ hw183_0)).trans hw183_0), ((HB.out.cell (World.block_lt_of_cell? w _ hw183_1)).trans hw183_1), ((HB.out.cell (World.block_lt_of_cell? w _ hw183_2)).trans hw183_2), ((HB.out.cell (World.block_lt_of_cell? w _ hw183_3)).trans hw183_3), ((HB.out.cell (World.block_lt_of_cell? w _ hw183_4)).trans hw183_4)⟩ (fun hHeld => ?_)
              clear hK K
              refine norm_ (a' := ?_) ?_ ?_
              rotate_left
              · show Act.put _ (some 32) _ = _
                simp only [Act.put, List.setIfInBounds_toArray, List.set_cons_zero, List.set_cons_succ, i64_w, i32_w]
                rfl
              refine pure_ (i := 6) (N := some 33) (v := ?_) (a' := ?_) #[true, true, true, true, true, true, true, false] rfl rfl (any_of HT_.out (by kernel_rfl)) (fun _ _ _ h => h) (Or.inl ⟨by rfl, ?_⟩) ?_ ?_
              rotate_left
              · intro w'
                go_simp
                with_reducible rfl
              rotate_left
              · simp only [Act.put, List.setIfInBounds_toArray, List.set_cons_zero, List.set_cons_succ, i64_w, i32_w]
                rfl
              refine pure_ (i := 7) (N := some 26) (v := ?_) (a' := ?_) #[true, true, true, true, true, true, true, true] rfl rfl (any_of HT_.out (by kernel_rfl)) (fun _ _ _ h => h) (Or.inl ⟨by rfl, ?_⟩) ?_ ?_
              rotate_left
              · intro w'
                go_simp
                with_reducible rfl
              rotate_left
              · simp only [Act.put, List.setIfInBounds_toArray, List.set_cons_zero, List.set_cons_succ, i64_w, i32_w]
                rfl
              refine done_ (done_of HT_.out (by kernel_rfl)) ?_
              try go_wp2
              go_ret2
              exact ⟨_, by first | rfl | (simp [errW_none, errW_some] <;> rfl) | (simp [*, errW_none, errW_some] <;> rfl), by first | exact Kd.R_nil _ _ _ _ _ | exact Kd.N_nil _ _ _ _ _ | exact Kd.V_nil _ _ _ _ _ | exact Kd.Q_nil _ _ _ _ _ | exact Kd.S_nil _ _ _ _ _, by repeat (first | (with_reducible first | exact HB.out | apply below_alloc | apply pw_below_drewN | apply below_drew1 | refine below_set ?_ GE179.out) | exact HB.out)⟩
          · rw [if_neg c14] at H
            exact absurd H (by simp)
        · rw [if_neg c13] at H
          exact absurd H (by simp)
      · replace c12 := Bool.eq_false_iff.mpr c12
        subst c12
        have H1 : (some (([] : List (S29)), 1)) = some (r1, r2) := by rw [if_neg (show ¬ (false = true) by decide)] at H; exact H
        clear H
        have H := H1
        clear H1
        simp only [Option.some.injEq, Prod.mk.injEq] at H
        obtain ⟨rfl, rfl⟩ := H
        go_enter Tryd.func41, Tryd.ntmps41
        go_wp2_with (first | ((with_reducible refine gate_dst (N := 7) rfl ?_); refine box_event ?hg (N := 7) ?hd (cs := #[.int .i64 a3_0, .int .i64 a3_1, .string a3_2]) (t := 29) ?hr ?_; (case hd => rfl); (case hg => rfl); (case hr => first | (go_simp; done) | (go_simp; rfl)); intro gb179 hg w38 hbox hb; have n0_ := Aside0.mk (below_step (by repeat (first | (with_reducible first | exact HB.out | apply below_alloc | apply pw_below_drewN | apply below_drew1) | exact HB.out)) hb); have n1_ := Aside0.mk (hbox); have n2_ := Aside0.mk ((by rw [hg]; exact (below_size (by repeat (first | (with_reducible first | exact HB.out | apply below_alloc | apply pw_below_drewN | apply below_drew1) | exact HB.out))) : w.heap.size ≤ gb179)); have n3_ := Aside0.mk ((by rw [hg]; exact (below_size (by repeat (first | (with_reducible first | exact HB.out | apply below_alloc | apply pw_below_drewN | apply below_drew1) | exact HB.out))) : w.heap.size ≤ gb179)); clear HB; have HB := n0_; have BK179 := n1_; have GW179 := n2_; have GE179 := n3_; clear n0_ n1_ n2_ n3_; clear hb hbox hg) | ((with_reducible refine gate_callee (f := 23) rfl ?_); refine goesL_ (some 14) rfl rfl Tryd.func23 (by kernel_rfl) rfl #[.slice A0 l0.length c0, .slice A1 l1.length c1] rfl (by (try simp only [List.map_toArray, List.map_cons, List.map_nil]); first | done | rfl | (simp only [List.length_drop, List.length_take]; rfl)) ?_; (with_reducible refine (ringworkref01_Fits.calls k _ _ l0 _ _ l1 true _ ?side1 ?side2 ?side3 ?side4 A5.out).mono ?_); (case side1 => repeat (first | exact (Kd.C_below HR0.out HB.out) | (with_reducible refine Kd.C_alloc ?_ _) | (with_reducible refine Kd.C_drewN ?_ _) | (with_reducible refine Kd.C_drew ?_))); (case side2 => exact HC0.out); (case side3 => repeat (first | exact (Kd.C_below HR1.out HB.out) | (with_reducible refine Kd.C_alloc ?_ _) | (with_reducible refine Kd.C_drewN ?_ _) | (with_reducible refine Kd.C_drew ?_))); (case side4 => exact HC1.out); rintro e w39 ⟨rfl, hb⟩; refine ⟨_, rfl, ?_⟩; have n0_ := Aside0.mk (blk_below (g := gb179) (o := .cells #[.int .i64 a3_0, .int .i64 a3_1, .string a3_2] 29 (0, 0)) (by (with_reducible repeat (first | refine blk_drewN ?_ _ | refine blk_drew ?_ | refine blk_alloc ?_ _)); exact BK179.out) hb); have n1_ := Aside0.mk (below_step (by repeat (first | (with_reducible first | exact HB.out | apply below_alloc | apply pw_below_drewN | apply below_drew1 | refine below_set ?_ GE179.out) | exact HB.out)) hb); clear BK179; clear HB; have BK179 := n0_; have HB := n1_; clear n0_ n1_; (try clear hb); (try clear hb2); (try clear hk); (try clear hi)) | ((with_reducible refine gate_callee (f := 72) rfl ?_); refine goesL_ (some 18) rfl rfl Tryd.func72 (by kernel_rfl) rfl #[.slice A0 l0.length c0, .string a2] rfl (by (try simp only [List.map_toArray, List.map_cons, List.map_nil]); first | done | rfl | (simp only [List.length_drop, List.length_take]; rfl)) ?_; (with_reducible refine (ringworkref01_index.calls k _ _ l0 a2 t181 _ ?side1 ?side2 A7.out).mono ?_); (case side1 => repeat (first | exact (Kd.C_below HR0.out HB.out) | (with_reducible refine Kd.C_alloc ?_ _) | (with_reducible refine Kd.C_drewN ?_ _) | (with_reducible refine Kd.C_drew ?_))); (case side2 => exact HC0.out); rintro e w' ⟨rfl, ⟨nd, rfl⟩⟩; refine ⟨_, rfl, ?_⟩; have hcz40_0 : w39.cell? ⟨gb179, 0, none⟩ = some (.int .i64 a3_0) := (blk_cell BK179.out 0).trans rfl; have hcz40_1 : w39.cell? ⟨gb179, 1, none⟩ = some (.int .i64 a3_1) := (blk_cell BK179.out 1).trans rfl; have hcz40_2 : w39.cell? ⟨gb179, 2, none⟩ = some (.string a3_2) := (blk_cell BK179.out 2).trans rfl; have hfz40_0 := blk_frozen BK179.out 0; have hfz40_1 := blk_frozen BK179.out 1; have hfz40_2 := blk_frozen BK179.out 2) | ((with_reducible refine gate_callee (f := 13) rfl ?_); refine goesL_ (some 24) rfl rfl Tryd.func13 (by kernel_rfl) rfl #[.agg #[.int .i64 a3_0, .int .i64 a3_1, .string a3_2]] rfl (by (try simp only [List.map_toArray, List.map_cons, List.map_nil]); first | done | rfl | (simp only [List.length_drop, List.length_take]; rfl)) ?_; (with_reducible refine (ringworkref01_ValidValue.calls a3_0 a3_1 a3_2 false _ A11.out).mono ?_); rintro e w41 ⟨rfl, hb⟩; refine ⟨_, rfl, ?_⟩; have n0_ := Aside0.mk (blk_below (g := gb179) (o := .cells #[.int .i64 a3_0, .int .i64 a3_1, .string a3_2] 29 (0, 0)) (by (with_reducible repeat (first | refine blk_drewN ?_ _ | refine blk_drew ?_ | refine blk_alloc ?_ _)); exact BK179.out) hb); have n1_ := Aside0.mk (below_step (by repeat (first | (with_reducible first | exact HB.out | apply below_alloc | apply pw_below_drewN | apply below_drew1 | refine below_set ?_ GE179.out) | exact HB.out)) hb); clear BK179; clear HB; have BK179 := n0_; have HB := n1_; clear n0_ n1_; (try clear hb); (try clear hb2); (try clear hk); (try clear hi)))
        go_ret2
        exact ⟨_, by first | rfl | (simp [errW_none, errW_some] <;> rfl) | (simp [*, errW_none, errW_some] <;> rfl), by first | exact Kd.R_nil _ _ _ _ _ | exact Kd.N_nil _ _ _ _ _ | exact Kd.V_nil _ _ _ _ _ | exact Kd.Q_nil _ _ _ _ _ | exact Kd.S_nil _ _ _ _ _, by repeat (first | (with_reducible first | exact HB.out | apply below_alloc | apply pw_below_drewN | apply below_drew1 | refine below_set ?_ GE179.out) | exact HB.out)⟩
  · replace c6 := Bool.eq_false_iff.mpr c6
    subst c6
    have H1 : (some (([] : List (S29)), 1)) = some (r1, r2) := by rw [if_neg (show ¬ (false = true) by decide)] at H; exact H
    clear H
    have H := H1
    clear H1
    simp only [Option.some.injEq, Prod.mk.injEq] at H
    obtain ⟨rfl, rfl⟩ := H
    go_enter Tryd.func41, Tryd.ntmps41
    go_wp2_with (first | ((with_reducible refine gate_dst (N := 7) rfl ?_); refine box_event ?hg (N := 7) ?hd (cs := #[.int .i64 a3_0, .int .i64 a3_1, .string a3_2]) (t := 29) ?hr ?_; (case hd => rfl); (case hg => rfl); (case hr => first | (go_simp; done) | (go_simp; rfl)); intro gb179 hg w42 hbox hb; have n0_ := Aside0.mk (below_step (by repeat (first | (with_reducible first | exact HB.out | apply below_alloc | apply pw_below_drewN | apply below_drew1) | exact HB.out)) hb); have n1_ := Aside0.mk (hbox); have n2_ := Aside0.mk ((by rw [hg]; exact (below_size (by repeat (first | (with_reducible first | exact HB.out | apply below_alloc | apply pw_below_drewN | apply below_drew1) | exact HB.out))) : w.heap.size ≤ gb179)); have n3_ := Aside0.mk ((by rw [hg]; exact (below_size (by repeat (first | (with_reducible first | exact HB.out | apply below_alloc | apply pw_below_drewN | apply below_drew1) | exact HB.out))) : w.heap.size ≤ gb179)); clear HB; have HB := n0_; have BK179 := n1_; have GW179 := n2_; have GE179 := n3_; clear n0_ n1_ n2_ n3_; clear hb hbox hg) | ((with_reducible refine gate_callee (f := 23) rfl ?_); refine goesL_ (some 14) rfl rfl Tryd.func23 (by kernel_rfl) rfl #[.slice A0 l0.length c0, .slice A1 l1.length c1] rfl (by (try simp only [List.map_toArray, List.map_cons, List.map_nil]); first | done | rfl | (simp only [List.length_drop, List.length_take]; rfl)) ?_; (with_reducible refine (ringworkref01_Fits.calls k _ _ l0 _ _ l1 false _ ?side1 ?side2 ?side3 ?side4 A5.out).mono ?_); (case side1 => repeat (first | exact (Kd.C_below HR0.out HB.out) | (with_reducible refine Kd.C_alloc ?_ _) | (with_reducible refine Kd.C_drewN ?_ _) | (with_reducible refine Kd.C_drew ?_))); (case side2 => exact HC0.out); (case side3 => repeat (first | exact (Kd.C_below HR1.out HB.out) | (with_reducible refine Kd.C_alloc ?_ _) | (with_reducible refine Kd.C_drewN ?_ _) | (with_reducible refine Kd.C_drew ?_))); (case side4 => exact HC1.out); rintro e w43 ⟨rfl, hb⟩; refine ⟨_, rfl, ?_⟩; have n0_ := Aside0.mk (blk_below (g := gb179) (o := .cells #[.int .i64 a3_0, .int .i64 a3_1, .string a3_2] 29 (0, 0)) (by (with_reducible repeat (first | refine blk_drewN ?_ _ | refine blk_drew ?_ | refine blk_alloc ?_ _)); exact BK179.out) hb); have n1_ := Aside0.mk (below_step (by repeat (first | (with_reducible first | exact HB.out | apply below_alloc | apply pw_below_drewN | apply below_drew1 | refine below_set ?_ GE179.out) | exact HB.out)) hb); clear BK179; clear HB; have BK179 := n0_; have HB := n1_; clear n0_ n1_; (try clear hb); (try clear hb2); (try clear hk); (try clear hi)))
    go_ret2
    exact ⟨_, by first | rfl | (simp [errW_none, errW_some] <;> rfl) | (simp [*, errW_none, errW_some] <;> rfl), by first | exact Kd.R_nil _ _ _ _ _ | exact Kd.N_nil _ _ _ _ _ | exact Kd.V_nil _ _ _ _ _ | exact Kd.Q_nil _ _ _ _ _ | exact Kd.S_nil _ _ _ _ _, by repeat (first | (with_reducible first | exact HB.out | apply below_alloc | apply pw_below_drewN | apply below_drew1 | refine below_set ?_ GE179.out) | exact HB.out)⟩


/-! ### ringworkref01_Default: function 43 -/
def ringworkref01_Default.l0 : Nat → List (S32) → List (S29) → Int → Option ((List (S29)) × Int)
  | 0, _, _, _ => none
  | k + 1, x0, x4, x5 => if x5 < (x0.length : Int) then (if 0 ≤ x5 then (if ((rd_T32 x0 x5).f1) = 1 then (if x4.length < 4398046511104 then (ringworkref01_Default.l0 k x0 (x4 ++ [(⟨(rd_T32 x0 x5).f1, mx ((rd_T32 x0 x5).f2) (mn 0 ((rd_T32 x0 x5).f3)), (⟨#[]⟩ : ByteArray)⟩ : S29)]) (wrap64 (x5 + 1))) else (none)) else (if x4.length < 4398046511104 then (ringworkref01_Default.l0 k x0 (x4 ++ [(⟨(rd_T32 x0 x5).f1, 0, (⟨#[]⟩ : ByteArray)⟩ : S29)]) (wrap64 (x5 + 1))) else (none))) else (none)) else (some (x4, 0))
def ringworkref01_Default.f (k : Nat) (l0 : List (S32)) : Option ((List (S29)) × Int) := (ringworkref01_ValidItems.f k l0).bind fun t192 => (if t192 = true then (ringworkref01_Default.l0 k l0 ([] : List (S29)) 0) else (some (([] : List (S29)), 1)))
theorem ringworkref01_Default.mono_l : ∀ k, (∀ y0 y1 y2, LeO (ringworkref01_Default.l0 k y0 y1 y2) (ringworkref01_Default.l0 (k + 1) y0 y1 y2))
  | 0 => fun _ _ _ r h => by simp [ringworkref01_Default.l0] at h
  | k + 1 => by
    have ih0 := ringworkref01_Default.mono_l k
    · intro y0 y1 y2
      unfold ringworkref01_Default.l0
      repeat' first
      | (with_reducible exact ih0 _ _ _)
      | (with_reducible exact ringworkref01_ValidItems.mono _ _)
      | (with_reducible exact LeO.refl _)
      | (with_reducible exact LeO.none _)
      | (with_reducible refine LeO.ite ?_ ?_)
      | (with_reducible refine LeO.bind ?_ (fun _ => ?_))
      | exact ih0 _ _ _
      | exact ringworkref01_ValidItems.mono _ _
      | exact LeO.none _
      | refine LeO.ite ?_ ?_
      | refine LeO.bind ?_ (fun _ => ?_)
theorem ringworkref01_Default.mono : ∀ a0 k, LeO (ringworkref01_Default.f k a0) (ringworkref01_Default.f (k + 1) a0) := by
  intro a0 k
  have ih0 := ringworkref01_Default.mono_l k
  unfold ringworkref01_Default.f
  repeat' first
      | (with_reducible exact ih0 _ _ _)
      | (with_reducible exact ringworkref01_ValidItems.mono _ _)
      | (with_reducible exact LeO.refl _)
      | (with_reducible exact LeO.none _)
      | (with_reducible refine LeO.ite ?_ ?_)
      | (with_reducible refine LeO.bind ?_ (fun _ => ?_))
      | exact ih0 _ _ _
      | exact ringworkref01_ValidItems.mono _ _
      | exact LeO.none _
      | refine LeO.ite ?_ ?_
      | refine LeO.bind ?_ (fun _ => ?_)
def ringworkref01_Default.T9 : Bool × List (List Nat × List Nat) := (true, [([], []), ([], []), ([0, 1], [0, 1]), ([2], [2]), ([3], [3]), ([], []), ([], []), ([5, 6], [5, 6]), ([7], [7]), ([8], [8]), ([9], [9]), ([4, 10], [4, 10]), ([0, 1, 2, 3, 4, 5, 6, 7, 8, 9, 10, 11], []), ([12, 11, 0, 1, 2, 3, 4, 5, 6, 7, 8, 9, 10, 11], [11, 12])])
def ringworkref01_Default.B9 : List Nat := [0, 0, 3, 7, 15, 0, 0, 96, 224, 480, 992, 2047, 4095, 8191]
theorem ringworkref01_Default.tab9 : rtab .any (opsOf Tryd.f43 9) = ringworkref01_Default.T9 := by kernel_rfl
theorem ringworkref01_Default.bits9 : waitsOk ringworkref01_Default.T9.2 ringworkref01_Default.B9 = true := by kernel_rfl
set_option maxHeartbeats 8000000 in
set_option maxRecDepth 100000 in
theorem ringworkref01_Default.calls (k : Nat) (A0 : Option Addr) (c0 : Nat) (l0 : List (S32)) (r1 : List (S29)) (r2 : Int) (w : World) (hr0 : Kd.C k32 w A0 l0.length l0) (hc0 : l0.length ≤ c0) (h : ringworkref01_Default.f k l0 = some (r1, r2)) :
    Calls Tryd.prog 43 #[.slice A0 l0.length c0] w fun e w' => ∃ v0_ : Value, e = .returned (.tuple #[v0_, .int .i64 r2]) ∧ Kd.R k29 29 w' w.heap.size (fun _ => True) v0_ r1 ∧ Below w.heap.size w w' := by
  have hu29 := Tryd.underlying29
  have HR0 := Aside0.mk hr0
  have HC0 := Aside0.mk hc0
  clear hr0 hc0
  have HB := Aside0.mk (Below.refl w.heap.size w)
  have H : ((ringworkref01_ValidItems.f k l0).bind fun t192 => (if t192 = true then (ringworkref01_Default.l0 k l0 ([] : List (S29)) 0) else (some (([] : List (S29)), 1)))) = some (r1, r2) := h
  clear h
  replace H := Option.bind_eq_some_iff.mp H
  obtain ⟨t192, A20, H⟩ := H
  replace H : (if t192 = true then (ringworkref01_Default.l0 k l0 ([] : List (S29)) 0) else (some (([] : List (S29)), 1))) = some (r1, r2) := H
  have A2 := Aside0.mk A20
  clear A20
  by_cases c3 : t192 = true
  · subst c3
    have H1 : (ringworkref01_Default.l0 k l0 ([] : List (S29)) 0) = some (r1, r2) := by rw [if_pos rfl] at H; exact H
    clear H
    have H := H1
    clear H1
    have H' := Aside0.mk H
    clear H
    go_enter Tryd.func43, Tryd.ntmps43
    go_wp2_with (first | ((with_reducible refine gate_callee (f := 21) rfl ?_); refine goesL_ (some 8) rfl rfl Tryd.func21 (by kernel_rfl) rfl #[.slice A0 l0.length c0] rfl (by (try simp only [List.map_toArray, List.map_cons, List.map_nil]); first | done | rfl | (simp only [List.length_drop, List.length_take]; rfl)) ?_; (with_reducible refine (ringworkref01_ValidItems.calls k _ _ l0 true _ ?side1 ?side2 A2.out).mono ?_); (case side1 => repeat (first | exact HR0.out | (with_reducible refine Kd.C_alloc ?_ _) | (with_reducible refine Kd.C_drewN ?_ _) | (with_reducible refine Kd.C_drew ?_))); (case side2 => exact HC0.out); rintro e w4 ⟨rfl, hb⟩; refine ⟨_, rfl, ?_⟩; have n0_ := Aside0.mk (below_step (by repeat (first | (with_reducible first | exact HB.out | apply below_alloc | apply pw_below_drewN | apply below_drew1) | exact HB.out)) hb); clear HB; have HB := n0_; clear n0_; (try clear hb); (try clear hb2); (try clear hk); (try clear hi)))
    go_loopg [4, 5] k (fun kq v4 v5 w' => ∃ (x4_1 : List (S29)) (x5_1 : Int), v5 = .int .i64 x5_1 ∧ Aside0 (ringworkref01_Default.l0 kq l0 x4_1 x5_1 = some (r1, r2)) ∧ Aside0 (kq ≤ k) ∧ Aside0 (Kd.R k29 29 w' w.heap.size (fun _ => True) v4 x4_1) ∧ Aside0 (Below w.heap.size w w'))
    case atStart => exact ⟨(([] : List (S29))), (0), (by first | rfl | (simp; done) | (simp [*]; done)), H', ⟨Nat.le_refl _⟩, ⟨by first | exact Kd.R_nil _ _ _ _ _ | exact Kd.N_nil _ _ _ _ _ | exact Kd.V_nil _ _ _ _ _ | exact Kd.Q_nil _ _ _ _ _ | exact Kd.S_nil _ _ _ _ _⟩, ⟨by repeat (first | (with_reducible first | exact HB.out | apply below_alloc | apply pw_below_drewN | apply below_drew1) | exact HB.out)⟩⟩
    case round =>
      clear H'
      try clear c2
      try clear p2
      try clear c3
      try clear c4
      obtain ⟨x4_1, x5_1, rfl, HA, HK1, HO_4, HB⟩ := hrel
      cases gk with
      | zero => exact absurd HA.out (by simp [ringworkref01_Default.l0])
      | succ k1 =>
        have H := HA.out
        clear HA
        simp only [ringworkref01_Default.l0] at H
        by_cases c5 : x5_1 < (l0.length : Int)
        · rw [if_pos c5] at H
          have c5b0 : decide (x5_1 < (l0.length : Int)) = true := decide_eq_true c5
          clear c5
          by_cases c6 : 0 ≤ x5_1
          · rw [if_pos c6] at H
            have c6b0 : decide (0 ≤ x5_1) = true := decide_eq_true c6
            clear c6
            by_cases c7 : ((rd_T32 l0 x5_1).f1) = 1
            · rw [if_pos c7] at H
              have c7b0 : (((rd_T32 l0 x5_1).f1) == 1) = true := beq_iff_eq.mpr c7
              have c7b1 : (((rd_T32 l0 x5_1).f1) != 1) = false := bne_eq_false_iff_eq.mpr c7
              clear c7
              obtain ⟨ji8, hji8⟩ : ∃ j_ : Int, (mn 0 ((rd_T32 l0 x5_1).f3)) = j_ := ⟨_, rfl⟩
              replace H : (if x4_1.length < 4398046511104 then (ringworkref01_Default.l0 k1 l0 (x4_1 ++ [(⟨(rd_T32 l0 x5_1).f1, mx ((rd_T32 l0 x5_1).f2) (ji8), (⟨#[]⟩ : ByteArray)⟩ : S29)]) (wrap64 (x5_1 + 1))) else (none)) = some (r1, r2) := by first | (rw [hji8] at H; exact H) | (simp only [hji8] at H ⊢; exact H)
              have hji8_ : (if ((rd_T32 l0 x5_1).f3) < 0 then ((rd_T32 l0 x5_1).f3) else 0) = ji8 := hji8
              obtain ⟨ji9, hji9⟩ : ∃ j_ : Int, (mx ((rd_T32 l0 x5_1).f2) (ji8)) = j_ := ⟨_, rfl⟩
              replace H : (if x4_1.length < 4398046511104 then (ringworkref01_Default.l0 k1 l0 (x4_1 ++ [(⟨(rd_T32 l0 x5_1).f1, ji9, (⟨#[]⟩ : ByteArray)⟩ : S29)]) (wrap64 (x5_1 + 1))) else (none)) = some (r1, r2) := by first | (rw [hji9] at H; exact H) | (simp only [hji9] at H ⊢; exact H)
              have hji9_ : (if ((rd_T32 l0 x5_1).f2) < (ji8) then (ji8) else ((rd_T32 l0 x5_1).f2)) = ji9 := hji9
              by_cases c10 : x4_1.length < 4398046511104
              · rw [if_pos c10] at H
                have LMc10 := Aside0.mk c10
                clear c10
                obtain ⟨y198, hy198⟩ : ∃ y_ : List (S29), y_ = (x4_1 ++ [(⟨(rd_T32 l0 x5_1).f1, ji9, (⟨#[]⟩ : ByteArray)⟩ : S29)]) := ⟨_, rfl⟩
                replace H : (ringworkref01_Default.l0 k1 l0 y198 (wrap64 (x5_1 + 1))) = some (r1, r2) := by first | (rw [hy198]; with_reducible exact H) | (have H2_ := (Option.bind_some _ _).symm.trans H; rw [hy198]; with_reducible exact H2_) | (have H2_ := (Option.bind_some _ _).symm.trans H; with_reducible exact H2_) | with_reducible exact H | (rw [hy198]; exact H) | exact H
                have Ny198 := Aside0.mk hy198
                clear hy198
                have H' := Aside0.mk H
                clear H
                have p193 : 0 ≤ (x5_1 : Int) := of_decide_eq_true (by first | (with_reducible assumption) | assumption)
                have q193 : x5_1 < (l0.length : Int) := of_decide_eq_true (by first | (with_reducible assumption) | assumption)
                obtain ⟨ad193, e193, hx193_0, hx193_1, hx193_2, hx193_3, hx193_4⟩ := at_T32 HR0.out x5_1 p193 q193
                cases e193
                replace hx193_0 := (HB.out.cell (World.block_lt_of_cell? w _ hx193_0)).trans hx193_0
                replace hx193_1 := (HB.out.cell (World.block_lt_of_cell? w _ hx193_1)).trans hx193_1
                replace hx193_2 := (HB.out.cell (World.block_lt_of_cell? w _ hx193_2)).trans hx193_2
                replace hx193_3 := (HB.out.cell (World.block_lt_of_cell? w _ hx193_3)).trans hx193_3
                replace hx193_4 := (HB.out.cell (World.block_lt_of_cell? w _ hx193_4)).trans hx193_4
                replace p193 := eq_true p193
                replace q193 := eq_true q193
                try go_wp2_with (first | ((with_reducible refine gate_dst (N := 6) rfl ?_); refine box_event ?hg (N := 6) ?hd (cs := #[.int .i64 0, .int .i64 0, .string (⟨#[]⟩ : ByteArray)]) (t := 29) ?hr ?_; (case hd => rfl); (case hg => rfl); (case hr => first | (go_simp; done) | (go_simp; rfl)); intro gb194 hg w11 hbox hb; have n0_ := Aside0.mk (Kd.R_below (Kd.R_elderB (by (with_reducible repeat (first | apply Kd.R_alloc | apply Kd.R_drewN | apply Kd.R_drew)); exact HO_4.out) gb194 (Nat.le_of_eq hg.symm)) hb); have n1_ := Aside0.mk (below_step (by repeat (first | (with_reducible first | exact HB.out | apply below_alloc | apply pw_below_drewN | apply below_drew1) | exact HB.out)) hb); have n2_ := Aside0.mk (hbox); have n3_ := Aside0.mk ((by rw [hg]; exact (below_size (by repeat (first | (with_reducible first | exact HB.out | apply below_alloc | apply pw_below_drewN | apply below_drew1) | exact HB.out))) : w.heap.size ≤ gb194)); have n4_ := Aside0.mk ((by rw [hg]; exact (below_size (by repeat (first | (with_reducible first | exact HB.out | apply below_alloc | apply pw_below_drewN | apply below_drew1) | exact HB.out))) : w.heap.size ≤ gb194)); clear HO_4; clear HB; have HO_4 := n0_; have HB := n1_; have BK194 := n2_; have GW194 := n3_; have GE194 := n4_; clear n0_ n1_ n2_ n3_ n4_; clear hb hbox hg; have hcz12_0 : w11.cell? ⟨gb194, 0, none⟩ = some (.int .i64 0) := (blk_cell BK194.out 0).trans rfl; have hcz12_1 : w11.cell? ⟨gb194, 1, none⟩ = some (.int .i64 0) := (blk_cell BK194.out 1).trans rfl; have hcz12_2 : w11.cell? ⟨gb194, 2, none⟩ = some (.string (⟨#[]⟩ : ByteArray)) := (blk_cell BK194.out 2).trans rfl; have hfz12_0 := blk_frozen BK194.out 0; have hfz12_1 := blk_frozen BK194.out 1; have hfz12_2 := blk_frozen BK194.out 2; have p195 : 0 ≤ (x5_1 : Int) := of_decide_eq_true (by first | (with_reducible assumption) | assumption); have q195 : x5_1 < (l0.length : Int) := of_decide_eq_true (by first | (with_reducible assumption) | assumption); obtain ⟨ad195, e195, hx195_0, hx195_1, hx195_2, hx195_3, hx195_4⟩ := at_T32 HR0.out x5_1 p195 q195; obtain rfl : ad193 = ad195 := (by injection e195); have hn195_0 : ad193.block ≠ gb194 := Nat.ne_of_lt (Nat.lt_of_lt_of_le (by have := World.block_lt_of_cell? _ _ hx195_0; first | rwa [add_block] at this | exact this) GW194.out); have hn195_1 : ad193.block ≠ gb194 := Nat.ne_of_lt (Nat.lt_of_lt_of_le (by have := World.block_lt_of_cell? _ _ hx195_0; first | rwa [add_block] at this | exact this) GW194.out); have hn195_2 : ad193.block ≠ gb194 := Nat.ne_of_lt (Nat.lt_of_lt_of_le (by have := World.block_lt_of_cell? _ _ hx195_0; first | rwa [add_block] at this | exact this) GW194.out); replace hx195_0 := (HB.out.cell (World.block_lt_of_cell? w _ hx195_0)).trans hx195_0; replace hx195_1 := (HB.out.cell (World.block_lt_of_cell? w _ hx195_1)).trans hx195_1; replace hx195_2 := (HB.out.cell (World.block_lt_of_cell? w _ hx195_2)).trans hx195_2; replace hx195_3 := (HB.out.cell (World.block_lt_of_cell? w _ hx195_3)).trans hx195_3; replace hx195_4 := (HB.out.cell (World.block_lt_of_cell? w _ hx195_4)).trans hx195_4; replace hx195_0 := (cell_far (p := ⟨gb194, 0, none⟩) (by first | (rw [add_block]; exact hn195_0) | (show (Addr.add _ _).block ≠ _; rw [add_block]; exact hn195_0) | exact hn195_0) (.int .i64 ((rd_T32 l0 x5_1).f1))).trans hx195_0; replace hx195_1 := (cell_far (p := ⟨gb194, 0, none⟩) (by first | (rw [add_block]; exact hn195_0) | (show (Addr.add _ _).block ≠ _; rw [add_block]; exact hn195_0) | exact hn195_0) (.int .i64 ((rd_T32 l0 x5_1).f1))).trans hx195_1; replace hx195_2 := (cell_far (p := ⟨gb194, 0, none⟩) (by first | (rw [add_block]; exact hn195_0) | (show (Addr.add _ _).block ≠ _; rw [add_block]; exact hn195_0) | exact hn195_0) (.int .i64 ((rd_T32 l0 x5_1).f1))).trans hx195_2; replace hx195_3 := (cell_far (p := ⟨gb194, 0, none⟩) (by first | (rw [add_block]; exact hn195_0) | (show (Addr.add _ _).block ≠ _; rw [add_block]; exact hn195_0) | exact hn195_0) (.int .i64 ((rd_T32 l0 x5_1).f1))).trans hx195_3; replace hx195_4 := (cell_far (p := ⟨gb194, 0, none⟩) (by first | (rw [add_block]; exact hn195_0) | (show (Addr.add _ _).block ≠ _; rw [add_block]; exact hn195_0) | exact hn195_0) (.int .i64 ((rd_T32 l0 x5_1).f1))).trans hx195_4; replace hx195_0 := (cell_far (p := ⟨gb194, 1, none⟩) (by first | (rw [add_block]; exact hn195_1) | (show (Addr.add _ _).block ≠ _; rw [add_block]; exact hn195_1) | exact hn195_1) (.int .i64 0)).trans hx195_0; replace hx195_1 := (cell_far (p := ⟨gb194, 1, none⟩) (by first | (rw [add_block]; exact hn195_1) | (show (Addr.add _ _).block ≠ _; rw [add_block]; exact hn195_1) | exact hn195_1) (.int .i64 0)).trans hx195_1; replace hx195_2 := (cell_far (p := ⟨gb194, 1, none⟩) (by first | (rw [add_block]; exact hn195_1) | (show (Addr.add _ _).block ≠ _; rw [add_block]; exact hn195_1) | exact hn195_1) (.int .i64 0)).trans hx195_2; replace hx195_3 := (cell_far (p := ⟨gb194, 1, none⟩) (by first | (rw [add_block]; exact hn195_1) | (show (Addr.add _ _).block ≠ _; rw [add_block]; exact hn195_1) | exact hn195_1) (.int .i64 0)).trans hx195_3; replace hx195_4 := (cell_far (p := ⟨gb194, 1, none⟩) (by first | (rw [add_block]; exact hn195_1) | (show (Addr.add _ _).block ≠ _; rw [add_block]; exact hn195_1) | exact hn195_1) (.int .i64 0)).trans hx195_4; replace hx195_0 := (cell_far (p := ⟨gb194, 2, none⟩) (by first | (rw [add_block]; exact hn195_2) | (show (Addr.add _ _).block ≠ _; rw [add_block]; exact hn195_2) | exact hn195_2) (.string (⟨#[]⟩ : ByteArray))).trans hx195_0; replace hx195_1 := (cell_far (p := ⟨gb194, 2, none⟩) (by first | (rw [add_block]; exact hn195_2) | (show (Addr.add _ _).block ≠ _; rw [add_block]; exact hn195_2) | exact hn195_2) (.string (⟨#[]⟩ : ByteArray))).trans hx195_1; replace hx195_2 := (cell_far (p := ⟨gb194, 2, none⟩) (by first | (rw [add_block]; exact hn195_2) | (show (Addr.add _ _).block ≠ _; rw [add_block]; exact hn195_2) | exact hn195_2) (.string (⟨#[]⟩ : ByteArray))).trans hx195_2; replace hx195_3 := (cell_far (p := ⟨gb194, 2, none⟩) (by first | (rw [add_block]; exact hn195_2) | (show (Addr.add _ _).block ≠ _; rw [add_block]; exact hn195_2) | exact hn195_2) (.string (⟨#[]⟩ : ByteArray))).trans hx195_3; replace hx195_4 := (cell_far (p := ⟨gb194, 2, none⟩) (by first | (rw [add_block]; exact hn195_2) | (show (Addr.add _ _).block ≠ _; rw [add_block]; exact hn195_2) | exact hn195_2) (.string (⟨#[]⟩ : ByteArray))).trans hx195_4; clear hn195_0; clear hn195_1; clear hn195_2; replace p195 := eq_true p195; replace q195 := eq_true q195))
                have n0_ : Aside0 (Kd.R k29 29 (((w11.setCell ⟨gb194, 0, none⟩ (.int .i64 ((rd_T32 l0 x5_1).f1))).setCell ⟨gb194, 1, none⟩ (.int .i64 0)).setCell ⟨gb194, 2, none⟩ (.string (⟨#[]⟩ : ByteArray))) w.heap.size (fun k_ => k_ ≠ gb194) u4 x4_1) := ⟨by (with_reducible repeat (first | apply Kd.R_alloc | apply Kd.R_drewN | apply Kd.R_drew)); exact Kd.R_mono (Kd.R_far (p := ⟨gb194, 2, none⟩) (Kd.R_far (p := ⟨gb194, 1, none⟩) (Kd.R_far (p := ⟨gb194, 0, none⟩) (Kd.R_mono HO_4.out (fun k_ hk => (⟨hk, hk.2⟩ : _ ∧ k_ ≠ gb194))) (fun _ hk => hk.2) (.int .i64 ((rd_T32 l0 x5_1).f1))) (fun _ hk => hk.2) (.int .i64 0)) (fun _ hk => hk.2) (.string (⟨#[]⟩ : ByteArray))) (fun _ hk => hk.1.2)⟩
                have n1_ : Aside0 ((((w11.setCell ⟨gb194, 0, none⟩ (.int .i64 ((rd_T32 l0 x5_1).f1))).setCell ⟨gb194, 1, none⟩ (.int .i64 0)).setCell ⟨gb194, 2, none⟩ (.string (⟨#[]⟩ : ByteArray))).heap[gb194]? = some (.cells #[.int .i64 ((rd_T32 l0 x5_1).f1), .int .i64 0, .string (⟨#[]⟩ : ByteArray)] 29 (0, 0))) := ⟨by (with_reducible repeat (first | refine blk_drewN ?_ _ | refine blk_drew ?_ | refine blk_alloc ?_ _)); refine blk_put (cs := #[.int .i64 ((rd_T32 l0 x5_1).f1), .int .i64 0, .string (⟨#[]⟩ : ByteArray)]) ?_ 2 _ rfl; (with_reducible repeat (first | refine blk_drewN ?_ _ | refine blk_drew ?_ | refine blk_alloc ?_ _)); refine blk_put (cs := #[.int .i64 ((rd_T32 l0 x5_1).f1), .int .i64 0, .string (⟨#[]⟩ : ByteArray)]) ?_ 1 _ rfl; (with_reducible repeat (first | refine blk_drewN ?_ _ | refine blk_drew ?_ | refine blk_alloc ?_ _)); refine blk_put (cs := #[.int .i64 0, .int .i64 0, .string (⟨#[]⟩ : ByteArray)]) ?_ 0 _ rfl; (with_reducible repeat (first | refine blk_drewN ?_ _ | refine blk_drew ?_ | refine blk_alloc ?_ _)); exact BK194.out⟩
                have n2_ : Aside0 (Below w.heap.size w (((w11.setCell ⟨gb194, 0, none⟩ (.int .i64 ((rd_T32 l0 x5_1).f1))).setCell ⟨gb194, 1, none⟩ (.int .i64 0)).setCell ⟨gb194, 2, none⟩ (.string (⟨#[]⟩ : ByteArray)))) := ⟨by repeat (first | (with_reducible first | exact HB.out | apply below_alloc | apply pw_below_drewN | apply below_drew1 | refine below_set ?_ GE194.out) | exact HB.out)⟩
                (try clear HO_4)
                (try clear BK194)
                (try clear HB)
                generalize (((w11.setCell ⟨gb194, 0, none⟩ (.int .i64 ((rd_T32 l0 x5_1).f1))).setCell ⟨gb194, 1, none⟩ (.int .i64 0)).setCell ⟨gb194, 2, none⟩ (.string (⟨#[]⟩ : ByteArray))) = w13 at n0_ n1_ n2_ ⊢
                have HO_4 := n0_
                have BK194 := n1_
                have HB := n2_
                clear n0_ n1_ n2_
                have n0_ := Aside0.mk (Kd.R_drew HO_4.out)
                have n1_ := Aside0.mk (blk_drew BK194.out)
                have n2_ := Aside0.mk (below_drew1 HB.out)
                clear HO_4
                clear BK194
                clear HB
                have HO_4 := n0_
                have BK194 := n1_
                have HB := n2_
                clear n0_ n1_ n2_
                have p196 : 0 ≤ (x5_1 : Int) := of_decide_eq_true (by first | (with_reducible assumption) | assumption)
                have q196 : x5_1 < (l0.length : Int) := of_decide_eq_true (by first | (with_reducible assumption) | assumption)
                obtain ⟨ad196, e196, hx196_0, hx196_1, hx196_2, hx196_3, hx196_4⟩ := at_T32 HR0.out x5_1 p196 q196
                have hw196_4 := hx196_4
                have hw196_3 := hx196_3
                have hw196_2 := hx196_2
                have hw196_1 := hx196_1
                have hw196_0 := hx196_0
                obtain rfl : ad193 = ad196 := (by injection e196)
                replace hx196_0 := (HB.out.cell (World.block_lt_of_cell? w _ hx196_0)).trans hx196_0
                replace hx196_1 := (HB.out.cell (World.block_lt_of_cell? w _ hx196_1)).trans hx196_1
                replace hx196_2 := (HB.out.cell (World.block_lt_of_cell? w _ hx196_2)).trans hx196_2
                replace hx196_3 := (HB.out.cell (World.block_lt_of_cell? w _ hx196_3)).trans hx196_3
                replace hx196_4 := (HB.out.cell (World.block_lt_of_cell? w _ hx196_4)).trans hx196_4
                replace p196 := eq_true p196
                replace q196 := eq_true q196
                have p197 : 0 ≤ (x5_1 : Int) := of_decide_eq_true (by first | (with_reducible assumption) | assumption)
                have q197 : x5_1 < (l0.length : Int) := of_decide_eq_true (by first | (with_reducible assumption) | assumption)
                obtain ⟨ad197, e197, hx197_0, hx197_1, hx197_2, hx197_3, hx197_4⟩ := at_T32 HR0.out x5_1 p197 q197
                have hw197_4 := hx197_4
                have hw197_3 := hx197_3
                have hw197_2 := hx197_2
                have hw197_1 := hx197_1
                have hw197_0 := hx197_0
                obtain rfl : ad193 = ad197 := (by injection e197)
                replace hx197_0 := (HB.out.cell (World.block_lt_of_cell? w _ hx197_0)).trans hx197_0
                replace hx197_1 := (HB.out.cell (World.block_lt_of_cell? w _ hx197_1)).trans hx197_1
                replace hx197_2 := (HB.out.cell (World.block_lt_of_cell? w _ hx197_2)).trans hx197_2
                replace hx197_3 := (HB.out.cell (World.block_lt_of_cell? w _ hx197_3)).trans hx197_3
                replace hx197_4 := (HB.out.cell (World.block_lt_of_cell? w _ hx197_4)).trans hx197_4
                replace p197 := eq_true p197
                replace q197 := eq_true q197
                refine start_ (n := 14) (S := fun w' => w'.cell? (ad193.add ((x5_1).toNat * 5)) = some (.string ((rd_T32 l0 x5_1).f0)) ∧ w'.cell? ⟨(ad193.add ((x5_1).toNat * 5)).block, (ad193.add ((x5_1).toNat * 5)).off + 1, none⟩ = some (.int .i64 ((rd_T32 l0 x5_1).f1)) ∧ w'.cell? ⟨(ad193.add ((x5_1).toNat * 5)).block, (ad193.add ((x5_1).toNat * 5)).off + 2, none⟩ = some (.int .i64 ((rd_T32 l0 x5_1).f2)) ∧ w'.cell? ⟨(ad193.add ((x5_1).toNat * 5)).block, (ad193.add ((x5_1).toNat * 5)).off + 3, none⟩ = some (.int .i64 ((rd_T32 l0 x5_1).f3)) ∧ w'.cell? ⟨(ad193.add ((x5_1).toNat * 5)).block, (ad193.add ((x5_1).toNat * 5)).off + 4, none⟩ = some (.int .i64 ((rd_T32 l0 x5_1).f4)) ∧ w'.cell? (ad193.add ((x5_1).toNat * 5)) = some (.string ((rd_T32 l0 x5_1).f0)) ∧ w'.cell? ⟨(ad193.add ((x5_1).toNat * 5)).block, (ad193.add ((x5_1).toNat * 5)).off + 1, none⟩ = some (.int .i64 ((rd_T32 l0 x5_1).f1)) ∧ w'.cell? ⟨(ad193.add ((x5_1).toNat * 5)).block, (ad193.add ((x5_1).toNat * 5)).off + 2, none⟩ = some (.int .i64 ((rd_T32 l0 x5_1).f2)) ∧ w'.cell? ⟨(ad193.add ((x5_1).toNat * 5)).block, (ad193.add ((x5_1).toNat * 5)).off + 3, none⟩ = some (.int .i64 ((rd_T32 l0 x5_1).f3)) ∧ w'.cell? ⟨(ad193.add ((x5_1).toNat * 5)).block, (ad193.add ((x5_1).toNat * 5)).off + 4, none⟩ = some (.int .i64 ((rd_T32 l0 x5_1).f4))) (ds := []) #[false, false, false, false, false, false, false, false, false, false, false, false, false, false] (by kernel_rfl) rfl rfl ⟨((HB.out.cell (World.block_lt_of_cell? w _ hw196_0)).trans hw196_0), ((HB.out.cell (World.block_lt_of_cell? w _ hw196_1)).trans hw196_1), ((HB.out.cell (World.block_lt_of_cell? w _ hw196_2)).trans hw196_2), ((HB.out.cell (World.block_lt_of_cell? w _ hw196_3)).trans hw196_3), ((HB.out.cell (World.block_lt_of_cell? w _ hw196_4)).trans hw196_4), ((HB.out.cell (World.block_lt_of_cell? w _ hw197_0)).trans hw197_0), ((HB.out.cell (World.block_lt_of_cell? w _ hw197_1)).trans hw197_1), ((HB.out.cell (World.block_lt_of_cell? w _ hw197_2)).trans hw197_2), ((HB.out.cell (World.block_lt_of_cell? w _ hw197_3)).trans hw197_3), ((HB.out.cell (World.block_lt_of_cell? w _ hw197_4)).trans hw197_4)⟩ (fun hHeld => ?_); refine with_tabW ringworkref01_Default.tab9 ringworkref01_Default.bits9 (fun HT_ HW_ => ?_)
                generalize w13.drew = w14 at HO_4 BK194 HB hx196_0 hx196_1 hx196_2 hx196_3 hx196_4 hx197_0 hx197_1 hx197_2 hx197_3 hx197_4 hHeld ⊢
                refine pure_ (i := 0) (N := some 28) (v := ?_) (a' := ?_) #[true, false, false, false, false, false, false, false, false, false, false, false, false, false] rfl rfl (any_of HT_.out (by kernel_rfl)) (fun _ _ _ h => h) (Or.inl ⟨by rfl, ?_⟩) ?_ ?_
                rotate_left
                · intro w'
                  go_simp
                  with_reducible rfl
                rotate_left
                · simp only [Act.put, List.setIfInBounds_toArray, List.set_cons_zero, List.set_cons_succ, i64_w, i32_w]
                  rfl
                refine pure_ (i := 1) (N := some 29) (v := ?_) (a' := ?_) #[true, true, false, false, false, false, false, false, false, false, false, false, false, false] rfl rfl (any_of HT_.out (by kernel_rfl)) (fun _ _ _ h => h) (Or.inl ⟨by rfl, ?_⟩) ?_ ?_
                rotate_left
                · intro w'
                  go_simp
                  with_reducible rfl
                rotate_left
                · simp only [Act.put, List.setIfInBounds_toArray, List.set_cons_zero, List.set_cons_succ, i64_w, i32_w]
                  rfl
                refine pure_ (i := 2) (N := some 30) (v := ?_) (a' := ?_) #[true, true, true, false, false, false, false, false, false, false, false, false, false, false] rfl rfl (any_of HT_.out (by kernel_rfl)) (fun _ _ _ h => h) (Or.inl ⟨by rfl, ?_⟩) ?_ ?_
                rotate_left
                · intro w'
                  go_simp
                  with_reducible rfl
                rotate_left
                · simp only [Act.put, List.setIfInBounds_toArray, List.set_cons_zero, List.set_cons_succ, i64_w, i32_w]
                  rfl
                refine pure_ (i := 3) (N := some 31) (v := ?_) (a' := ?_) #[true, true, true, true, false, false, false, false, false, false, false, false, false, false] rfl rfl (any_of HT_.out (by kernel_rfl)) (fun _ _ _ h => h) (Or.inl ⟨by rfl, ?_⟩) ?_ ?_
                rotate_left
                · intro w'
                  go_simp
                  with_reducible rfl
                rotate_left
                · simp only [Act.put, List.setIfInBounds_toArray, List.set_cons_zero, List.set_cons_succ, i64_w, i32_w]
                  rfl
                refine pure_ (i := 5) (N := some 33) (v := ?_) (a' := ?_) #[true, true, true, true, false, true, false, false, false, false, false, false, false, false] rfl rfl (any_of HT_.out (by kernel_rfl)) (fun _ _ _ h => h) (Or.inl ⟨by rfl, ?_⟩) ?_ ?_
                rotate_left
                · intro w'
                  go_simp
                  with_reducible rfl
                rotate_left
                · simp only [Act.put, List.setIfInBounds_toArray, List.set_cons_zero, List.set_cons_succ, i64_w, i32_w]
                  rfl
                refine pure_ (i := 6) (N := some 34) (v := ?_) (a' := ?_) #[true, true, true, true, false, true, true, false, false, false, false, false, false, false] rfl rfl (any_of HT_.out (by kernel_rfl)) (fun _ _ _ h => h) (Or.inl ⟨by rfl, ?_⟩) ?_ ?_
                rotate_left
                · intro w'
                  go_simp
                  with_reducible rfl
                rotate_left
                · simp only [Act.put, List.setIfInBounds_toArray, List.set_cons_zero, List.set_cons_succ, i64_w, i32_w]
                  rfl
                refine pure_ (i := 7) (N := some 35) (v := ?_) (a' := ?_) #[true, true, true, true, false, true, true, true, false, false, false, false, false, false] rfl rfl (any_of HT_.out (by kernel_rfl)) (fun _ _ _ h => h) (Or.inl ⟨by rfl, ?_⟩) ?_ ?_
                rotate_left
                · intro w'
                  go_simp
                  with_reducible rfl
                rotate_left
                · simp only [Act.put, List.setIfInBounds_toArray, List.set_cons_zero, List.set_cons_succ, i64_w, i32_w]
                  rfl
                refine pure_ (i := 8) (N := some 36) (v := ?_) (a' := ?_) #[true, true, true, true, false, true, true, true, true, false, false, false, false, false] rfl rfl (any_of HT_.out (by kernel_rfl)) (fun _ _ _ h => h) (Or.inl ⟨by rfl, ?_⟩) ?_ ?_
                rotate_left
                · intro w'
                  go_simp
                  with_reducible rfl
                rotate_left
                · simp only [Act.put, List.setIfInBounds_toArray, List.set_cons_zero, List.set_cons_succ, i64_w, i32_w]
                  rfl
                refine take_ (i := 4) (N := some 32) (v := ?_) (a' := ?_) #[true, true, true, true, true, true, true, true, true, false, false, false, false, false] rfl rfl (take_ofW HT_.out HW_.out (by kernel_rfl)) (fun _ _ _ h => h) (Or.inl ⟨by rfl, ?_⟩) hHeld ?_ ?_
                rotate_left
                · rintro w' ⟨s0, s1, s2, s3, s4, s5, s6, s7, s8, s9⟩
                  go_simp
                  with_reducible rfl
                rotate_left
                · simp only [Act.put, List.setIfInBounds_toArray, List.set_cons_zero, List.set_cons_succ, i64_w, i32_w]
                  rfl
                refine take_ (i := 9) (N := some 37) (v := ?_) (a' := ?_) #[true, true, true, true, true, true, true, true, true, true, false, false, false, false] rfl rfl (take_ofW HT_.out HW_.out (by kernel_rfl)) (fun _ _ _ h => h) (Or.inl ⟨by rfl, ?_⟩) hHeld ?_ ?_
                rotate_left
                · rintro w' ⟨s0, s1, s2, s3, s4, s5, s6, s7, s8, s9⟩
                  go_simp
                  with_reducible rfl
                rotate_left
                · simp only [Act.put, List.setIfInBounds_toArray, List.set_cons_zero, List.set_cons_succ, i64_w, i32_w]
                  rfl
                refine pure_ (i := 10) (N := some 38) (v := ?_) (a' := ?_) #[true, true, true, true, true, true, true, true, true, true, true, false, false, false] rfl rfl (any_of HT_.out (by kernel_rfl)) (fun _ _ _ h => h) (Or.inl ⟨by rfl, ?_⟩) ?_ ?_
                rotate_left
                · intro w'
                  go_simp
                  with_reducible rfl
                rotate_left
                · simp only [Act.put, List.setIfInBounds_toArray, List.set_cons_zero, List.set_cons_succ, i64_w, i32_w]
                  rfl
                refine pure_ (i := 11) (N := some 39) (v := ?_) (a' := ?_) #[true, true, true, true, true, true, true, true, true, true, true, true, false, false] rfl rfl (any_of HT_.out (by kernel_rfl)) (fun _ _ _ h => h) (Or.inl ⟨by rfl, ?_⟩) ?_ ?_
                rotate_left
                · intro w'
                  go_simp
                  with_reducible rfl
                rotate_left
                · simp only [Act.put, List.setIfInBounds_toArray, List.set_cons_zero, List.set_cons_succ, i64_w, i32_w]
                  rfl
                refine pure_ (i := 12) (N := some 40) (v := ?_) (a' := ?_) #[true, true, true, true, true, true, true, true, true, true, true, true, true, false] rfl rfl (any_of HT_.out (by kernel_rfl)) (fun _ _ _ h => h) (Or.inl ⟨by rfl, ?_⟩) ?_ ?_
                rotate_left
                · intro w'
                  go_simp
                  with_reducible rfl
                rotate_left
                · simp only [Act.put, List.setIfInBounds_toArray, List.set_cons_zero, List.set_cons_succ, i64_w, i32_w]
                  rfl
                refine one_ (i := 13) (N := none) #[true, true, true, true, true, true, true, true, true, true, true, true, true, true] rfl rfl (one_of HT_.out (by kernel_rfl)) (by decide) (fun K hK => ?_)
                have hs15 : w14.cell? ⟨gb194, 1, none⟩ = some (.int .i64 0) := (blk_cell BK194.out 1).trans rfl
                have hfs15 := blk_frozen BK194.out 1
                refine skip_ (w1 := ?_) (by rfl) rfl ?_ ?_
                rotate_left
                · go_simp
                  rfl
                refine hK.out _ _ ⟨((cell_far (p := ⟨gb194, _, none⟩) (by first | exact Nat.ne_of_lt (Nat.lt_of_lt_of_le (by have := World.block_lt_of_cell? _ _ hw196_0; first | rwa [add_block] at this | exact this) GW194.out) | (rw [add_block]; exact Nat.ne_of_lt (Nat.lt_of_lt_of_le (by have := World.block_lt_of_cell? _ _ hw196_0; first | rwa [add_block] at this | exact this) GW194.out)) | (show (Addr.add _ _).block ≠ _; rw [add_block]; exact Nat.ne_of_lt (Nat.lt_of_lt_of_le (by have := World.block_lt_of_cell? _ _ hw196_0; first | rwa [add_block] at this | exact this) GW194.out)) | (dsimp only; exact Nat.ne_of_lt (Nat.lt_of_lt_of_le (by have := World.block_lt_of_cell? _ _ hw196_0; first | rwa [add_block] at this | exact this) GW194.out))) _).trans (hHeld.1)), ((cell_far (p := ⟨gb194, _, none⟩) (by first | exact Nat.ne_of_lt (Nat.lt_of_lt_of_le (by have := World.block_lt_of_cell? _ _ hw196_1; first | rwa [add_block] at this | exact this) GW194.out) | (rw [add_block]; exact Nat.ne_of_lt (Nat.lt_of_lt_of_le (by have := World.block_lt_of_cell? _ _ hw196_1; first | rwa [add_block] at this | exact this) GW194.out)) | (show (Addr.add _ _).block ≠ _; rw [add_block]; exact Nat.ne_of_lt (Nat.lt_of_lt_of_le (by have := World.block_lt_of_cell? _ _ hw196_1; first | rwa [add_block] at this | exact this) GW194.out)) | (dsimp only; exact Nat.ne_of_lt (Nat.lt_of_lt_of_le (by have := World.block_lt_of_cell? _ _ hw196_1; first | rwa [add_block] at this | exact this) GW194.out))) _).trans (hHeld.2.1)), ((cell_far (p := ⟨gb194, _, none⟩) (by first | exact Nat.ne_of_lt (Nat.lt_of_lt_of_le (by have := World.block_lt_of_cell? _ _ hw196_2; first | rwa [add_block] at this | exact this) GW194.out) | (rw [add_block]; exact Nat.ne_of_lt (Nat.lt_of_lt_of_le (by have := World.block_lt_of_cell? _ _ hw196_2; first | rwa [add_block] at this | exact this) GW194.out)) | (show (Addr.add _ _).block ≠ _; rw [add_block]; exact Nat.ne_of_lt (Nat.lt_of_lt_of_le (by have := World.block_lt_of_cell? _ _ hw196_2; first | rwa [add_block] at this | exact this) GW194.out)) | (dsimp only; exact Nat.ne_of_lt (Nat.lt_of_lt_of_le (by have := World.block_lt_of_cell? _ _ hw196_2; first | rwa [add_block] at this | exact this) GW194.out))) _).trans (hHeld.2.2.1)), ((cell_far (p := ⟨gb194, _, none⟩) (by first | exact Nat.ne_of_lt (Nat.lt_of_lt_of_le (by have := World.block_lt_of_cell? _ _ hw196_3; first | rwa [add_block] at this | exact this) GW194.out) | (rw [add_block]; exact Nat.ne_of_lt (Nat.lt_of_lt_of_le (by have := World.block_lt_of_cell? _ _ hw196_3; first | rwa [add_block] at this | exact this) GW194.out)) | (show (Addr.add _ _).block ≠ _; rw [add_block]; exact Nat.ne_of_lt (Nat.lt_of_lt_of_le (by have := World.block_lt_of_cell? _ _ hw196_3; first | rwa [add_block] at this | exact this) GW194.out)) | (dsimp only; exact Nat.ne_of_lt (Nat.lt_of_lt_of_le (by have := World.block_lt_of_cell? _ _ hw196_3; first | rwa [add_block] at this | exact this) GW194.out))) _).trans (hHeld.2.2.2.1)), ((cell_far (p := ⟨gb194, _, none⟩) (by first | exact Nat.ne_of_lt (Nat.lt_of_lt_of_le (by have := World.block_lt_of_cell? _ _ hw196_4; first | rwa [add_block] at this | exact this) GW194.out) | (rw [add_block]; exact Nat.ne_of_lt (Nat.lt_of_lt_of_le (by have := World.block_lt_of_cell? _ _ hw196_4; first | rwa [add_block] at this | exact this) GW194.out)) | (show (Addr.add _ _).block ≠ _; rw [add_block]; exact Nat.ne_of_lt (Nat.lt_of_lt_of_le (by have := World.block_lt_of_cell? _ _ hw196_4; first | rwa [add_block] at this | exact this) GW194.out)) | (dsimp only; exact Nat.ne_of_lt (Nat.lt_of_lt_of_le (by have := World.block_lt_of_cell? _ _ hw196_4; first | rwa [add_block] at this | exact this) GW194.out))) _).trans (hHeld.2.2.2.2.1)), ((cell_far (p := ⟨gb194, _, none⟩) (by first | exact Nat.ne_of_lt (Nat.lt_of_lt_of_le (by have := World.block_lt_of_cell? _ _ hw197_0; first | rwa [add_block] at this | exact this) GW194.out) | (rw [add_block]; exact Nat.ne_of_lt (Nat.lt_of_lt_of_le (by have := World.block_lt_of_cell? _ _ hw197_0; first | rwa [add_block] at this | exact this) GW194.out)) | (show (Addr.add _ _).block ≠ _; rw [add_block]; exact Nat.ne_of_lt (Nat.lt_of_lt_of_le (by have := World.block_lt_of_cell? _ _ hw197_0; first | rwa [add_block] at this | exact this) GW194.out)) | (dsimp only; exact Nat.ne_of_lt (Nat.lt_of_lt_of_le (by have := World.block_lt_of_cell? _ _ hw197_0; first | rwa [add_block] at this | exact this) GW194.out))) _).trans (hHeld.2.2.2.2.2.1)), ((cell_far (p := ⟨gb194, _, none⟩) (by first | exact Nat.ne_of_lt (Nat.lt_of_lt_of_le (by have := World.block_lt_of_cell? _ _ hw197_1; first | rwa [add_block] at this | exact this) GW194.out) | (rw [add_block]; exact Nat.ne_of_lt (Nat.lt_of_lt_of_le (by have := World.block_lt_of_cell? _ _ hw197_1; first | rwa [add_block] at this | exact this) GW194.out)) | (show (Addr.add _ _).block ≠ _; rw [add_block]; exact Nat.ne_of_lt (Nat.lt_of_lt_of_le (by have := World.block_lt_of_cell? _ _ hw197_1; first | rwa [add_block] at this | exact this) GW194.out)) | (dsimp only; exact Nat.ne_of_lt (Nat.lt_of_lt_of_le (by have := World.block_lt_of_cell? _ _ hw197_1; first | rwa [add_block] at this | exact this) GW194.out))) _).trans (hHeld.2.2.2.2.2.2.1)), ((cell_far (p := ⟨gb194, _, none⟩) (by first | exact Nat.ne_of_lt (Nat.lt_of_lt_of_le (by have := World.block_lt_of_cell? _ _ hw197_2; first | rwa [add_block] at this | exact this) GW194.out) | (rw [add_block]; exact Nat.ne_of_lt (Nat.lt_of_lt_of_le (by have := World.block_lt_of_cell? _ _ hw197_2; first | rwa [add_block] at this | exact this) GW194.out)) | (show (Addr.add _ _).block ≠ _; rw [add_block]; exact Nat.ne_of_lt (Nat.lt_of_lt_of_le (by have := World.block_lt_of_cell? _ _ hw197_2; first | rwa [add_block] at this | exact this) GW194.out)) | (dsimp only; exact Nat.ne_of_lt (Nat.lt_of_lt_of_le (by have := World.block_lt_of_cell? _ _ hw197_2; first | rwa [add_block] at this | exact this) GW194.out))) _).trans (hHeld.2.2.2.2.2.2.2.1)), ((cell_far (p := ⟨gb194, _, none⟩) (by first | exact Nat.ne_of_lt (Nat.lt_of_lt_of_le (by have := World.block_lt_of_cell? _ _ hw197_3; first | rwa [add_block] at this | exact this) GW194.out) | (rw [add_block]; exact Nat.ne_of_lt (Nat.lt_of_lt_of_le (by have := World.block_lt_of_cell? _ _ hw197_3; first | rwa [add_block] at this | exact this) GW194.out)) | (show (Addr.add _ _).block ≠ _; rw [add_block]; exact Nat.ne_of_lt (Nat.lt_of_lt_of_le (by have := World.block_lt_of_cell? _ _ hw197_3; first | rwa [add_block] at this | exact this) GW194.out)) | (dsimp only; exact Nat.ne_of_lt (Nat.lt_of_lt_of_le (by have := World.block_lt_of_cell? _ _ hw197_3; first | rwa [add_block] at this | exact this) GW194.out))) _).trans (hHeld.2.2.2.2.2.2.2.2.1)), ((cell_far (p := ⟨gb194, _, none⟩) (by first | exact Nat.ne_of_lt (Nat.lt_of_lt_of_le (by have := World.block_lt_of_cell? _ _ hw197_4; first | rwa [add_block] at this | exact this) GW194.out) | (rw [add_block]; exact Nat.ne_of_lt (Nat.lt_of_lt_of_le (by have := World.block_lt_of_cell? _ _ hw197_4; first | rwa [add_block] at this | exact this) GW194.out)) | (show (Addr.add _ _).block ≠ _; rw [add_block]; exact Nat.ne_of_lt (Nat.lt_of_lt_of_le (by have := World.block_lt_of_cell? _ _ hw197_4; first | rwa [add_block] at this | exact this) GW194.out)) | (dsimp only; exact Nat.ne_of_lt (Nat.lt_of_lt_of_le (by have := World.block_lt_of_cell? _ _ hw197_4; first | rwa [add_block] at this | exact this) GW194.out))) _).trans (hHeld.2.2.2.2.2.2.2.2.2))⟩ (fun hHeld => ?_)
                clear hK K
                refine done_ (done_of HT_.out (by kernel_rfl)) ?_
                have hcz16_0 : w14.cell? ⟨gb194, 0, none⟩ = some (.int .i64 ((rd_T32 l0 x5_1).f1)) := (blk_cell BK194.out 0).trans rfl
                have hcz16_1 : w14.cell? ⟨gb194, 1, none⟩ = some (.int .i64 0) := (blk_cell BK194.out 1).trans rfl
                have hcz16_2 : w14.cell? ⟨gb194, 2, none⟩ = some (.string (⟨#[]⟩ : ByteArray)) := (blk_cell BK194.out 2).trans rfl
                have hfz16_0 := blk_frozen BK194.out 0
                have hfz16_1 := blk_frozen BK194.out 1
                have hfz16_2 := blk_frozen BK194.out 2
                try go_wp2_with (first | ((with_reducible refine gate_builtin (b := .append) (xs := #[.tmp 41, .tmp 43]) rfl ?_); at_builtin; refine Kd.R_append k29 (w0 := w) w.heap.size rfl (.tmp 41) (.tmp 43) 23 29 (.agg #[(.int .i64 0), (.int .i64 0), (.string ⟨#[]⟩)]) 32 rfl Tryd.underlying23 info29 rfl (by decide) (by omega) u4 x4_1 (⟨(rd_T32 l0 x5_1).f1, ji9, (⟨#[]⟩ : ByteArray)⟩ : S29) [.int .i64 ((rd_T32 l0 x5_1).f1), .int .i64 ji9, .string (⟨#[]⟩ : ByteArray)] (fun k_ => k_ ≠ gb194) (fun _ => False) rfl (by first | (go_simp; done) | (go_simp; rfl)) ?aP (fun _ hk => hk.elim) ?aF ?aO ?aB ?aS ?aL ?_; (case aP => exact k29_mkM _ _ _ (⟨(rd_T32 l0 x5_1).f1, ji9, (⟨#[]⟩ : ByteArray)⟩ : S29)); (case aB => exact (by repeat (first | (with_reducible first | exact HB.out | apply below_alloc | apply pw_below_drewN | apply below_drew1 | refine below_set ?_ GE194.out) | exact HB.out))); (case aF => exact (fun k_ hk => Kd.freshB (g := gb194) (o := .cells #[.int .i64 ((rd_T32 l0 x5_1).f1), .int .i64 ji9, .string (⟨#[]⟩ : ByteArray)] 29 (0, 0)) (by (with_reducible repeat (first | refine blk_drewN ?_ _ | refine blk_drew ?_ | refine blk_alloc ?_ _)); refine blk_put (cs := #[.int .i64 ((rd_T32 l0 x5_1).f1), .int .i64 0, .string (⟨#[]⟩ : ByteArray)]) ?_ 1 _ rfl; (with_reducible repeat (first | refine blk_drewN ?_ _ | refine blk_drew ?_ | refine blk_alloc ?_ _)); exact BK194.out) k_ hk)); (case aO => exact (by (with_reducible repeat (first | apply Kd.R_alloc | apply Kd.R_drewN | apply Kd.R_drew)); exact Kd.R_mono (Kd.R_far (p := ⟨gb194, 1, none⟩) (Kd.R_mono HO_4.out (fun k_ hk => (⟨hk, hk⟩ : _ ∧ k_ ≠ gb194))) (fun _ hk => hk.2) (.int .i64 ji9)) (fun _ hk => hk.1))); (case aS => exact (below_size (by repeat (first | (with_reducible first | exact HB.out | apply below_alloc | apply pw_below_drewN | apply below_drew1 | refine below_set ?_ GE194.out) | exact HB.out)))); (case aL => have := LMc10.out; omega); intro v199 w17 ho hb hg hat; rw [← Ny198.out] at ho; have n0_ := Aside0.mk (blk_grown (g := gb194) (o := .cells #[.int .i64 ((rd_T32 l0 x5_1).f1), .int .i64 ji9, .string (⟨#[]⟩ : ByteArray)] 29 (0, 0)) (by (with_reducible repeat (first | refine blk_drewN ?_ _ | refine blk_drew ?_ | refine blk_alloc ?_ _)); refine blk_put (cs := #[.int .i64 ((rd_T32 l0 x5_1).f1), .int .i64 0, .string (⟨#[]⟩ : ByteArray)]) ?_ 1 _ rfl; (with_reducible repeat (first | refine blk_drewN ?_ _ | refine blk_drew ?_ | refine blk_alloc ?_ _)); exact BK194.out) hg (Kd.R_away HO_4.out (fun _ hk => hk))); have n1_ := Aside0.mk (hb); have n2_ := Aside0.mk (ho); clear BK194; clear HB; clear HO_4; have BK194 := n0_; have HB := n1_; have HO200 := n2_; clear n0_ n1_ n2_; clear ho hb hg hat))
                go_roundg k1
                case measure => have := HK1.out; omega
                case rel => exact ⟨(y198), (wrap64 (x5_1 + 1)), (by first | rfl | (simp; done) | (simp [*]; done)), H', ⟨by have := HK1.out; omega⟩, ⟨by (with_reducible repeat (first | apply Kd.R_alloc | apply Kd.R_drewN | apply Kd.R_drew)); exact Kd.R_mono HO200.out (fun _ hk => trivial)⟩, ⟨by repeat (first | (with_reducible first | exact HB.out | apply below_alloc | apply pw_below_drewN | apply below_drew1 | refine below_set ?_ GE194.out) | exact HB.out)⟩⟩
              · rw [if_neg c10] at H
                exact absurd H (by simp)
            · rw [if_neg c7] at H
              have c7b0 : (((rd_T32 l0 x5_1).f1) == 1) = false := beq_eq_false_iff_ne.mpr c7
              have c7b1 : (((rd_T32 l0 x5_1).f1) != 1) = true := bne_iff_ne.mpr c7
              by_cases c18 : x4_1.length < 4398046511104
              · rw [if_pos c18] at H
                have LMc18 := Aside0.mk c18
                clear c18
                obtain ⟨y201, hy201⟩ : ∃ y_ : List (S29), y_ = (x4_1 ++ [(⟨(rd_T32 l0 x5_1).f1, 0, (⟨#[]⟩ : ByteArray)⟩ : S29)]) := ⟨_, rfl⟩
                replace H : (ringworkref01_Default.l0 k1 l0 y201 (wrap64 (x5_1 + 1))) = some (r1, r2) := by first | (rw [hy201]; with_reducible exact H) | (have H2_ := (Option.bind_some _ _).symm.trans H; rw [hy201]; with_reducible exact H2_) | (have H2_ := (Option.bind_some _ _).symm.trans H; with_reducible exact H2_) | with_reducible exact H | (rw [hy201]; exact H) | exact H
                have Ny201 := Aside0.mk hy201
                clear hy201
                have H' := Aside0.mk H
                clear H
                have p193 : 0 ≤ (x5_1 : Int) := of_decide_eq_true (by first | (with_reducible assumption) | assumption)
                have q193 : x5_1 < (l0.length : Int) := of_decide_eq_true (by first | (with_reducible assumption) | assumption)
                obtain ⟨ad193, e193, hx193_0, hx193_1, hx193_2, hx193_3, hx193_4⟩ := at_T32 HR0.out x5_1 p193 q193
                cases e193
                replace hx193_0 := (HB.out.cell (World.block_lt_of_cell? w _ hx193_0)).trans hx193_0
                replace hx193_1 := (HB.out.cell (World.block_lt_of_cell? w _ hx193_1)).trans hx193_1
                replace hx193_2 := (HB.out.cell (World.block_lt_of_cell? w _ hx193_2)).trans hx193_2
                replace hx193_3 := (HB.out.cell (World.block_lt_of_cell? w _ hx193_3)).trans hx193_3
                replace hx193_4 := (HB.out.cell (World.block_lt_of_cell? w _ hx193_4)).trans hx193_4
                replace p193 := eq_true p193
                replace q193 := eq_true q193
                go_wp2_with (first | ((with_reducible refine gate_dst (N := 6) rfl ?_); refine box_event ?hg (N := 6) ?hd (cs := #[.int .i64 0, .int .i64 0, .string (⟨#[]⟩ : ByteArray)]) (t := 29) ?hr ?_; (case hd => rfl); (case hg => rfl); (case hr => first | (go_simp; done) | (go_simp; rfl)); intro gb194 hg w19 hbox hb; have n0_ := Aside0.mk (Kd.R_below (Kd.R_elderB (by (with_reducible repeat (first | apply Kd.R_alloc | apply Kd.R_drewN | apply Kd.R_drew)); exact HO_4.out) gb194 (Nat.le_of_eq hg.symm)) hb); have n1_ := Aside0.mk (below_step (by repeat (first | (with_reducible first | exact HB.out | apply below_alloc | apply pw_below_drewN | apply below_drew1) | exact HB.out)) hb); have n2_ := Aside0.mk (hbox); have n3_ := Aside0.mk ((by rw [hg]; exact (below_size (by repeat (first | (with_reducible first | exact HB.out | apply below_alloc | apply pw_below_drewN | apply below_drew1) | exact HB.out))) : w.heap.size ≤ gb194)); have n4_ := Aside0.mk ((by rw [hg]; exact (below_size (by repeat (first | (with_reducible first | exact HB.out | apply below_alloc | apply pw_below_drewN | apply below_drew1) | exact HB.out))) : w.heap.size ≤ gb194)); clear HO_4; clear HB; have HO_4 := n0_; have HB := n1_; have BK194 := n2_; have GW194 := n3_; have GE194 := n4_; clear n0_ n1_ n2_ n3_ n4_; clear hb hbox hg; have hcz20_0 : w19.cell? ⟨gb194, 0, none⟩ = some (.int .i64 0) := (blk_cell BK194.out 0).trans rfl; have hcz20_1 : w19.cell? ⟨gb194, 1, none⟩ = some (.int .i64 0) := (blk_cell BK194.out 1).trans rfl; have hcz20_2 : w19.cell? ⟨gb194, 2, none⟩ = some (.string (⟨#[]⟩ : ByteArray)) := (blk_cell BK194.out 2).trans rfl; have hfz20_0 := blk_frozen BK194.out 0; have hfz20_1 := blk_frozen BK194.out 1; have hfz20_2 := blk_frozen BK194.out 2; have p195 : 0 ≤ (x5_1 : Int) := of_decide_eq_true (by first | (with_reducible assumption) | assumption); have q195 : x5_1 < (l0.length : Int) := of_decide_eq_true (by first | (with_reducible assumption) | assumption); obtain ⟨ad195, e195, hx195_0, hx195_1, hx195_2, hx195_3, hx195_4⟩ := at_T32 HR0.out x5_1 p195 q195; obtain rfl : ad193 = ad195 := (by injection e195); have hn195_0 : ad193.block ≠ gb194 := Nat.ne_of_lt (Nat.lt_of_lt_of_le (by have := World.block_lt_of_cell? _ _ hx195_0; first | rwa [add_block] at this | exact this) GW194.out); have hn195_1 : ad193.block ≠ gb194 := Nat.ne_of_lt (Nat.lt_of_lt_of_le (by have := World.block_lt_of_cell? _ _ hx195_0; first | rwa [add_block] at this | exact this) GW194.out); have hn195_2 : ad193.block ≠ gb194 := Nat.ne_of_lt (Nat.lt_of_lt_of_le (by have := World.block_lt_of_cell? _ _ hx195_0; first | rwa [add_block] at this | exact this) GW194.out); replace hx195_0 := (HB.out.cell (World.block_lt_of_cell? w _ hx195_0)).trans hx195_0; replace hx195_1 := (HB.out.cell (World.block_lt_of_cell? w _ hx195_1)).trans hx195_1; replace hx195_2 := (HB.out.cell (World.block_lt_of_cell? w _ hx195_2)).trans hx195_2; replace hx195_3 := (HB.out.cell (World.block_lt_of_cell? w _ hx195_3)).trans hx195_3; replace hx195_4 := (HB.out.cell (World.block_lt_of_cell? w _ hx195_4)).trans hx195_4; replace hx195_0 := (cell_far (p := ⟨gb194, 0, none⟩) (by first | (rw [add_block]; exact hn195_0) | (show (Addr.add _ _).block ≠ _; rw [add_block]; exact hn195_0) | exact hn195_0) (.int .i64 ((rd_T32 l0 x5_1).f1))).trans hx195_0; replace hx195_1 := (cell_far (p := ⟨gb194, 0, none⟩) (by first | (rw [add_block]; exact hn195_0) | (show (Addr.add _ _).block ≠ _; rw [add_block]; exact hn195_0) | exact hn195_0) (.int .i64 ((rd_T32 l0 x5_1).f1))).trans hx195_1; replace hx195_2 := (cell_far (p := ⟨gb194, 0, none⟩) (by first | (rw [add_block]; exact hn195_0) | (show (Addr.add _ _).block ≠ _; rw [add_block]; exact hn195_0) | exact hn195_0) (.int .i64 ((rd_T32 l0 x5_1).f1))).trans hx195_2; replace hx195_3 := (cell_far (p := ⟨gb194, 0, none⟩) (by first | (rw [add_block]; exact hn195_0) | (show (Addr.add _ _).block ≠ _; rw [add_block]; exact hn195_0) | exact hn195_0) (.int .i64 ((rd_T32 l0 x5_1).f1))).trans hx195_3; replace hx195_4 := (cell_far (p := ⟨gb194, 0, none⟩) (by first | (rw [add_block]; exact hn195_0) | (show (Addr.add _ _).block ≠ _; rw [add_block]; exact hn195_0) | exact hn195_0) (.int .i64 ((rd_T32 l0 x5_1).f1))).trans hx195_4; replace hx195_0 := (cell_far (p := ⟨gb194, 1, none⟩) (by first | (rw [add_block]; exact hn195_1) | (show (Addr.add _ _).block ≠ _; rw [add_block]; exact hn195_1) | exact hn195_1) (.int .i64 0)).trans hx195_0; replace hx195_1 := (cell_far (p := ⟨gb194, 1, none⟩) (by first | (rw [add_block]; exact hn195_1) | (show (Addr.add _ _).block ≠ _; rw [add_block]; exact hn195_1) | exact hn195_1) (.int .i64 0)).trans hx195_1; replace hx195_2 := (cell_far (p := ⟨gb194, 1, none⟩) (by first | (rw [add_block]; exact hn195_1) | (show (Addr.add _ _).block ≠ _; rw [add_block]; exact hn195_1) | exact hn195_1) (.int .i64 0)).trans hx195_2; replace hx195_3 := (cell_far (p := ⟨gb194, 1, none⟩) (by first | (rw [add_block]; exact hn195_1) | (show (Addr.add _ _).block ≠ _; rw [add_block]; exact hn195_1) | exact hn195_1) (.int .i64 0)).trans hx195_3; replace hx195_4 := (cell_far (p := ⟨gb194, 1, none⟩) (by first | (rw [add_block]; exact hn195_1) | (show (Addr.add _ _).block ≠ _; rw [add_block]; exact hn195_1) | exact hn195_1) (.int .i64 0)).trans hx195_4; replace hx195_0 := (cell_far (p := ⟨gb194, 2, none⟩) (by first | (rw [add_block]; exact hn195_2) | (show (Addr.add _ _).block ≠ _; rw [add_block]; exact hn195_2) | exact hn195_2) (.string (⟨#[]⟩ : ByteArray))).trans hx195_0; replace hx195_1 := (cell_far (p := ⟨gb194, 2, none⟩) (by first | (rw [add_block]; exact hn195_2) | (show (Addr.add _ _).block ≠ _; rw [add_block]; exact hn195_2) | exact hn195_2) (.string (⟨#[]⟩ : ByteArray))).trans hx195_1; replace hx195_2 := (cell_far (p := ⟨gb194, 2, none⟩) (by first | (rw [add_block]; exact hn195_2) | (show (Addr.add _ _).block ≠ _; rw [add_block]; exact hn195_2) | exact hn195_2) (.string (⟨#[]⟩ : ByteArray))).trans hx195_2; replace hx195_3 := (cell_far (p := ⟨gb194, 2, none⟩) (by first | (rw [add_block]; exact hn195_2) | (show (Addr.add _ _).block ≠ _; rw [add_block]; exact hn195_2) | exact hn195_2) (.string (⟨#[]⟩ : ByteArray))).trans hx195_3; replace hx195_4 := (cell_far (p := ⟨gb194, 2, none⟩) (by first | (rw [add_block]; exact hn195_2) | (show (Addr.add _ _).block ≠ _; rw [add_block]; exact hn195_2) | exact hn195_2) (.string (⟨#[]⟩ : ByteArray))).trans hx195_4; clear hn195_0; clear hn195_1; clear hn195_2; replace p195 := eq_true p195; replace q195 := eq_true q195) | ((with_reducible refine gate_builtin (b := .append) (xs := #[.tmp 41, .tmp 43]) rfl ?_); at_builtin; refine Kd.R_append k29 (w0 := w) w.heap.size rfl (.tmp 41) (.tmp 43) 23 29 (.agg #[(.int .i64 0), (.int .i64 0), (.string ⟨#[]⟩)]) 32 rfl Tryd.underlying23 info29 rfl (by decide) (by omega) u4 x4_1 (⟨(rd_T32 l0 x5_1).f1, 0, (⟨#[]⟩ : ByteArray)⟩ : S29) [.int .i64 ((rd_T32 l0 x5_1).f1), .int .i64 0, .string (⟨#[]⟩ : ByteArray)] (fun k_ => k_ ≠ gb194) (fun _ => False) rfl (by first | (go_simp; done) | (go_simp; rfl)) ?aP (fun _ hk => hk.elim) ?aF ?aO ?aB ?aS ?aL ?_; (case aP => exact k29_mkM _ _ _ (⟨(rd_T32 l0 x5_1).f1, 0, (⟨#[]⟩ : ByteArray)⟩ : S29)); (case aB => exact (by repeat (first | (with_reducible first | exact HB.out | apply below_alloc | apply pw_below_drewN | apply below_drew1 | refine below_set ?_ GE194.out) | exact HB.out))); (case aF => exact (fun k_ hk => Kd.freshB (g := gb194) (o := .cells #[.int .i64 ((rd_T32 l0 x5_1).f1), .int .i64 0, .string (⟨#[]⟩ : ByteArray)] 29 (0, 0)) (by (with_reducible repeat (first | refine blk_drewN ?_ _ | refine blk_drew ?_ | refine blk_alloc ?_ _)); refine blk_put (cs := #[.int .i64 ((rd_T32 l0 x5_1).f1), .int .i64 0, .string (⟨#[]⟩ : ByteArray)]) ?_ 2 _ rfl; (with_reducible repeat (first | refine blk_drewN ?_ _ | refine blk_drew ?_ | refine blk_alloc ?_ _)); refine blk_put (cs := #[.int .i64 ((rd_T32 l0 x5_1).f1), .int .i64 0, .string (⟨#[]⟩ : ByteArray)]) ?_ 1 _ rfl; (with_reducible repeat (first | refine blk_drewN ?_ _ | refine blk_drew ?_ | refine blk_alloc ?_ _)); refine blk_put (cs := #[.int .i64 0, .int .i64 0, .string (⟨#[]⟩ : ByteArray)]) ?_ 0 _ rfl; (with_reducible repeat (first | refine blk_drewN ?_ _ | refine blk_drew ?_ | refine blk_alloc ?_ _)); exact BK194.out) k_ hk)); (case aO => exact (by (with_reducible repeat (first | apply Kd.R_alloc | apply Kd.R_drewN | apply Kd.R_drew)); exact Kd.R_mono (Kd.R_far (p := ⟨gb194, 2, none⟩) (Kd.R_far (p := ⟨gb194, 1, none⟩) (Kd.R_far (p := ⟨gb194, 0, none⟩) (Kd.R_mono HO_4.out (fun k_ hk => (⟨hk, hk.2⟩ : _ ∧ k_ ≠ gb194))) (fun _ hk => hk.2) (.int .i64 ((rd_T32 l0 x5_1).f1))) (fun _ hk => hk.2) (.int .i64 0)) (fun _ hk => hk.2) (.string (⟨#[]⟩ : ByteArray))) (fun _ hk => hk.1.2))); (case aS => exact (below_size (by repeat (first | (with_reducible first | exact HB.out | apply below_alloc | apply pw_below_drewN | apply below_drew1 | refine below_set ?_ GE194.out) | exact HB.out)))); (case aL => have := LMc18.out; omega); intro v202 w21 ho hb hg hat; rw [← Ny201.out] at ho; have n0_ := Aside0.mk (blk_grown (g := gb194) (o := .cells #[.int .i64 ((rd_T32 l0 x5_1).f1), .int .i64 0, .string (⟨#[]⟩ : ByteArray)] 29 (0, 0)) (by (with_reducible repeat (first | refine blk_drewN ?_ _ | refine blk_drew ?_ | refine blk_alloc ?_ _)); refine blk_put (cs := #[.int .i64 ((rd_T32 l0 x5_1).f1), .int .i64 0, .string (⟨#[]⟩ : ByteArray)]) ?_ 2 _ rfl; (with_reducible repeat (first | refine blk_drewN ?_ _ | refine blk_drew ?_ | refine blk_alloc ?_ _)); refine blk_put (cs := #[.int .i64 ((rd_T32 l0 x5_1).f1), .int .i64 0, .string (⟨#[]⟩ : ByteArray)]) ?_ 1 _ rfl; (with_reducible repeat (first | refine blk_drewN ?_ _ | refine blk_drew ?_ | refine blk_alloc ?_ _)); refine blk_put (cs := #[.int .i64 0, .int .i64 0, .string (⟨#[]⟩ : ByteArray)]) ?_ 0 _ rfl; (with_reducible repeat (first | refine blk_drewN ?_ _ | refine blk_drew ?_ | refine blk_alloc ?_ _)); exact BK194.out) hg (Kd.R_away HO_4.out (fun _ hk => hk.2))); have n1_ := Aside0.mk (hb); have n2_ := Aside0.mk (ho); clear BK194; clear HB; clear HO_4; have BK194 := n0_; have HB := n1_; have HO203 := n2_; clear n0_ n1_ n2_; clear ho hb hg hat))
                go_roundg k1
                case measure => have := HK1.out; omega
                case rel => exact ⟨(y201), (wrap64 (x5_1 + 1)), (by first | rfl | (simp; done) | (simp [*]; done)), H', ⟨by have := HK1.out; omega⟩, ⟨by (with_reducible repeat (first | apply Kd.R_alloc | apply Kd.R_drewN | apply Kd.R_drew)); exact Kd.R_mono HO203.out (fun _ hk => trivial)⟩, ⟨by repeat (first | (with_reducible first | exact HB.out | apply below_alloc | apply pw_below_drewN | apply below_drew1 | refine below_set ?_ GE194.out) | exact HB.out)⟩⟩
              · rw [if_neg c18] at H
                exact absurd H (by simp)
          · rw [if_neg c6] at H
            exact absurd H (by simp)
        · rw [if_neg c5] at H
          have c5b0 : decide (x5_1 < (l0.length : Int)) = false := decide_eq_false c5
          clear c5
          simp only [Option.some.injEq, Prod.mk.injEq] at H
          obtain ⟨rfl, rfl⟩ := H
          go_wp2
          go_ret2
          exact ⟨_, by first | rfl | (simp [errW_none, errW_some] <;> rfl) | (simp [*, errW_none, errW_some] <;> rfl), by (with_reducible repeat (first | apply Kd.R_alloc | apply Kd.R_drewN | apply Kd.R_drew)); exact HO_4.out, by repeat (first | (with_reducible first | exact HB.out | apply below_alloc | apply pw_below_drewN | apply below_drew1) | exact HB.out)⟩
  · replace c3 := Bool.eq_false_iff.mpr c3
    subst c3
    have H1 : (some (([] : List (S29)), 1)) = some (r1, r2) := by rw [if_neg (show ¬ (false = true) by decide)] at H; exact H
    clear H
    have H := H1
    clear H1
    simp only [Option.some.injEq, Prod.mk.injEq] at H
    obtain ⟨rfl, rfl⟩ := H
    go_enter Tryd.func43, Tryd.ntmps43
    go_wp2_with (first | ((with_reducible refine gate_callee (f := 21) rfl ?_); refine goesL_ (some 8) rfl rfl Tryd.func21 (by kernel_rfl) rfl #[.slice A0 l0.length c0] rfl (by (try simp only [List.map_toArray, List.map_cons, List.map_nil]); first | done | rfl | (simp only [List.length_drop, List.length_take]; rfl)) ?_; (with_reducible refine (ringworkref01_ValidItems.calls k _ _ l0 false _ ?side1 ?side2 A2.out).mono ?_); (case side1 => repeat (first | exact HR0.out | (with_reducible refine Kd.C_alloc ?_ _) | (with_reducible refine Kd.C_drewN ?_ _) | (with_reducible refine Kd.C_drew ?_))); (case side2 => exact HC0.out); rintro e w22 ⟨rfl, hb⟩; refine ⟨_, rfl, ?_⟩; have n0_ := Aside0.mk (below_step (by repeat (first | (with_reducible first | exact HB.out | apply below_alloc | apply pw_below_drewN | apply below_drew1) | exact HB.out)) hb); clear HB; have HB := n0_; clear n0_; (try clear hb); (try clear hb2); (try clear hk); (try clear hi)))
    go_ret2
    exact ⟨_, by first | rfl | (simp [errW_none, errW_some] <;> rfl) | (simp [*, errW_none, errW_some] <;> rfl), by first | exact Kd.R_nil _ _ _ _ _ | exact Kd.N_nil _ _ _ _ _ | exact Kd.V_nil _ _ _ _ _ | exact Kd.Q_nil _ _ _ _ _ | exact Kd.S_nil _ _ _ _ _, by repeat (first | (with_reducible first | exact HB.out | apply below_alloc | apply pw_below_drewN | apply below_drew1) | exact HB.out)⟩


end Go.Proofs.YtibgjfeifpanhaaDoor.PItemValid

set_option linter.unusedVariables false
set_option linter.unusedSimpArgs false
namespace Go.Proofs.YtibgjfeifpanhaaDoor.B
open Go.RowKit Go.Proofs.YtibgjfeifpanhaaDoorW.PrintWords Go.Proofs.YtibgjfeifpanhaaDoorW.PrintLast Go.Proofs.YtibgjfeifpanhaaDoorW.PrintMore PItemValid

theorem ref_Find_is (l : List S32) (nm : ByteArray) (hl : l.length ≤ 20) : ringworkref01_Find.f 100 l nm = some (findF l nm) := by
  unfold ringworkref01_Find.f findF
  rw [ref_ValidItems_is l hl 100 (by omega)]
  simp only [Option.bind_some]
  cases hv : validF l with
  | false => rfl
  | true =>
    rw [if_pos rfl, if_pos rfl, ref_index_is l hl _ 100 (by omega)]
    simp only [Option.bind_some]
    by_cases h : idxN nm.data.toList 0 l < 0
    · rw [if_pos h, if_neg (by omega)]
    · rw [if_neg h, if_pos (by omega)]
theorem ref_Fits_any (l : List S32) (r : List S29) (hl : l.length ≤ 20) (k : Nat) (hk : 70 ≤ k) : ringworkref01_Fits.f k l r = some (fitsF l r) := by
  obtain ⟨j, rfl⟩ : ∃ j, k = 70 + j := ⟨k - 70, by omega⟩
  clear hk
  induction j with
  | zero => exact ref_Fits_is l r hl
  | succ j ih => exact ringworkref01_Fits.mono _ _ _ _ ih
theorem fits_len {l : List S32} {r : List S29} (h : fitsF l r = true) : validF l = true ∧ l.length = r.length ∧ fitsL l r = true := by
  unfold fitsF eqF at h
  simp only [Bool.and_eq_true, decide_eq_true_eq] at h
  exact ⟨h.1, h.2.1, h.2.2⟩
theorem pick_loop (l : List S32) (r : List S29) (names : List ByteArray) (hl : l.length ≤ 20) (hlr : l.length = r.length) (hn20 : names.length ≤ 20) (n : Nat) : ∀ (acc : List S29) (i k : Nat), names.length - i ≤ n → i ≤ names.length → acc.length = i → n + 30 ≤ k →
    ringworkref01_Pick.l0 k l r names acc (i : Int) = some (match picksV l r (names.drop i) with | none => ([], 5) | some o => if 8 < (acc ++ o).length then ([], 4) else (acc ++ o, 0)) := by
  have fin : ∀ (acc : List S29) (k : Nat), acc.length = names.length → ringworkref01_Pick.l0 (k + 1) l r names acc (names.length : Int) = some (if 8 < acc.length then ([], 4) else (acc, 0)) := by
    intro acc k ha
    unfold ringworkref01_Pick.l0
    rw [if_neg (by omega)]
    by_cases h : 8 < acc.length
    · rw [if_pos (by omega), if_pos h]
    · rw [if_neg (by omega), if_neg h]
  induction n with
  | zero =>
    intro acc i k hn hi ha hk
    obtain ⟨k', rfl⟩ : ∃ k', k = k' + 1 := ⟨k - 1, by omega⟩
    obtain rfl : i = names.length := by omega
    rw [fin acc k' ha, List.drop_length]
    simp [picksV]
  | succ n IH =>
    intro acc i k hn hi ha hk
    by_cases h1 : i < names.length
    · obtain ⟨k', rfl⟩ : ∃ k', k = k' + 1 := ⟨k - 1, by omega⟩
      unfold ringworkref01_Pick.l0
      rw [if_pos (by omega), if_pos (by omega), rdOf_get names i h1, ref_index_is l hl _ k' (by omega), List.drop_eq_getElem_cons h1, picksV]
      simp only [Option.bind_some]
      have hlt := idxN_lt names[i].data.toList l 0
      generalize idxN names[i].data.toList 0 l = q at hlt
      by_cases hq : q < 0
      · rw [if_pos hq, if_pos hq]
      · obtain ⟨m, rfl⟩ : ∃ m : Nat, q = m := ⟨q.toNat, by omega⟩
        have hm : m < r.length := by omega
        rw [if_neg hq, if_neg hq, if_pos (by omega), if_pos (by omega), if_pos (by omega), rd_get r m hm, w64 (by omega) (by omega)]
        have := IH (acc ++ [r[m]]) (i + 1) k' (by omega) (by omega) (by simp; omega) (by omega)
        rw [show ((i : Int) + 1) = ((i + 1 : Nat) : Int) by omega, this, show ((m : Int)).toNat = m from rfl, List.getD_eq_getElem?_getD, List.getElem?_eq_getElem hm]
        cases picksV l r (names.drop (i + 1)) with
        | none => rfl
        | some o => simp
    · obtain ⟨k', rfl⟩ : ∃ k', k = k' + 1 := ⟨k - 1, by omega⟩
      obtain rfl : i = names.length := by omega
      rw [fin acc k' ha, List.drop_length]
      simp [picksV]
theorem ref_Pick_is (l : List S32) (r : List S29) (names : List ByteArray) (hl : l.length ≤ 20) (hn : names.length ≤ 20) : ringworkref01_Pick.f 100 l r names = some (pickF l r names) := by
  unfold ringworkref01_Pick.f pickF
  rw [ref_Fits_any l r hl 100 (by omega)]
  simp only [Option.bind_some]
  cases hv : fitsF l r with
  | false => rfl
  | true =>
    rw [if_pos rfl, if_pos rfl]
    have := pick_loop l r names hl (fits_len hv).2.1 hn 20 [] 0 100 (by omega) (by omega) rfl (by omega)
    refine Eq.trans this ?_
    rw [List.drop_zero]
    cases picksV l r names with
    | none => rfl
    | some o => rfl
theorem ref_Put_is (l : List S32) (r : List S29) (nm : ByteArray) (v : S29) (hl : l.length ≤ 20) : ringworkref01_Put.f 100 l r nm v.f0 v.f1 v.f2 = some (putF l r nm v) := by
  unfold ringworkref01_Put.f putF
  rw [ref_Fits_any l r hl 100 (by omega)]
  simp only [Option.bind_some]
  cases hv : fitsF l r with
  | false => rfl
  | true =>
    obtain ⟨_, hlr, _⟩ := fits_len hv
    rw [if_pos rfl, if_pos rfl, ref_index_is l hl _ 100 (by omega)]
    simp only [Option.bind_some]
    have hlt := idxN_lt nm.data.toList l 0
    generalize idxN nm.data.toList 0 l = q at hlt
    by_cases hq : q < 0
    · rw [if_pos hq, if_pos hq]
    · obtain ⟨m, rfl⟩ : ∃ m : Nat, q = m := ⟨q.toNat, by omega⟩
      have hm : m < l.length := by omega
      rw [if_neg hq, if_neg hq, ref_ValidValue_is]
      simp only [Option.bind_some]
      cases hok : okV v with
      | false => rfl
      | true =>
        rw [if_pos rfl, if_pos rfl, if_pos (by omega), if_pos (by omega), rd32_get l m hm, ref_Holds_is, Int.toNat_natCast, List.getD_eq_getElem?_getD, List.getElem?_eq_getElem hm]
        simp only [Option.bind_some, Option.getD_some]
        by_cases hh : holdsF l[m] v = true
        · rw [if_pos hh, if_pos hh, if_pos (show ([] : List S29).length + r.length < 4398046511104 by simp; omega), List.nil_append, if_pos (by omega)]
        · rw [if_neg hh, if_neg hh]
theorem def_eq {x : S32} (h : okI x = true) : (⟨x.f1, if x.f1 = 1 then mx x.f2 (mn 0 x.f3) else 0, ⟨#[]⟩⟩ : S29) = defV x := by
  unfold defV
  by_cases k : x.f1 = 1
  · rw [if_pos k, if_pos k]
    unfold okI at h
    rw [if_pos k] at h
    simp only [Bool.and_eq_true, decide_eq_true_eq] at h
    congr 1
    unfold mx mn
    obtain ⟨_, ⟨⟨h1, _⟩, _⟩, _⟩ := h
    split <;> split <;> omega
  · rw [if_neg k, if_neg k]
theorem def_loop (l : List S32) (hl : l.length ≤ 20) (hok : ∀ x ∈ l, okI x = true) (n : Nat) : ∀ (i k : Nat), l.length - i ≤ n → i ≤ l.length → n + 2 ≤ k →
    ringworkref01_Default.l0 k l ((l.take i).map defV) (i : Int) = some (l.map defV, 0) := by
  induction n with
  | zero =>
    intro i k hn hi hk
    obtain ⟨k', rfl⟩ : ∃ k', k = k' + 1 := ⟨k - 1, by omega⟩
    unfold ringworkref01_Default.l0
    rw [if_neg (by omega), List.take_of_length_le (by omega)]
  | succ n IH =>
    intro i k hn hi hk
    obtain ⟨k', rfl⟩ : ∃ k', k = k' + 1 := ⟨k - 1, by omega⟩
    unfold ringworkref01_Default.l0
    by_cases h1 : i < l.length
    · have hx := def_eq (hok l[i] (List.getElem_mem h1))
      have hacc : ((l.take i).map defV).length < 4398046511104 := by rw [List.length_map, List.length_take]; omega
      have hs : (l.take i).map defV ++ [defV l[i]] = (l.take (i + 1)).map defV := by rw [List.take_succ_eq_append_getElem h1, List.map_append]; rfl
      have hI := IH (i + 1) k' (by omega) (by omega) (by omega)
      rw [← hs] at hI
      rw [if_pos (by omega), if_pos (by omega), rd32_get l i h1, w64 (by omega) (by omega), show ((i : Int) + 1) = ((i + 1 : Nat) : Int) by omega]
      by_cases k1 : l[i].f1 = 1
      · rw [if_pos k1, if_pos hacc]
        rw [if_pos k1] at hx
        rw [hx]
        exact hI
      · rw [if_neg k1, if_pos hacc]
        rw [if_neg k1] at hx
        rw [hx]
        exact hI
    · rw [if_neg (by omega), List.take_of_length_le (by omega)]
theorem ref_Default_is (l : List S32) (hl : l.length ≤ 20) : ringworkref01_Default.f 100 l = some (defF l) := by
  unfold ringworkref01_Default.f defF
  rw [ref_ValidItems_is l hl 100 (by omega)]
  simp only [Option.bind_some]
  cases hv : validF l with
  | false => rfl
  | true =>
    rw [if_pos rfl, if_pos rfl]
    exact def_loop l hl (fun x hx => List.all_eq_true.1 (valid_all hv).2.1 x hx) 20 0 100 (by omega) (by omega) (by omega)
/-! P1.4, and how long the rows are that come out. -/
theorem picksV_mem (l : List S32) (r : List S29) (hlr : l.length = r.length) : ∀ (ns : List ByteArray) (out : List S29), picksV l r ns = some out → out.length = ns.length ∧ ∀ x ∈ out, x ∈ r
  | [], out, h => by simp [picksV] at h; subst h; simp
  | n :: ns, out, h => by
    rw [picksV] at h
    split at h
    · cases h
    · cases hp : picksV l r ns with
      | none => rw [hp] at h; cases h
      | some o =>
        rw [hp] at h
        simp only [Option.map_some, Option.some.injEq] at h
        subst h
        obtain ⟨i1, i2⟩ := picksV_mem l r hlr ns o hp
        refine ⟨by simp [i1], fun x hx => ?_⟩
        rcases List.mem_cons.1 hx with rfl | hx
        · have h1 := idxN_lt n.data.toList l 0
          have h2 : (idxN n.data.toList 0 l).toNat < r.length := by omega
          rw [List.getD_eq_getElem?_getD, List.getElem?_eq_getElem h2]
          exact List.getElem_mem h2
        · exact i2 x hx
theorem okLen_nil : okLen [] := ⟨by simp, by simp⟩
theorem pick_ok {l : List S32} {r : List S29} {names : List ByteArray} (hr : okLen r) (hn : names.length ≤ 20) : okLen (pickF l r names).1 := by
  unfold pickF
  cases hv : fitsF l r with
  | false => exact okLen_nil
  | true =>
    rw [if_pos rfl]
    cases hp : picksV l r names with
    | none => exact okLen_nil
    | some o =>
      obtain ⟨h1, h2⟩ := picksV_mem l r (fits_len hv).2.1 names o hp
      simp only
      split
      · exact okLen_nil
      · exact ⟨by show o.length ≤ 20; omega, fun x hx => hr.2 x (h2 x hx)⟩
theorem put_ok {l : List S32} {r : List S29} {nm : ByteArray} {v : S29} (hr : okLen r) (hv : v.f2.size ≤ 200) : okLen (putF l r nm v).1 := by
  unfold putF
  repeat' split
  all_goals first | exact okLen_nil | skip
  refine ⟨by rw [List.length_set]; exact hr.1, fun x hx => ?_⟩
  rcases List.mem_or_eq_of_mem_set hx with h | rfl
  · exact hr.2 x h
  · exact hv
theorem def_ok {l : List S32} (hl : l.length ≤ 20) : okLen (defF l).1 := by
  unfold defF
  split
  · refine ⟨by simpa using hl, fun x hx => ?_⟩
    obtain ⟨y, _, rfl⟩ := List.mem_map.1 hx
    exact Nat.zero_le _
  · exact okLen_nil
theorem fitsL_set : ∀ (l : List S32) (r : List S29) (m : Nat) (v : S29) (h1 : m < l.length), l.length = r.length → fitsL l r = true → holdsF l[m] v = true → fitsL l (r.set m v) = true
  | x :: l, y :: r, 0, v, _, _, h, hh => by
    rw [fitsL, Bool.and_eq_true] at h
    rw [List.set_cons_zero, fitsL, h.2, Bool.and_true]
    exact hh
  | x :: l, y :: r, m + 1, v, h1, hlr, h, hh => by
    rw [fitsL, Bool.and_eq_true] at h
    rw [List.set_cons_succ, fitsL, h.1, Bool.true_and]
    exact fitsL_set l r m v (by simpa using h1) (by simpa using hlr) h.2 (by simpa using hh)
theorem put_pick {l : List S32} {r : List S29} {nm : ByteArray} {v : S29} (h : (putF l r nm v).2 = 0) : fitsF l (putF l r nm v).1 = true ∧ pickF l (putF l r nm v).1 [nm] = ([v], 0) := by
  unfold putF at h ⊢
  by_cases hv : fitsF l r = true
  · obtain ⟨hl1, hlr, hfl⟩ := fits_len hv
    rw [if_pos hv] at h ⊢
    have hlt := idxN_lt nm.data.toList l 0
    obtain ⟨q, hq⟩ : ∃ q, idxN nm.data.toList 0 l = q := ⟨_, rfl⟩
    rw [hq] at h hlt ⊢
    by_cases hn : q < 0
    · rw [if_pos hn] at h; cases h
    · obtain ⟨m, rfl⟩ : ∃ m : Nat, q = m := ⟨q.toNat, by omega⟩
      have hm : m < l.length := by omega
      rw [if_neg hn] at h ⊢
      by_cases hok : okV v = true
      · rw [if_pos hok] at h ⊢
        rw [Int.toNat_natCast, List.getD_eq_getElem?_getD, List.getElem?_eq_getElem hm, Option.getD_some] at h ⊢
        by_cases hh : holdsF l[m] v = true
        · rw [if_pos hh]
          have hf : fitsF l (r.set m v) = true := by
            unfold fitsF eqF
            rw [hl1, List.length_set, decide_eq_true hlr, fitsL_set l r m v hm hlr hfl hh]
            rfl
          refine ⟨hf, ?_⟩
          unfold pickF
          rw [if_pos hf, picksV, hq, if_neg hn, picksV, Int.toNat_natCast, List.getD_eq_getElem?_getD, List.getElem?_set_self (by omega)]
          rfl
        · rw [if_neg hh] at h; cases h
      · rw [if_neg hok] at h; cases h
  · rw [if_neg hv] at h; cases h
theorem def_holds {x : S32} (h : okI x = true) : holdsF x (defV x) = true := by
  unfold okI at h
  unfold holdsF okV okV1 okV2 defV
  by_cases k : x.f1 = 1
  · simp only [k, if_true]
    rw [if_pos k] at h
    simp only [Bool.and_eq_true, decide_eq_true_eq] at h
    obtain ⟨_, ⟨⟨h1, h2⟩, h3⟩, _⟩ := h
    have e1 : x.f2 ≤ min (max 0 x.f2) x.f3 := by omega
    have e2 : min (max 0 x.f2) x.f3 ≤ x.f3 := by omega
    generalize min (max 0 x.f2) x.f3 = n at e1 e2
    simp [e1, e2]
    omega
  · rw [if_neg k] at h
    by_cases k2 : x.f1 = 2
    · rw [if_pos k2] at h
      simp only [Bool.and_eq_true, decide_eq_true_eq] at h
      have e0 : (⟨#[]⟩ : ByteArray).size = 0 := rfl
      simp [k2, e0]
      omega
    · rw [if_neg k2] at h
      simp at h
theorem def_fitsL : ∀ l : List S32, l.all okI = true → fitsL l (l.map defV) = true
  | [], _ => rfl
  | x :: l, h => by
    rw [List.all_cons, Bool.and_eq_true] at h
    rw [List.map_cons, fitsL, def_holds h.1, def_fitsL l h.2]
    rfl
theorem def_fits {l : List S32} (h : (defF l).2 = 0) : fitsF l (defF l).1 = true := by
  unfold defF at h ⊢
  by_cases hv : validF l = true
  · rw [if_pos hv]
    unfold fitsF eqF
    rw [hv, List.length_map, decide_eq_true rfl, def_fitsL l (valid_all hv).2.1]
    rfl
  · rw [if_neg hv] at h; cases h
end Go.Proofs.YtibgjfeifpanhaaDoor.B

set_option linter.unusedVariables false
set_option linter.unusedSimpArgs false
namespace Go.Proofs.YtibgjfeifpanhaaDoor.B
open Go.RowKit Go.Proofs.YtibgjfeifpanhaaDoorW.PrintWords Go.Maps PItemValid

theorem awake_ok (w w' : World) (h : TabOk w) (hb : Below w.heap.size w w') : Calls Tryd.prog 11 #[] w' fun e w2 => e = .returned (.bool true) ∧ Below w'.heap.size w' w2 := awake_calls w' (h.below hb)
end Go.Proofs.YtibgjfeifpanhaaDoor.B

set_option linter.unusedVariables false
set_option linter.unusedSimpArgs false
namespace Go.Proofs.YtibgjfeifpanhaaDoor.B
open Go.RowKit Go.Deep Go.ChangeShapes Go.WideShapes Go.Proofs.YtibgjfeifpanhaaDoorW.PrintWords Go.Maps PItemValid

section
variable {H : Type} {enc : TypeId × Value → H} {W : World} {held : Bool}
theorem open_strs_C {a : Option Addr} {len cap fuel : Nat} {x : DataW H × List MemPlace} (h : DataW.trod enc Tryd.prog W 0 (fun _ => true) held fuel 41 [.slice a len cap] = some x) :
    ∃ l : List ByteArray, l.length = len ∧ len ≤ cap ∧ Kd.C Kd.string W a l.length l := by
  refine open_C Kd.string Tryd.underlying41 (by kernel_rfl) (fun n cs y hy => ?_) h
  obtain ⟨s0, e0, _, _⟩ := DataW.trod_string Tryd.underlying9 hy
  subst e0
  exact ⟨s0, rfl⟩
end
theorem Pick_is {l : List S32} {r : List S29} {names : List ByteArray} {x : List S29} {y : Int} (h : pickF l r names = (x, y)) (A : Option Addr) (c : Nat) (A1 : Option Addr) (c1 : Nat) (A' : Option Addr) (c' : Nat) (w : World) (hl : l.length ≤ 20) (hn : names.length ≤ 20) (hr : Kd.C k32 w A l.length l) (h1 : Kd.C k29 w A1 r.length r) (hs : Kd.C Kd.string w A' names.length names) :
    Calls Tryd.prog 34 #[.slice A l.length c, .slice A1 r.length c1, .slice A' names.length c'] w fun e w' => ∃ v, e = .returned (.tuple #[v, .int .i64 y]) ∧ OVal w' w.heap.size v x ∧ Below w.heap.size w w' := by
  have := Pick_calls A c l A1 c1 r A' c' names w hl hn hr h1 hs
  rwa [h] at this
end Go.Proofs.YtibgjfeifpanhaaDoor.B

set_option linter.unusedVariables false
set_option linter.unusedSimpArgs false
namespace Go.Proofs.YtibgjfeifpanhaaDoor.B
open Go.RowKit Go.Proofs.YtibgjfeifpanhaaDoorW.PrintWords Go.Proofs.YtibgjfeifpanhaaDoorW.PrintLast Go.Proofs.YtibgjfeifpanhaaDoorW.PrintMore Go.Maps PItemValid
attribute [local go_sem high] eqA29

theorem one_at {x : Value} {i : Nat} {u : Value} (h : ([x] : List Value)[i]? = some u) : i = 0 ∧ u = x := by
  have hi := (List.getElem?_eq_some_iff.1 h).1
  have : i = 0 := by simpa using hi
  subst this
  simp at h
  exact ⟨rfl, h.symm⟩
theorem C_str1 (w : World) (nm : ByteArray) : Kd.C Kd.string (w.alloc (.cells #[.string nm] 9)) (some ⟨w.heap.size, 0, none⟩) 1 [nm] := by
  refine ⟨rfl, by decide, fun _ => ⟨_, rfl, fun j p hj => ?_⟩⟩
  match j, hj with
  | 0, hj =>
    cases hj
    refine ⟨[_], rfl, rfl, fun i u hu => ?_⟩
    obtain ⟨rfl, rfl⟩ := one_at hu
    rw [show (⟨w.heap.size, 0, none⟩ : Addr).add (0 * Kd.string.sz + 0) = ⟨w.heap.size, 0, none⟩ from rfl, World.cell?_alloc_new]
    rfl
theorem C_val1 (w : World) (v : S29) : Kd.C k29 (w.alloc (.cells #[.int .i64 v.f0, .int .i64 v.f1, .string v.f2] 29)) (some ⟨w.heap.size, 0, none⟩) 1 [v] := by
  refine ⟨rfl, by decide, fun _ => ⟨_, rfl, fun j p hj => ?_⟩⟩
  match j, hj with
  | 0, hj =>
    cases hj
    refine ⟨_, rfl, k29_mk _ _, fun i u hu => ?_⟩
    have e : (⟨w.heap.size, 0, none⟩ : Addr).add (0 * k29.sz + i) = ⟨w.heap.size, i, none⟩ := by rw [Nat.zero_mul, Nat.zero_add]; unfold Addr.add; split <;> simp_all
    rw [e, World.cell?_alloc_new]
    simpa using hu
theorem C_rows2 (w : World) (A0 : Option Addr) (c0 : Nat) (a : List S29) (v : S29) (h0 : Kd.C k29 w A0 a.length a) (l0 : a.length ≤ c0) :
    Kd.C (Kd.slice 29 k29) ((w.alloc (.cells #[.int .i64 v.f0, .int .i64 v.f1, .string v.f2] 29)).alloc (.cells #[.slice A0 a.length c0, .slice (some ⟨w.heap.size, 0, none⟩) 1 1] 23)) (some ⟨w.heap.size + 1, 0, none⟩) 2 [a, [v]] := by
  have hs : (w.alloc (.cells #[.int .i64 v.f0, .int .i64 v.f1, .string v.f2] 29)).heap.size = w.heap.size + 1 := World.size_alloc _ _
  have hb1 : Below w.heap.size w (w.alloc (.cells #[.int .i64 v.f0, .int .i64 v.f1, .string v.f2] 29)) := below_alloc (Below.refl _ _) _
  have hb : Below w.heap.size w ((w.alloc (.cells #[.int .i64 v.f0, .int .i64 v.f1, .string v.f2] 29)).alloc (.cells #[.slice A0 a.length c0, .slice (some ⟨w.heap.size, 0, none⟩) 1 1] 23)) := below_alloc hb1 _
  refine ⟨rfl, by decide, fun _ => ⟨_, rfl, fun j p hj => ?_⟩⟩
  have hcell : ∀ i, ((w.alloc (.cells #[.int .i64 v.f0, .int .i64 v.f1, .string v.f2] 29)).alloc (.cells #[.slice A0 a.length c0, .slice (some ⟨w.heap.size, 0, none⟩) 1 1] 23)).cell? ((⟨w.heap.size + 1, 0, none⟩ : Addr).add i) = (#[.slice A0 a.length c0, .slice (some ⟨w.heap.size, 0, none⟩) 1 1] : Array Value)[i]? := fun i => by
    have e : (⟨w.heap.size + 1, 0, none⟩ : Addr).add i = ⟨w.heap.size + 1, i, none⟩ := by unfold Addr.add; split <;> simp_all
    rw [e, ← hs, World.cell?_alloc_new]
  match j, hj with
  | 0, hj =>
    cases hj
    exact ⟨[_], rfl, ⟨A0, c0, rfl, l0, Kd.C_below h0 hb⟩, fun i u hu => by
      obtain ⟨rfl, rfl⟩ := one_at hu
      rw [hcell]; rfl⟩
  | 1, hj =>
    cases hj
    exact ⟨[_], rfl, ⟨some ⟨w.heap.size, 0, none⟩, 1, rfl, Nat.le_refl 1, Kd.C_below (C_val1 w v) (below_alloc (Below.refl _ _) _)⟩, fun i u hu => by
      obtain ⟨rfl, rfl⟩ := one_at hu
      rw [hcell]; rfl⟩
theorem Find_is {l : List S32} {nm : ByteArray} {x y : Int} (h : findF l nm = (x, y)) (A : Option Addr) (c : Nat) (w : World) (hl : l.length ≤ 20) (hr : Kd.C k32 w A l.length l) :
    Calls Tryd.prog 38 #[.slice A l.length c, .string nm] w fun e w' => e = .returned (.tuple #[.int .i64 x, .int .i64 y]) ∧ Below w.heap.size w w' := by
  have := Find_calls A c l nm w hl hr
  rwa [h] at this
theorem refFind_is {l : List S32} {nm : ByteArray} {x y : Int} (h : findF l nm = (x, y)) (A : Option Addr) (c : Nat) (w : World) (hl : l.length ≤ 20) (hr : Kd.C k32 w A l.length l) (hc : l.length ≤ c) :
    Calls Tryd.prog 39 #[.slice A l.length c, .string nm] w fun e w' => e = .returned (.tuple #[.int .i64 x, .int .i64 y]) ∧ Below w.heap.size w w' :=
  ringworkref01_Find.calls 100 A c l nm x y w hr hc (by rw [ref_Find_is l nm hl, h])
theorem refPick_is {l : List S32} {r : List S29} {names : List ByteArray} {x : List S29} {y : Int} (h : pickF l r names = (x, y)) (A : Option Addr) (c : Nat) (A1 : Option Addr) (c1 : Nat) (A' : Option Addr) (c' : Nat) (w : World) (hl : l.length ≤ 20) (hn : names.length ≤ 20) (hr : Kd.C k32 w A l.length l) (hc : l.length ≤ c) (h1 : Kd.C k29 w A1 r.length r) (hc1 : r.length ≤ c1) (hs : Kd.C Kd.string w A' names.length names) (hc' : names.length ≤ c') :
    Calls Tryd.prog 37 #[.slice A l.length c, .slice A1 r.length c1, .slice A' names.length c'] w fun e w' => ∃ v, e = .returned (.tuple #[v, .int .i64 y]) ∧ OVal w' w.heap.size v x ∧ Below w.heap.size w w' :=
  ringworkref01_Pick.calls 100 A c l A1 c1 r A' c' names x y w hr hc h1 hc1 hs hc' (by rw [ref_Pick_is l r names hl hn, h])
theorem PickOne_is {l : List S32} {r : List S29} {nm : ByteArray} {v : S29} (h : pickF l r [nm] = ([v], 0)) (A : Option Addr) (c : Nat) (A1 : Option Addr) (c1 : Nat) (A' : Option Addr) (c' : Nat) (w : World) (hl : l.length ≤ 20) (hr : Kd.C k32 w A l.length l) (h1 : Kd.C k29 w A1 r.length r) (hs : Kd.C Kd.string w A' 1 [nm]) :
    Calls Tryd.prog 34 #[.slice A l.length c, .slice A1 r.length c1, .slice A' 1 c'] w fun e w' => ∃ ad c, e = .returned (.tuple #[.slice (some ad) 1 c, .int .i64 0]) ∧ w'.cell? ad = some (.int .i64 v.f0) ∧ w'.cell? ⟨ad.block, ad.off + 1, none⟩ = some (.int .i64 v.f1) ∧ w'.cell? ⟨ad.block, ad.off + 2, none⟩ = some (.string v.f2) ∧ Below w.heap.size w w' := by
  refine (Pick_is h A c A1 c1 A' c' w hl (by simp) hr h1 hs).mono ?_
  rintro e w2 ⟨x, rfl, hO, hb⟩
  obtain ⟨A9, c9, rfl, _, hC⟩ := Kd.R_reads hO
  obtain ⟨ad, y, hA, hdx, k0, k1, k2⟩ := C_val hC 0 (by simp)
  subst hA
  obtain rfl : v = y := by
    rw [List.drop_zero] at hdx
    injection hdx
  have e0 : ad.add (0 * 3) = ad := by
    unfold Addr.add
    split <;> (cases ad; simp_all)
  rw [e0] at k0 k1 k2
  exact ⟨ad, c9, rfl, k0, k1, k2, hb⟩
theorem Put_is {l : List S32} {r : List S29} {nm : ByteArray} {v : S29} {x : List S29} {y : Int} (h : putF l r nm v = (x, y)) (A : Option Addr) (c : Nat) (A1 : Option Addr) (c1 : Nat) (w : World) (hl : l.length ≤ 20) (hr : Kd.C k32 w A l.length l) (h1 : Kd.C k29 w A1 r.length r) :
    Calls Tryd.prog 40 #[.slice A l.length c, .slice A1 r.length c1, .string nm, .agg #[.int .i64 v.f0, .int .i64 v.f1, .string v.f2]] w fun e w' => ∃ v, e = .returned (.tuple #[v, .int .i64 y]) ∧ OVal w' w.heap.size v x ∧ Below w.heap.size w w' := by
  have := Put_calls A c l A1 c1 r nm v w hl hr h1
  rw [h] at this
  exact this
theorem refPut_is {l : List S32} {r : List S29} {nm : ByteArray} {v : S29} {x : List S29} {y : Int} (h : putF l r nm v = (x, y)) (A : Option Addr) (c : Nat) (A1 : Option Addr) (c1 : Nat) (w : World) (hl : l.length ≤ 20) (hr : Kd.C k32 w A l.length l) (hc : l.length ≤ c) (h1 : Kd.C k29 w A1 r.length r) (hc1 : r.length ≤ c1) :
    Calls Tryd.prog 41 #[.slice A l.length c, .slice A1 r.length c1, .string nm, .agg #[.int .i64 v.f0, .int .i64 v.f1, .string v.f2]] w fun e w' => ∃ v, e = .returned (.tuple #[v, .int .i64 y]) ∧ OVal w' w.heap.size v x ∧ Below w.heap.size w w' :=
  ringworkref01_Put.calls 100 A c l A1 c1 r nm v.f0 v.f1 v.f2 x y w hr hc h1 hc1 (by rw [ref_Put_is l r nm v hl, h])
theorem Def_is {l : List S32} {x : List S29} {y : Int} (h : defF l = (x, y)) (A : Option Addr) (c : Nat) (w : World) (hl : l.length ≤ 20) (hr : Kd.C k32 w A l.length l) :
    Calls Tryd.prog 42 #[.slice A l.length c] w fun e w' => ∃ v, e = .returned (.tuple #[v, .int .i64 y]) ∧ OVal w' w.heap.size v x ∧ Below w.heap.size w w' := by
  have := Default_calls A c l w hl hr
  rw [h] at this
  exact this
theorem refDef_is {l : List S32} {x : List S29} {y : Int} (h : defF l = (x, y)) (A : Option Addr) (c : Nat) (w : World) (hl : l.length ≤ 20) (hr : Kd.C k32 w A l.length l) (hc : l.length ≤ c) :
    Calls Tryd.prog 43 #[.slice A l.length c] w fun e w' => ∃ v, e = .returned (.tuple #[v, .int .i64 y]) ∧ OVal w' w.heap.size v x ∧ Below w.heap.size w w' :=
  ringworkref01_Default.calls 100 A c l x y w hr hc (by rw [ref_Default_is l hl, h])
theorem refSame_self {a : List S29} (ha : okLen a) (A A' : Option Addr) (c c' : Nat) (w : World) (hx : Kd.C k29 w A a.length a) (hc : a.length ≤ c) (hy : Kd.C k29 w A' a.length a) (hc' : a.length ≤ c') :
    Calls Tryd.prog 29 #[.slice A a.length c, .slice A' a.length c'] w fun e w' => e = .returned (.bool true) ∧ Below w.heap.size w w' :=
  refSame_is (by rw [cmpR_is.refl]; rfl) ha ha A c A' c' w hx hc hy hc'
set_option maxRecDepth 100000 in
set_option maxHeartbeats 16000000 in
theorem picks_law (A0 A1 A2 : Option Addr) (c0 c1 c2 : Nat) (l : List S32) (r : List S29) (names : List ByteArray) (v : S29) (w : World) (h0 : Kd.C k32 w A0 l.length l) (l0 : l.length ≤ c0) (h1 : Kd.C k29 w A1 r.length r) (l1 : r.length ≤ c1) (h2 : Kd.C Kd.string w A2 names.length names) (l2 : names.length ≤ c2) (htab : TabOk w) :
    Calls Tryd.prog 6 #[.slice A0 l.length c0, .slice A1 r.length c1, .slice A2 names.length c2, vV v] w fun e w' => e = .returned (.bool true) ∧ Below w.heap.size w w' := by
  unfold vV
  have H0 := Aside0.mk h0
  have H1 := Aside0.mk h1
  have H2 := Aside0.mk h2
  have HTAB := Aside0.mk htab
  have HL0 := Aside0.mk l0
  have HL1 := Aside0.mk l1
  have HL2 := Aside0.mk l2
  have m0 := (C_len h0).2
  have m1 := (C_len h1).2
  have m2 := (C_len h2).2
  have HBX : Aside0 (∀ W : World, Below (w.alloc (.cells #[.int .i64 v.f0, .int .i64 v.f1, .string v.f2] 29)).heap.size (w.alloc (.cells #[.int .i64 v.f0, .int .i64 v.f1, .string v.f2] 29)) W → W.cell? ⟨w.heap.size, 0, none⟩ = some (.int .i64 v.f0) ∧ W.cell? ⟨w.heap.size, 1, none⟩ = some (.int .i64 v.f1) ∧ W.cell? ⟨w.heap.size, 2, none⟩ = some (.string v.f2)) := ⟨fun W h =>
    ⟨pw_cell_below h (by rw [World.cell?_alloc_new]; rfl), pw_cell_below h (by rw [World.cell?_alloc_new]; rfl), pw_cell_below h (by rw [World.cell?_alloc_new]; rfl)⟩⟩
  have HAW : Aside0 (∀ W : World, Below (w.alloc (.cells #[.int .i64 v.f0, .int .i64 v.f1, .string v.f2] 29)).heap.size (w.alloc (.cells #[.int .i64 v.f0, .int .i64 v.f1, .string v.f2] 29)) W → Calls Tryd.prog 11 #[] W fun e w2 => e = .returned (.bool true) ∧ Below W.heap.size W w2) := ⟨fun W h => awake_ok w W HTAB.out (then_alloc h)⟩
  obtain ⟨rI, hI20, HI⟩ : ∃ rI, (rI = true → l.length ≤ 20) ∧ Aside0 (∀ W, Below (w.alloc (.cells #[.int .i64 v.f0, .int .i64 v.f1, .string v.f2] 29)).heap.size (w.alloc (.cells #[.int .i64 v.f0, .int .i64 v.f1, .string v.f2] 29)) W → Calls Tryd.prog 9 #[.slice A0 l.length c0] W fun e w' => e = .returned (.bool rI) ∧ Drawn0 W w') := by
    obtain ⟨rI, q1, q2⟩ := items_loop l 20 0 60 (by omega) (by omega) (by omega)
    exact ⟨rI, q2, ⟨fun W h => ringworklaw01_Items.calls 60 A0 c0 l rI W (Kd.C_below H0.out (then_alloc h)) HL0.out (by simpa [ringworklaw01_Items.f] using q1)⟩⟩
  obtain ⟨rN, hN20, hN⟩ : ∃ rN, (rN = true → names.length ≤ 20) ∧ Aside0 (∀ W, Below (w.alloc (.cells #[.int .i64 v.f0, .int .i64 v.f1, .string v.f2] 29)).heap.size (w.alloc (.cells #[.int .i64 v.f0, .int .i64 v.f1, .string v.f2] 29)) W → Calls Tryd.prog 30 #[.slice A2 names.length c2] W fun e w' => e = .returned (.bool rN) ∧ Drawn0 W w') := by
    obtain ⟨rN, q1, q2⟩ := names_loop names 20 0 60 (by omega) (by omega) (by omega)
    exact ⟨rN, q2, ⟨fun W h => ringworklaw01_Names.calls 60 A2 c2 names rN W (Kd.C_below H2.out (then_alloc h)) HL2.out (by simpa [ringworklaw01_Names.f] using q1)⟩⟩
  obtain ⟨rR, hrows⟩ : ∃ rR, rowsF [r, [v]] = rR := ⟨_, rfl⟩
  have HR : Aside0 (∀ W : World, Below (w.alloc (.cells #[.int .i64 v.f0, .int .i64 v.f1, .string v.f2] 29)).heap.size (w.alloc (.cells #[.int .i64 v.f0, .int .i64 v.f1, .string v.f2] 29)) W → Calls Tryd.prog 10 #[.slice (some ⟨W.heap.size + 1, 0, none⟩) 2 2] ((W.alloc (.cells #[.int .i64 v.f0, .int .i64 v.f1, .string v.f2] 29)).alloc (.cells #[.slice A1 r.length c1, .slice (some ⟨W.heap.size, 0, none⟩) 1 1] 23)) fun e w' => e = .returned (.bool rR) ∧ Drawn0 ((W.alloc (.cells #[.int .i64 v.f0, .int .i64 v.f1, .string v.f2] 29)).alloc (.cells #[.slice A1 r.length c1, .slice (some ⟨W.heap.size, 0, none⟩) 1 1] 23)) w') := ⟨fun W h => Rows_is hrows (by simp) _ 2 _ (C_rows2 W A1 c1 r v (Kd.C_below H1.out (then_alloc h)) HL1.out) (by simp)⟩
  clear h0 h1 h2 htab l0 l1 l2
  cases rI with
  | false =>
    clear hrows hI20 hN20
    go_enter Tryd.func6, Tryd.ntmps6
    go_wp2_with (first | (go_at_call 9; go_must (refine (HI.out _ (Below.refl _ _)).mono ?_; rintro e w1 ⟨rfl, hd⟩; have hb1 := below_then (Below.refl _ _) hd.below; clear hd; obtain ⟨a0, a1, a2⟩ := HBX.out _ hb1; have hb1a := below_alloc (below_alloc hb1 (.cells #[.int .i64 v.f0, .int .i64 v.f1, .string v.f2] 29)) (.cells #[.slice A1 r.length c1, .slice (some ⟨w1.heap.size, 0, none⟩) 1 1] 23))) | (go_at_call 11; go_must (refine (HAW.out _ hb1).mono ?_; rintro e w99 ⟨rfl, hd⟩; have hb2 := below_then hb1 hd; clear hd)))
    go_ret
    exact ⟨rfl, then_alloc hb2⟩
  | true =>
    have hl20 := hI20 rfl
    clear hI20
    cases rR with
    | false =>
      clear hrows hN20
      go_enter Tryd.func6, Tryd.ntmps6
      go_wp2_with (first | (go_at_call 9; go_must (refine (HI.out _ (Below.refl _ _)).mono ?_; rintro e w1 ⟨rfl, hd⟩; have hb1 := below_then (Below.refl _ _) hd.below; clear hd; obtain ⟨a0, a1, a2⟩ := HBX.out _ hb1; have hb1a := below_alloc (below_alloc hb1 (.cells #[.int .i64 v.f0, .int .i64 v.f1, .string v.f2] 29)) (.cells #[.slice A1 r.length c1, .slice (some ⟨w1.heap.size, 0, none⟩) 1 1] 23))) | (go_at_call 10; go_must (refine (HR.out _ hb1).mono ?_; rintro e w2 ⟨rfl, hd⟩; have hb2 := below_then hb1a hd.below; clear hd a0 a1 a2)) | (go_at_call 11; go_must (refine (HAW.out _ hb2).mono ?_; rintro e w99 ⟨rfl, hd⟩; have hb3 := below_then hb2 hd; clear hd)))
      go_ret
      exact ⟨rfl, then_alloc hb3⟩
    | true =>
      have hr20 : okLen r ∧ okLen [v] := by
        have : okLenB r = true ∧ okLenB [v] = true := by simpa [rowsF] using hrows
        exact ⟨(okLenB_iff r).1 this.1, (okLenB_iff [v]).1 this.2⟩
      have HRL := Aside0.mk hr20.1
      have HVL : Aside0 (v.f2.size ≤ 200) := ⟨hr20.2.2 v (by simp)⟩
      clear hrows hr20
      cases rN with
      | false =>
        clear hN20
        go_enter Tryd.func6, Tryd.ntmps6
        go_wp2_with (first | (go_at_call 9; go_must (refine (HI.out _ (Below.refl _ _)).mono ?_; rintro e w1 ⟨rfl, hd⟩; have hb1 := below_then (Below.refl _ _) hd.below; clear hd; obtain ⟨a0, a1, a2⟩ := HBX.out _ hb1; have hb1a := below_alloc (below_alloc hb1 (.cells #[.int .i64 v.f0, .int .i64 v.f1, .string v.f2] 29)) (.cells #[.slice A1 r.length c1, .slice (some ⟨w1.heap.size, 0, none⟩) 1 1] 23))) | (go_at_call 10; go_must (refine (HR.out _ hb1).mono ?_; rintro e w2 ⟨rfl, hd⟩; have hb2 := below_then hb1a hd.below; clear hd a0 a1 a2)) | (go_at_call 30; go_must (refine (hN.out _ hb2).mono ?_; rintro e w3 ⟨rfl, hd⟩; have hb3 := below_then hb2 hd.below; clear hd)) | (go_at_call 11; go_must (refine (HAW.out _ hb3).mono ?_; rintro e w99 ⟨rfl, hd⟩; have hb4 := below_then hb3 hd; clear hd)))
        go_ret
        exact ⟨rfl, then_alloc hb4⟩
      | true =>
        have hn20 := hN20 rfl
        clear hN20
        obtain ⟨⟨pl, pe⟩, hpf⟩ : ∃ x, pickF l r names = x := ⟨_, rfl⟩
        have HPL : Aside0 (okLen pl) := ⟨by have := pick_ok (l := l) (names := names) HRL.out hn20; rw [hpf] at this; exact this⟩
        have HP1 := fun (W : World) (h : Below (w.alloc (.cells #[.int .i64 v.f0, .int .i64 v.f1, .string v.f2] 29)).heap.size (w.alloc (.cells #[.int .i64 v.f0, .int .i64 v.f1, .string v.f2] 29)) W) => Aside0.mk (Pick_is hpf A0 c0 A1 c1 A2 c2 W hl20 hn20 (Kd.C_below H0.out (then_alloc h)) (Kd.C_below H1.out (then_alloc h)) (Kd.C_below H2.out (then_alloc h)))
        have HP2 := fun (W : World) (h : Below (w.alloc (.cells #[.int .i64 v.f0, .int .i64 v.f1, .string v.f2] 29)).heap.size (w.alloc (.cells #[.int .i64 v.f0, .int .i64 v.f1, .string v.f2] 29)) W) => Aside0.mk (refPick_is hpf A0 c0 A1 c1 A2 c2 W hl20 hn20 (Kd.C_below H0.out (then_alloc h)) HL0.out (Kd.C_below H1.out (then_alloc h)) HL1.out (Kd.C_below H2.out (then_alloc h)) HL2.out)
        have hpe : (pe != pe) = false := bne_self_eq_false _
        clear hpf
        go_enter Tryd.func6, Tryd.ntmps6
        go_wp2_with (first
          | (go_at_call 9; go_must (refine (HI.out _ (Below.refl _ _)).mono ?_; rintro e w1 ⟨rfl, hd⟩; have hb1 := below_then (Below.refl _ _) hd.below; clear hd; obtain ⟨a0, a1, a2⟩ := HBX.out _ hb1; have hb1a := below_alloc (below_alloc hb1 (.cells #[.int .i64 v.f0, .int .i64 v.f1, .string v.f2] 29)) (.cells #[.slice A1 r.length c1, .slice (some ⟨w1.heap.size, 0, none⟩) 1 1] 23))) | (go_at_call 10; go_must (refine (HR.out _ hb1).mono ?_; rintro e w2 ⟨rfl, hd⟩; have hb2 := below_then hb1a hd.below; clear hd a0 a1 a2)) | (go_at_call 30; go_must (refine (hN.out _ hb2).mono ?_; rintro e w3 ⟨rfl, hd⟩; have hb3 := below_then hb2 hd.below; clear hd))
          | (go_at_call 34; go_must (refine (HP1 _ hb3).out.mono ?_; rintro e w4 ⟨v4, rfl, hO4, hd4⟩; have hb4 := below_then hb3 hd4; clear hd4; obtain ⟨A4, c4, rfl, hc4, hC4⟩ := Kd.R_reads hO4; have HC4 := Aside0.mk hC4; have HX4 := Aside0.mk hc4; clear hO4 hC4 hc4))
          | (go_at_call 37; go_must (refine (HP2 _ hb4).out.mono ?_; rintro e w5 ⟨v5, rfl, hO5, hd5⟩; have hb5 := below_then hb4 hd5; obtain ⟨A5, c5, rfl, hc5, hC5⟩ := Kd.R_reads hO5; have HC5 := Aside0.mk hC5; have HX5 := Aside0.mk hc5; have HC45 := Aside0.mk (Kd.C_below HC4.out hd5); clear hO5 hC5 hc5 hd5))
          | (go_at_call 29; go_must (refine (refSame_self HPL.out A4 A5 c4 c5 _ HC45.out HX4.out HC5.out HX5.out).mono ?_; rintro e w6 ⟨rfl, hd6⟩; have hb6 := below_then hb5 hd6; clear hd6)))
        clear hb1 hb2 hb3 hb4 hb5 HP1 HP2 HPL HC4 HX4 HC5 HX5 HC45 hpe
        go_loopg [13] names.length (fun g v13 wr => ∃ (i : Nat), g = names.length - i ∧ i ≤ names.length ∧ v13 = .int .i64 i ∧ Below (w.alloc (.cells #[.int .i64 v.f0, .int .i64 v.f1, .string v.f2] 29)).heap.size (w.alloc (.cells #[.int .i64 v.f0, .int .i64 v.f1, .string v.f2] 29)) wr)
        case atStart => exact ⟨0, rfl, Nat.zero_le _, rfl, hb6⟩
        case round =>
          clear hb6
          obtain ⟨i, hg, hi, rfl, hbel⟩ := hrel
          have HG := Aside0.mk hg
          clear hg
          by_cases hlt : i < names.length
          · obtain ⟨ad, nm, hA, hdx, kk⟩ := C_str H2.out i hlt
            subst hA
            clear hdx
            have HK : Aside0 (∀ W, Below (w.alloc (.cells #[.int .i64 v.f0, .int .i64 v.f1, .string v.f2] 29)).heap.size (w.alloc (.cells #[.int .i64 v.f0, .int .i64 v.f1, .string v.f2] 29)) W → W.cell? (ad.add i) = some (.string nm)) := ⟨fun W h => pw_cell_below (then_alloc h) kk⟩
            have k0 := HK.out _ hbel
            clear kk
            obtain ⟨⟨fa, fe⟩, hff⟩ : ∃ x, findF l nm = x := ⟨_, rfl⟩
            have HF1 := fun (W : World) (h : Below (w.alloc (.cells #[.int .i64 v.f0, .int .i64 v.f1, .string v.f2] 29)).heap.size (w.alloc (.cells #[.int .i64 v.f0, .int .i64 v.f1, .string v.f2] 29)) W) => Aside0.mk (Find_is hff A0 c0 W hl20 (Kd.C_below H0.out (then_alloc h)))
            have HF2 := fun (W : World) (h : Below (w.alloc (.cells #[.int .i64 v.f0, .int .i64 v.f1, .string v.f2] 29)).heap.size (w.alloc (.cells #[.int .i64 v.f0, .int .i64 v.f1, .string v.f2] 29)) W) => Aside0.mk (refFind_is hff A0 c0 W hl20 (Kd.C_below H0.out (then_alloc h)) HL0.out)
            obtain ⟨⟨xl, xe⟩, hpf⟩ : ∃ x, putF l r nm v = x := ⟨_, rfl⟩
            have HXL : Aside0 (okLen xl) := ⟨by have := put_ok (l := l) (nm := nm) HRL.out HVL.out; rw [hpf] at this; exact this⟩
            have HP1 := fun (W : World) (h : Below (w.alloc (.cells #[.int .i64 v.f0, .int .i64 v.f1, .string v.f2] 29)).heap.size (w.alloc (.cells #[.int .i64 v.f0, .int .i64 v.f1, .string v.f2] 29)) W) => Aside0.mk (Put_is hpf A0 c0 A1 c1 W hl20 (Kd.C_below H0.out (then_alloc h)) (Kd.C_below H1.out (then_alloc h)))
            have HP2 := fun (W : World) (h : Below (w.alloc (.cells #[.int .i64 v.f0, .int .i64 v.f1, .string v.f2] 29)).heap.size (w.alloc (.cells #[.int .i64 v.f0, .int .i64 v.f1, .string v.f2] 29)) W) => Aside0.mk (refPut_is hpf A0 c0 A1 c1 W hl20 (Kd.C_below H0.out (then_alloc h)) HL0.out (Kd.C_below H1.out (then_alloc h)) HL1.out)
            have hfa : (fa != fa) = false := bne_self_eq_false _
            have hfe : (fe != fe) = false := bne_self_eq_false _
            have hxe : (xe != xe) = false := bne_self_eq_false _
            clear hff
            by_cases hz : xe = 0
            · subst hz
              have hpp := put_pick (l := l) (r := r) (nm := nm) (v := v) (by rw [hpf])
              rw [hpf] at hpp
              have HPO := fun A A' c c' W a b d => Aside0.mk (PickOne_is hpp.2 A0 c0 A c A' c' W hl20 a b d)
              have HFI := fun A c W a b => Aside0.mk (Fits_is hpp.1 hl20 A0 c0 A c W a b)
              clear hpf hpp
              have q0 : (v.f0 == v.f0) = true := beq_self_eq_true _
              have q1 : (v.f1 == v.f1) = true := beq_self_eq_true _
              have q2 : (v.f2.toList == v.f2.toList) = true := beq_self_eq_true _
              go_wp2_with (first
                | (go_at_call 38; go_must (refine (HF1 _ hbel).out.mono ?_; rintro e w10 ⟨rfl, hd⟩; have hb10 := below_then hbel hd; have k10 := HK.out _ hb10; clear hd))
                | (go_at_call 39; go_must (refine (HF2 _ hb10).out.mono ?_; rintro e w11 ⟨rfl, hd⟩; have hb11 := below_then hb10 hd; have k11 := HK.out _ hb11; obtain ⟨b0, b1, b2⟩ := HBX.out _ hb11; clear hd)))
              go_region_held3 (fun w' => Below (w.alloc (.cells #[.int .i64 v.f0, .int .i64 v.f1, .string v.f2] 29)).heap.size (w.alloc (.cells #[.int .i64 v.f0, .int .i64 v.f1, .string v.f2] 29)) w' ∧ w'.cell? (ad.add i) = some (.string nm) ∧ w'.cell? ⟨w.heap.size, 0, none⟩ = some (.int .i64 v.f0) ∧ w'.cell? ⟨w.heap.size, 1, none⟩ = some (.int .i64 v.f1) ∧ w'.cell? ⟨w.heap.size, 2, none⟩ = some (.string v.f2)) ((refine (fun h => ⟨h, HK.out _ h, (HBX.out _ h).1, (HBX.out _ h).2.1, (HBX.out _ h).2.2⟩ : Below (w.alloc (.cells #[.int .i64 v.f0, .int .i64 v.f1, .string v.f2] 29)).heap.size (w.alloc (.cells #[.int .i64 v.f0, .int .i64 v.f1, .string v.f2] 29)) _ → _) ?_; (repeat first | exact hb11 | exact hb14 | refine below_drew ?_ | refine below_alloc ?_ _))) (first | (go_at_call 40; go_must (refine (HP1 _ (‹Below (w.alloc (.cells #[.int .i64 v.f0, .int .i64 v.f1, .string v.f2] 29)).heap.size (w.alloc (.cells #[.int .i64 v.f0, .int .i64 v.f1, .string v.f2] 29)) _ ∧ _›).1).out.mono ?_; rintro e w14 ⟨v14, rfl, hO14, hd14⟩; have hb14 := below_then (‹Below (w.alloc (.cells #[.int .i64 v.f0, .int .i64 v.f1, .string v.f2] 29)).heap.size (w.alloc (.cells #[.int .i64 v.f0, .int .i64 v.f1, .string v.f2] 29)) _ ∧ _›).1 hd14; clear hd14; obtain ⟨A14, c14, rfl, hc14, hC14⟩ := Kd.R_reads hO14; have HC14 := Aside0.mk hC14; have HX14 := Aside0.mk hc14; clear hO14 hC14 hc14)))
              all_goals
                have hr0 : Below w14.heap.size w14 w14 := Below.refl _ _
                have k14 := HK.out _ hb14
                obtain ⟨d0, d1, d2⟩ := HBX.out _ hb14
                clear b0 b1 b2
                go_wp2
                go_region_held3 (fun w' => Below w14.heap.size w14 w' ∧ w'.cell? (ad.add i) = some (.string nm) ∧ w'.cell? ⟨w.heap.size, 0, none⟩ = some (.int .i64 v.f0) ∧ w'.cell? ⟨w.heap.size, 1, none⟩ = some (.int .i64 v.f1) ∧ w'.cell? ⟨w.heap.size, 2, none⟩ = some (.string v.f2)) ((refine (fun h => ⟨h, HK.out _ (below_then hb14 h), (HBX.out _ (below_then hb14 h)).1, (HBX.out _ (below_then hb14 h)).2.1, (HBX.out _ (below_then hb14 h)).2.2⟩ : Below w14.heap.size w14 _ → _) ?_; (repeat first | exact hr0 | exact hr15 | refine below_drew ?_ | refine below_alloc ?_ _))) (first | (go_at_call 41; go_must (refine (HP2 _ (below_then hb14 (‹Below w14.heap.size w14 _ ∧ _›).1)).out.mono ?_; rintro e w15 ⟨v15, rfl, hO15, hd15⟩; have hr15 := below_then (‹Below w14.heap.size w14 _ ∧ _›).1 hd15; clear hd15; obtain ⟨A15, c15, rfl, hc15, hC15⟩ := Kd.R_reads hO15; have HC15 := Aside0.mk hC15; have HX15 := Aside0.mk hc15; clear hO15 hC15 hc15)))
                all_goals
                  have hb15 := below_then hb14 hr15
                  have HC145 := Aside0.mk (Kd.C_below HC14.out hr15)
                  have k15 := HK.out _ hb15
                  clear d0 d1 d2 k10 k11 k14 k0
                  go_wp2_with (first
                    | (go_at_call 29; go_must (refine (refSame_self HXL.out A14 A15 c14 c15 _ HC145.out HX14.out HC15.out HX15.out).mono ?_; rintro e w16 ⟨rfl, hd⟩; have hb16 := below_then hb15 hd; have HC16 := Aside0.mk (Kd.C_below HC145.out hd); have k16 := HK.out _ hb16; clear hd k15; have hb16a := below_alloc hb16 (.cells #[.string nm] 9)))
                    | (go_at_call 34; go_must (refine (HPO A14 (some ⟨w16.heap.size, 0, none⟩) c14 1 _ (Kd.C_below H0.out (then_alloc hb16a)) (Kd.C_alloc HC16.out _) (C_str1 w16 nm)).out.mono ?_; rintro e w19 ⟨ad19, c19, rfl, o0, o1, o2, hd⟩; have hb19 := below_then hb16a hd; have HC19 := Aside0.mk (Kd.C_below (Kd.C_alloc HC16.out (.cells #[.string nm] 9)) hd); obtain ⟨d0, d1, d2⟩ := HBX.out _ hb19; clear hd k16; have HO0 := Aside0.mk o0; have HO1 := Aside0.mk o1; have HO2 := Aside0.mk o2)))
                  have hs0 : Below w19.heap.size w19 w19 := Below.refl _ _
                  go_region_held3 (fun w' => Below w19.heap.size w19 w' ∧ w'.cell? ad19 = some (.int .i64 v.f0) ∧ w'.cell? ⟨ad19.block, ad19.off + 1, none⟩ = some (.int .i64 v.f1) ∧ w'.cell? ⟨ad19.block, ad19.off + 2, none⟩ = some (.string v.f2) ∧ w'.cell? ⟨w.heap.size, 0, none⟩ = some (.int .i64 v.f0) ∧ w'.cell? ⟨w.heap.size, 1, none⟩ = some (.int .i64 v.f1) ∧ w'.cell? ⟨w.heap.size, 2, none⟩ = some (.string v.f2)) ((refine (fun h => ⟨h, pw_cell_below h HO0.out, pw_cell_below h HO1.out, pw_cell_below h HO2.out, (HBX.out _ (below_then hb19 h)).1, (HBX.out _ (below_then hb19 h)).2.1, (HBX.out _ (below_then hb19 h)).2.2⟩ : Below w19.heap.size w19 _ → _) ?_; (repeat first | exact hs0 | exact hr20 | refine below_drew ?_ | refine below_alloc ?_ _))) (first | (go_at_call 22; go_must (refine (HFI A14 c14 _ (Kd.C_below H0.out (then_alloc (below_then hb19 (‹Below w19.heap.size w19 _ ∧ _›).1))) (Kd.C_below HC19.out (‹Below w19.heap.size w19 _ ∧ _›).1)).out.mono ?_; rintro e w20 ⟨rfl, hd⟩; have hr20 := below_then (‹Below w19.heap.size w19 _ ∧ _›).1 hd; clear hd)))
                  all_goals
                    go_wp2
                    go_roundg (names.length - (i + 1))
                    case measure => have := HG.out; omega
                    case rel => exact ⟨i + 1, rfl, by omega, by go_num, below_then hb19 hr20⟩
            · have hz0 : (xe == 0) = false := beq_eq_false_iff_ne.2 hz
              clear hpf hz
              go_wp2_with (first
                | (go_at_call 38; go_must (refine (HF1 _ hbel).out.mono ?_; rintro e w10 ⟨rfl, hd⟩; have hb10 := below_then hbel hd; have k10 := HK.out _ hb10; clear hd))
                | (go_at_call 39; go_must (refine (HF2 _ hb10).out.mono ?_; rintro e w11 ⟨rfl, hd⟩; have hb11 := below_then hb10 hd; have k11 := HK.out _ hb11; obtain ⟨b0, b1, b2⟩ := HBX.out _ hb11; clear hd)))
              go_region_held3 (fun w' => Below (w.alloc (.cells #[.int .i64 v.f0, .int .i64 v.f1, .string v.f2] 29)).heap.size (w.alloc (.cells #[.int .i64 v.f0, .int .i64 v.f1, .string v.f2] 29)) w' ∧ w'.cell? (ad.add i) = some (.string nm) ∧ w'.cell? ⟨w.heap.size, 0, none⟩ = some (.int .i64 v.f0) ∧ w'.cell? ⟨w.heap.size, 1, none⟩ = some (.int .i64 v.f1) ∧ w'.cell? ⟨w.heap.size, 2, none⟩ = some (.string v.f2)) ((refine (fun h => ⟨h, HK.out _ h, (HBX.out _ h).1, (HBX.out _ h).2.1, (HBX.out _ h).2.2⟩ : Below (w.alloc (.cells #[.int .i64 v.f0, .int .i64 v.f1, .string v.f2] 29)).heap.size (w.alloc (.cells #[.int .i64 v.f0, .int .i64 v.f1, .string v.f2] 29)) _ → _) ?_; (repeat first | exact hb11 | exact hb14 | refine below_drew ?_ | refine below_alloc ?_ _))) (first | (go_at_call 40; go_must (refine (HP1 _ (‹Below (w.alloc (.cells #[.int .i64 v.f0, .int .i64 v.f1, .string v.f2] 29)).heap.size (w.alloc (.cells #[.int .i64 v.f0, .int .i64 v.f1, .string v.f2] 29)) _ ∧ _›).1).out.mono ?_; rintro e w14 ⟨v14, rfl, hO14, hd14⟩; have hb14 := below_then (‹Below (w.alloc (.cells #[.int .i64 v.f0, .int .i64 v.f1, .string v.f2] 29)).heap.size (w.alloc (.cells #[.int .i64 v.f0, .int .i64 v.f1, .string v.f2] 29)) _ ∧ _›).1 hd14; clear hd14; obtain ⟨A14, c14, rfl, hc14, hC14⟩ := Kd.R_reads hO14; have HC14 := Aside0.mk hC14; have HX14 := Aside0.mk hc14; clear hO14 hC14 hc14)))
              all_goals
                have hr0 : Below w14.heap.size w14 w14 := Below.refl _ _
                have k14 := HK.out _ hb14
                obtain ⟨d0, d1, d2⟩ := HBX.out _ hb14
                clear b0 b1 b2
                go_wp2
                go_region_held3 (fun w' => Below w14.heap.size w14 w' ∧ w'.cell? (ad.add i) = some (.string nm) ∧ w'.cell? ⟨w.heap.size, 0, none⟩ = some (.int .i64 v.f0) ∧ w'.cell? ⟨w.heap.size, 1, none⟩ = some (.int .i64 v.f1) ∧ w'.cell? ⟨w.heap.size, 2, none⟩ = some (.string v.f2)) ((refine (fun h => ⟨h, HK.out _ (below_then hb14 h), (HBX.out _ (below_then hb14 h)).1, (HBX.out _ (below_then hb14 h)).2.1, (HBX.out _ (below_then hb14 h)).2.2⟩ : Below w14.heap.size w14 _ → _) ?_; (repeat first | exact hr0 | exact hr15 | refine below_drew ?_ | refine below_alloc ?_ _))) (first | (go_at_call 41; go_must (refine (HP2 _ (below_then hb14 (‹Below w14.heap.size w14 _ ∧ _›).1)).out.mono ?_; rintro e w15 ⟨v15, rfl, hO15, hd15⟩; have hr15 := below_then (‹Below w14.heap.size w14 _ ∧ _›).1 hd15; clear hd15; obtain ⟨A15, c15, rfl, hc15, hC15⟩ := Kd.R_reads hO15; have HC15 := Aside0.mk hC15; have HX15 := Aside0.mk hc15; clear hO15 hC15 hc15)))
                all_goals
                  have hb15 := below_then hb14 hr15
                  have HC145 := Aside0.mk (Kd.C_below HC14.out hr15)
                  clear d0 d1 d2 k10 k11 k14 k0
                  go_wp2_with (first
                    | (go_at_call 29; go_must (refine (refSame_self HXL.out A14 A15 c14 c15 _ HC145.out HX14.out HC15.out HX15.out).mono ?_; rintro e w16 ⟨rfl, hd⟩; have hb16 := below_then hb15 hd; clear hd)))
                  go_roundg (names.length - (i + 1))
                  case measure => have := HG.out; omega
                  case rel => exact ⟨i + 1, rfl, by omega, by go_num, hb16⟩
          · have hlt2 : ¬ ((i : Int) < (names.length : Int)) := by omega
            obtain ⟨⟨dl, de⟩, hdf⟩ : ∃ x, defF l = x := ⟨_, rfl⟩
            have HDL : Aside0 (okLen dl) := ⟨by have := def_ok hl20; rw [hdf] at this; exact this⟩
            have HD1 := fun (W : World) (h : Below (w.alloc (.cells #[.int .i64 v.f0, .int .i64 v.f1, .string v.f2] 29)).heap.size (w.alloc (.cells #[.int .i64 v.f0, .int .i64 v.f1, .string v.f2] 29)) W) => Aside0.mk (Def_is hdf A0 c0 W hl20 (Kd.C_below H0.out (then_alloc h)))
            have HD2 := fun (W : World) (h : Below (w.alloc (.cells #[.int .i64 v.f0, .int .i64 v.f1, .string v.f2] 29)).heap.size (w.alloc (.cells #[.int .i64 v.f0, .int .i64 v.f1, .string v.f2] 29)) W) => Aside0.mk (refDef_is hdf A0 c0 W hl20 (Kd.C_below H0.out (then_alloc h)) HL0.out)
            have hde : (de == de) = true := beq_self_eq_true _
            by_cases hz : de = 0
            · subst hz
              have hdd := def_fits (l := l) (by rw [hdf])
              rw [hdf] at hdd
              have HFI := fun A c W a b => Aside0.mk (Fits_is hdd hl20 A0 c0 A c W a b)
              clear hdf hdd
              go_wp2_with (first
                | (go_at_call 42; go_must (refine (HD1 _ hbel).out.mono ?_; rintro e w22 ⟨v22, rfl, hO22, hd⟩; have hb22 := below_then hbel hd; clear hd; obtain ⟨A22, c22, rfl, hc22, hC22⟩ := Kd.R_reads hO22; have HC22 := Aside0.mk hC22; have HX22 := Aside0.mk hc22; clear hO22 hC22 hc22))
                | (go_at_call 43; go_must (refine (HD2 _ hb22).out.mono ?_; rintro e w23 ⟨v23, rfl, hO23, hd⟩; have hb23 := below_then hb22 hd; obtain ⟨A23, c23, rfl, hc23, hC23⟩ := Kd.R_reads hO23; have HC23 := Aside0.mk hC23; have HX23 := Aside0.mk hc23; have HC223 := Aside0.mk (Kd.C_below HC22.out hd); clear hO23 hC23 hc23 hd))
                | (go_at_call 29; go_must (refine (refSame_self HDL.out A22 A23 c22 c23 _ HC223.out HX22.out HC23.out HX23.out).mono ?_; rintro e w24 ⟨rfl, hd⟩; have hb24 := below_then hb23 hd; have HC24 := Aside0.mk (Kd.C_below HC223.out hd); clear hd))
                | (go_at_call 22; go_must (refine (HFI A22 c22 _ (Kd.C_below H0.out (then_alloc hb24)) HC24.out).out.mono ?_; rintro e w25 ⟨rfl, hd⟩; have hb25 := below_then hb24 hd; clear hd))
                | (go_at_call 11; go_must (refine (HAW.out _ hb25).mono ?_; rintro e w99 ⟨rfl, hd⟩; have hb26 := below_then hb25 hd; clear hd)))
              go_ret
              exact ⟨rfl, then_alloc hb26⟩
            · have hz0 : (de != 0) = true := bne_iff_ne.2 hz
              clear hdf hz
              go_wp2_with (first
                | (go_at_call 42; go_must (refine (HD1 _ hbel).out.mono ?_; rintro e w22 ⟨v22, rfl, hO22, hd⟩; have hb22 := below_then hbel hd; clear hd; obtain ⟨A22, c22, rfl, hc22, hC22⟩ := Kd.R_reads hO22; have HC22 := Aside0.mk hC22; have HX22 := Aside0.mk hc22; clear hO22 hC22 hc22))
                | (go_at_call 43; go_must (refine (HD2 _ hb22).out.mono ?_; rintro e w23 ⟨v23, rfl, hO23, hd⟩; have hb23 := below_then hb22 hd; obtain ⟨A23, c23, rfl, hc23, hC23⟩ := Kd.R_reads hO23; have HC23 := Aside0.mk hC23; have HX23 := Aside0.mk hc23; have HC223 := Aside0.mk (Kd.C_below HC22.out hd); clear hO23 hC23 hc23 hd))
                | (go_at_call 29; go_must (refine (refSame_self HDL.out A22 A23 c22 c23 _ HC223.out HX22.out HC23.out HX23.out).mono ?_; rintro e w24 ⟨rfl, hd⟩; have hb24 := below_then hb23 hd; have HC24 := Aside0.mk (Kd.C_below HC223.out hd); clear hd)) | (go_at_call 11; go_must (refine (HAW.out _ hb24).mono ?_; rintro e w99 ⟨rfl, hd⟩; have hb26 := below_then hb24 hd; clear hd)))
              go_ret
              exact ⟨rfl, then_alloc hb26⟩
end Go.Proofs.YtibgjfeifpanhaaDoor.B

set_option linter.unusedVariables false
set_option linter.unusedSimpArgs false
namespace Go.Proofs.YtibgjfeifpanhaaDoor.B
open Go.RowKit Go.Deep Go.ChangeShapes Go.WideShapes Go.Proofs.YtibgjfeifpanhaaDoorW.PrintWords Go.Maps PItemValid

section
variable {H : Type} {enc : TypeId × Value → H} {W : World} {held : Bool}
set_option maxRecDepth 100000 in
theorem open_val {base : Nat} {v : Value} {d : DataW H} {p : List MemPlace} (hval : Value.okWide Tryd.prog W .any base 29 v) (h : DataW.Trod enc Tryd.prog W 0 (fun _ => true) held 29 v d p) : ∃ s : S29, v = vV s := by
  obtain ⟨cs, rfl, hcs⟩ := okWide_struct Tryd.underlying29 hval
  obtain ⟨n, hn⟩ := h
  have hn' : DataW.trod enc Tryd.prog W 0 (fun _ => true) held n 29 cs.toList = some (d, p) := hn
  obtain ⟨xs, m, _, _, hl, hn2, hf⟩ := DataW.trod_struct Tryd.underlying29 hn'
  have hc : Tryd.prog.cellsOf 29 = 3 := by kernel_rfl
  have hc3 : Tryd.prog.cellsOf 3 = 1 := by kernel_rfl
  have hc9 : Tryd.prog.cellsOf 9 = 1 := by kernel_rfl
  rw [hc] at hl
  obtain ⟨cl, rfl⟩ : ∃ l : List Value, cs = l.toArray := ⟨cs.toList, by simp⟩
  match cl, hl with
  | [u0, u1, u2], _ =>
    match xs, hn2 with
    | [x0, x1, x2], _ =>
      have h0 := hf 0 _ rfl
      have h1 := hf 1 _ rfl
      have h2 := hf 2 _ rfl
      simp [hc3, hc9] at h0 h1 h2
      obtain ⟨n0, e0, _, _⟩ := DataW.trod_int Tryd.underlying3 h0
      obtain ⟨n1, e1, _, _⟩ := DataW.trod_int Tryd.underlying3 h1
      obtain ⟨s2, e2, _, _⟩ := DataW.trod_string Tryd.underlying9 h2
      simp at e0 e1 e2
      subst e0 e1 e2
      exact ⟨⟨n0, n1, s2⟩, rfl⟩
end
end Go.Proofs.YtibgjfeifpanhaaDoor.B
