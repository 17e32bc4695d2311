/- Pack of package array. -/
import Derived.StillTailTactics
import Derived.Deep.DrawnRows
import Derived.BigQuiet
import Derived.Test.YtjpobhdgfdeenaaA39
set_option linter.unusedVariables false
set_option linter.unusedSimpArgs false
namespace Go.Proofs.Ytjpobhdgfdeenaa.A
open Go.RowKit Go.Shelf Go.Proofs.YtjpobhdgfdeenaaW.PrintWords Go.Maps
attribute [local go_sem] Oper.semAt_some

set_option maxRecDepth 100000 in
set_option maxHeartbeats 4000000 in
theorem pack_in (b : Int) (N : Nat) (A : Option Addr) (c : Nat) (l : List (List Int)) (w : World) (hr : Kd.C (Kd.slice 3 (Kd.int .i64)) w A l.length l) (hv : validB b l = true) (hN1 : 1 ≤ N) (hNb : (N : Int) ≤ b) :
    Calls Try.prog 28 #[.int .i64 b, .slice A l.length c, .int .i64 (N : Int)] w fun e w' => ∃ v, e = .returned (.tuple #[v, .int .i64 0]) ∧ RA w' v (chunks N l.flatten) ∧ Below w.heap.size w w' := by
  have HR := Aside0.mk hr
  obtain ⟨hb2, hrows, hfew, hlen⟩ := valid_arr hv
  have hb50 := hb2.2
  have HLI := fun W h => Aside0.mk (listed_calls A c l W h (by omega))
  have HV := Aside0.mk hv
  clear hr hv hrows hb2 hlen
  generalize l.flatten = L at HLI hfew ⊢
  have hN2 : N ≤ 50 := by omega
  have hd1 : decide ((N : Int) < 1) = false := decide_eq_false (by omega)
  have hd2 : decide (b < (N : Int)) = false := decide_eq_false (by omega)
  refine (callsIn_wide (n := 9)).1 ?_
  have hf15 : Fence.wide.fn 15 := trivial
  have hf46 : Fence.wide.fn 46 := trivial
  have hf51 : Fence.wide.fn 51 := trivial
  have hf52 : Fence.wide.fn 52 := trivial
  refine callsIn_of_wp_marks Try.func28 rfl trivial ?_ rfl
  simp only [Try.ntmps28, List.size_toArray, List.length_cons, List.length_nil, Nat.reduceAdd, Nat.reduceSub, Array.replicate_succ, Array.replicate_zero, List.push_toArray, List.append_toArray, List.nil_append, List.cons_append]
  gi_wp2_with (first | (gi_at_call 15; go_must (refine (callsIn_wide.2 (valid_is HV.out A c _ HR.out)).mono ?_; rintro e W1 ⟨rfl, hb1⟩)) | (gi_at_call 46; go_must (refine (callsIn_wide.2 (HLI _ (Kd.C_below HR.out (below_alloc hb1 _))).out).mono ?_; rintro e W2 ⟨v2, rfl, ho2, hb2⟩; obtain ⟨A2, c2, e2, hlc, hC2⟩ := OI_reads ho2; subst e2; have HO2 := Aside0.mk ho2; have HC2 := Aside0.mk hC2; clear ho2 hC2)) | (gi_at_call 51; go_must (refine (Chunk_in _ _ _ _ N hN1 _).mono ?_; rintro e w' ⟨rfl, rfl⟩)))
  have hs1 : w.heap.size ≤ W1.heap.size := hb1.size
  have hs2 : W1.heap.size + 1 ≤ W2.heap.size := by have := hb2.size; simpa using this
  have hbw2 : Below w.heap.size w W2 := (below_alloc hb1 _).trans (hb2.mono (by simp; omega))
  have hbox2 : Boxed W2 W1.heap.size 24 (.slice none 0 0) := (hb2.block _ (by simp)).trans (Boxed.new W1 24 _)
  obtain ⟨W0, hW0⟩ : ∃ W0, W0 = (W2.alloc (.cells #[.slice A2 L.length c2] 22)).alloc (.cells #[.int .i64 (N : Int)] 3) := ⟨_, rfl⟩
  have hb02 : Below W2.heap.size W2 W0 := by rw [hW0]; exact below_alloc (below_alloc (Below.refl _ _) _) _
  have hs0 : W0.heap.size = W2.heap.size + 2 := by rw [hW0]; simp
  have hbw0 : Below w.heap.size w W0 := hbw2.trans (hb02.mono (by omega))
  have hbox0 : Boxed W0 W1.heap.size 24 (.slice none 0 0) := (hb02.block _ (by omega)).trans hbox2
  have hoi0 : OI W0 w.heap.size (.slice A2 L.length c2) L := Kd.R_lower (OI_below HO2.out hb02) (by simp; omega)
  have hci0 : ChInv W2.heap.size (W2.heap.size + 1) A2 L.length c2 N W0 := by
    refine ⟨?_, ?_⟩
    · rw [hW0]; exact ((Boxed.new W2 22 (.slice A2 L.length c2)).alloc _).cell
    · rw [hW0]
      have := (Boxed.new (W2.alloc (.cells #[.slice A2 L.length c2] 22)) 3 (.int .i64 (N : Int))).cell
      rwa [World.size_alloc] at this
  rw [← hW0]
  clear hW0
  obtain ⟨ad, hA⟩ : ∃ ad, L ≠ [] → A2 = some ad := by
    by_cases h : L = []
    · exact ⟨⟨0, 0, none⟩, fun h' => absurd h h'⟩
    · obtain ⟨ad, he, _⟩ := HC2.out.2.2 (List.length_pos_iff.2 h)
      exact ⟨ad, fun _ => he⟩
  have HA := Aside0.mk hA
  have HCI := Aside0.mk hci0
  have mixed : Try.prog.follows .mixedOrders = true := by kernel_rfl
  have hst := chunk_stops W2.heap.size (W2.heap.size + 1) A2 ad c2 N L HA.out hlc hfew hN1 hN2 w.heap.size W1.heap.size W0 HCI.out ⟨by omega, by omega⟩ ⟨by omega, by omega⟩
  clear hA hci0
  refine wpIn_rangeFunc_ownH (F := Fence.wide) (n := 9) rfl (by decide) (gf := 66) (lb := #[.pointer (some ⟨W2.heap.size, 0, none⟩), .pointer (some ⟨W2.heap.size + 1, 0, none⟩)]) rfl trivial (enters_of Try.func66 (by kernel_rfl) rfl)
    hst (fun h k => h.trans k) (fun W l o o' hl h hc hw => ⟨belowK_b (w := w) (Nat.le_refl _) W l o o' (by omega) h hc hw, fun k h1 h2 => World.putObj_heap_other (by omega)⟩) (Below.refl _ _) (fun _ => rfl)
    (fun pre W => PInv w.heap.size W1.heap.size W0.heap.size (.slice A2 L.length c2) N L pre W ∧ Below w.heap.size w W ∧ W0.heap.size ≤ W.heap.size)
    (fun c pre W => False)
    (OwnFrom.and (pinv_own _ _ _ _ _ _ _) (OwnFrom.and (ownFrom_below (Nat.le_refl _) (by omega)) (fun _ _ _ _ h hg _ => Nat.le_trans h hg.size)))
    (fun c => fun _ _ _ _ h _ _ => h.elim)
    ⟨⟨⟨_, hbox0, Kd.R_nil _ _ _ _ _⟩, hoi0⟩, hbw0, Nat.le_refl _⟩
    (fun x a' W => a' = { tmps := #[.int .i64 b, .slice A l.length c, .int .i64 (N : Int), undef, undef, undef, .slice none 0 0, .int .i64 0, .pointer (some ⟨W1.heap.size, 0, none⟩), encC ad N L x, .bool false, .int .i64 b, .slice A l.length c, .bool true, .bool false, .bool false, .int .i64 (N : Int), .bool false, .bool false, .int .i64 (N : Int), .int .i64 b, .bool false, .bool false, .slice A l.length c, .slice A2 L.length c2, .int .i64 (N : Int), .func (.func 66) #[] #[.pointer (some ⟨W2.heap.size, 0, none⟩), .pointer (some ⟨W2.heap.size + 1, 0, none⟩)], encC ad N L x, undef, undef, undef, undef, undef, undef], defers := [] })
    (fun x a' _ X Y row hs hg hr => hs)
    ?assign ?body ?done ?stop
  case assign =>
    rintro lp pre x W K hI hK
    gi_wp2
    exact hK _ _ (KeepsFrom.refl _ _) ⟨Below.refl _ _, fun _ _ _ => rfl⟩ hI rfl
  case body =>
    rintro lp pre x a' W hl _ ⟨⟨⟨v, hbx, hor⟩, hoi⟩, hB, hS⟩ rfl hlt
    obtain rfl := HA.out (by rintro rfl; exact absurd x.2 (by simp))
    have hrow : Aside0 (Kd.C (Kd.int .i64) W (some (ad.add x)) (rowC N L x).length (rowC N L x)) := ⟨by
      obtain ⟨A3, c3, e3, _, hC3⟩ := OI_reads hoi
      injection e3 with e3 e4 e5
      rw [← e3] at hC3
      have h1 := Kd.C_drop hC3 (show (x : Nat) ≤ L.length from Nat.le_of_lt x.2) hlc
      rw [if_neg (by have := x.2; omega), show (x : Nat) * (Kd.int .i64).sz = x from Nat.mul_one _] at h1
      have e : (L.drop x).take N = (L.drop x).take (min N (L.length - x)) := by rw [List.take_eq_take_min, List.length_drop]
      have h2 := Kd.C_take h1 (m := min N (L.length - x)) (by rw [List.length_drop]; omega)
      rw [← e] at h2
      exact h2⟩
    have hcb := hbx.cell
    have hfz := hbx.frozen
    have hx0 : rowC N L x ≠ [] := fun e => by
      have := congrArg List.length e
      rw [rowC, List.length_take, List.length_drop] at this
      have hx := x.2
      simp at this
      omega
    have hx1 : (rowC N L x).length ≤ 1000000 := by
      rw [rowC, List.length_take]; omega
    have hpl : pre.length + 1 ≤ 501 := by omega
    have hcl := Aside0.mk (Clone_calls (some (ad.add x)) (rowC N L x).length (rowC N L x) W.drew (Kd.C_drew hrow.out) hx0 hx1)
    have HOR := Aside0.mk hor
    have HOI := Aside0.mk hoi
    have HB := Aside0.mk hB
    have HBX := Aside0.mk hbx
    clear hor hoi hB hx0 hx1
    dsimp only [encC]
    have HIO : Aside0 (∀ W', PInv w.heap.size W1.heap.size W0.heap.size (.slice (some ad) L.length c2) N L (pre ++ [x]) W' ↔ (∃ v, Boxed W' W1.heap.size 24 v ∧ OR W' W0.heap.size v (pre.map (rowC N L) ++ [rowC N L x])) ∧ OI W' w.heap.size (.slice (some ad) L.length c2) L) := ⟨fun W' => by rw [PInv, List.map_append]; rfl⟩
    have hmapl : (pre.map (rowC N L)).length = pre.length := List.length_map ..
    have HML := Aside0.mk hmapl
    clear hmapl
    generalize rowC N L x = row at hrow hcl HIO ⊢
    generalize pre.map (rowC N L) = rows at HOR HIO HML
    refine wpIn_block ?_
    refine Held.startIn (fun w' => w'.cell? ⟨W1.heap.size, 0, none⟩ = some v) 5 (fun ⟨a, w, h⟩ => h) (by kernel_rfl) mixed (by decide) hcb ?_
    refine Held.take 0 (v := ?v0) rfl (by kernel_rfl) (by decide) (by kernel_rfl) (by kernel_rfl) (fun _ _ _ h => h) (Or.inl ⟨by rfl, ?h0⟩) ?r0
    case h0 => intro w hSw; (try dsimp only at hSw); go_simp; (try with_reducible rfl)
    try simp only [Act.put, List.setIfInBounds_toArray, List.set_cons_zero, List.set_cons_succ]
    refine Held.take 1 (v := ?v1) rfl (by kernel_rfl) (by decide) (by kernel_rfl) (by kernel_rfl) (fun _ _ _ h => h) (Or.inl ⟨by rfl, ?h1⟩) ?r1
    case h1 => intro w hSw; (try dsimp only at hSw); go_simp; (try with_reducible rfl)
    try simp only [Act.put, List.setIfInBounds_toArray, List.set_cons_zero, List.set_cons_succ]
    refine Held.only 2 rfl (by decide) (by kernel_rfl) (fun K2 hK2 => ?_)
    go_simp
    go_at_call 52
    refine hcl.out.mono ?_
    rintro e w1 ⟨v1, rfl, ho1, hb1⟩
    dsimp only
    have hS1 : w1.cell? ⟨W1.heap.size, 0, none⟩ = some v := pw_cell_below hb1 hcb
    refine hK2.out _ _ hS1 ?_
    clear hK2 K2
    try simp only [Act.put, List.setIfInBounds_toArray, List.set_cons_zero, List.set_cons_succ]
    obtain ⟨A9, c9, e9, _⟩ := OI_reads ho1
    subst e9
    have HO1 := Aside0.mk ho1
    have HB1 := Aside0.mk hb1
    clear ho1 hb1
    refine Held.only 3 rfl (by decide) (by kernel_rfl) (fun K3 hK3 => ?_)
    go_simp
    have hb2' : Below W.heap.size W w1 := (below_drew (Below.refl W.heap.size W)).trans HB1.out
    have hcl3 : (w1.alloc (.cells #[.slice A9 row.length c9] 22)).cell? ⟨W1.heap.size, 0, none⟩ = some v := pw_cell_below (below_alloc (Below.refl _ _) _) hS1
    refine hK3.out _ _ hcl3 ?_
    clear hK3 K3
    try simp only [Act.put, List.setIfInBounds_toArray, List.set_cons_zero, List.set_cons_succ]
    have hOR1 := OR_below HOR.out hb2'
    have hWs := hb2'.size
    refine Held.only 4 rfl (by decide) (by kernel_rfl) (fun K4 hK4 => ?_)
    refine Kd.R_append_step kd3 (w0 := w1) (W := w1) W0.heap.size (by rfl) (.tmp 28) (.tmp 31) 24 22 (.slice none 0 0) 24 rfl Try.underlying24 infoA22 rfl (by decide) (by omega) v rows row [.slice A9 row.length c9] Tr (fun k => Tr k ∧ some k ≠ v.ownBlock) rfl rfl (M_not_outer hOR1 (kd3.M_lower hS (M_of_OI HO1.out))) (fun _ h => h) (fun _ _ => trivial) hOR1 (Below.refl _ _) (Nat.le_trans hS hWs) (by have := HML.out; omega) ?_
    intro v5 w5 ho5 hb5 hg5 hat5
    have hne : some W1.heap.size ≠ v.ownBlock := fun e => by have := ownBlock_base (d := kd3) hOR1 _ e.symm; omega
    have hbx5 : Boxed w5 W1.heap.size 24 v := (HBX.out.kept (grown_of_below hb2' none) (by simp)).kept hg5 hne
    refine hK4.out _ _ hbx5.cell ?_
    clear hK4 K4
    have hfz5 := hbx5.frozen
    try simp only [Act.put, List.setIfInBounds_toArray, List.set_cons_zero, List.set_cons_succ]
    obtain ⟨A5, c5, e5, _⟩ := OR_reads ho5
    rw [List.length_append, List.length_singleton] at e5
    subst e5
    have HO5 := Aside0.mk ho5
    refine Held.last 5 rfl (by decide) (by kernel_rfl) (by kernel_rfl) (fun K5 hK5 => ?_)
    have hc5 := hbx5.cell
    go_simp
    refine hK5.out _ _ ?_
    clear hK5 K5
    have hBs := HB.out.size
    have hne2 : (Value.slice (some ad) L.length c2).ownBlock ≠ v.ownBlock := fun e => by
      cases hv0 : (Value.slice (some ad) L.length c2).ownBlock with
      | none =>
        have : L.length = 0 := by
          obtain ⟨_, inner, ho, _⟩ := HOI.out
          rcases ho.2 with ⟨hv1, _⟩ | ⟨g, cap, cur, hv1, _⟩
          · cases hv1
          · rw [hv1] at hv0; cases hv0
        exact absurd x.2 (by omega)
      | some g =>
        obtain ⟨_, _, _, q, hq, cells, hc⟩ := (Kd.R_bound (Kd.R_below HOI.out hb2')).1 g hv0
        have hq3 : q = 3 := by simpa [Kd.int, Kd.scalar] using hq
        subst hq3
        exact Kd.R_ne (d := kd3) hOR1 hc (by decide) (by rw [← e, hv0])
    have hne3 : (Value.slice (some ad) L.length c2).ownBlock ≠ some W1.heap.size := fun e => by
      obtain ⟨_, _, _, q, hq, cells, hc⟩ := (Kd.R_bound HOI.out).1 _ e
      have hq3 : q = 3 := by simpa [Kd.int, Kd.scalar] using hq
      subst hq3
      rw [show W.heap[W1.heap.size]? = _ from HBX.out] at hc
      cases hc
    refine ⟨(((keeps_below hb2').trans (KeepsOthers.of_grownBy hg5 (ownBlock_cells (d := kd3) hOR1))).trans (KeepsOthers.setCell _ _ _)).from _, ⟨?_, ?_⟩, (HIO.out _).2 ⟨⟨_, hbx5.set _, ?_⟩, ?_⟩, ?_, ?_⟩
    · exact ((hb2'.mono hBs).trans (hb5.mono (by omega))).setCell (by show w.heap.size ≤ W1.heap.size; omega) _
    · intro k h1 h2
      rw [Below.heap_setCell _ _ _ k (show k ≠ W1.heap.size by omega), hg5.block k (by omega) (fun e => by have := ownBlock_base (d := kd3) hOR1 _ e.symm; omega), hb2'.block k (by omega)]
    · exact Kd.R_mono (Kd.R_far (d := kd3) (Kd.R_bound HO5.out) (p := ⟨W1.heap.size, 0, none⟩) (fun k hk => by have := hk.2.1; show k ≠ W1.heap.size; omega) _) (fun _ hk => hk.1)
    · exact OI_kept (OI_kept (OI_below HOI.out hb2') hg5 hne2) (grownBy_setCell' w5 W1.heap.size _) hne3
    · exact (HB.out.trans ((hb2'.mono hBs).trans (hb5.mono (by omega)))).setCell (by show w.heap.size ≤ W1.heap.size; omega) _
    · have := hg5.size
      simp
      omega
  case done =>
    rintro D ys W hD rfl ⟨⟨⟨v, hbx, hor⟩, hoi⟩, hB, hS⟩ hK
    have d6 := hbx.cell
    gi_wp2
    refine ⟨by simp, .inl ⟨_, _, rfl, run_takeDeferred hK, ?_⟩⟩
    refine ⟨.tuple #[v, .int .i64 0], by simp [results, Try.f28, go_sem], v, rfl, ?_, hB.trans (belowK_b (w := w) (Nat.le_refl _) _ D _ _ (by omega) hK rfl rfl)⟩
    have h1 := R_own (d := kd3) hor (grownBy_putObj' W D (.deferred none)) (fun r e => by cases e; exact ⟨_, hK, rfl⟩)
    have h2 := chunkP_map N hN1 L L.length 0 (by omega)
    rw [List.drop_zero] at h2
    rw [h2] at h1
    exact OR_ra h1
  case stop =>
    rintro D c pre W hD hpre h
    exact h.elim
end Go.Proofs.Ytjpobhdgfdeenaa.A
