/- slices.Grow, slices.Concat at rows of whole numbers; listed. -/
import Derived.Below
import Derived.Deep.Draws
import Derived.Deep.AppendLies
import Derived.Maps.AppendAt
import Derived.Maps.OwnSet
import Derived.OwnWalk
import Derived.Laws.BytesArg
import Derived.Laws.MakeOwn
import Derived.Laws.OwnMore
import Derived.Deep.OwnRows
import Derived.Tactics
import Derived.Laws.Slices
import Derived.WalkKit
import Derived.KernelRfl
import Derived.RowKit3
import Derived.Deep.LoopGhost
import Derived.Deep.QuietTactic
import Derived.BigQuiet
import Derived.WideLaws
import Derived.Deep.DeepCutAuto
import Derived.Deep.CutBlock
import Derived.Deep.RegionHeld3
import Derived.Laws.Rows
import Derived.ArgAppend
import Derived.Laws.IdiomCopy
import Derived.OrdersHeld
import Derived.Laws.BitsLemmas
import Derived.Outline
import Derived.WalkSpells
import Derived.Lib.Hide
import Derived.RowKit
import Derived.Deep.DeepMust
import Derived.Lib.AppendZerosOnto
import Derived.Test.YtjpobhdgfdeenaaProg
import Derived.Test.YtjpobhdgfdeenaaM2
import Derived.Test.YtjpobhdgfdeenaaM1
import Derived.Test.YtjpobhdgfdeenaaM3
import Derived.Test.YtjpobhdgfdeenaaM5
set_option linter.unusedVariables false
set_option linter.unusedSimpArgs false
namespace Go.Proofs.Ytjpobhdgfdeenaa.A
open Go.RowKit Go.Lib Go.Proofs.YtjpobhdgfdeenaaW.PrintWords Go.Maps

theorem grow_none (w : World) : Calls Try.prog 75 #[.slice none 0 0, .int .i64 0] w fun e w' => e = .returned (.slice none 0 0) ∧ w' = w := by
  go_enter Try.func75, Try.ntmps75
  go_wp2
  go_ret
  exact ⟨rfl, rfl⟩
set_option maxHeartbeats 1000000 in
theorem grow_some (n : Nat) (h0 : 0 < n) (hn : n ≤ 1000000) (w : World) : Calls Try.prog 75 #[.slice none 0 0, .int .i64 n] w fun e w' => ∃ v, e = .returned v ∧ OI w' w.heap.size v [] ∧ Below w.heap.size w w' := by
  obtain ⟨i0, hi0, hz0, hzs, hzb⟩ := info_parts infoA3
  obtain ⟨G, hG⟩ : ∃ G, G = grownCap w n 0 3 := ⟨_, rfl⟩
  have hGn : n ≤ G := by rw [hG]; exact grownCap_ge w _ _ _
  have hGm : G ≤ maxLen := by
    have := grownCap_le_maxLen w n 0 3 (by unfold maxLen; omega)
    rw [← hG] at this
    exact this
  have hG63 : G ≤ 9223372036854775807 := hGm
  obtain ⟨C0, hC0⟩ : ∃ C0, C0 = Builtin.zeroCells (Value.int .i64 0).cells n ++ Builtin.zeroCells (Value.int .i64 0).cells (G - n) := ⟨_, rfl⟩
  have hC0s : C0.size = G := by
    rw [hC0]
    simp [Builtin.zeroCells, Value.cells]
    omega
  have hrun : ∀ ty, (Builtin.append_ #[22, 3] ty #[.slice none 0 0, .int .i64 n]).run Try.prog w = .ok (.slice (some ⟨w.heap.size, 0, none⟩) n G) (w.drew.alloc (.cells C0 3)) := fun ty => by
    have := run_append_nil_zeros (P := Try.prog) w 22 3 ty 3 i0 (.int .i64 0) .i64 .i64 Try.underlying22 Try.underlying3 hi0 hz0 n h0 (by rw [hzs]; decide) (by omega) (by rw [hzb]; omega)
    rw [← hG] at this
    rw [hC0]
    exact this
  have ha1 : (0 : Int) ≤ (n : Int) := by omega
  have ha2 : (0 : Int) < (n : Int) := by omega
  have ha3 : (n : Int) ≤ (G : Int) := by omega
  have ha4 : (0 : Int) ≤ (G : Int) := by omega
  have HH := Aside0.mk (And.intro hG hC0)
  clear hG hC0
  go_enter Try.func75, Try.ntmps75
  go_wp2_with (at_builtin; refine Lib.wpList_append_run _ rfl _ _ _ _ rfl _ _ rfl rfl _ _ (hrun _) ?_)
  go_ret
  refine ⟨_, rfl, ⟨fun _ _ => trivial, [], World.ownsRow_made w.drew C0 G (Nat.le_refl _) hGm (by rw [hC0s]; exact (Nat.mul_one _).symm), Reps.none _ _⟩, below_alloc (below_drew (Below.refl _ _)) _⟩
set_option maxHeartbeats 1000000 in
theorem Concat_calls (A : Option Addr) (c : Nat) (l : List (List Int)) (w : World) (hr : Kd.C (Kd.slice 3 (Kd.int .i64)) w A l.length l) (hs : l.flatten.length ≤ 1000000) :
    Calls Try.prog 64 #[.slice A l.length c] w fun e w' => ∃ v, e = .returned v ∧ OI w' w.heap.size v l.flatten ∧ Below w.heap.size w w' := by
  have HR := Aside0.mk hr
  have hm := (C_len hr).2
  have HSZ := Aside0.mk hs
  clear hr hs
  go_enter Try.func64, Try.ntmps64
  go_wp2
  go_loopg [3, 11] l.length (fun g v3 v11 wr => ∃ (i n : Nat), g = l.length - i ∧ i ≤ l.length ∧ v3 = .int .i64 n ∧ v11 = .int .i64 i ∧ Aside0 (n = (l.take i).flatten.length) ∧ w = wr)
  case atStart => exact ⟨0, 0, rfl, Nat.zero_le _, rfl, rfl, ⟨by simp⟩, rfl⟩
  case round =>
    obtain ⟨i, n, hg, hi, rfl, rfl, HN, rfl⟩ := hrel
    have HG := Aside0.mk hg
    clear hg
    by_cases hlt : i < l.length
    · obtain ⟨ad, A0, c0, row, hA, hdrop, hcell, hrl, hrow⟩ := C_row HR.out i hlt
      subst hA
      have HD := Aside0.mk hdrop
      have hnl : n + row.length ≤ 1000000 := by
        have h1 := flat_len l (i + 1)
        rw [flat_drop l i row hdrop, List.length_append] at h1
        have := HSZ.out
        have := HN.out
        omega
      have HN1 : Aside0 (n + row.length = (l.take (i + 1)).flatten.length) := ⟨by
        rw [flat_drop l i row hdrop, List.length_append, HN.out]⟩
      have hnn : ¬ ((n : Int) + (row.length : Int) < 0) := by omega
      clear hdrop hrow HN
      go_wp2
      go_roundg (l.length - (i + 1))
      case measure => have := HG.out; omega
      case rel => exact ⟨i + 1, n + row.length, rfl, by omega, by go_num, by go_num, HN1, rfl⟩
    · have hil : i = l.length := by omega
      subst hil
      have hnf : n = l.flatten.length := by rw [HN.out, List.take_length]
      have hnm : n ≤ 1000000 := by have := HSZ.out; omega
      have HNF := Aside0.mk hnf
      have hcon : Aside0 (Calls Try.prog 75 #[.slice none 0 0, .int .i64 n] w fun e w' => ∃ v, e = .returned v ∧ OI w' w.heap.size v [] ∧ Below w.heap.size w w') := ⟨by
        by_cases h0 : 0 < n
        · exact grow_some n h0 hnm w
        · have : n = 0 := by omega
          subst this
          refine (grow_none w).mono ?_
          rintro e w' ⟨rfl, rfl⟩
          exact ⟨_, rfl, Kd.R_nil _ _ _ _ _, Below.refl _ _⟩⟩
      clear hnf HN hlt hi
      go_wp2_with (go_at_call 75; refine hcon.out.mono ?_; rintro e w1 ⟨v0, rfl, ho0, hb0⟩; have HO0 := Aside0.mk ho0; clear ho0)
      go_loopg [6, 27] l.length (fun g v6 v27 wr => ∃ (i : Nat), g = l.length - i ∧ i ≤ l.length ∧ v27 = .int .i64 i ∧ Aside0 (OI wr w.heap.size v6 (l.take i).flatten) ∧ Below w.heap.size w wr)
      case atStart => exact ⟨0, rfl, Nat.zero_le _, rfl, ⟨HO0.out⟩, hb0⟩
      case round =>
        obtain ⟨i, hg, hi, rfl, HO, hbel⟩ := hrel
        have HG2 := Aside0.mk hg
        clear hg
        by_cases hlt : i < l.length
        · obtain ⟨ad, A0, c0, row, hA, hdrop, hcell, hrl, hrow⟩ := C_row HR.out i hlt
          subst hA
          replace hcell := pw_cell_below hbel hcell
          have HD := Aside0.mk hdrop
          have HRow := Aside0.mk (Kd.C_below hrow hbel)
          have hrm := (C_len hrow).2
          have hsz := hbel.size
          have HL : Aside0 ((List.take i l).flatten.length + row.length ≤ 1000000) := ⟨by
            have h1 := flat_len l (i + 1)
            rw [flat_drop l i row hdrop, List.length_append] at h1
            have := HSZ.out
            omega⟩
          clear hdrop hrow
          go_wp2_with (at_builtin; refine Kd.R_append_rows (Kd.int .i64) (w0 := w) w.heap.size rfl (.tmp 31) (.tmp 32) 22 3 (.int .i64 0) 8 rfl Try.underlying22 infoA3 rfl (by decide) (by omega) u6 (l.take i).flatten row _ _ _ Tr (fun _ => False) rfl rfl HO.out HRow.out (fun _ _ h => h) (fun _ h => h.elim) (fun _ _ => trivial) hbel hsz ?aL ?_; (case aL => have := HL.out; omega); intro v1 w2 ho hb1 hg1 hat1; have HO1 := Aside0.mk ho; clear ho hg1 hat1)
          go_roundg (l.length - (i + 1))
          case measure => have := HG2.out; omega
          case rel => exact ⟨i + 1, rfl, by omega, by go_num, ⟨by rw [flat_drop l i row HD.out]; exact HO1.out⟩, hb1⟩
        · go_wp2
          go_ret
          refine ⟨_, rfl, ?_, hbel⟩
          have h := HO.out
          rw [List.take_of_length_le (by omega)] at h
          exact h
theorem listed_calls (A : Option Addr) (c : Nat) (l : List (List Int)) (w : World) (hr : Kd.C (Kd.slice 3 (Kd.int .i64)) w A l.length l) (hs : l.flatten.length ≤ 1000000) :
    Calls Try.prog 46 #[.slice A l.length c] w fun e w' => ∃ v, e = .returned v ∧ OI w' w.heap.size v l.flatten ∧ Below w.heap.size w w' := by
  have hc := Aside0.mk (Concat_calls A c l w hr hs)
  clear hr hs
  go_enter Try.func46, Try.ntmps46
  go_wp2_with (go_at_call 64; refine hc.out.mono ?_; rintro e w1 ⟨v0, rfl, ho0, hb0⟩; have HO0 := Aside0.mk ho0; clear ho0)
  go_ret
  exact ⟨_, rfl, HO0.out, hb0⟩
end Go.Proofs.Ytjpobhdgfdeenaa.A

/- Keys, Count of package array; Valid, Keys of the reference. -/
set_option linter.unusedVariables false
set_option linter.unusedSimpArgs false
namespace Go.Proofs.Ytjpobhdgfdeenaa.A
open Go.RowKit Go.Proofs.YtjpobhdgfdeenaaW.PrintWords Go.Maps

theorem rValid_calls (b : Int) (A : Option Addr) (c : Nat) (l : List (List Int)) (w : World) (hr : Kd.C (Kd.slice 3 (Kd.int .i64)) w A l.length l) :
    Calls Try.prog 19 #[.int .i64 b, .slice A l.length c] w fun e w' => e = .returned (.bool (validB b l)) ∧ Below w.heap.size w w' := by
  have HR := Aside0.mk hr
  clear hr
  unfold validB
  generalize hF : wrongF b l = F
  have HF := Aside0.mk hF
  clear hF
  go_enter Try.func19, Try.ntmps19
  go_wp2_with (go_at_call 18; refine (rWrong_calls _ _ _ _ _ HR.out).mono ?_; rw [HF.out]; rintro e w' ⟨rfl, hb⟩)
  go_ret
  exact ⟨rfl, hb⟩
theorem rvalid_is {b : Int} {l : List (List Int)} {r : Bool} (h : validB b l = r) (A : Option Addr) (c : Nat) (w : World) (hr : Kd.C (Kd.slice 3 (Kd.int .i64)) w A l.length l) :
    Calls Try.prog 19 #[.int .i64 b, .slice A l.length c] w fun e w' => e = .returned (.bool r) ∧ Below w.heap.size w w' := by
  subst h
  exact rValid_calls b A c l w hr
def keysF (b : Int) (l : List (List Int)) : List Int := if validB b l then l.flatten else []
def okE (r : Bool) : Int := if r then 0 else 1
theorem valid_few {b : Int} {l : List (List Int)} (h : validB b l = true) : l.flatten.length ≤ 500 := ((validB_iff b l).1 h).few

theorem Keys_calls (b : Int) (A : Option Addr) (c : Nat) (l : List (List Int)) (w : World) (hr : Kd.C (Kd.slice 3 (Kd.int .i64)) w A l.length l) :
    Calls Try.prog 13 #[.int .i64 b, .slice A l.length c] w fun e w' => ∃ v, e = .returned (.tuple #[v, .int .i64 (okE (validB b l))]) ∧ OI w' w.heap.size v (keysF b l) ∧ Below w.heap.size w w' := by
  have HR := Aside0.mk hr
  clear hr
  unfold keysF
  cases hv : validB b l with
  | false =>
    have HV := Aside0.mk hv
    clear hv
    go_enter Try.func13, Try.ntmps13
    go_wp2_with (go_at_call 15; refine (valid_is HV.out _ _ _ HR.out).mono ?_; rintro e w1 ⟨rfl, hb⟩)
    go_ret2
    exact ⟨_, rfl, Kd.R_nil _ _ _ _ _, hb⟩
  | true =>
    have HV := Aside0.mk hv
    clear hv
    go_enter Try.func13, Try.ntmps13
    go_wp2_with (first | (go_at_call 15; go_must (refine (valid_is HV.out _ _ _ HR.out).mono ?_; rintro e w1 ⟨rfl, hb⟩)) | (go_at_call 46; go_must (refine (listed_calls _ _ _ _ (Kd.C_below HR.out hb) (by have := valid_few HV.out; omega)).mono ?_; rintro e w2 ⟨v0, rfl, ho0, hb0⟩; have HO0 := Aside0.mk ho0; clear ho0)))
    go_ret2
    have hs := hb.size
    exact ⟨_, rfl, Kd.R_lower HO0.out hs, hb.trans (hb0.mono hs)⟩

theorem rKeys_calls (b : Int) (A : Option Addr) (c : Nat) (l : List (List Int)) (w : World) (hr : Kd.C (Kd.slice 3 (Kd.int .i64)) w A l.length l) :
    Calls Try.prog 20 #[.int .i64 b, .slice A l.length c] w fun e w' => ∃ v, e = .returned (.tuple #[v, .int .i64 (okE (validB b l))]) ∧ OI w' w.heap.size v (keysF b l) ∧ Below w.heap.size w w' := by
  have HR := Aside0.mk hr
  clear hr
  unfold keysF
  cases hv : validB b l with
  | false =>
    have HV := Aside0.mk hv
    clear hv
    go_enter Try.func20, Try.ntmps20
    go_wp2_with (go_at_call 19; refine (rvalid_is HV.out _ _ _ HR.out).mono ?_; rintro e w1 ⟨rfl, hb⟩)
    go_ret2
    exact ⟨_, rfl, Kd.R_nil _ _ _ _ _, hb⟩
  | true =>
    have HV := Aside0.mk hv
    clear hv
    go_enter Try.func20, Try.ntmps20
    go_wp2_with (first | (go_at_call 19; go_must (refine (rvalid_is HV.out _ _ _ HR.out).mono ?_; rintro e w1 ⟨rfl, hb⟩)) | (go_at_call 48; go_must (refine (flat_calls _ _ _ _ (Kd.C_below HR.out hb) (by have := valid_few HV.out; omega)).mono ?_; rintro e w2 ⟨v0, rfl, ho0, hb0⟩; have HO0 := Aside0.mk ho0; clear ho0)))
    go_ret2
    have hs := hb.size
    exact ⟨_, rfl, Kd.R_lower HO0.out hs, hb.trans (hb0.mono hs)⟩

theorem Count_calls (b : Int) (A : Option Addr) (c : Nat) (l : List (List Int)) (w : World) (hr : Kd.C (Kd.slice 3 (Kd.int .i64)) w A l.length l) :
    Calls Try.prog 21 #[.int .i64 b, .slice A l.length c] w fun e w' => e = .returned (.tuple #[.int .i64 (keysF b l).length, .int .i64 (okE (validB b l))]) ∧ Below w.heap.size w w' := by
  have HR := Aside0.mk hr
  clear hr
  unfold keysF
  cases hv : validB b l with
  | false =>
    have HV := Aside0.mk hv
    clear hv
    go_enter Try.func21, Try.ntmps21
    go_wp2_with (go_at_call 15; refine (valid_is HV.out _ _ _ HR.out).mono ?_; rintro e w1 ⟨rfl, hb⟩)
    go_ret2
    exact ⟨rfl, hb⟩
  | true =>
    have HV := Aside0.mk hv
    clear hv
    go_enter Try.func21, Try.ntmps21
    go_wp2_with (first | (go_at_call 15; go_must (refine (valid_is HV.out _ _ _ HR.out).mono ?_; rintro e w1 ⟨rfl, hb⟩)) | (go_at_call 46; go_must (refine (listed_calls _ _ _ _ (Kd.C_below HR.out hb) (by have := valid_few HV.out; omega)).mono ?_; rintro e w2 ⟨v0, rfl, ho0, hb0⟩; obtain ⟨A1, c1, e1, _⟩ := OI_reads ho0; subst e1; clear ho0)))
    go_ret2
    have hs := hb.size
    exact ⟨rfl, hb.trans (hb0.mono hs)⟩
end Go.Proofs.Ytjpobhdgfdeenaa.A

/- A key put at an index of blocks: plain lists. -/
set_option linter.unusedVariables false
set_option linter.unusedSimpArgs false
namespace Go.Proofs.Ytjpobhdgfdeenaa.A

theorem split_at {l : List (List Int)} {j : Nat} {row : List Int} (h : l[j]? = some row) : l = l.take j ++ row :: l.drop (j + 1) := by
  have hj : j < l.length := (List.getElem?_eq_some_iff.1 h).1
  have h6 : l[j] = row := (List.getElem?_eq_some_iff.1 h).2
  rw [← h6, ← List.drop_eq_getElem_cons hj, List.take_append_drop]
theorem At_some {l : List (List Int)} {m : Int} (hne : l ≠ []) (h0 : 0 ≤ m) (h1 : m ≤ l.flatten.length) : ∃ j q, At l m j q := by
  by_cases e : m < 0 + l.flatten.length
  · obtain ⟨p, hp, he⟩ := posAll_all l 0 0 m h0 e
    obtain ⟨j, q, ha, _⟩ := At_of_pos hp
    exact ⟨j, q, he ▸ ha⟩
  · obtain ⟨row, _, ha⟩ := At_end hne
    have : m = l.flatten.length := by omega
    exact ⟨_, _, this ▸ ha⟩
theorem insF_flat (b : Int) (l : List (List Int)) (j : Nat) (row : List Int) (hj : j < l.length) : (insF b l j row).flatten = (l.take j).flatten ++ row ++ (l.drop (j + 1)).flatten := by
  unfold insF
  split
  · rw [List.set_eq_take_append_cons_drop, if_pos hj]
    simp
  · simp only [List.flatten_append, List.flatten_cons]
    rw [← List.append_assoc (row.take _), List.take_append_drop, List.append_assoc]
theorem putF_flat (b : Int) (l : List (List Int)) (m k : Int) (h0 : 0 ≤ m) (h1 : m ≤ l.flatten.length) : (putF b l m k).flatten = l.flatten.take m.toNat ++ k :: l.flatten.drop m.toNat := by
  by_cases hne : l = []
  · subst hne
    simp [putF]
  · obtain ⟨j, q, ha⟩ := At_some hne h0 h1
    obtain ⟨row, hr, hm, hq⟩ := ha
    have hj : j < l.length := (List.getElem?_eq_some_iff.1 hr).1
    rw [putF_at ⟨row, hr, hm, hq⟩ hr, insF_flat _ _ _ _ hj]
    have hs := split_at hr
    have hf : l.flatten = (l.take j).flatten ++ (row ++ (l.drop (j + 1)).flatten) := by
      conv => lhs; rw [hs]
      simp
    have hmn : m.toNat = (l.take j).flatten.length + q := by omega
    have hql : q ≤ row.length := by omega
    rw [hf, hmn, List.take_length_add_append, List.drop_length_add_append, List.take_append_of_le_length hql, List.drop_append_of_le_length hql]
    simp
/-- Rows as an array has them. -/
def Rows (b : Int) (l : List (List Int)) : Prop := ∀ r ∈ l, r ≠ [] ∧ (r.length : Int) ≤ b
theorem insF_rows {b : Int} {l : List (List Int)} {j : Nat} {row : List Int} (hb : 2 ≤ b) (h : Rows b l) (hr : row ≠ []) (hl : (row.length : Int) ≤ b + 1) : Rows b (insF b l j row) := by
  unfold insF
  intro r hm
  split at hm
  · rename_i hle
    rcases List.mem_or_eq_of_mem_set hm with hm | rfl
    · exact h r hm
    · exact ⟨hr, hle⟩
  · rename_i hle
    have hN : halfN b = ((b + 2) / 2).toNat := rfl
    rw [List.mem_append, List.mem_cons, List.mem_cons] at hm
    rcases hm with hm | rfl | rfl | hm
    · exact h r (List.mem_of_mem_take hm)
    · have : (row.take (halfN b)).length = halfN b := by rw [List.length_take]; omega
      refine ⟨fun e => ?_, by omega⟩
      rw [e] at this
      simp at this
      omega
    · have : (row.drop (halfN b)).length = row.length - halfN b := List.length_drop
      refine ⟨fun e => ?_, by omega⟩
      rw [e] at this
      simp at this
      omega
    · exact h r (List.mem_of_mem_drop hm)
theorem putF_rows {b : Int} {l : List (List Int)} {m k : Int} (hb : 2 ≤ b) (h : Rows b l) (h0 : 0 ≤ m) (h1 : m ≤ l.flatten.length) : Rows b (putF b l m k) := by
  by_cases hne : l = []
  · subst hne
    intro r hr
    simp [putF] at hr
    subst hr
    simp
    omega
  · obtain ⟨j, q, ha⟩ := At_some hne h0 h1
    obtain ⟨row, hr, hm, hq⟩ := ha
    rw [putF_at ⟨row, hr, hm, hq⟩ hr]
    have hrow := h row (List.mem_of_getElem? hr)
    exact insF_rows hb h (by simp) (by rw [ins_len row q (by omega) k]; omega)
theorem putF_ne {b : Int} {l : List (List Int)} {m k : Int} (h0 : 0 ≤ m) (h1 : m ≤ l.flatten.length) : putF b l m k ≠ [] := fun e => by
  have := putF_flat b l m k h0 h1
  rw [e] at this
  simp at this
theorem rows_len {b : Int} : ∀ {l : List (List Int)}, Rows b l → l.length ≤ l.flatten.length
  | [], _ => by simp
  | r :: t, h => by
    have h1 := (h r (by simp)).1
    have h2 : 0 < r.length := List.length_pos_iff.2 h1
    have h3 := rows_len (l := t) (fun x hx => h x (by simp [hx]))
    rw [List.flatten_cons, List.length_append, List.length_cons]
    omega
/-- The first i keys, one put behind the other. -/
def makeN (b : Int) (l : List Int) : Nat → List (List Int)
  | 0 => []
  | i + 1 => putF b (makeN b l i) i (l.getD i 0)
theorem makeN_inv {b : Int} (hb : 2 ≤ b) (l : List Int) : ∀ i, i ≤ l.length → (makeN b l i).flatten = l.take i ∧ Rows b (makeN b l i)
  | 0, _ => by simp [makeN, Rows]
  | i + 1, h => by
    obtain ⟨h1, h2⟩ := makeN_inv hb l i (by omega)
    have hl : (makeN b l i).flatten.length = i := by rw [h1, List.length_take]; omega
    rw [makeN]
    refine ⟨?_, putF_rows hb h2 (by omega) (by omega)⟩
    rw [putF_flat _ _ _ _ (by omega) (by omega), h1, List.take_succ_eq_append_getElem (by omega)]
    simp [List.getD_eq_getElem?_getD, List.getElem?_eq_getElem (show i < l.length by omega), List.take_take]
end Go.Proofs.Ytjpobhdgfdeenaa.A

/- Make of package array. -/
set_option linter.unusedVariables false
set_option linter.unusedSimpArgs false
namespace Go.Proofs.Ytjpobhdgfdeenaa.A
open Go.RowKit Go.Proofs.YtjpobhdgfdeenaaW.PrintWords Go.Maps

/-- It reads as these blocks. -/
def RA (w : World) (v : Value) (l : List (List Int)) : Prop := ∃ A c, v = .slice A l.length c ∧ l.length ≤ c ∧ Kd.C (Kd.slice 3 (Kd.int .i64)) w A l.length l
def RI (w : World) (v : Value) (l : List Int) : Prop := ∃ A c, v = .slice A l.length c ∧ l.length ≤ c ∧ Kd.C (Kd.int .i64) w A l.length l
theorem RA.below {w w1 : World} {v : Value} {l : List (List Int)} (h : RA w v l) (hb : Below w.heap.size w w1) : RA w1 v l := by
  obtain ⟨A, c, e, h1, h2⟩ := h
  exact ⟨A, c, e, h1, Kd.C_below h2 hb⟩
theorem RI.below {w w1 : World} {v : Value} {l : List Int} (h : RI w v l) (hb : Below w.heap.size w w1) : RI w1 v l := by
  obtain ⟨A, c, e, h1, h2⟩ := h
  exact ⟨A, c, e, h1, Kd.C_below h2 hb⟩
theorem RA_nil (w : World) : RA w (.slice none 0 0) [] := ⟨none, 0, rfl, Nat.le_refl _, Kd.C_nil _ w⟩
theorem RI_nil (w : World) : RI w (.slice none 0 0) [] := ⟨none, 0, rfl, Nat.le_refl _, Kd.C_nil _ w⟩
theorem RA_of_C {w : World} {A : Option Addr} {c : Nat} {l : List (List Int)} (h : Kd.C (Kd.slice 3 (Kd.int .i64)) w A l.length l) (hc : l.length ≤ c) : RA w (.slice A l.length c) l := ⟨A, c, rfl, hc, h⟩
theorem Own2.ra {w : World} {base : Nat} {v : Value} {vs : List Value} {xs : List (List Int)} (h : Own2 w base v vs xs) : RA w v xs := by
  obtain ⟨g, c, e, _, h1, h2⟩ := h.reads
  exact ⟨_, c, e, h1, h2⟩
/-- All keys are good, none stands twice. -/
def GoodL (l : List Int) : Prop := l.Nodup ∧ ∀ x ∈ l, keyB x = true
instance (l : List Int) : Decidable (GoodL l) := inferInstanceAs (Decidable (l.Nodup ∧ ∀ x ∈ l, keyB x = true))
def makeE (b : Int) (l : List Int) : Int := if GoodL l ∧ roomB b = true then (if l.length ≤ 500 then 0 else 4) else 1
def makeA (b : Int) (l : List Int) : List (List Int) := if makeE b l = 0 then makeN b l l.length else []
theorem makeE_bad {b : Int} {l : List Int} (h : ¬ GoodL l) : makeE b l = 1 := by unfold makeE; rw [if_neg (fun x => h x.1)]
theorem makeE_room {b : Int} {l : List Int} (h : roomB b = false) : makeE b l = 1 := by unfold makeE; rw [if_neg (fun x => by rw [h] at x; cases x.2)]
theorem makeE_many {b : Int} {l : List Int} (h : GoodL l) (hb : roomB b = true) (hl : ¬ l.length ≤ 500) : makeE b l = 4 := by unfold makeE; rw [if_pos ⟨h, hb⟩, if_neg hl]
theorem makeE_ok {b : Int} {l : List Int} (h : GoodL l) (hb : roomB b = true) (hl : l.length ≤ 500) : makeE b l = 0 := by unfold makeE; rw [if_pos ⟨h, hb⟩, if_pos hl]
theorem makeA_bad {b : Int} {l : List Int} (h : makeE b l ≠ 0) : makeA b l = [] := by unfold makeA; rw [if_neg h]
theorem makeA_ok {b : Int} {l : List Int} (h : makeE b l = 0) : makeA b l = makeN b l l.length := by unfold makeA; rw [if_pos h]
theorem ret_pair {v : Value} {x y : Int} (h : x = y) : Ending.returned (.tuple #[v, .int .i64 x]) = Ending.returned (.tuple #[v, .int .i64 y]) := by rw [h]
theorem good_take {l : List Int} {i : Nat} {x : Int} (h : l.drop i = x :: l.drop (i + 1)) (hk : keyB x = false ∨ x ∈ l.take i) : ¬ GoodL l := fun hg => by
  have hx : x ∈ l := List.mem_of_mem_drop (i := i) (by rw [h]; simp)
  rcases hk with hk | hk
  · rw [hg.2 x hx] at hk; cases hk
  · have hn := hg.1
    rw [← List.take_append_drop i l, h, List.nodup_append] at hn
    exact hn.2.2 x hk x (by simp) rfl
theorem good_step {l : List Int} {i : Nat} {x : Int} (h : l.drop i = x :: l.drop (i + 1)) (hg : GoodL (l.take i)) (hk : keyB x = true) (hx : x ∉ l.take i) : GoodL (l.take (i + 1)) := by
  rw [take_drop_snoc h]
  refine ⟨List.nodup_append.2 ⟨hg.1, by simp, fun a ha b hb => ?_⟩, fun y hy => ?_⟩
  · rw [List.mem_singleton] at hb
    subst hb
    exact fun e => hx (e ▸ ha)
  · rcases List.mem_append.1 hy with hy | hy
    · exact hg.2 y hy
    · rw [List.mem_singleton.1 hy]; exact hk
end Go.Proofs.Ytjpobhdgfdeenaa.A

/- Make of package array: the walk. -/
set_option linter.unusedVariables false
set_option linter.unusedSimpArgs false
namespace Go.Proofs.Ytjpobhdgfdeenaa.A
open Go.RowKit Go.Proofs.YtjpobhdgfdeenaaW.PrintWords Go.Maps

set_option maxHeartbeats 2000000 in
theorem Make_calls (b : Int) (A : Option Addr) (c : Nat) (l : List Int) (w : World) (hr : Kd.C (Kd.int .i64) w A l.length l) (hs : l.length ≤ 1000000) :
    Calls Try.prog 10 #[.int .i64 b, .slice A l.length c] w fun e w' => ∃ v, e = .returned (.tuple #[v, .int .i64 (makeE b l)]) ∧ RA w' v (makeA b l) ∧ Below w.heap.size w w' := by
  have HR := Aside0.mk hr
  have hm := (C_len hr).2
  clear hr
  have hmm := @run_makeMap Try.prog
  go_enter Try.func10, Try.ntmps10
  go_wp2
  go_loopg [15] l.length (fun g v15 wr => ∃ (i : Nat), g = l.length - i ∧ i ≤ l.length ∧ v15 = .int .i64 i ∧ Aside0 (GoodL (l.take i)) ∧ Met wr w.heap.size (l.take i) ∧ Below w.heap.size w wr)
  case atStart => exact ⟨0, rfl, Nat.zero_le _, rfl, ⟨by simp [GoodL]⟩, met_made w, (Below.refl _ _).alloc (Nat.le_refl _) _⟩
  case round =>
    obtain ⟨i, hg, hi, rfl, HGd, hmet, hbel⟩ := hrel
    have HG := Aside0.mk hg
    clear hg
    by_cases hlt : i < l.length
    · obtain ⟨ad2, x, hA2, hdrop2, hcell2⟩ := C_int HR.out i hlt
      replace hcell2 := pw_cell_below hbel hcell2
      subst hA2
      have HD2 := Aside0.mk hdrop2
      clear hdrop2
      cases hkey : keyB x with
      | false =>
        have HE := Aside0.mk (makeE_bad (b := b) (good_take HD2.out (.inl hkey)))
        replace hkey : decide (1 ≤ x ∧ x ≤ 1000000) = false := hkey
        go_wp2_with (go_at_call 39; refine (key_calls x _).mono ?_; rintro e w' ⟨rfl, rfl⟩)
        go_ret2
        exact ⟨_, ret_pair HE.out.symm, by rw [makeA_bad (by rw [HE.out]; decide)]; exact RA_nil _, hbel⟩
      | true =>
        have hxw : wfi x := by have := of_decide_eq_true hkey; unfold wfi; omega
        have hk0 := Aside0.mk hkey
        replace hkey : decide (1 ≤ x ∧ x ≤ 1000000) = true := hkey
        by_cases hx : x ∈ l.take i
        · have hlook := hmet.look hxw
          rw [decide_eq_true hx] at hlook
          have HE := Aside0.mk (makeE_bad (b := b) (good_take HD2.out (.inr hx)))
          clear hx
          go_wp2_with (go_at_call 39; refine (key_calls x _).mono ?_; rintro e w' ⟨rfl, rfl⟩)
          go_ret2
          exact ⟨_, ret_pair HE.out.symm, by rw [makeA_bad (by rw [HE.out]; decide)]; exact RA_nil _, hbel⟩
        · have hlook := hmet.look hxw
          rw [decide_eq_false hx] at hlook
          have HX := Aside0.mk hx
          clear hx
          have htl : (l.take i).length < 1000000 := by rw [List.length_take]; omega
          obtain ⟨w1, hput, hmet1, hgr⟩ := hmet.put hxw HX.out (by unfold maxLen; omega)
          clear htl
          go_wp2_with (go_at_call 39; refine (key_calls x _).mono ?_; rintro e w' ⟨rfl, rfl⟩)
          go_roundg (l.length - (i + 1))
          case measure => have := HG.out; omega
          case rel =>
            exact ⟨i + 1, rfl, by omega, by go_num, ⟨good_step HD2.out HGd.out hk0.out HX.out⟩, by rw [take_drop_snoc HD2.out]; exact hmet1, hbel.grown hgr hbel.size (fun j hj => by cases hj; exact Nat.le_refl _)⟩
    · have hgood : GoodL l := by have := HGd.out; rwa [List.take_of_length_le (by omega)] at this
      have HGL := Aside0.mk hgood
      clear hgood HGd hmet
      cases hroom : roomB b with
      | false =>
        have HE := Aside0.mk (makeE_room (l := l) hroom)
        replace hroom : decide (2 ≤ b ∧ b ≤ 50) = false := hroom
        go_wp2_with (go_at_call 40; refine (room_calls b _).mono ?_; rintro e w' ⟨rfl, rfl⟩)
        go_ret2
        exact ⟨_, ret_pair HE.out.symm, by rw [makeA_bad (by rw [HE.out]; decide)]; exact RA_nil _, hbel⟩
      | true =>
        have HRM := Aside0.mk hroom
        have hbb : Aside0 (2 ≤ b ∧ b ≤ 50) := ⟨of_decide_eq_true hroom⟩
        by_cases hl5 : l.length ≤ 500
        · have HE := Aside0.mk (makeE_ok HGL.out hroom hl5)
          replace hroom : decide (2 ≤ b ∧ b ≤ 50) = true := hroom
          have hl6 : ¬ (500 < (l.length : Int)) := by omega
          go_wp2_with (go_at_call 40; refine (room_calls b _).mono ?_; rintro e w' ⟨rfl, rfl⟩)
          go_loopg [9, 40] l.length (fun g v9 v40 wr => ∃ (i : Nat), g = l.length - i ∧ i ≤ l.length ∧ v40 = .int .i64 i ∧ Aside0 (OwnA wr w.heap.size v9 (makeN b l i)) ∧ Below w.heap.size w wr)
          case atStart => exact ⟨0, rfl, Nat.zero_le _, rfl, ⟨.inl ⟨rfl, none, 0, rfl⟩⟩, hbel⟩
          case round =>
            obtain ⟨i, hg, hi, rfl, HO, hbel2⟩ := hrel
            have HG2 := Aside0.mk hg
            clear hg
            by_cases hlt : i < l.length
            · obtain ⟨ad2, x, hA2, hdrop2, hcell2⟩ := C_int HR.out i hlt
              replace hcell2 := pw_cell_below hbel2 hcell2
              subst hA2
              have hxi : l.getD i 0 = x := by
                have := List.drop_eq_getElem_cons hlt
                rw [this] at hdrop2
                injection hdrop2 with h1 _
                simp [List.getD_eq_getElem?_getD, List.getElem?_eq_getElem hlt, h1]
              obtain ⟨hi1, hi2⟩ := makeN_inv hbb.out.1 l i (by omega)
              have hfl : (makeN b l i).flatten.length = i := by rw [hi1, List.length_take]; omega
              have hcon := Aside0.mk (insert_calls b i x w.heap.size u9 (makeN b l i) wr HO.out hbb.out (by omega) (by have := rows_len hi2; omega) (by omega) hbel2.size)
              have HI := Aside0.mk (And.intro hxi hfl)
              clear hdrop2 hxi hi1 hi2 hfl
              go_wp2_with (go_at_call 41; refine hcon.out.mono ?_; rintro e w1 ⟨v', vs', rfl, ho1, hb1⟩; have HO1 := Aside0.mk ho1; clear ho1)
              go_roundg (l.length - (i + 1))
              case measure => have := HG2.out; omega
              case rel => exact ⟨i + 1, rfl, by omega, by go_num, ⟨.inr ⟨by rw [makeN]; exact putF_ne (by omega) (by have := HI.out.2; omega), _, by rw [makeN, HI.out.1]; exact HO1.out⟩⟩, hbel2.trans hb1⟩
            · have hil : i = l.length := by omega
              subst hil
              go_wp2
              go_ret2
              refine ⟨_, ret_pair HE.out.symm, ?_, hbel2⟩
              rw [makeA_ok HE.out]
              rcases HO.out with ⟨h0, A0, c0, e0⟩ | ⟨_, vs, h2⟩
              · rw [h0]
                refine ⟨A0, c0, e0, Nat.zero_le _, rfl, by simp, fun h => absurd h (Nat.lt_irrefl _)⟩
              · exact h2.ra
        · have HE := Aside0.mk (makeE_many HGL.out hroom hl5)
          replace hroom : decide (2 ≤ b ∧ b ≤ 50) = true := hroom
          have hl6 : 500 < (l.length : Int) := by omega
          go_wp2_with (go_at_call 40; refine (room_calls b _).mono ?_; rintro e w' ⟨rfl, rfl⟩)
          go_ret2
          exact ⟨_, ret_pair HE.out.symm, by rw [makeA_bad (by rw [HE.out]; decide)]; exact RA_nil _, hbel⟩
end Go.Proofs.Ytjpobhdgfdeenaa.A

/- The laws' sanity check. -/
set_option linter.unusedVariables false
set_option linter.unusedSimpArgs false
namespace Go.Proofs.Ytjpobhdgfdeenaa.A
open Go.RowKit Go.Proofs.YtjpobhdgfdeenaaW.PrintWords Go.Maps

theorem awake_make : makeE 4 [1, 2, 3, 4, 5] = 0 ∧ makeA 4 [1, 2, 3, 4, 5] = [[1, 2, 3], [4, 5]] := by decide +kernel
theorem OwnS_new (w : World) (e : TypeId) (xs : List Value) (h : 0 < xs.length) (hl : xs.length ≤ 9223372036854775807) (h1 : ∀ x ∈ xs, x.oneCell' = true) : OwnS (w.alloc (.cells xs.toArray e)) w.heap.size e (.slice (some ⟨w.heap.size, 0, none⟩) xs.length xs.length) xs :=
  ⟨w.heap.size, xs.length, xs, rfl, Nat.le_refl _, heap_alloc_new w _, Nat.le_refl _, Nat.le_refl _, hl, List.take_length, h, h1⟩
theorem C_new (w : World) (xs : List Int) (h : 0 < xs.length) (hl : xs.length ≤ 9223372036854775807) : Kd.C (Kd.int .i64) (w.alloc (.cells (ints xs).toArray 3)) (some ⟨w.heap.size, 0, none⟩) xs.length xs := by
  obtain ⟨g, c, e, _, hC⟩ := (OwnS_new w 3 (ints xs) (by rw [ints_len]; exact h) (by rw [ints_len]; exact hl) (fun x hx => by
    obtain ⟨y, _, rfl⟩ := List.mem_map.1 hx
    rfl)).ints_read
  injection e with e _ _
  rw [e]
  exact hC
theorem C_rows_new (w : World) (v1 v2 : Value) (x1 x2 : List Int) (h1 : RI w v1 x1) (h2 : RI w v2 x2) : Kd.C (Kd.slice 3 (Kd.int .i64)) (w.alloc (.cells #[v1, v2] 22)) (some ⟨w.heap.size, 0, none⟩) 2 [x1, x2] := by
  have hb : Below w.heap.size w (w.alloc (.cells #[v1, v2] 22)) := below_alloc (Below.refl _ _) _
  have k1 := h1.below hb
  have k2 := h2.below hb
  refine ⟨rfl, by decide, fun _ => ⟨_, rfl, fun j p hj => ?_⟩⟩
  have hB : Blk (w.alloc (.cells #[v1, v2] 22)) w.heap.size 22 [v1, v2] := heap_alloc_new w _
  have hcell : ∀ i u, [v1, v2][i]? = some u → (w.alloc (.cells #[v1, v2] 22)).cell? ⟨w.heap.size, i, none⟩ = some u := fun i u hu => by rw [blk_cell hB]; exact hu
  have main : ∀ (v : Value), RI (w.alloc (.cells #[v1, v2] 22)) v p → [v1, v2][j]? = some v → ∃ cs, cs.length = (Kd.slice 3 (Kd.int .i64)).sz ∧ (Kd.slice 3 (Kd.int .i64)).K (w.alloc (.cells #[v1, v2] 22)) p cs ∧ ∀ (i : Nat) (u : Value), cs[i]? = some u → (w.alloc (.cells #[v1, v2] 22)).cell? ((⟨w.heap.size, 0, none⟩ : Addr).add (j * (Kd.slice 3 (Kd.int .i64)).sz + i)) = some u := by
    rintro v ⟨A, c, rfl, hc, hC⟩ hv
    refine ⟨[_], rfl, ⟨A, c, rfl, hc, hC⟩, fun i q hq => ?_⟩
    have hi : i = 0 := by
      have := (List.getElem?_eq_some_iff.1 hq).1
      simpa using this
    subst hi
    simp at hq
    subst hq
    rw [Addr.add_lit]
    have := hcell j _ hv
    rwa [show 0 + (j * (Kd.slice 3 (Kd.int .i64)).sz + 0) = j from by rw [Nat.zero_add]; exact Nat.mul_one j]
  match j, hj with
  | 0, hj =>
    simp at hj
    subst hj
    exact main v1 k1 rfl
  | 1, hj =>
    simp at hj
    subst hj
    exact main v2 k2 rfl
theorem rows_awake (w : World) : Kd.C (Kd.slice 3 (Kd.int .i64)) (((w.alloc (.cells #[.int .i64 1, .int .i64 2, .int .i64 3] 3)).alloc (.cells #[.int .i64 4, .int .i64 5] 3)).alloc (.cells #[.slice (some ⟨w.heap.size, 0, none⟩) 3 3, .slice (some ⟨w.heap.size + 1, 0, none⟩) 2 2] 22)) (some ⟨w.heap.size + 1 + 1, 0, none⟩) 2 [[1, 2, 3], [4, 5]] := by
  have h1 : RI (w.alloc (.cells #[.int .i64 1, .int .i64 2, .int .i64 3] 3)) (.slice (some ⟨w.heap.size, 0, none⟩) 3 3) [1, 2, 3] := ⟨_, _, rfl, by decide, C_new w [1, 2, 3] (by decide) (by decide)⟩
  have h2 : RI ((w.alloc (.cells #[.int .i64 1, .int .i64 2, .int .i64 3] 3)).alloc (.cells #[.int .i64 4, .int .i64 5] 3)) (.slice (some ⟨(w.alloc (.cells #[.int .i64 1, .int .i64 2, .int .i64 3] 3)).heap.size, 0, none⟩) 2 2) [4, 5] := ⟨_, _, rfl, by decide, C_new _ [4, 5] (by decide) (by decide)⟩
  have h3 := C_rows_new _ _ _ _ _ (h1.below (below_alloc (Below.refl _ _) (.cells #[.int .i64 4, .int .i64 5] 3))) h2
  simpa only [World.size_alloc] using h3
theorem awake_calls (w : World) : Calls Try.prog 9 #[] w fun e w' => e = .returned (.bool true) ∧ Below w.heap.size w w' := by
  have hmk := fun W (h : Kd.C (Kd.int .i64) W (some ⟨w.heap.size, 0, none⟩) 5 [1, 2, 3, 4, 5]) => Make_calls 4 (some ⟨w.heap.size, 0, none⟩) 5 [1, 2, 3, 4, 5] W h (by decide)
  rw [awake_make.1, awake_make.2] at hmk
  have h1 : Kd.C (Kd.int .i64) (w.alloc (.cells #[.int .i64 1, .int .i64 2, .int .i64 3, .int .i64 4, .int .i64 5] 3)) (some ⟨w.heap.size, 0, none⟩) 5 [1, 2, 3, 4, 5] := C_new w [1, 2, 3, 4, 5] (by decide) (by decide)
  have HM := Aside0.mk (hmk _ h1)
  clear hmk h1
  go_enter Try.func9, Try.ntmps9
  go_wp2_with (go_at_call 10; refine HM.out.mono ?_; rintro e w1 ⟨v, rfl, ⟨A1, c1, rfl, hc1, hC⟩, hb⟩; have HRA := Aside0.mk hC; clear hC)
  go_wp2_with (go_at_call 12; go_must (refine (SameBlocks_calls A1 c1 [[1, 2, 3], [4, 5]] _ _ [[1, 2, 3], [4, 5]] _ (Kd.C_alloc (Kd.C_alloc (Kd.C_alloc HRA.out _) _) _) (rows_awake w1)).mono ?_; rintro e w2 ⟨rfl, ⟨m, rfl⟩⟩))
  go_ret
  refine ⟨rfl, pw_below_drewN ?_ _⟩
  exact below_alloc (below_alloc (below_alloc ((below_alloc (Below.refl _ w) _).trans (hb.mono (by simp))) _) _) _
end Go.Proofs.Ytjpobhdgfdeenaa.A
