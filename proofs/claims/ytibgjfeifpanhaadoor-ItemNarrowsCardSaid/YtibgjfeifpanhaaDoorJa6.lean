/- Texts of the proof, joined: N9, L2, L4. -/
import Derived.Below
import Derived.Deep.Draws
import Derived.Deep.AppendLies
import Derived.Maps.AppendAt
import Derived.Maps.OwnSet
import Derived.OwnWalk
import Derived.Laws.BytesArg
import Derived.Laws.MakeOwn
import Derived.Laws.OwnMore
import Derived.Deep.OwnRows
import Derived.Tactics
import Derived.Laws.Slices
import Derived.WalkKit
import Derived.KernelRfl
import Derived.RowKit3
import Derived.Deep.LoopGhost
import Derived.Deep.QuietTactic
import Derived.BigQuiet
import Derived.WideLaws
import Derived.Deep.DeepCutAuto
import Derived.Deep.CutBlock
import Derived.Deep.RegionHeld3
import Derived.Laws.Rows
import Derived.ArgAppend
import Derived.Laws.IdiomCopy
import Derived.OrdersHeld
import Derived.Laws.BitsLemmas
import Derived.Outline
import Derived.WalkSpells
import Derived.Lib.Hide
import Derived.RowKit
import Derived.Deep.DeepMust
import Derived.Laws.EntriesVeiled
import Derived.Test.YtibgjfeifpanhaaDoorProg
import Derived.Test.YtibgjfeifpanhaaDoorJa3
import Derived.Test.YtibgjfeifpanhaaDoorJa5

/- Clone of rows; Rename of package item. -/
set_option linter.unusedVariables false
set_option linter.unusedSimpArgs false
namespace Go.Proofs.YtibgjfeifpanhaaDoor.B
open Go.RowKit Go.Proofs.YtibgjfeifpanhaaDoorW.PrintWords Go.Maps PItemValid

theorem OItm_empty {w : World} {base : Nat} (hb : base ≤ w.heap.size) : OItm (w.alloc (.cells #[] 32)) base (.slice (some ⟨w.heap.size, 0, none⟩) 0 0) [] :=
  ⟨fun _ _ => trivial, [], World.ownsRow_made w #[] 0 hb (Nat.zero_le _) rfl, Reps.none _ _⟩
theorem OVal_empty {w : World} {base : Nat} (hb : base ≤ w.heap.size) : OVal (w.alloc (.cells #[] 29)) base (.slice (some ⟨w.heap.size, 0, none⟩) 0 0) [] :=
  ⟨fun _ _ => trivial, [], World.ownsRow_made w #[] 0 hb (Nat.zero_le _) rfl, Reps.none _ _⟩
theorem CloneI_calls (A : Option Addr) (c : Nat) (l : List S32) (w : World) (hx : Kd.C k32 w A l.length l) (hne : 0 < l.length) (hs : l.length ≤ 1000) :
    Calls Tryd.prog 73 #[.slice A l.length c] w fun e w' => ∃ g cp, e = .returned (.slice (some ⟨g, 0, none⟩) l.length cp) ∧ w.heap.size ≤ g ∧ OItm w' w.heap.size (.slice (some ⟨g, 0, none⟩) l.length cp) l ∧ Below w.heap.size w w' := by
  have HX := Aside0.mk hx
  obtain ⟨ad, x, rfl, _⟩ := C_item hx 0 hne
  clear hx
  have hnil := fun (W : World) => Lib.run_eql_slice_nil (P := Tryd.prog) W 22 32 (some ad) l.length c 0 0 Tryd.underlying22
  go_enter Tryd.func73, Tryd.ntmps73
  go_wp2_with (first | ((with_reducible refine at_b (b := .append) (xs := #[.tmp 5, .tmp 6]) rfl ?_); go_must (refine Kd.R_append_rows k32 (w0 := w) w.heap.size rfl (.tmp 5) (.tmp 6) 22 32 (.agg #[(.string ⟨#[]⟩), (.int .i64 0), (.int .i64 0), (.int .i64 0), (.int .i64 0)]) 48 rfl Tryd.underlying22 info32 rfl (by decide) (by omega) _ [] l _ _ _ Tr (fun _ => False) rfl rfl (OItm_empty (Nat.le_refl _)) (Kd.C_below HX.out (below_alloc (Below.refl _ _) _)) (fun _ _ h => h) (fun _ h => h.elim) (fun _ _ => trivial) (below_alloc (Below.refl _ _) _) (by simp) (by simp; omega) ?_; intro v1 w1 ho hb1 hg1 hat1; have HI := Aside0.mk ho; clear ho hg1 hat1)))
  go_ret
  obtain ⟨g, cp, e, hg, _⟩ := Kd.R_form HI.out (by simpa using hne)
  have hI := HI.out
  subst e
  exact ⟨g, cp, rfl, hg, hI, hb1⟩
theorem CloneV_calls (A : Option Addr) (c : Nat) (l : List S29) (w : World) (hx : Kd.C k29 w A l.length l) (hne : 0 < l.length) (hs : l.length ≤ 1000) :
    Calls Tryd.prog 74 #[.slice A l.length c] w fun e w' => ∃ g cp, e = .returned (.slice (some ⟨g, 0, none⟩) l.length cp) ∧ w.heap.size ≤ g ∧ OVal w' w.heap.size (.slice (some ⟨g, 0, none⟩) l.length cp) l ∧ Below w.heap.size w w' := by
  have HX := Aside0.mk hx
  obtain ⟨ad, x, rfl, _⟩ := C_val hx 0 hne
  clear hx
  have hnil := fun (W : World) => Lib.run_eql_slice_nil (P := Tryd.prog) W 23 29 (some ad) l.length c 0 0 Tryd.underlying23
  go_enter Tryd.func74, Tryd.ntmps74
  go_wp2_with (first | ((with_reducible refine at_b (b := .append) (xs := #[.tmp 5, .tmp 6]) rfl ?_); go_must (refine Kd.R_append_rows k29 (w0 := w) w.heap.size rfl (.tmp 5) (.tmp 6) 23 29 (.agg #[(.int .i64 0), (.int .i64 0), (.string ⟨#[]⟩)]) 32 rfl Tryd.underlying23 info29 rfl (by decide) (by omega) _ [] l _ _ _ Tr (fun _ => False) rfl rfl (OVal_empty (Nat.le_refl _)) (Kd.C_below HX.out (below_alloc (Below.refl _ _) _)) (fun _ _ h => h) (fun _ h => h.elim) (fun _ _ => trivial) (below_alloc (Below.refl _ _) _) (by simp) (by simp; omega) ?_; intro v1 w1 ho hb1 hg1 hat1; have HI := Aside0.mk ho; clear ho hg1 hat1)))
  go_ret
  obtain ⟨g, cp, e, hg, _⟩ := Kd.R_form HI.out (by simpa using hne)
  have hI := HI.out
  subst e
  exact ⟨g, cp, rfl, hg, hI, hb1⟩
/-- An item with another name. -/
def ren (x : S32) (nm : ByteArray) : S32 := ⟨nm, x.f1, x.f2, x.f3, x.f4⟩
def renL : List S32 → List ByteArray → List S32
  | x :: l, n :: ns => ren x n :: renL l ns
  | l, _ => l
def okN (n : ByteArray) : Bool := nameF n.data.toList
def renF (l : List S32) (names : List ByteArray) : List S32 × Int :=
  if validF l = true then (if l.length = names.length then (if names.all okN = true then (if validF (renL l names) = true then (renL l names, 0) else ([], 6)) else ([], 1)) else ([], 11)) else ([], 1)
theorem renL_len : ∀ (l : List S32) (ns : List ByteArray), (renL l ns).length = l.length
  | [], _ => by simp [renL]
  | x :: l, [] => by simp [renL]
  | x :: l, n :: ns => by simp [renL, renL_len l ns]
theorem renL_step : ∀ (l : List S32) (ns : List ByteArray) (i : Nat) (h1 : i < l.length) (h2 : i < ns.length), (renL l (ns.take i)).set i (ren (l[i]) (ns[i])) = renL l (ns.take (i + 1)) ∧ (renL l (ns.take i))[i]? = some l[i]
  | x :: l, n :: ns, 0, _, _ => by simp [renL]
  | x :: l, n :: ns, i + 1, h1, h2 => by
    have := renL_step l ns i (by simpa using h1) (by simpa using h2)
    simpa [renL] using this
theorem Name16 {s : ByteArray} {r : Bool} (h : okN s = r) (w : World) : Calls Tryd.prog 16 #[.string s] w fun e w' => e = .returned (.bool r) ∧ Below w.heap.size w w' := by
  subst h
  exact (item_Name.calls 40 s _ w (item_Name_is s)).mono fun e w' h => ⟨h.1, h.2.below⟩
set_option maxRecDepth 100000 in
set_option maxHeartbeats 4000000 in
theorem Rename_calls (A : Option Addr) (c : Nat) (l : List S32) (A' : Option Addr) (c' : Nat) (names : List ByteArray) (w : World) (hl : l.length ≤ 20) (hn : names.length ≤ 20) (hr : Kd.C k32 w A l.length l) (hs : Kd.C Kd.string w A' names.length names) :
    Calls Tryd.prog 35 #[.slice A l.length c, .slice A' names.length c'] w fun e w' => ∃ v, e = .returned (.tuple #[v, .int .i64 (renF l names).2]) ∧ OItm w' w.heap.size v (renF l names).1 ∧ Below w.heap.size w w' := by
  have HR := Aside0.mk hr
  have HS := Aside0.mk hs
  have hmy := (C_len hs).2
  have hmx := (C_len hr).2
  cases hv : validF l with
  | false =>
    have HC := Aside0.mk (items_is hv hl A c w hr)
    have HF : Aside0 (renF l names = ([], 1)) := ⟨by unfold renF; rw [hv]; rfl⟩
    clear hv hr hs
    go_enter Tryd.func35, Tryd.ntmps35
    go_wp2_with (go_at_call 20; go_must (refine HC.out.mono ?_; rintro e w2 ⟨rfl, hd⟩))
    go_ret2
    exact ⟨_, ret_vi HF.out, by rw [HF.out]; exact Kd.R_nil _ _ _ _ _, hd⟩
  | true =>
    have HC := Aside0.mk (items_is hv hl A c w hr)
    by_cases hlen : l.length = names.length
    · have hne2 : ((names.length : Int) != (l.length : Int)) = false := by rw [hlen]; exact bne_self_eq_false _
      have HLN := Aside0.mk hlen
      have HV := Aside0.mk hv
      have hpos := (valid_all hv).1.2
      have HCL := fun W h => Aside0.mk (CloneI_calls A c l W (Kd.C_below HR.out h) hpos (by omega))
      clear hv hr hs hlen
      go_enter Tryd.func35, Tryd.ntmps35
      go_wp2_with (first | (go_at_call 20; go_must (refine HC.out.mono ?_; rintro e w2 ⟨rfl, hd⟩)) | (go_at_call 73; go_must (refine (HCL _ hd).out.mono ?_; rintro e w3 ⟨g, cp, rfl, hg, hO, hd3⟩; have hb3 := below_then hd hd3; have HO3 := Aside0.mk (Kd.R_lower hO hd.size); have hg3 : w.heap.size ≤ g := Nat.le_trans hd.size hg; have HG3 := Aside0.mk hg3; clear hg3 hg hO hd3)))
      clear hd
      go_loopg [21] names.length (fun gk v21 wr => ∃ (i : Nat), gk = names.length - i ∧ i ≤ names.length ∧ v21 = .int .i64 i ∧ Aside0 ((names.take i).all okN = true) ∧ Aside0 (OItm wr w.heap.size (.slice (some ⟨g, 0, none⟩) l.length cp) (renL l (names.take i))) ∧ Below w.heap.size w wr)
      case atStart => exact ⟨0, rfl, Nat.zero_le _, rfl, ⟨rfl⟩, ⟨by simpa [renL] using HO3.out⟩, hb3⟩
      case round =>
        clear hb3 HO3
        obtain ⟨i, hgk, hi, rfl, HT, HO, hbel⟩ := hrel
        have HG := Aside0.mk hgk
        clear hgk
        by_cases hlt : i < names.length
        · have hil : i < l.length := by have := HLN.out; omega
          obtain ⟨ad, nm, hA, hdx, k0⟩ := C_str HS.out i hlt
          subst hA
          replace k0 := pw_cell_below hbel k0
          have hnm : names[i] = nm := by
            rw [List.drop_eq_getElem_cons hlt] at hdx
            injection hdx
          have HNM := Aside0.mk hnm
          clear hdx hnm
          cases hq : okN nm with
          | false =>
            have HN := fun W => Aside0.mk (Name16 hq W)
            have HF : Aside0 (renF l names = ([], 1)) := ⟨by
              unfold renF
              rw [if_pos HV.out, if_pos HLN.out, if_neg (fun h => by
                have := List.all_eq_true.1 h names[i] (List.getElem_mem hlt)
                rw [HNM.out, hq] at this
                cases this)]⟩
            clear hq
            go_wp2_with (go_at_call 16; go_must (refine (HN _).out.mono ?_; rintro e w4 ⟨rfl, hd4⟩))
            go_ret2
            exact ⟨_, ret_vi HF.out, by rw [HF.out]; exact Kd.R_nil _ _ _ _ _, below_then hbel hd4⟩
          | true =>
            have HN := fun W => Aside0.mk (Name16 hq W)
            have HT2 : Aside0 ((names.take (i + 1)).all okN = true) := ⟨by
              rw [List.take_succ_eq_append_getElem hlt, List.all_append, HT.out, HNM.out]
              simp [hq]⟩
            have HRS := Aside0.mk (renL_step l names i hil hlt)
            clear hq
            have hpi : (0 : Int) ≤ (i : Int) := by omega
            have hpi2 : (i : Int) < (l.length : Int) := by omega
            have HPI := Aside0.mk hpi
            have HPI2 := Aside0.mk hpi2
            clear hpi hpi2
            go_wp2_with (first | (go_at_call 16; go_must (refine (HN _).out.mono ?_; rintro e w4 ⟨rfl, hd4⟩; have hb4 := below_then hbel hd4; have HO4 := Aside0.mk (Kd.R_below HO.out hd4); obtain ⟨ce, hcl, hM, hcc, hfr⟩ := Kd.R_elem HO4.out z32 (i : Int) HPI.out HPI2.out; obtain rfl := k32_openM hM; have HP := Aside0.mk (Kd.R_seg HO4.out (i : Int) HPI.out HPI2.out (seg := [.string nm]) (j := 0) hcl hcc (show 1 ≤ 5 from by decide) (x' := ren ((renL l (names.take i)).getD (i : Int).toNat z32) nm) (k32_mkM _ _ _ (ren ((renL l (names.take i)).getD (i : Int).toNat z32) nm)) (fun _ hk => hk)); have hc0 := hcc 0 _ rfl; have hf0 := hfr 0; simp only [show (k32).sz = 5 from rfl, Nat.add_zero, Int.toNat_natCast] at hc0 hf0; clear hcl hcc hfr hM)) | ((with_reducible refine gate_store (t := 9) (p := 33) rfl ?_); refine store_event (t := 9) (p := 33) (v := ?vo_w18) (w1 := (w4.setCell ⟨g, i * 5, none⟩ (.string nm))) ?hg ?ho ?hn ?hr ?_; (case ho => rfl); (case hg => rfl); (case hn => rfl); (case hr => first | (go_simp; done) | (go_simp; rfl)); intro w18 hw; have HO5 : Aside0 (OItm w18 w.heap.size (.slice (some ⟨g, 0, none⟩) l.length cp) (renL l (names.take (i + 1)))) := ⟨by rw [hw, ← HRS.out.1, HNM.out]; have := HP.out.1; rw [Int.toNat_natCast, List.getD_eq_getElem?_getD, HRS.out.2] at this; exact this⟩; have hb5 : Below w.heap.size w w18 := (by rw [hw]; exact below_set hb4 HG3.out); clear hw HP))
            go_roundg (names.length - (i + 1))
            case measure => have := HG.out; omega
            case rel => exact ⟨i + 1, rfl, by omega, by go_num, HT2, HO5, hb5⟩
        · have he : names.take i = names := List.take_of_length_le (by omega)
          have hO := HO.out
          have hT := HT.out
          rw [he] at hO hT
          have HO9 := Aside0.mk hO
          have hc9 := (Kd.R_reads' hO).2.2
          have e9 : l.length = (renL l names).length := (renL_len l names).symm
          cases hva : validF (renL l names) with
          | true =>
            have HCA := Aside0.mk (items_is hva (by rw [renL_len]; exact hl) (some ⟨g, 0, none⟩) cp wr hc9)
            rw [← e9] at HCA
            have HF : Aside0 (renF l names = (renL l names, 0)) := ⟨by unfold renF; rw [if_pos HV.out, if_pos HLN.out, if_pos hT, if_pos hva]⟩
            clear hva hO hT hc9 e9 he
            go_wp2_with (go_at_call 20; go_must (refine HCA.out.mono ?_; rintro e w4 ⟨rfl, hd4⟩))
            go_ret2
            exact ⟨_, ret_vi HF.out, by rw [HF.out]; exact Kd.R_below HO9.out hd4, below_then hbel hd4⟩
          | false =>
            have HCA := Aside0.mk (items_is hva (by rw [renL_len]; exact hl) (some ⟨g, 0, none⟩) cp wr hc9)
            rw [← e9] at HCA
            have HF : Aside0 (renF l names = ([], 6)) := ⟨by unfold renF; rw [if_pos HV.out, if_pos HLN.out, if_pos hT, if_neg (by rw [hva]; decide)]⟩
            clear hva hO hT hc9 e9 he
            go_wp2_with (go_at_call 20; go_must (refine HCA.out.mono ?_; rintro e w4 ⟨rfl, hd4⟩))
            go_ret2
            exact ⟨_, ret_vi HF.out, by rw [HF.out]; exact Kd.R_nil _ _ _ _ _, below_then hbel hd4⟩
    · have hne2 : ((names.length : Int) != (l.length : Int)) = true := bne_iff_ne.2 (by omega)
      have HF : Aside0 (renF l names = ([], 11)) := ⟨by unfold renF; rw [if_pos hv, if_neg hlen]⟩
      clear hv hr hs hlen
      go_enter Tryd.func35, Tryd.ntmps35
      go_wp2_with (go_at_call 20; go_must (refine HC.out.mono ?_; rintro e w2 ⟨rfl, hd⟩))
      go_ret2
      exact ⟨_, ret_vi HF.out, by rw [HF.out]; exact Kd.R_nil _ _ _ _ _, hd⟩
/-- What the reference's Rename computes. -/
theorem renL_ok : ∀ (l : List S32) (ns : List ByteArray), l.all okI = true → ns.all okN = true → (renL l ns).all okI = true
  | [], _, h, _ => by simp [renL]
  | x :: l, [], h, _ => by simpa [renL] using h
  | x :: l, n :: ns, h, h2 => by
    simp only [List.all_cons, Bool.and_eq_true] at h h2
    rw [renL, List.all_cons, renL_ok l ns h.2 h2.2, Bool.and_true]
    have h1 := h.1
    unfold okI at h1 ⊢
    simp only [Bool.and_eq_true] at h1 ⊢
    exact ⟨h2.1, h1.2⟩
theorem valid_ren {l : List S32} {ns : List ByteArray} (h : validF l = true) (hn : ns.all okN = true) : validF (renL l ns) = apartL [] (renL l ns) := by
  obtain ⟨⟨h8, h1⟩, hok, _⟩ := valid_all h
  unfold validF
  rw [seenL_apart, renL_ok l ns hok hn, Bool.true_and, renL_len, decide_eq_true (by omega), decide_eq_true (by omega)]
  rfl
theorem ren_end (out : List S32) (hl : out.length ≤ 20) (n : Nat) : ∀ (i k : Nat), out.length - i ≤ n → i ≤ out.length → n + 22 ≤ k →
    ringworkref01_Rename.l1 k out (i : Int) = some (if apartL ((out.take i).map nmI) (out.drop i) = true then (out, 0) else ([], 6)) := by
  induction n with
  | zero =>
    intro i k hn hi hk
    obtain ⟨k', rfl⟩ : ∃ k', k = k' + 1 := ⟨k - 1, by omega⟩
    unfold ringworkref01_Rename.l1
    rw [if_neg (by omega), List.drop_eq_nil_of_le (by omega), apartL, if_pos rfl]
  | succ n IH =>
    intro i k hn hi hk
    obtain ⟨k', rfl⟩ : ∃ k', k = k' + 1 := ⟨k - 1, by omega⟩
    unfold ringworkref01_Rename.l1
    by_cases h1 : i < out.length
    · obtain ⟨t, ht, htd⟩ := apart_loop out i h1 k' (by omega) hl
      rw [if_pos (by omega), if_pos (by omega), ht, apart_step out i h1, ← htd]
      simp only [Option.bind_some]
      by_cases e : t = (i : Int)
      · rw [if_pos e, decide_eq_true e, Bool.true_and, w64 (by omega) (by omega)]
        have := IH (i + 1) k' (by omega) (by omega) (by omega)
        simpa using this
      · rw [if_neg e, decide_eq_false e, Bool.false_and]
        rfl
    · rw [if_neg (by omega), List.drop_eq_nil_of_le (by omega), apartL, if_pos rfl]
theorem refName_any (s : ByteArray) (k : Nat) (hk : 40 ≤ k) : ringworkref01_Name.f k s = some (okN s) := by
  obtain ⟨j, rfl⟩ : ∃ j, k = 40 + j := ⟨k - 40, by omega⟩
  clear hk
  induction j with
  | zero => exact ref_Name_is s
  | succ j ih => exact ringworkref01_Name.mono _ _ _ ih
theorem ren_loop (l : List S32) (names : List ByteArray) (hl : l.length ≤ 20) (hlen : l.length = names.length) (n : Nat) : ∀ (i k : Nat), names.length - i ≤ n → i ≤ names.length → (names.take i).all okN = true → n + 50 ≤ k →
    ringworkref01_Rename.l0 k names (renL l (names.take i)) (i : Int) = some (if names.all okN = true then (if apartL [] (renL l names) = true then (renL l names, 0) else ([], 6)) else ([], 1)) := by
  induction n with
  | zero =>
    intro i k hn hi ha hk
    obtain ⟨k', rfl⟩ : ∃ k', k = k' + 1 := ⟨k - 1, by omega⟩
    unfold ringworkref01_Rename.l0
    rw [List.take_of_length_le (show names.length ≤ i by omega)] at ha ⊢
    rw [if_neg (by omega), if_pos ha]
    have := ren_end (renL l names) (by rw [renL_len]; exact hl) 20 0 k' (by rw [renL_len]; omega) (by omega) (by omega)
    simpa using this
  | succ n IH =>
    intro i k hn hi ha hk
    by_cases h1 : i < names.length
    · obtain ⟨k', rfl⟩ : ∃ k', k = k' + 1 := ⟨k - 1, by omega⟩
      have h2 : i < l.length := by omega
      unfold ringworkref01_Rename.l0
      rw [if_pos (by omega), if_pos (by omega), rdOf_get names i h1, refName_any _ k' (by omega)]
      simp only [Option.bind_some]
      cases hq : okN names[i] with
      | false =>
        rw [if_neg (by decide), if_neg (fun h => by
          have := List.all_eq_true.1 h names[i] (List.getElem_mem h1)
          rw [hq] at this
          cases this)]
      | true =>
        obtain ⟨s1, s2⟩ := renL_step l names i h2 h1
        rw [if_pos rfl, if_pos (by rw [renL_len]; omega), w64 (by omega) (by omega), Int.toNat_natCast]
        rw [show rd_T32 (renL l (names.take i)) (i : Int) = l[i] by unfold rd_T32; rw [Int.toNat_natCast, List.getD_eq_getElem?_getD, s2]; rfl]
        have := IH (i + 1) k' (by omega) (by omega) (by rw [List.take_succ_eq_append_getElem h1, List.all_append, ha]; simp [hq]) (by omega)
        rw [← s1] at this
        simpa [ren] using this
    · obtain ⟨k', rfl⟩ : ∃ k', k = k' + 1 := ⟨k - 1, by omega⟩
      unfold ringworkref01_Rename.l0
      rw [List.take_of_length_le (show names.length ≤ i by omega)] at ha ⊢
      rw [if_neg (by omega), if_pos ha]
      have := ren_end (renL l names) (by rw [renL_len]; exact hl) 20 0 k' (by rw [renL_len]; omega) (by omega) (by omega)
      simpa using this
theorem ref_Rename_is (l : List S32) (names : List ByteArray) (hl : l.length ≤ 20) : ringworkref01_Rename.f 100 l names = some (renF l names) := by
  unfold ringworkref01_Rename.f renF
  rw [ref_ValidItems_is l hl 100 (by omega)]
  simp only [Option.bind_some]
  cases hv : validF l with
  | false => rfl
  | true =>
    rw [if_pos rfl, if_pos rfl]
    by_cases h : l.length = names.length
    · rw [if_pos (by omega), if_pos (show ([] : List S32).length + l.length < 2932031007402 by simp; omega), if_pos h, List.nil_append]
      have := ren_loop l names hl h 20 0 100 (by omega) (by omega) rfl (by omega)
      rw [List.take_zero, show renL l [] = l by cases l <;> rfl] at this
      refine Eq.trans this ?_
      by_cases hok : names.all okN = true
      · rw [if_pos hok, if_pos hok, valid_ren hv hok]
      · rw [if_neg hok, if_neg hok]
    · rw [if_neg (by omega), if_neg h]
end Go.Proofs.YtibgjfeifpanhaaDoor.B

/- The law ItemValid walked. -/
set_option linter.unusedVariables false
set_option linter.unusedSimpArgs false
namespace Go.Proofs.YtibgjfeifpanhaaDoor.B
open Go.RowKit Go.Proofs.YtibgjfeifpanhaaDoorW.PrintWords Go.Maps PItemValid

theorem awake_ok (w w' : World) (h : TabOk w) (hb : Below w.heap.size w w') : Calls Tryd.prog 11 #[] w' fun e w2 => e = .returned (.bool true) ∧ Below w'.heap.size w' w2 := awake_calls w' (h.below hb)
theorem Name_is {s : ByteArray} {r : Bool} (h : nameF s.data.toList = r) (w : World) : Calls Tryd.prog 16 #[.string s] w fun e w' => e = .returned (.bool r) ∧ Below w.heap.size w w' := by
  subst h
  exact (item_Name.calls 40 s _ w (item_Name_is s)).mono fun e w' h => ⟨h.1, h.2.below⟩
theorem refName_is {s : ByteArray} {r : Bool} (h : nameF s.data.toList = r) (w : World) : Calls Tryd.prog 17 #[.string s] w fun e w' => e = .returned (.bool r) ∧ Below w.heap.size w w' := by
  subst h
  exact (ringworkref01_Name.calls 40 s _ w (ref_Name_is s)).mono fun e w' h => ⟨h.1, h.2.below⟩
theorem refItem_is {x : S32} {r : Bool} (h : okI x = r) (w : World) : Calls Tryd.prog 15 #[vI x] w fun e w' => e = .returned (.bool r) ∧ Below w.heap.size w w' := by
  subst h
  exact ringworkref01_ValidItem.calls 40 x.f0 x.f1 x.f2 x.f3 x.f4 _ w (ref_ValidItem40 x)
theorem refVal_is {x : S29} {r : Bool} (h : okV x = r) (w : World) : Calls Tryd.prog 13 #[vV x] w fun e w' => e = .returned (.bool r) ∧ Below w.heap.size w w' := by
  subst h
  exact ringworkref01_ValidValue.calls x.f0 x.f1 x.f2 _ w (ref_ValidValue_is x)
theorem refRow_is {l : List S29} {r : Bool} (h : okRow l = r) (hl : l.length ≤ 20) (A : Option Addr) (c : Nat) (w : World) (hr : Kd.C k29 w A l.length l) (hc : l.length ≤ c) :
    Calls Tryd.prog 19 #[.slice A l.length c] w fun e w' => e = .returned (.bool r) ∧ Below w.heap.size w w' := by
  subst h
  exact ringworkref01_ValidRow.calls 30 A c l _ w hr hc (ref_ValidRow_is l hl)
theorem refItems_is {l : List S32} {r : Bool} (h : validF l = r) (hl : l.length ≤ 20) (A : Option Addr) (c : Nat) (w : World) (hr : Kd.C k32 w A l.length l) (hc : l.length ≤ c) :
    Calls Tryd.prog 21 #[.slice A l.length c] w fun e w' => e = .returned (.bool r) ∧ Below w.heap.size w w' := by
  subst h
  exact ringworkref01_ValidItems.calls 61 A c l _ w hr hc (ref_ValidItems_is l hl 61 (by omega))
theorem refFits_is {a : List S32} {b : List S29} {r : Bool} (h : fitsF a b = r) (hl : a.length ≤ 20) (A : Option Addr) (c : Nat) (A' : Option Addr) (c' : Nat) (w : World) (hx : Kd.C k32 w A a.length a) (hc : a.length ≤ c) (hy : Kd.C k29 w A' b.length b) (hc' : b.length ≤ c') :
    Calls Tryd.prog 23 #[.slice A a.length c, .slice A' b.length c'] w fun e w' => e = .returned (.bool r) ∧ Below w.heap.size w w' := by
  subst h
  exact ringworkref01_Fits.calls 70 A c a A' c' b _ w hx hc hy hc' (ref_Fits_is a b hl)
theorem C_rows1 (w : World) (A0 : Option Addr) (c0 : Nat) (a : List S29) (h0 : Kd.C k29 w A0 a.length a) (l0 : a.length ≤ c0) :
    Kd.C (Kd.slice 29 k29) (w.alloc (.cells #[.slice A0 a.length c0] 23)) (some ⟨w.heap.size, 0, none⟩) 1 [a] := by
  have hb : Below w.heap.size w (w.alloc (.cells #[.slice A0 a.length c0] 23)) := below_alloc (Below.refl _ _) _
  refine ⟨rfl, by decide, fun _ => ⟨_, rfl, fun j p hj => ?_⟩⟩
  match j, hj with
  | 0, hj =>
    cases hj
    refine ⟨[_], rfl, ⟨A0, c0, rfl, l0, Kd.C_below h0 hb⟩, fun i u hu => ?_⟩
    have hi : i = 0 := by
      have := (List.getElem?_eq_some_iff.1 hu).1
      simpa using this
    subst hi
    simp at hu
    subst hu
    show (w.alloc _).cell? ((⟨w.heap.size, 0, none⟩ : Addr).add 0) = _
    rw [show (⟨w.heap.size, 0, none⟩ : Addr).add 0 = ⟨w.heap.size, 0, none⟩ from rfl, World.cell?_alloc_new]
    rfl
set_option maxRecDepth 100000 in
set_option maxHeartbeats 8000000 in
theorem valid_law (A0 A1 : Option Addr) (c0 c1 : Nat) (l : List S32) (r : List S29) (s : ByteArray) (w : World) (h0 : Kd.C k32 w A0 l.length l) (l0 : l.length ≤ c0) (h1 : Kd.C k29 w A1 r.length r) (l1 : r.length ≤ c1) (htab : TabOk w) :
    Calls Tryd.prog 3 #[.slice A0 l.length c0, .slice A1 r.length c1, .string s] w fun e w' => e = .returned (.bool true) ∧ Below w.heap.size w w' := by
  have H0 := Aside0.mk h0
  have H1 := Aside0.mk h1
  have HTAB := Aside0.mk htab
  have HL0 := Aside0.mk l0
  have HL1 := Aside0.mk l1
  have m0 := (C_len h0).2
  have m1 := (C_len h1).2
  obtain ⟨rI, hI20, hI⟩ := Items_calls A0 c0 l w h0 l0
  have HI := Aside0.mk hI
  clear h0 h1 htab l0 l1 hI
  cases rI with
  | false =>
    go_enter Tryd.func3, Tryd.ntmps3
    go_wp2_with (first | (go_at_call 9; go_must (refine HI.out.mono ?_; rintro e w1 ⟨rfl, hd1⟩; have hb1 := hd1.below; clear hd1)) | (go_at_call 11; go_must (refine (awake_ok w _ HTAB.out hb1).mono ?_; rintro e w2 ⟨rfl, hb2⟩)))
    go_ret
    exact ⟨rfl, below_then hb1 hb2⟩
  | true =>
    have hl20 := hI20 rfl
    clear hI20
    cases hrows : rowsF [r] with
    | false =>
      have HR := fun (W : World) (h : Kd.C (Kd.slice 29 k29) (W.alloc (.cells #[.slice A1 r.length c1] 23)) (some ⟨W.heap.size, 0, none⟩) 1 [r]) => Aside0.mk (Rows_is hrows (by simp) _ 1 _ h (by simp))
      clear hrows
      go_enter Tryd.func3, Tryd.ntmps3
      go_wp2_with (first | (go_at_call 9; go_must (refine HI.out.mono ?_; rintro e w1 ⟨rfl, hd1⟩; have hb1 := hd1.below; clear hd1; have hb1a := below_alloc hb1 (.cells #[.slice A1 r.length c1] 23); have HRS := Aside0.mk (C_rows1 w1 A1 c1 r (Kd.C_below H1.out hb1) HL1.out))) | (go_at_call 10; go_must (refine (HR _ HRS.out).out.mono ?_; rintro e w2 ⟨rfl, hd2⟩; have hb2 := below_then hb1a hd2.below; clear hd2)) | (go_at_call 11; go_must (refine (awake_ok w _ HTAB.out hb2).mono ?_; rintro e w3 ⟨rfl, hb3⟩)))
      go_ret
      exact ⟨rfl, below_then hb2 hb3⟩
    | true =>
      have HR := fun (W : World) (h : Kd.C (Kd.slice 29 k29) (W.alloc (.cells #[.slice A1 r.length c1] 23)) (some ⟨W.heap.size, 0, none⟩) 1 [r]) => Aside0.mk (Rows_is hrows (by simp) _ 1 _ h (by simp))
      have hok : okLenB r = true := by simpa [rowsF] using hrows
      have hr20 := ((okLenB_iff r).1 hok).1
      clear hrows hok
      by_cases hs2 : (200 : Int) < (s.size : Int)
      · go_enter Tryd.func3, Tryd.ntmps3
        go_wp2_with (first | (go_at_call 9; go_must (refine HI.out.mono ?_; rintro e w1 ⟨rfl, hd1⟩; have hb1 := hd1.below; clear hd1; have hb1a := below_alloc hb1 (.cells #[.slice A1 r.length c1] 23); have HRS := Aside0.mk (C_rows1 w1 A1 c1 r (Kd.C_below H1.out hb1) HL1.out))) | (go_at_call 10; go_must (refine (HR _ HRS.out).out.mono ?_; rintro e w2 ⟨rfl, hd2⟩; have hb2 := below_then hb1a hd2.below; clear hd2)) | (go_at_call 11; go_must (refine (awake_ok w _ HTAB.out hb2).mono ?_; rintro e w3 ⟨rfl, hb3⟩)))
        go_ret
        exact ⟨rfl, below_then hb2 hb3⟩
      · go_enter Tryd.func3, Tryd.ntmps3
        go_wp2_with (first | (go_at_call 9; go_must (refine HI.out.mono ?_; rintro e w1 ⟨rfl, hd1⟩; have hb1 := hd1.below; clear hd1; have hb1a := below_alloc hb1 (.cells #[.slice A1 r.length c1] 23); have HRS := Aside0.mk (C_rows1 w1 A1 c1 r (Kd.C_below H1.out hb1) HL1.out))) | (go_at_call 10; go_must (refine (HR _ HRS.out).out.mono ?_; rintro e w2 ⟨rfl, hd2⟩; have hb2 := below_then hb1a hd2.below; clear hd2)))
        go_loopg [7] r.length (fun g v7 wr => ∃ (i : Nat), g = r.length - i ∧ i ≤ r.length ∧ v7 = .int .i64 i ∧ Below w.heap.size w wr)
        case atStart => exact ⟨0, rfl, Nat.zero_le _, rfl, hb2⟩
        case round =>
          clear hb2 hb1 hb1a HRS
          obtain ⟨i, hg, hi, rfl, hbel⟩ := hrel
          have HG := Aside0.mk hg
          clear hg
          by_cases hlt : i < r.length
          · obtain ⟨ad, x, hA, hdx, k0, k1, k2⟩ := C_val H1.out i hlt
            subst hA
            replace k0 := pw_cell_below hbel k0
            replace k1 := pw_cell_below hbel k1
            replace k2 := pw_cell_below hbel k2
            obtain ⟨q, hq⟩ : ∃ q, okV x = q := ⟨_, rfl⟩
            have HV1 := fun W => Aside0.mk (valid_is hq W)
            have HV2 := fun W => Aside0.mk (refVal_is hq W)
            unfold vV at HV1 HV2
            clear hdx hq
            have hr0 : Below wr.heap.size wr wr := Below.refl _ _
            go_wp2
            go_region_held3 (fun w' => Below wr.heap.size wr w' ∧ w'.cell? (ad.add (i * 3)) = some (.int .i64 x.f0) ∧ w'.cell? ⟨(ad.add (i * 3)).block, (ad.add (i * 3)).off + 1, none⟩ = some (.int .i64 x.f1) ∧ w'.cell? ⟨(ad.add (i * 3)).block, (ad.add (i * 3)).off + 2, none⟩ = some (.string x.f2)) ((refine (fun h => ⟨h, pw_cell_below h k0, pw_cell_below h k1, pw_cell_below h k2⟩ : Below wr.heap.size wr _ → _) ?_; (repeat first | exact hr0 | exact hr1 | exact hr2 | refine below_drew ?_ | refine below_alloc ?_ _))) (first
              | (go_at_call 12; go_must (refine (HV1 _).out.mono ?_; rintro e w3 ⟨rfl, hd⟩; have hr1 := below_then (‹Below wr.heap.size wr _ ∧ _›).1 hd; clear hd))
              | (go_at_call 13; go_must (refine (HV2 _).out.mono ?_; rintro e w4 ⟨rfl, hd⟩; have hr2 := below_then (‹Below wr.heap.size wr _ ∧ _›).1 hd; clear hd)))
            all_goals
              go_wp2
              go_roundg (r.length - (i + 1))
              case measure => have := HG.out; omega
              case rel => exact ⟨i + 1, rfl, by omega, by go_num, (by first | exact below_then hbel hr2 | exact below_then hbel hr1)⟩
          · have hlt2 : ¬ ((i : Int) < (r.length : Int)) := by omega
            go_wp2
            clear hlt hlt2 HG hi
            obtain ⟨wo, rfl⟩ : ∃ wo : World, wo = wr := ⟨_, rfl⟩
            go_loopg [8] l.length (fun g v8 wr => ∃ (j : Nat), g = l.length - j ∧ j ≤ l.length ∧ v8 = .int .i64 j ∧ Below w.heap.size w wr)
            case atStart => exact ⟨0, rfl, Nat.zero_le _, rfl, hbel⟩
            case round =>
              clear hbel
              obtain ⟨j, hg, hj, rfl, hbel2⟩ := hrel
              have HG := Aside0.mk hg
              clear hg
              by_cases hlt : j < l.length
              · obtain ⟨ad, x, hA, hdx, k0, k1, k2, k3, k4⟩ := C_item H0.out j hlt
                subst hA
                replace k0 := pw_cell_below hbel2 k0
                replace k1 := pw_cell_below hbel2 k1
                replace k2 := pw_cell_below hbel2 k2
                replace k3 := pw_cell_below hbel2 k3
                replace k4 := pw_cell_below hbel2 k4
                obtain ⟨q, hq⟩ : ∃ q, okI x = q := ⟨_, rfl⟩
                obtain ⟨p, hp⟩ : ∃ p, nameF x.f0.data.toList = p := ⟨_, rfl⟩
                have HV1 := fun W => Aside0.mk (ValidItem_is hq W)
                have HV2 := fun W => Aside0.mk (refItem_is hq W)
                have HV3 := fun W => Aside0.mk (Name_is hp W)
                have HV4 := fun W => Aside0.mk (refName_is hp W)
                unfold vI at HV1 HV2
                clear hdx hq hp
                have hr0 : Below wr.heap.size wr wr := Below.refl _ _
                go_wp2
                go_region_held3 (fun w' => Below wr.heap.size wr w' ∧ w'.cell? (ad.add (j * 5)) = some (.string x.f0) ∧ w'.cell? ⟨(ad.add (j * 5)).block, (ad.add (j * 5)).off + 1, none⟩ = some (.int .i64 x.f1) ∧ w'.cell? ⟨(ad.add (j * 5)).block, (ad.add (j * 5)).off + 2, none⟩ = some (.int .i64 x.f2) ∧ w'.cell? ⟨(ad.add (j * 5)).block, (ad.add (j * 5)).off + 3, none⟩ = some (.int .i64 x.f3) ∧ w'.cell? ⟨(ad.add (j * 5)).block, (ad.add (j * 5)).off + 4, none⟩ = some (.int .i64 x.f4)) ((refine (fun h => ⟨h, pw_cell_below h k0, pw_cell_below h k1, pw_cell_below h k2, pw_cell_below h k3, pw_cell_below h k4⟩ : Below wr.heap.size wr _ → _) ?_; (repeat first | exact hr0 | exact hr1 | exact hr2 | exact hr3 | exact hr4 | refine below_drew ?_ | refine below_alloc ?_ _))) (first
                  | (go_at_call 14; go_must (refine (HV1 _).out.mono ?_; rintro e w3 ⟨rfl, hd⟩; have hr1 := below_then (‹Below wr.heap.size wr _ ∧ _›).1 hd; clear hd))
                  | (go_at_call 15; go_must (refine (HV2 _).out.mono ?_; rintro e w4 ⟨rfl, hd⟩; have hr2 := below_then (‹Below wr.heap.size wr _ ∧ _›).1 hd; clear hd))
                  | (go_at_call 16; go_must (refine (HV3 _).out.mono ?_; rintro e w5 ⟨rfl, hd⟩; have hr3 := below_then (‹Below wr.heap.size wr _ ∧ _›).1 hd; clear hd))
                  | (go_at_call 17; go_must (refine (HV4 _).out.mono ?_; rintro e w6 ⟨rfl, hd⟩; have hr4 := below_then (‹Below wr.heap.size wr _ ∧ _›).1 hd; clear hd)))
                all_goals
                  go_wp2
                  go_roundg (l.length - (j + 1))
                  case measure => have := HG.out; omega
                  case rel => exact ⟨j + 1, rfl, by omega, by go_num, (by first | exact below_then hbel2 hr4 | exact below_then hbel2 hr3)⟩
              · have hlt2 : ¬ ((j : Int) < (l.length : Int)) := by omega
                obtain ⟨ns, hns⟩ : ∃ q, nameF s.data.toList = q := ⟨_, rfl⟩
                obtain ⟨qr, hqr⟩ : ∃ q, okRow r = q := ⟨_, rfl⟩
                obtain ⟨qv, hqv⟩ : ∃ q, validF l = q := ⟨_, rfl⟩
                obtain ⟨qf, hqf⟩ : ∃ q, fitsF l r = q := ⟨_, rfl⟩
                have C1 := Aside0.mk (fun W (h : Below w.heap.size w W) => Name_is hns W)
                have C2 := Aside0.mk (fun W (h : Below w.heap.size w W) => refName_is hns W)
                have C3 := Aside0.mk (fun W h => row_is hqr A1 c1 W (Kd.C_below H1.out h))
                have C4 := Aside0.mk (fun W h => refRow_is hqr hr20 A1 c1 W (Kd.C_below H1.out h) HL1.out)
                have C5 := Aside0.mk (fun W h => items_is hqv hl20 A0 c0 W (Kd.C_below H0.out h))
                have C6 := Aside0.mk (fun W h => refItems_is hqv hl20 A0 c0 W (Kd.C_below H0.out h) HL0.out)
                have C7 := Aside0.mk (fun W h => Fits_is hqf hl20 A0 c0 A1 c1 W (Kd.C_below H0.out h) (Kd.C_below H1.out h))
                have C8 := Aside0.mk (fun W h => refFits_is hqf hl20 A0 c0 A1 c1 W (Kd.C_below H0.out h) HL0.out (Kd.C_below H1.out h) HL1.out)
                clear hns hqr hqv hqf
                go_wp2_with (first
                | (go_at_call 16; (with_reducible refine (C1.out _ hbel2).mono ?_); go_must (rintro e w_hb3 ⟨rfl, hd⟩; have hb3 := below_then hbel2 hd; clear hd))
                | (go_at_call 17; (with_reducible refine (C2.out _ hb3).mono ?_); go_must (rintro e w_hb4 ⟨rfl, hd⟩; have hb4 := below_then hb3 hd; clear hd))
                | (go_at_call 18; (with_reducible refine (C3.out _ hb4).mono ?_); go_must (rintro e w_hb5 ⟨rfl, hd⟩; have hb5 := below_then hb4 hd; clear hd))
                | (go_at_call 19; (with_reducible refine (C4.out _ hb5).mono ?_); go_must (rintro e w_hb6 ⟨rfl, hd⟩; have hb6 := below_then hb5 hd; clear hd))
                | (go_at_call 20; (with_reducible refine (C5.out _ hb6).mono ?_); go_must (rintro e w_hb7 ⟨rfl, hd⟩; have hb7 := below_then hb6 hd; clear hd))
                | (go_at_call 21; (with_reducible refine (C6.out _ hb7).mono ?_); go_must (rintro e w_hb8 ⟨rfl, hd⟩; have hb8 := below_then hb7 hd; clear hd))
                | (go_at_call 22; (with_reducible refine (C7.out _ hb8).mono ?_); go_must (rintro e w_hb9 ⟨rfl, hd⟩; have hb9 := below_then hb8 hd; clear hd))
                | (go_at_call 23; (with_reducible refine (C8.out _ hb9).mono ?_); go_must (rintro e w_hb10 ⟨rfl, hd⟩; have hb10 := below_then hb9 hd; clear hd))
                | (go_at_call 11; go_must (refine (awake_ok w _ HTAB.out hb10).mono ?_; rintro e w11 ⟨rfl, hd⟩; have hb11 := below_then hb10 hd; clear hd)))
                go_ret
                exact ⟨rfl, hb11⟩
end Go.Proofs.YtibgjfeifpanhaaDoor.B

/- The law ItemNarrows walked. -/
set_option linter.unusedVariables false
set_option linter.unusedSimpArgs false
namespace Go.Proofs.YtibgjfeifpanhaaDoor.B
open Go.RowKit Go.Deep Go.ChangeShapes Go.WideShapes Go.Proofs.YtibgjfeifpanhaaDoorW.PrintWords Go.Maps PItemValid

section
variable {H : Type} {enc : TypeId × Value → H} {W : World} {held : Bool}
theorem open_strs_C {a : Option Addr} {len cap fuel : Nat} {x : DataW H × List MemPlace} (h : DataW.trod enc Tryd.prog W 0 (fun _ => true) held fuel 41 [.slice a len cap] = some x) :
    ∃ l : List ByteArray, l.length = len ∧ len ≤ cap ∧ Kd.C Kd.string W a l.length l := by
  refine open_C Kd.string Tryd.underlying41 (by kernel_rfl) (fun n cs y hy => ?_) h
  obtain ⟨s0, e0, _, _⟩ := DataW.trod_string Tryd.underlying9 hy
  subst e0
  exact ⟨s0, rfl⟩
end
theorem nar_len (l : List S32) (names : List ByteArray) : (narF l names).1.length ≤ names.length := by
  unfold narF
  split
  · split
    · simp
    · rename_i o h
      have := picks_len l names o h
      split
      · simp
      · split <;> simp <;> omega
  · simp
theorem ren_len (l : List S32) (names : List ByteArray) : (renF l names).1.length ≤ l.length := by
  unfold renF
  repeat' split
  all_goals simp [renL_len]
theorem sameI_is (l : List S32) (hl : l.length ≤ 20) (A A' : Option Addr) (c c' : Nat) (w : World) (hx : Kd.C k32 w A l.length l) (hc : l.length ≤ c) (hy : Kd.C k32 w A' l.length l) (hc' : l.length ≤ c') :
    Calls Tryd.prog 33 #[.slice A l.length c, .slice A' l.length c'] w fun e w' => e = .returned (.bool true) ∧ Below w.heap.size w w' :=
  (ringworklaw01_SameItems.calls 30 A c l A' c' l true w hx hc hy hc' (SameItems_is l hl)).mono fun e w' h => ⟨h.1, h.2.below⟩
theorem Narrow_is {l : List S32} {names : List ByteArray} {x : List S32} {y : Int} (h : narF l names = (x, y)) (A : Option Addr) (c : Nat) (A' : Option Addr) (c' : Nat) (w : World) (hl : l.length ≤ 20) (hn : names.length ≤ 20) (hr : Kd.C k32 w A l.length l) (hs : Kd.C Kd.string w A' names.length names) :
    Calls Tryd.prog 31 #[.slice A l.length c, .slice A' names.length c'] w fun e w' => ∃ v, e = .returned (.tuple #[v, .int .i64 y]) ∧ OItm w' w.heap.size v x ∧ Below w.heap.size w w' := by
  have := Narrow_calls A c l A' c' names w hl hn hr hs
  rwa [h] at this
theorem refNarrow_is {l : List S32} {names : List ByteArray} {x : List S32} {y : Int} (h : narF l names = (x, y)) (A : Option Addr) (c : Nat) (A' : Option Addr) (c' : Nat) (w : World) (hl : l.length ≤ 20) (hn : names.length ≤ 20) (hr : Kd.C k32 w A l.length l) (hc : l.length ≤ c) (hs : Kd.C Kd.string w A' names.length names) (hc' : names.length ≤ c') :
    Calls Tryd.prog 32 #[.slice A l.length c, .slice A' names.length c'] w fun e w' => ∃ v, e = .returned (.tuple #[v, .int .i64 y]) ∧ OItm w' w.heap.size v x ∧ Below w.heap.size w w' :=
  ringworkref01_Narrow.calls 100 A c l A' c' names x y w hr hc hs hc' (by rw [ref_Narrow_is l names hl hn, h])
theorem Rename_is {l : List S32} {names : List ByteArray} {x : List S32} {y : Int} (h : renF l names = (x, y)) (A : Option Addr) (c : Nat) (A' : Option Addr) (c' : Nat) (w : World) (hl : l.length ≤ 20) (hn : names.length ≤ 20) (hr : Kd.C k32 w A l.length l) (hs : Kd.C Kd.string w A' names.length names) :
    Calls Tryd.prog 35 #[.slice A l.length c, .slice A' names.length c'] w fun e w' => ∃ v, e = .returned (.tuple #[v, .int .i64 y]) ∧ OItm w' w.heap.size v x ∧ Below w.heap.size w w' := by
  have := Rename_calls A c l A' c' names w hl hn hr hs
  rwa [h] at this
theorem refRename_is {l : List S32} {names : List ByteArray} {x : List S32} {y : Int} (h : renF l names = (x, y)) (A : Option Addr) (c : Nat) (A' : Option Addr) (c' : Nat) (w : World) (hl : l.length ≤ 20) (hr : Kd.C k32 w A l.length l) (hc : l.length ≤ c) (hs : Kd.C Kd.string w A' names.length names) (hc' : names.length ≤ c') :
    Calls Tryd.prog 36 #[.slice A l.length c, .slice A' names.length c'] w fun e w' => ∃ v, e = .returned (.tuple #[v, .int .i64 y]) ∧ OItm w' w.heap.size v x ∧ Below w.heap.size w w' :=
  ringworkref01_Rename.calls 100 A c l A' c' names x y w hr hc hs hc' (by rw [ref_Rename_is l names hl, h])
theorem Pick_is {l : List S32} {r : List S29} {names : List ByteArray} {x : List S29} {y : Int} (h : pickF l r names = (x, y)) (A : Option Addr) (c : Nat) (A1 : Option Addr) (c1 : Nat) (A' : Option Addr) (c' : Nat) (w : World) (hl : l.length ≤ 20) (hn : names.length ≤ 20) (hr : Kd.C k32 w A l.length l) (h1 : Kd.C k29 w A1 r.length r) (hs : Kd.C Kd.string w A' names.length names) :
    Calls Tryd.prog 34 #[.slice A l.length c, .slice A1 r.length c1, .slice A' names.length c'] w fun e w' => ∃ v, e = .returned (.tuple #[v, .int .i64 y]) ∧ OVal w' w.heap.size v x ∧ Below w.heap.size w w' := by
  have := Pick_calls A c l A1 c1 r A' c' names w hl hn hr h1 hs
  rwa [h] at this
set_option maxRecDepth 100000 in
set_option maxHeartbeats 8000000 in
theorem narrows_law (A0 A1 A2 : Option Addr) (c0 c1 c2 : Nat) (l : List S32) (r : List S29) (names : List ByteArray) (w : World) (h0 : Kd.C k32 w A0 l.length l) (l0 : l.length ≤ c0) (h1 : Kd.C k29 w A1 r.length r) (l1 : r.length ≤ c1) (h2 : Kd.C Kd.string w A2 names.length names) (l2 : names.length ≤ c2) (htab : TabOk w) :
    Calls Tryd.prog 5 #[.slice A0 l.length c0, .slice A1 r.length c1, .slice A2 names.length c2] w fun e w' => e = .returned (.bool true) ∧ Below w.heap.size w w' := by
  have H0 := Aside0.mk h0
  have H1 := Aside0.mk h1
  have H2 := Aside0.mk h2
  have HTAB := Aside0.mk htab
  have HL0 := Aside0.mk l0
  have HL1 := Aside0.mk l1
  have HL2 := Aside0.mk l2
  have m0 := (C_len h0).2
  have m1 := (C_len h1).2
  have m2 := (C_len h2).2
  obtain ⟨rI, hI20, hI⟩ := Items_calls A0 c0 l w h0 l0
  have HI := Aside0.mk hI
  have HNM := fun (W : World) (h : Below w.heap.size w W) => Names_calls A2 c2 names W (Kd.C_below H2.out h) HL2.out
  clear h0 h1 h2 htab l0 l1 l2 hI
  cases rI with
  | false =>
    clear HNM
    go_enter Tryd.func5, Tryd.ntmps5
    go_wp2_with (first | (go_at_call 9; go_must (refine HI.out.mono ?_; rintro e w1 ⟨rfl, hd1⟩; have hb1 := hd1.below; clear hd1)) | (go_at_call 11; go_must (refine (awake_ok w _ HTAB.out hb1).mono ?_; rintro e w2 ⟨rfl, hb2⟩)))
    go_ret
    exact ⟨rfl, below_then hb1 hb2⟩
  | true =>
    have hl20 := hI20 rfl
    clear hI20
    cases hrows : rowsF [r] with
    | false =>
      clear HNM
      have HR := fun (W : World) (h : Kd.C (Kd.slice 29 k29) (W.alloc (.cells #[.slice A1 r.length c1] 23)) (some ⟨W.heap.size, 0, none⟩) 1 [r]) => Aside0.mk (Rows_is hrows (by simp) _ 1 _ h (by simp))
      clear hrows
      go_enter Tryd.func5, Tryd.ntmps5
      go_wp2_with (first | (go_at_call 9; go_must (refine HI.out.mono ?_; rintro e w1 ⟨rfl, hd1⟩; have hb1 := hd1.below; clear hd1; have hb1a := below_alloc hb1 (.cells #[.slice A1 r.length c1] 23); have HRS := Aside0.mk (C_rows1 w1 A1 c1 r (Kd.C_below H1.out hb1) HL1.out))) | (go_at_call 10; go_must (refine (HR _ HRS.out).out.mono ?_; rintro e w2 ⟨rfl, hd2⟩; have hb2 := below_then hb1a hd2.below; clear hd2)) | (go_at_call 11; go_must (refine (awake_ok w _ HTAB.out hb2).mono ?_; rintro e w3 ⟨rfl, hb3⟩)))
      go_ret
      exact ⟨rfl, below_then hb2 hb3⟩
    | true =>
      have HR := fun (W : World) (h : Kd.C (Kd.slice 29 k29) (W.alloc (.cells #[.slice A1 r.length c1] 23)) (some ⟨W.heap.size, 0, none⟩) 1 [r]) => Aside0.mk (Rows_is hrows (by simp) _ 1 _ h (by simp))
      have hok : okLenB r = true := by simpa [rowsF] using hrows
      have hr20 := ((okLenB_iff r).1 hok).1
      clear hrows hok
      obtain ⟨rN, hN20, hN⟩ : ∃ rN, (rN = true → names.length ≤ 20) ∧ Aside0 (∀ W, Below w.heap.size w W → Calls Tryd.prog 30 #[.slice A2 names.length c2] W fun e w' => e = .returned (.bool rN) ∧ Drawn0 W w') := by
        obtain ⟨rN, q1, q2⟩ := names_loop names 20 0 60 (by omega) (by omega) (by omega)
        exact ⟨rN, q2, ⟨fun W h => ringworklaw01_Names.calls 60 A2 c2 names rN W (Kd.C_below H2.out h) HL2.out (by simpa [ringworklaw01_Names.f] using q1)⟩⟩
      clear HNM
      cases rN with
      | false =>
        go_enter Tryd.func5, Tryd.ntmps5
        go_wp2_with (first | (go_at_call 9; go_must (refine HI.out.mono ?_; rintro e w1 ⟨rfl, hd1⟩; have hb1 := hd1.below; clear hd1; have hb1a := below_alloc hb1 (.cells #[.slice A1 r.length c1] 23); have HRS := Aside0.mk (C_rows1 w1 A1 c1 r (Kd.C_below H1.out hb1) HL1.out))) | (go_at_call 10; go_must (refine (HR _ HRS.out).out.mono ?_; rintro e w2 ⟨rfl, hd2⟩; have hb2 := below_then hb1a hd2.below; clear hd2)) | (go_at_call 30; go_must (refine (hN.out _ hb2).mono ?_; rintro e w3 ⟨rfl, hd3⟩; have hb3 := below_then hb2 hd3.below; clear hd3)) | (go_at_call 11; go_must (refine (awake_ok w _ HTAB.out hb3).mono ?_; rintro e w4 ⟨rfl, hb4⟩)))
        go_ret
        exact ⟨rfl, below_then hb3 hb4⟩
      | true =>
        have hn20 := hN20 rfl
        clear hN20
        obtain ⟨⟨nl, ne⟩, hnf⟩ : ∃ x, narF l names = x := ⟨_, rfl⟩
        obtain ⟨⟨rl, re⟩, hrf⟩ : ∃ x, renF l names = x := ⟨_, rfl⟩
        have HNL : Aside0 (nl.length ≤ 20) := ⟨by have := nar_len l names; rw [hnf] at this; exact Nat.le_trans this hn20⟩
        have HRL : Aside0 (rl.length ≤ 20) := ⟨by have := ren_len l names; rw [hrf] at this; exact Nat.le_trans this hl20⟩
        have HN1 := fun (W : World) (h : Below w.heap.size w W) => Aside0.mk (Narrow_is hnf A0 c0 A2 c2 W hl20 hn20 (Kd.C_below H0.out h) (Kd.C_below H2.out h))
        have HN2 := fun (W : World) (h : Below w.heap.size w W) => Aside0.mk (refNarrow_is hnf A0 c0 A2 c2 W hl20 hn20 (Kd.C_below H0.out h) HL0.out (Kd.C_below H2.out h) HL2.out)
        have HR1 := fun (W : World) (h : Below w.heap.size w W) => Aside0.mk (Rename_is hrf A0 c0 A2 c2 W hl20 hn20 (Kd.C_below H0.out h) (Kd.C_below H2.out h))
        have HR2 := fun (W : World) (h : Below w.heap.size w W) => Aside0.mk (refRename_is hrf A0 c0 A2 c2 W hl20 (Kd.C_below H0.out h) HL0.out (Kd.C_below H2.out h) HL2.out)
        have HS := fun (x : List S32) (hx : x.length ≤ 20) A A' c c' W a b d e => Aside0.mk (sameI_is x hx A A' c c' W a b d e)
        have hne1 : (ne != ne) = false := bne_self_eq_false _
        have hre1 : (re == re) = true := beq_self_eq_true _
        have tail : ∀ W, Below w.heap.size w W → True := fun _ _ => trivial
        by_cases hz : ne = 0
        · subst hz
          cases hfit : fitsF l r with
          | true =>
            obtain ⟨⟨pl, pe⟩, hpf⟩ : ∃ x, pickF l r names = x := ⟨_, rfl⟩
            obtain ⟨e1, e2⟩ := nar_fits (l := l) (r := r) (names := names) (by rw [hnf]) hfit
            rw [hpf] at e1 e2
            rw [hnf] at e2
            simp only at e1 e2
            subst e1
            have HP := fun (W : World) (h : Below w.heap.size w W) => Aside0.mk (Pick_is hpf A0 c0 A1 c1 A2 c2 W hl20 hn20 (Kd.C_below H0.out h) (Kd.C_below H1.out h) (Kd.C_below H2.out h))
            have HF1 := fun (W : World) (h : Below w.heap.size w W) => Aside0.mk (Fits_is hfit hl20 A0 c0 A1 c1 W (Kd.C_below H0.out h) (Kd.C_below H1.out h))
            have HF2 := fun A c A' c' W a b => Aside0.mk (Fits_is e2 HNL.out A c A' c' W a b)
            clear hfit hnf hrf hpf e2 tail
            go_enter Tryd.func5, Tryd.ntmps5
            go_wp2_with (first
              | (go_at_call 9; go_must (refine HI.out.mono ?_; rintro e w1 ⟨rfl, hd1⟩; have hb1 := hd1.below; clear hd1; have hb1a := below_alloc hb1 (.cells #[.slice A1 r.length c1] 23); have HRS := Aside0.mk (C_rows1 w1 A1 c1 r (Kd.C_below H1.out hb1) HL1.out)))
              | (go_at_call 10; go_must (refine (HR _ HRS.out).out.mono ?_; rintro e w2 ⟨rfl, hd2⟩; have hb2 := below_then hb1a hd2.below; clear hd2))
              | (go_at_call 30; go_must (refine (hN.out _ hb2).mono ?_; rintro e w3 ⟨rfl, hd3⟩; have hb3 := below_then hb2 hd3.below; clear hd3))
              | (go_at_call 31; go_must (refine (HN1 _ hb3).out.mono ?_; rintro e w4 ⟨v4, rfl, hO4, hd4⟩; have hb4 := below_then hb3 hd4; clear hd4; obtain ⟨A4, c4, rfl, hc4, hC4⟩ := Kd.R_reads hO4; have HC4 := Aside0.mk hC4; have HX4 := Aside0.mk hc4; clear hO4 hC4 hc4))
              | (go_at_call 32; go_must (refine (HN2 _ hb4).out.mono ?_; rintro e w5 ⟨v5, rfl, hO5, hd5⟩; have hb5 := below_then hb4 hd5; obtain ⟨A5, c5, rfl, hc5, hC5⟩ := Kd.R_reads hO5; have HC5 := Aside0.mk hC5; have HX5 := Aside0.mk hc5; have HC45 := Aside0.mk (Kd.C_below HC4.out hd5); clear hO5 hC5 hc5 hd5))
              | (go_at_call 33; with_reducible refine (HS nl HNL.out A4 A5 c4 c5 _ HC45.out HX4.out HC5.out HX5.out).out.mono ?_; go_must (rintro e w6 ⟨rfl, hd6⟩; have hb6 := below_then hb5 hd6; have HC6 := Aside0.mk (Kd.C_below HC45.out hd6); clear hd6))
              | (go_at_call 22; with_reducible refine (HF1 _ hb6).out.mono ?_; go_must (rintro e w7 ⟨rfl, hd7⟩; have hb7 := below_then hb6 hd7; have HC7 := Aside0.mk (Kd.C_below HC6.out hd7); clear hd7))
              | (go_at_call 34; go_must (refine (HP _ hb7).out.mono ?_; rintro e w8 ⟨v8, rfl, hO8, hd8⟩; have hb8 := below_then hb7 hd8; obtain ⟨A8, c8, rfl, hc8, hC8⟩ := Kd.R_reads hO8; have HC8 := Aside0.mk hC8; have HC78 := Aside0.mk (Kd.C_below HC7.out hd8); clear hO8 hC8 hc8 hd8))
              | (go_at_call 22; go_must (refine (HF2 A4 c4 A8 c8 _ HC78.out HC8.out).out.mono ?_; rintro e w9 ⟨rfl, hd9⟩; have hb9 := below_then hb8 hd9; clear hd9))
              | (go_at_call 35; go_must (refine (HR1 _ hb9).out.mono ?_; rintro e w10 ⟨v10, rfl, hO10, hd10⟩; have hb10 := below_then hb9 hd10; clear hd10; obtain ⟨A10, c10, rfl, hc10, hC10⟩ := Kd.R_reads hO10; have HC10 := Aside0.mk hC10; have HX10 := Aside0.mk hc10; clear hO10 hC10 hc10))
              | (go_at_call 36; go_must (refine (HR2 _ hb10).out.mono ?_; rintro e w11 ⟨v11, rfl, hO11, hd11⟩; have hb11 := below_then hb10 hd11; obtain ⟨A11, c11, rfl, hc11, hC11⟩ := Kd.R_reads hO11; have HC11 := Aside0.mk hC11; have HX11 := Aside0.mk hc11; have HC1011 := Aside0.mk (Kd.C_below HC10.out hd11); clear hO11 hC11 hc11 hd11))
              | (go_at_call 33; go_must (refine (HS rl HRL.out A10 A11 c10 c11 _ HC1011.out HX10.out HC11.out HX11.out).out.mono ?_; rintro e w12 ⟨rfl, hd12⟩; have hb12 := below_then hb11 hd12; clear hd12))
              | (go_at_call 11; go_must (refine (awake_ok w _ HTAB.out hb12).mono ?_; rintro e w13 ⟨rfl, hd13⟩; have hb13 := below_then hb12 hd13; clear hd13)))
            go_ret
            exact ⟨rfl, hb13⟩
          | false =>
            have HF1 := fun (W : World) (h : Below w.heap.size w W) => Aside0.mk (Fits_is hfit hl20 A0 c0 A1 c1 W (Kd.C_below H0.out h) (Kd.C_below H1.out h))
            clear hfit hnf hrf tail
            go_enter Tryd.func5, Tryd.ntmps5
            go_wp2_with (first
              | (go_at_call 9; go_must (refine HI.out.mono ?_; rintro e w1 ⟨rfl, hd1⟩; have hb1 := hd1.below; clear hd1; have hb1a := below_alloc hb1 (.cells #[.slice A1 r.length c1] 23); have HRS := Aside0.mk (C_rows1 w1 A1 c1 r (Kd.C_below H1.out hb1) HL1.out)))
              | (go_at_call 10; go_must (refine (HR _ HRS.out).out.mono ?_; rintro e w2 ⟨rfl, hd2⟩; have hb2 := below_then hb1a hd2.below; clear hd2))
              | (go_at_call 30; go_must (refine (hN.out _ hb2).mono ?_; rintro e w3 ⟨rfl, hd3⟩; have hb3 := below_then hb2 hd3.below; clear hd3))
              | (go_at_call 31; go_must (refine (HN1 _ hb3).out.mono ?_; rintro e w4 ⟨v4, rfl, hO4, hd4⟩; have hb4 := below_then hb3 hd4; clear hd4; obtain ⟨A4, c4, rfl, hc4, hC4⟩ := Kd.R_reads hO4; have HC4 := Aside0.mk hC4; have HX4 := Aside0.mk hc4; clear hO4 hC4 hc4))
              | (go_at_call 32; go_must (refine (HN2 _ hb4).out.mono ?_; rintro e w5 ⟨v5, rfl, hO5, hd5⟩; have hb5 := below_then hb4 hd5; obtain ⟨A5, c5, rfl, hc5, hC5⟩ := Kd.R_reads hO5; have HC5 := Aside0.mk hC5; have HX5 := Aside0.mk hc5; have HC45 := Aside0.mk (Kd.C_below HC4.out hd5); clear hO5 hC5 hc5 hd5))
              | (go_at_call 33; with_reducible refine (HS nl HNL.out A4 A5 c4 c5 _ HC45.out HX4.out HC5.out HX5.out).out.mono ?_; go_must (rintro e w6 ⟨rfl, hd6⟩; have hb6 := below_then hb5 hd6; clear hd6))
              | (go_at_call 22; go_must (refine (HF1 _ hb6).out.mono ?_; rintro e w7 ⟨rfl, hd7⟩; have hb9 := below_then hb6 hd7; clear hd7))
              | (go_at_call 35; go_must (refine (HR1 _ hb9).out.mono ?_; rintro e w10 ⟨v10, rfl, hO10, hd10⟩; have hb10 := below_then hb9 hd10; clear hd10; obtain ⟨A10, c10, rfl, hc10, hC10⟩ := Kd.R_reads hO10; have HC10 := Aside0.mk hC10; have HX10 := Aside0.mk hc10; clear hO10 hC10 hc10))
              | (go_at_call 36; go_must (refine (HR2 _ hb10).out.mono ?_; rintro e w11 ⟨v11, rfl, hO11, hd11⟩; have hb11 := below_then hb10 hd11; obtain ⟨A11, c11, rfl, hc11, hC11⟩ := Kd.R_reads hO11; have HC11 := Aside0.mk hC11; have HX11 := Aside0.mk hc11; have HC1011 := Aside0.mk (Kd.C_below HC10.out hd11); clear hO11 hC11 hc11 hd11))
              | (go_at_call 33; go_must (refine (HS rl HRL.out A10 A11 c10 c11 _ HC1011.out HX10.out HC11.out HX11.out).out.mono ?_; rintro e w12 ⟨rfl, hd12⟩; have hb12 := below_then hb11 hd12; clear hd12))
              | (go_at_call 11; go_must (refine (awake_ok w _ HTAB.out hb12).mono ?_; rintro e w13 ⟨rfl, hd13⟩; have hb13 := below_then hb12 hd13; clear hd13)))
            go_ret
            exact ⟨rfl, hb13⟩
        · have hz0 : (ne == 0) = false := beq_eq_false_iff_ne.2 hz
          clear hnf hrf tail hz
          go_enter Tryd.func5, Tryd.ntmps5
          go_wp2_with (first
            | (go_at_call 9; go_must (refine HI.out.mono ?_; rintro e w1 ⟨rfl, hd1⟩; have hb1 := hd1.below; clear hd1; have hb1a := below_alloc hb1 (.cells #[.slice A1 r.length c1] 23); have HRS := Aside0.mk (C_rows1 w1 A1 c1 r (Kd.C_below H1.out hb1) HL1.out)))
            | (go_at_call 10; go_must (refine (HR _ HRS.out).out.mono ?_; rintro e w2 ⟨rfl, hd2⟩; have hb2 := below_then hb1a hd2.below; clear hd2))
            | (go_at_call 30; go_must (refine (hN.out _ hb2).mono ?_; rintro e w3 ⟨rfl, hd3⟩; have hb3 := below_then hb2 hd3.below; clear hd3))
            | (go_at_call 31; go_must (refine (HN1 _ hb3).out.mono ?_; rintro e w4 ⟨v4, rfl, hO4, hd4⟩; have hb4 := below_then hb3 hd4; clear hd4; obtain ⟨A4, c4, rfl, hc4, hC4⟩ := Kd.R_reads hO4; have HC4 := Aside0.mk hC4; have HX4 := Aside0.mk hc4; clear hO4 hC4 hc4))
            | (go_at_call 32; go_must (refine (HN2 _ hb4).out.mono ?_; rintro e w5 ⟨v5, rfl, hO5, hd5⟩; have hb5 := below_then hb4 hd5; obtain ⟨A5, c5, rfl, hc5, hC5⟩ := Kd.R_reads hO5; have HC5 := Aside0.mk hC5; have HX5 := Aside0.mk hc5; have HC45 := Aside0.mk (Kd.C_below HC4.out hd5); clear hO5 hC5 hc5 hd5))
            | (go_at_call 33; with_reducible refine (HS nl HNL.out A4 A5 c4 c5 _ HC45.out HX4.out HC5.out HX5.out).out.mono ?_; go_must (rintro e w6 ⟨rfl, hd6⟩; have hb9 := below_then hb5 hd6; clear hd6))
            | (go_at_call 35; go_must (refine (HR1 _ hb9).out.mono ?_; rintro e w10 ⟨v10, rfl, hO10, hd10⟩; have hb10 := below_then hb9 hd10; clear hd10; obtain ⟨A10, c10, rfl, hc10, hC10⟩ := Kd.R_reads hO10; have HC10 := Aside0.mk hC10; have HX10 := Aside0.mk hc10; clear hO10 hC10 hc10))
            | (go_at_call 36; go_must (refine (HR2 _ hb10).out.mono ?_; rintro e w11 ⟨v11, rfl, hO11, hd11⟩; have hb11 := below_then hb10 hd11; obtain ⟨A11, c11, rfl, hc11, hC11⟩ := Kd.R_reads hO11; have HC11 := Aside0.mk hC11; have HX11 := Aside0.mk hc11; have HC1011 := Aside0.mk (Kd.C_below HC10.out hd11); clear hO11 hC11 hc11 hd11))
            | (go_at_call 33; go_must (refine (HS rl HRL.out A10 A11 c10 c11 _ HC1011.out HX10.out HC11.out HX11.out).out.mono ?_; rintro e w12 ⟨rfl, hd12⟩; have hb12 := below_then hb11 hd12; clear hd12))
            | (go_at_call 11; go_must (refine (awake_ok w _ HTAB.out hb12).mono ?_; rintro e w13 ⟨rfl, hd13⟩; have hb13 := below_then hb12 hd13; clear hd13)))
          go_ret
          exact ⟨rfl, hb13⟩
end Go.Proofs.YtibgjfeifpanhaaDoor.B
