/- A row's text: Text of package item, and the laws' example. -/
import Derived.Test.YtibgjfeifpanhaaDoorProg
import Derived.Below
import Derived.Deep.Draws
import Derived.Deep.AppendLies
import Derived.Maps.AppendAt
import Derived.Maps.OwnSet
import Derived.OwnWalk
import Derived.Laws.BytesArg
import Derived.Laws.MakeOwn
import Derived.Laws.OwnMore
import Derived.Deep.OwnRows
import Derived.Tactics
import Derived.Laws.Slices
import Derived.WalkKit
import Derived.KernelRfl
import Derived.RowKit3
import Derived.Deep.LoopGhost
import Derived.Deep.QuietTactic
import Derived.BigQuiet
import Derived.WideLaws
import Derived.Deep.DeepCutAuto
import Derived.Deep.CutBlock
import Derived.Deep.RegionHeld3
import Derived.Laws.Rows
import Derived.ArgAppend
import Derived.Laws.IdiomCopy
import Derived.OrdersHeld
import Derived.Laws.BitsLemmas
import Derived.Outline
import Derived.WalkSpells
import Derived.Lib.Hide
import Derived.RowKit
import Derived.Deep.DeepMust
import Derived.Laws.EntriesVeiled
import Derived.Test.YtibgjfeifpanhaaDoorE2
import Derived.Lib.ItoaLen
set_option linter.unusedVariables false
set_option linter.unusedSimpArgs false
namespace Go.Proofs.YtibgjfeifpanhaaDoor.B
open Go.RowKit Go.Shelf Go.Proofs.YtibgjfeifpanhaaDoorW.PrintWords Go.Maps PItemValid

section
variable {P : Program} {ops : Array Oper} {rest : List Oper} {o : Oper} {a : Act} {Q : Exit → Act → World → Prop} {W : World}
/-- The operation that stands next is a builtin over these places. -/
theorem at_b {b : Builtin} {xs : Array Operand} {ts : Array TypeId} (_ho : o.op = .call { callee := .builtin b, args := xs, argTypes := ts }) (h : wpList P ops Q (o :: rest) a W) : wpList P ops Q (o :: rest) a W := h
end
theorem C_str {w : World} {A : Option Addr} {n : Nat} {xs : List ByteArray} (h : Kd.C Kd.string w A n xs) (i : Nat) (h1 : i < n) :
    ∃ ad x, A = some ad ∧ xs.drop i = x :: xs.drop (i + 1) ∧ w.cell? (ad.add i) = some (.string x) := by
  obtain ⟨ad, c, e, _, hK, hc0⟩ := Kd.C_get h (⟨#[]⟩ : ByteArray) i (by omega) (by omega)
  have hn : xs.length = n := h.1
  have e1 : xs.getD ((i : Int).toNat) ⟨#[]⟩ = xs[i]'(by omega) := by simp [List.getD_eq_getElem?_getD, List.getElem?_eq_getElem (show i < xs.length by omega)]
  rw [e1] at hK
  have hK' : c = [.string (xs[i]'(by omega))] := hK
  rw [hK'] at hc0
  exact ⟨ad, xs[i]'(by omega), e, List.drop_eq_getElem_cons (by omega), by have := hc0 0 _ rfl; rwa [show (i : Int).toNat * Kd.string.sz + 0 = i from Nat.mul_one i] at this⟩
abbrev Tr : Nat → Prop := fun _ => True
abbrev OStr (w : World) (base : Nat) (v : Value) (xs : List ByteArray) : Prop := Kd.R Kd.string 9 w base Tr v xs
theorem info9 : (Tryd.prog.info? 9).map (fun i => (i.zero, i.size, i.bytes)) = some (some (.string ⟨#[]⟩), 1, 16) := by kernel_rfl
def wrL (x : S29) : List UInt8 := (wrV x).data.toList
def textL (l : List S29) : List UInt8 := Lib.join (l.map wrL) [44]
def textF (l : List S29) : ByteArray := if okRow l = true then ⟨(textL l).toArray⟩ else ⟨#[]⟩
theorem wrL_len (x : S29) (h : okV x = true) : (wrL x).length ≤ 200 := by
  unfold okV at h
  unfold wrL wrV
  by_cases h1 : x.f0 = 1
  · rw [if_pos h1] at h ⊢
    unfold okV1 at h
    simp only [Bool.and_eq_true, decide_eq_true_eq] at h
    have := Lib.itoa_length_le x.f1 (by omega) (by omega)
    show (Lib.itoa x.f1).toArray.toList.length ≤ 200
    simp; omega
  · rw [if_neg h1] at h ⊢
    split at h
    · unfold okV2 at h
      simp only [Bool.and_eq_true, decide_eq_true_eq] at h
      have h3 := escL_len x.f2.data.toList
      have h4 : x.f2.data.toList.length = x.f2.size := rfl
      show (34 :: (escL x.f2.data.toList ++ [34])).toArray.toList.length ≤ 200
      simp; omega
    · cases h
theorem lens_le (n : Nat) : ∀ (l : List (List UInt8)), (∀ x ∈ l, x.length ≤ n) → Lib.lens l ≤ n * l.length
  | [], _ => by simp [Lib.lens]
  | x :: r, h => by
    have h1 := lens_le n r (fun y hy => h y (List.mem_cons_of_mem _ hy))
    have h2 := h x (by simp)
    simp only [Lib.lens, List.map_cons, List.sum_cons, List.length_cons] at h1 ⊢
    rw [Nat.mul_succ]
    omega
theorem textL_len (l : List S29) (h : l.length ≤ 8) (ha : ∀ x ∈ l, okV x = true) : (textL l).length ≤ 2000 := by
  unfold textL
  cases l with
  | nil => simp [Lib.join_nil]
  | cons x r =>
    rw [List.map_cons, Lib.join_length]
    have h1 := lens_le 200 ((x :: r).map wrL) (fun y hy => by
      obtain ⟨z, hz, rfl⟩ := List.mem_map.1 hy
      exact wrL_len z (ha z hz))
    rw [List.map_cons] at h1
    simp only [List.length_cons, List.length_map, List.length_nil] at h h1 ⊢
    omega
theorem row_is {l : List S29} {r : Bool} (h : okRow l = r) (A : Option Addr) (c : Nat) (w : World) (hr : Kd.C k29 w A l.length l) :
    Calls Tryd.prog 18 #[.slice A l.length c] w fun e w' => e = .returned (.bool r) ∧ Below w.heap.size w w' := by
  subst h
  exact ValidRow_calls A c l w hr
theorem OStr_join {w : World} {base : Nat} {v : Value} {xs : List ByteArray} (h : OStr w base v xs) (hn : xs.length ≤ 8) (hl : (Lib.join (xs.map (·.data.toList)) [44]).length ≤ 140737488355328) :
    Calls Tryd.prog 76 #[v, .string ⟨#[44]⟩] w fun e w' => e = .returned (.string ⟨(Lib.join (xs.map (·.data.toList)) [44]).toArray⟩) ∧ Below w.heap.size w w' := by
  cases xs with
  | nil =>
    obtain ⟨A, c, rfl, _⟩ := Kd.R_reads h
    refine (Tryd.strings_Join_none A c ⟨#[44]⟩ w).mono ?_
    rintro e w' ⟨rfl, rfl⟩
    exact ⟨rfl, Below.refl _ _⟩
  | cons x r =>
    obtain ⟨A, c, rfl, hlc, hC⟩ := Kd.R_reads h
    obtain ⟨_, inner, ho, _⟩ := h
    rcases ho.2 with ⟨hv, _⟩ | ⟨g, cap, cur, hv, _⟩
    · cases hv
    · cases hv
      have hcell : ∀ (j : Nat) y, (x :: r)[j]? = some y → w.cell? ⟨g, 0 + j, none⟩ = some (.string y) := fun j y hj => by
        obtain ⟨hj1, hj2⟩ := List.getElem?_eq_some_iff.1 hj
        obtain ⟨ad, y', hA, hd, hc⟩ := C_str hC j hj1
        cases hA
        rw [List.drop_eq_getElem_cons hj1] at hd
        injection hd with h1 _
        rw [← h1, hj2] at hc
        have e : (⟨g, 0, none⟩ : Addr).add j = ⟨g, 0 + j, none⟩ := by unfold Addr.add; split <;> simp_all
        rw [← e]
        exact hc
      exact Tryd.strings_Join g 0 c (x :: r) ⟨#[44]⟩ w hcell (World.block_lt_of_cell? w _ (hcell 0 x rfl)) (by omega) hlc hl
set_option maxRecDepth 100000 in
set_option maxHeartbeats 2000000 in
theorem Text_calls (A : Option Addr) (c : Nat) (l : List S29) (w : World) (hr : Kd.C k29 w A l.length l) (htab : TabOk w) :
    Calls Tryd.prog 44 #[.slice A l.length c] w fun e w' => e = .returned (.string (textF l)) ∧ Below w.heap.size w w' := by
  have HR := Aside0.mk hr
  have hmx := (C_len hr).2
  clear hr
  cases hok : okRow l with
  | false =>
    have HOK := Aside0.mk hok
    have HF : Aside0 (textF l = ⟨#[]⟩) := ⟨by unfold textF; rw [if_neg (by rw [hok]; simp)]⟩
    clear hok
    go_enter Tryd.func44, Tryd.ntmps44
    go_wp2_with (go_at_call 18; go_must (refine (row_is HOK.out _ _ _ HR.out).mono ?_; rintro e w1 ⟨rfl, hb1⟩))
    go_ret
    exact ⟨ret_s HF.out.symm, hb1⟩
  | true =>
    have HOK := Aside0.mk hok
    have HF : Aside0 (textF l = ⟨(textL l).toArray⟩) := ⟨by unfold textF; rw [if_pos hok]⟩
    have hlen : l.length ≤ 8 := by
      unfold okRow at hok
      simp only [Bool.and_eq_true, decide_eq_true_eq] at hok
      omega
    have HALL : Aside0 (∀ x ∈ l, okV x = true) := ⟨by
      unfold okRow at hok
      simp only [Bool.and_eq_true, List.all_eq_true] at hok
      exact hok.2⟩
    have HTAB := Aside0.mk htab
    clear hok
    go_enter Tryd.func44, Tryd.ntmps44
    go_wp2_with (go_at_call 18; go_must (refine (row_is HOK.out _ _ _ HR.out).mono ?_; rintro e w1 ⟨rfl, hb1⟩))
    go_loopg [3, 11] l.length (fun g v3 v11 wr => ∃ (i : Nat), g = l.length - i ∧ i ≤ l.length ∧ v11 = .int .i64 i ∧ Aside0 (OStr wr w.heap.size v3 ((l.take i).map wrV)) ∧ Below w.heap.size w wr)
    case atStart => exact ⟨0, rfl, Nat.zero_le _, rfl, ⟨Kd.R_nil _ _ _ _ _⟩, hb1⟩
    case round =>
      obtain ⟨i, hg, hi, rfl, HO, hbel⟩ := hrel
      have HG := Aside0.mk hg
      clear hg
      by_cases hlt : i < l.length
      · obtain ⟨ad, x, hA, hdx, c0, c1, c2⟩ := C_val HR.out i hlt
        subst hA
        replace c0 := pw_cell_below hbel c0
        replace c1 := pw_cell_below hbel c1
        replace c2 := pw_cell_below hbel c2
        have hx : x ∈ l := List.mem_of_mem_drop (i := i) (by rw [hdx]; simp)
        have HW := fun W h => Aside0.mk (written_calls x W (HALL.out x hx) h)
        have HTK : Aside0 ((l.take (i + 1)).map wrV = (l.take i).map wrV ++ [wrV x]) := ⟨by
          rw [List.drop_eq_getElem_cons hlt] at hdx
          injection hdx with h1 _
          rw [List.take_succ_eq_append_getElem hlt, List.map_append, h1]; rfl⟩
        have HT2 := Aside0.mk (HTAB.out.below (below_alloc hbel (.cells #[.int .i64 x.f0, .int .i64 x.f1, .string x.f2] 29)))
        have HO2 := Aside0.mk (Kd.R_below HO.out (below_alloc (Below.refl _ wr) (.cells #[.int .i64 x.f0, .int .i64 x.f1, .string x.f2] 29)))
        have hb2 := below_alloc hbel (.cells #[.int .i64 x.f0, .int .i64 x.f1, .string x.f2] 29)
        unfold vV at HW
        clear hdx hx
        have hlt8 : ((l.take i).map wrV).length ≤ 8 := by rw [List.length_map, List.length_take]; omega
        have HL8 := Aside0.mk hlt8
        clear hlt8
        go_wp2_with (first | (go_at_call 75; go_must (refine (HW _ HT2.out).out.mono ?_; rintro e w3 ⟨rfl, hb3'⟩; have hb3 := below_then hb2 hb3'; have HO3 := Aside0.mk (Kd.R_below HO2.out hb3'); clear hb3')) | ((with_reducible refine at_b (b := .append) (xs := #[.tmp 15, .tmp 18]) rfl ?_); go_must (refine Kd.R_append Kd.string (w0 := w) (W := w3) w.heap.size rfl (.tmp 15) (.tmp 18) 41 9 (.string ⟨#[]⟩) 16 rfl Tryd.underlying41 info9 rfl (by decide) (by omega) u3 ((l.take i).map wrV) (wrV x) [.string (wrV x)] Tr (fun _ => False) rfl rfl rfl (fun _ h => h.elim) (fun _ _ => trivial) HO3.out hb3 hb3.size ?bL ?_; (case bL => have := HL8.out; omega); intro v5 w5 ho5 hb5 hg5 hat5; have HO5 := Aside0.mk ho5; clear ho5 hg5 hat5)))
        go_roundg (l.length - (i + 1))
        case measure => have := HG.out; omega
        case rel => exact ⟨i + 1, rfl, by omega, by go_num, ⟨by rw [HTK.out]; exact HO5.out⟩, hb5⟩
      · have HJ : Aside0 (∀ W, OStr W w.heap.size u3 ((l.take i).map wrV) → Calls Tryd.prog 76 #[u3, .string ⟨#[44]⟩] W fun e w' => e = .returned (.string (textF l)) ∧ Below W.heap.size W w') := ⟨fun W h => by
          have e : l.take i = l := List.take_of_length_le (by omega)
          rw [e] at h
          have e2 : (l.map wrV).map (·.data.toList) = l.map wrL := by rw [List.map_map]; rfl
          have := OStr_join h (by rw [List.length_map]; omega) (by rw [e2]; have := textL_len l hlen HALL.out; unfold textL at this; omega)
          rw [e2] at this
          rw [HF.out]
          exact this⟩
        go_wp2_with (go_at_call 76; go_must (refine (HJ.out _ HO.out).mono ?_; rintro e w3 ⟨rfl, hb3⟩))
        go_ret
        exact ⟨rfl, below_then hbel hb3⟩
end Go.Proofs.YtibgjfeifpanhaaDoor.B
