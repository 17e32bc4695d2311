/- A region that draws its order, in the body of a loop over an iterator: whatever order is picked. -/
import Derived.Test.YtjpobhdgfdeenaaM4
import Derived.RangeFuncNested
import Derived.RangeFuncCalls
import Derived.OrdersIn
import Derived.OwnWalkIn
set_option linter.unusedVariables false
namespace Go.Proofs.Ytjpobhdgfdeenaa.A
open Go.RowKit Go.Proofs.YtjpobhdgfdeenaaW.PrintWords Go.Maps
section
variable {P : Program} {ops : Array Oper} {Q : Exit → Act → World → Prop} {md : Region.Mode}

theorem rows_round {row : String} {args : Array Value} {w : World} {R : Value → World → Prop} (l n : Nat) (h : Rows P row args w R) : RowsIn (Fence.wide.inRound l) n P row args w R := by
  intro c cs _
  obtain ⟨v, w', h1, h2⟩ := h c cs
  exact ⟨v, w', h1, stepsIn_wide.2 h2⟩
theorem op_round {o : Oper} {a : Act} {w : World} {K : Act → World → Prop} (l n : Nat) (hd : ∀ c, o.op ≠ .defer c) (h : o.wp P a w K Q) : o.wpIn (Fence.wide.inRound l) n P a w K Q := by
  refine ⟨fun _ _ => trivial, ?_⟩
  rw [Oper.semAt_plain _ _ _ hd]
  unfold Oper.wp at h
  generalize (execOp a.eval o).run P w = r at *
  cases r with
  | ok x w' =>
    cases x <;> simp only [Oper.upon, Oper.uponIn] at h ⊢ <;>
      first
        | exact h
        | exact ⟨fun h => by simp [Fence.wide] at h, CallsIn.inRound l (callsIn_wide.2 h)⟩
        | exact ⟨fun h => by simp [Fence.wide] at h, rows_round l _ h⟩
  | halt x w' => cases x <;> simp only [Oper.upon, Oper.uponIn] at h ⊢ <;> exact h
theorem any_round (l n : Nat) (hL : ¬ LetsOut Q) (hd : ∀ o ∈ ops, ∀ c, o.op ≠ .defer c) : ∀ (fuel : Nat) (listed : Array Bool) (a : Act) (w : World), wpAny P md ops Q fuel listed a w → wpAnyIn (Fence.wide.inRound l) n P md ops Q fuel listed a w
  | 0, _, _, _, h => h
  | fuel + 1, listed, a, w, h => ⟨h.1, fun i hi => by
    have h1 := h.2 i hi
    unfold wpOp at h1
    unfold wpOpIn
    split
    · rename_i he
      simp only [he] at h1
      exact any_round l n hL hd fuel _ _ _ h1
    · rename_i o ho
      simp only [ho] at h1
      split
      · rename_i hw
        simp only [hw, if_true] at h1
        have h2 := h1.resolve_right (fun h => hL h.2)
        exact op_round l n (hd o (Array.mem_of_getElem? ho)) (Oper.wp_mono (fun a w => any_round l n hL hd fuel _ a w) h2)
      · rename_i hw
        simp only [hw] at h1
        exact ⟨fun _ _ => trivial, any_round l n hL hd fuel _ _ _ h1⟩⟩
/-- No operation of a region is a defer. -/
def noDefer (ops : Array Oper) : Bool := ops.all fun o => match o.op with | .defer _ => false | _ => true
theorem noDefer_out (h : noDefer ops = true) : ∀ o ∈ ops, ∀ c, o.op ≠ .defer c := fun o ho c e => by
  have := Array.all_eq_true'.1 h o ho
  rw [e] at this
  cases this
theorem list_round (l n : Nat) (hL : ¬ LetsOut Q) : ∀ (rest : List Oper), (∀ o ∈ rest, ∀ c, o.op ≠ .defer c) → ∀ (a : Act) (w : World), wpList P ops Q rest a w → wpListIn (Fence.wide.inRound l) n P ops Q rest a w
  | [], _, _, _, h => h
  | o :: rest, hd, a, w, h => by
    unfold wpList at h
    unfold wpListIn
    split
    · rename_i hw
      simp only [hw, if_true] at h
      have h2 := h.resolve_right (fun h => hL h.2)
      exact op_round l n (hd o (List.mem_cons_self ..)) (Oper.wp_mono (fun a w => list_round l n hL rest (fun o ho => hd o (List.mem_cons_of_mem _ ho)) a w) h2)
    · rename_i hw
      simp only [hw] at h
      exact ⟨fun _ _ => trivial, list_round l n hL rest (fun o ho => hd o (List.mem_cons_of_mem _ ho)) _ _ h⟩
/-- A region in the body of a round, walked as any region. -/
theorem lit_round {id : Nat} {l : List Oper} {a : Act} {w : World} {r n : Nat} (hL : ¬ LetsOut Q) (hd : noDefer l.toArray = true) (h : wpList P l.toArray Q l a w) : (Code.region id l.toArray false).wpIn (Fence.wide.inRound r) n P Q a w :=
  wpIn_region_lit (list_round r n hL l (fun o ho => noDefer_out hd o (by simpa using ho)) a w h)
variable {S : World → Prop}
theorem Held.startIn {id : Nat} {a : Act} {w : World} {l m : Nat} (S : World → Prop) (n : Nat) (hL : ¬ LetsOut Q) (hd : noDefer ops = true) (hm : P.follows .mixedOrders = true) (hn : n < ops.size) (hS : S w.drew) (h : Held P ops n Q S ops.size (Array.replicate ops.size false) a w.drew) : (Code.region id ops true).wpIn (Fence.wide.inRound l) m P Q a w := by
  have inv0 : HeadInv .any ops n (Array.replicate ops.size false) :=
    ⟨by simp, fun j oj _ hl => (by rw [getD_replicate_false] at hl; cases hl), fun t _ ht => getD_in (by simpa using ht) (getD_replicate_false _ _)⟩
  exact wpIn_region_any hm (any_round l m hL (noDefer_out hd) _ _ _ _ (wpAny_of_heldG _ _ _ _ (h.out hS inv0)))
end
end Go.Proofs.Ytjpobhdgfdeenaa.A
