/- Pack of package array: a loop over a list's rows of n. -/
import Derived.StillTailTactics
import Derived.Deep.DrawnRows
import Derived.BigQuiet
import Derived.Test.YtjpobhdgfdeenaaA38
set_option linter.unusedVariables false
set_option linter.unusedSimpArgs false
namespace Go.Proofs.Ytjpobhdgfdeenaa.A
open Go.RowKit Go.Shelf Go.Proofs.YtjpobhdgfdeenaaW.PrintWords Go.Maps
attribute [local go_sem] Oper.semAt_some

/-- What the call owns is what it was when a block that is no cells turns. -/
theorem R_own {α : Type} {d : Kd α} {e : Nat} {X Y : World} {base : Nat} {ok : Nat → Prop} {v : Value} {xs : List α} {row : Option Nat} (h : d.R e X base ok v xs) (hg : X.grownBy Y row) (hr : ∀ r, row = some r → ∃ o : Obj, X.heap[r]? = some o ∧ o.isCells = false) : d.R e Y base ok v xs :=
  Kd.R_mono (Kd.R_move (Kd.R_bound h) (fun k hk => hg.block k hk.2.2.1 (fun e' => by
    obtain ⟨o, ho, hc⟩ := hr k e'.symm
    obtain ⟨q, _, cells, hq⟩ := hk.2.2.2
    rw [hq] at ho
    injection ho with ho
    subst ho
    cases hc))) (fun _ hk => hk.1)
theorem ownBlock_cells {α : Type} {d : Kd α} {e : Nat} {X : World} {base : Nat} {ok : Nat → Prop} {v : Value} {xs : List α} (h : d.R e X base ok v xs) : ∀ (j : Nat) (o : Obj), v.ownBlock = some j → X.heap[j]? = some o → o.isCells = true := fun j o hj ho => by
  obtain ⟨_, _, _, q, _, cells, hq⟩ := (Kd.R_bound h).1 j hj
  rw [hq] at ho
  injection ho with ho
  subst ho
  rfl
theorem ownBlock_base {α : Type} {d : Kd α} {e : Nat} {X : World} {base : Nat} {ok : Nat → Prop} {v : Value} {xs : List α} (h : d.R e X base ok v xs) : ∀ (j : Nat), v.ownBlock = some j → base ≤ j := fun j hj => ((Kd.R_bound h).1 j hj).2.1
theorem keeps_below {W W' : World} (h : Below W.heap.size W W') : KeepsOthers W W' := ⟨h.size, fun k o hk _ => (h.block k (Array.getElem?_eq_some_iff.1 hk).1).trans hk⟩
theorem Chunk_in (n : Nat) (A : Option Addr) (len c : Nat) (N : Nat) (hN : 1 ≤ N) (w : World) :
    CallsIn Fence.wide n Try.prog 51 #[.slice A len c, .int .i64 (N : Int)] w fun e w' => e = .returned (.func (.func 66) #[] #[.pointer (some ⟨w.heap.size, 0, none⟩), .pointer (some ⟨w.heap.size + 1, 0, none⟩)]) ∧ w' = (w.alloc (.cells #[.slice A len c] 22)).alloc (.cells #[.int .i64 (N : Int)] 3) := by
  refine callsIn_of_wp Try.func51 rfl trivial ?_ rfl
  simp only [Try.ntmps51, List.size_toArray, List.length_cons, List.length_nil, Nat.reduceAdd, Nat.reduceSub, Array.replicate_succ, Array.replicate_zero, List.push_toArray, List.append_toArray, List.nil_append, List.cons_append]
  have h1 : ¬ ((N : Int) < 1) := by omega
  gi_wp2
  go_ret
  exact ⟨rfl, rfl⟩
/-- What a round of the loop of Pack leaves alone: what lay below the call, and what was made between the box of the result and the loop. -/
def PKeep (s0 B8 S3 : Nat) (X Y : World) : Prop := Below s0 X Y ∧ ∀ k, B8 < k → k < S3 → Y.heap[k]? = X.heap[k]?
theorem PKeep.trans {s0 B8 S3 : Nat} {X Y Z : World} (h : PKeep s0 B8 S3 X Y) (k : PKeep s0 B8 S3 Y Z) : PKeep s0 B8 S3 X Z := ⟨h.1.trans k.1, fun i h1 h2 => (k.2 i h1 h2).trans (h.2 i h1 h2)⟩
theorem chInv_move {Bs Bn : Nat} {A : Option Addr} {n c N : Nat} {X Y : World} (h : ChInv Bs Bn A n c N X) (h1 : Y.heap[Bs]? = X.heap[Bs]?) (h2 : Y.heap[Bn]? = X.heap[Bn]?) : ChInv Bs Bn A n c N Y :=
  ⟨(World.cell?_of_block h1).trans h.1, (World.cell?_of_block h2).trans h.2⟩
theorem chunk_stops (Bs Bn : Nat) (A : Option Addr) (ad : Addr) (c N : Nat) (L : List Int) (hA : L ≠ [] → A = some ad) (hlc : L.length ≤ c) (hL : L.length ≤ 500) (hN1 : 1 ≤ N) (hN2 : N ≤ 50)
    (s0 B8 : Nat) (w : World) (hI : ChInv Bs Bn A L.length c N w) (h1 : B8 < Bs ∧ Bs < w.heap.size) (h2 : B8 < Bn ∧ Bn < w.heap.size) :
    SeqStopsK Fence.wide 8 Try.prog 66 #[.pointer (some ⟨Bs, 0, none⟩), .pointer (some ⟨Bn, 0, none⟩)] (fun x : Fin L.length => #[encC ad N L x]) (PKeep s0 B8 w.heap.size) (fun ys => ys = chunkP N L L.length 0) (fun pre => pre <+: chunkP N L L.length 0) L.length w := fun lp J Jx W hW hJ _ hY h0 =>
  chunk1_in 8 (by decide) lp Bs Bn A ad c N L hA hlc hL hN1 hN2 (PKeep s0 B8 w.heap.size) (fun X Y hk h => chInv_move h (hk.2 _ h1.1 h1.2) (hk.2 _ h2.1 h2.2)) J Jx W.heap.size hJ hY W (chInv_move hI (hW.block _ h1.2) (hW.block _ h2.2)) h0
/-- What holds between two rounds. -/
def PInv (s0 B8 S3 : Nat) (vL : Value) (N : Nat) (L : List Int) (pre : List (Fin L.length)) (W : World) : Prop :=
  (∃ v, Boxed W B8 24 v ∧ OR W S3 v (pre.map (rowC N L))) ∧ OI W s0 vL L
theorem pinv_own (s0 B8 S3 B : Nat) (vL : Value) (N : Nat) (L : List Int) : OwnFrom B (PInv s0 B8 S3 vL N L) := fun pre X Y row h hg hr => by
  obtain ⟨⟨v, h1, h2⟩, h3⟩ := h
  have hr' : ∀ r, row = some r → ∃ o : Obj, X.heap[r]? = some o ∧ o.isCells = false := fun r e => (hr r e).2
  exact ⟨⟨v, boxed_own B8 24 (fun (_ : Unit) => v) () X Y row h1 hg hr', R_own (d := kd3) h2 hg hr'⟩, R_own h3 hg hr'⟩
end Go.Proofs.Ytjpobhdgfdeenaa.A
