import Derived.Test.YtmehbabchakkpaaMLadderClimbsx1
import Derived.RangeFuncNested
import Derived.RangeFuncBound
import Derived.RangeFuncCalls
import Derived.RangeFuncLeaves
import Derived.RangeFuncFrom
import Derived.Shelf.Abstract
import Derived.OwnWalkIn
import Derived.TacticsInMore
import Derived.LoopNIn
import Derived.LoopIn
import Derived.Outline
import Derived.Test.YtmehbabchakkpaaProg
import Derived.WalkSpells
import Derived.Lib.SliceRun
import Derived.Lib.BufferMore
import Derived.LoopN
import Derived.WalkSmall
namespace Go.Proofs.Ytmehbabchakkpaa.Short
open Go.RowKit YtmehbabchakkpaaW.PrintWords YtmehbabchakkpaaW.PrintLast
theorem put4 {W : World} {g : Nat} {t : TypeId} {o0 o1 o2 o3 v0 v1 v2 v3 : Value} (h : W.heap[g]? = some (.cells #[o0, o1, o2, o3] t (0, 0))) : ((((W.setCell ⟨g, 0, none⟩ v0).setCell ⟨g, 1, none⟩ v1).setCell ⟨g, 2, none⟩ v2).setCell ⟨g, 3, none⟩ v3).heap[g]? = some (.cells #[v0, v1, v2, v3] t (0, 0)) := (blk_put (cs := #[v0, v1, v2, o3]) (blk_put (cs := #[v0, v1, o2, o3]) (blk_put (cs := #[v0, o1, o2, o3]) (blk_put (cs := #[o0, o1, o2, o3]) h 0 v0 rfl) 1 v1 rfl) 2 v2 rfl) 3 v3 rfl)
theorem far4 {W : World} {g g' : Nat} {t : TypeId} {cs : Array Value} {v0 v1 v2 v3 : Value} (h : W.heap[g]? = some (.cells cs t (0, 0))) (hne : g ≠ g') : ((((W.setCell ⟨g', 0, none⟩ v0).setCell ⟨g', 1, none⟩ v1).setCell ⟨g', 2, none⟩ v2).setCell ⟨g', 3, none⟩ v3).heap[g]? = some (.cells cs t (0, 0)) := (blk_far (blk_far (blk_far (blk_far h (p := ⟨g', 0, none⟩) hne v0) (p := ⟨g', 1, none⟩) hne v1) (p := ⟨g', 2, none⟩) hne v2) (p := ⟨g', 3, none⟩) hne v3)
theorem cells4 {W : World} {g : Nat} {t : TypeId} {v0 v1 v2 v3 : Value} (h : W.heap[g]? = some (.cells #[v0, v1, v2, v3] t (0, 0))) : W.cell? ⟨g, 0, none⟩ = some v0 ∧ W.cell? ⟨g, 1, none⟩ = some v1 ∧ W.cell? ⟨g, 2, none⟩ = some v2 ∧ W.cell? ⟨g, 3, none⟩ = some v3 := ⟨(blk_cell h 0).trans rfl, (blk_cell h 1).trans rfl, (blk_cell h 2).trans rfl, (blk_cell h 3).trans rfl⟩
theorem froz4 {W : World} {g : Nat} {t : TypeId} {v0 v1 v2 v3 : Value} (h : W.heap[g]? = some (.cells #[v0, v1, v2, v3] t (0, 0))) : W.frozen? ⟨g, 0, none⟩ = false ∧ W.frozen? ⟨g, 1, none⟩ = false ∧ W.frozen? ⟨g, 2, none⟩ = false ∧ W.frozen? ⟨g, 3, none⟩ = false := ⟨blk_frozen h 0, blk_frozen h 1, blk_frozen h 2, blk_frozen h 3⟩
theorem put6 {W : World} {g : Nat} {t : TypeId} {o0 o1 o2 o3 o4 o5 v0 v1 v2 v3 v4 v5 : Value} (h : W.heap[g]? = some (.cells #[o0, o1, o2, o3, o4, o5] t (0, 0))) : ((((((W.setCell ⟨g, 0, none⟩ v0).setCell ⟨g, 1, none⟩ v1).setCell ⟨g, 2, none⟩ v2).setCell ⟨g, 3, none⟩ v3).setCell ⟨g, 4, none⟩ v4).setCell ⟨g, 5, none⟩ v5).heap[g]? = some (.cells #[v0, v1, v2, v3, v4, v5] t (0, 0)) := (blk_put (cs := #[v0, v1, v2, v3, v4, o5]) (blk_put (cs := #[v0, v1, v2, v3, o4, o5]) (blk_put (cs := #[v0, v1, v2, o3, o4, o5]) (blk_put (cs := #[v0, v1, o2, o3, o4, o5]) (blk_put (cs := #[v0, o1, o2, o3, o4, o5]) (blk_put (cs := #[o0, o1, o2, o3, o4, o5]) h 0 v0 rfl) 1 v1 rfl) 2 v2 rfl) 3 v3 rfl) 4 v4 rfl) 5 v5 rfl)
theorem far6 {W : World} {g g' : Nat} {t : TypeId} {cs : Array Value} {v0 v1 v2 v3 v4 v5 : Value} (h : W.heap[g]? = some (.cells cs t (0, 0))) (hne : g ≠ g') : ((((((W.setCell ⟨g', 0, none⟩ v0).setCell ⟨g', 1, none⟩ v1).setCell ⟨g', 2, none⟩ v2).setCell ⟨g', 3, none⟩ v3).setCell ⟨g', 4, none⟩ v4).setCell ⟨g', 5, none⟩ v5).heap[g]? = some (.cells cs t (0, 0)) := (blk_far (blk_far (blk_far (blk_far (blk_far (blk_far h (p := ⟨g', 0, none⟩) hne v0) (p := ⟨g', 1, none⟩) hne v1) (p := ⟨g', 2, none⟩) hne v2) (p := ⟨g', 3, none⟩) hne v3) (p := ⟨g', 4, none⟩) hne v4) (p := ⟨g', 5, none⟩) hne v5)
theorem cells6 {W : World} {g : Nat} {t : TypeId} {v0 v1 v2 v3 v4 v5 : Value} (h : W.heap[g]? = some (.cells #[v0, v1, v2, v3, v4, v5] t (0, 0))) : W.cell? ⟨g, 0, none⟩ = some v0 ∧ W.cell? ⟨g, 1, none⟩ = some v1 ∧ W.cell? ⟨g, 2, none⟩ = some v2 ∧ W.cell? ⟨g, 3, none⟩ = some v3 ∧ W.cell? ⟨g, 4, none⟩ = some v4 ∧ W.cell? ⟨g, 5, none⟩ = some v5 := ⟨(blk_cell h 0).trans rfl, (blk_cell h 1).trans rfl, (blk_cell h 2).trans rfl, (blk_cell h 3).trans rfl, (blk_cell h 4).trans rfl, (blk_cell h 5).trans rfl⟩
theorem froz6 {W : World} {g : Nat} {t : TypeId} {v0 v1 v2 v3 v4 v5 : Value} (h : W.heap[g]? = some (.cells #[v0, v1, v2, v3, v4, v5] t (0, 0))) : W.frozen? ⟨g, 0, none⟩ = false ∧ W.frozen? ⟨g, 1, none⟩ = false ∧ W.frozen? ⟨g, 2, none⟩ = false ∧ W.frozen? ⟨g, 3, none⟩ = false ∧ W.frozen? ⟨g, 4, none⟩ = false ∧ W.frozen? ⟨g, 5, none⟩ = false := ⟨blk_frozen h 0, blk_frozen h 1, blk_frozen h 2, blk_frozen h 3, blk_frozen h 4, blk_frozen h 5⟩
theorem put7 {W : World} {g : Nat} {t : TypeId} {o0 o1 o2 o3 o4 o5 o6 v0 v1 v2 v3 v4 v5 v6 : Value} (h : W.heap[g]? = some (.cells #[o0, o1, o2, o3, o4, o5, o6] t (0, 0))) : (((((((W.setCell ⟨g, 0, none⟩ v0).setCell ⟨g, 1, none⟩ v1).setCell ⟨g, 2, none⟩ v2).setCell ⟨g, 3, none⟩ v3).setCell ⟨g, 4, none⟩ v4).setCell ⟨g, 5, none⟩ v5).setCell ⟨g, 6, none⟩ v6).heap[g]? = some (.cells #[v0, v1, v2, v3, v4, v5, v6] t (0, 0)) := (blk_put (cs := #[v0, v1, v2, v3, v4, v5, o6]) (blk_put (cs := #[v0, v1, v2, v3, v4, o5, o6]) (blk_put (cs := #[v0, v1, v2, v3, o4, o5, o6]) (blk_put (cs := #[v0, v1, v2, o3, o4, o5, o6]) (blk_put (cs := #[v0, v1, o2, o3, o4, o5, o6]) (blk_put (cs := #[v0, o1, o2, o3, o4, o5, o6]) (blk_put (cs := #[o0, o1, o2, o3, o4, o5, o6]) h 0 v0 rfl) 1 v1 rfl) 2 v2 rfl) 3 v3 rfl) 4 v4 rfl) 5 v5 rfl) 6 v6 rfl)
theorem cells7 {W : World} {g : Nat} {t : TypeId} {v0 v1 v2 v3 v4 v5 v6 : Value} (h : W.heap[g]? = some (.cells #[v0, v1, v2, v3, v4, v5, v6] t (0, 0))) : W.cell? ⟨g, 0, none⟩ = some v0 ∧ W.cell? ⟨g, 1, none⟩ = some v1 ∧ W.cell? ⟨g, 2, none⟩ = some v2 ∧ W.cell? ⟨g, 3, none⟩ = some v3 ∧ W.cell? ⟨g, 4, none⟩ = some v4 ∧ W.cell? ⟨g, 5, none⟩ = some v5 ∧ W.cell? ⟨g, 6, none⟩ = some v6 := ⟨(blk_cell h 0).trans rfl, (blk_cell h 1).trans rfl, (blk_cell h 2).trans rfl, (blk_cell h 3).trans rfl, (blk_cell h 4).trans rfl, (blk_cell h 5).trans rfl, (blk_cell h 6).trans rfl⟩
theorem froz7 {W : World} {g : Nat} {t : TypeId} {v0 v1 v2 v3 v4 v5 v6 : Value} (h : W.heap[g]? = some (.cells #[v0, v1, v2, v3, v4, v5, v6] t (0, 0))) : W.frozen? ⟨g, 0, none⟩ = false ∧ W.frozen? ⟨g, 1, none⟩ = false ∧ W.frozen? ⟨g, 2, none⟩ = false ∧ W.frozen? ⟨g, 3, none⟩ = false ∧ W.frozen? ⟨g, 4, none⟩ = false ∧ W.frozen? ⟨g, 5, none⟩ = false ∧ W.frozen? ⟨g, 6, none⟩ = false := ⟨blk_frozen h 0, blk_frozen h 1, blk_frozen h 2, blk_frozen h 3, blk_frozen h 4, blk_frozen h 5, blk_frozen h 6⟩
theorem put8 {W : World} {g : Nat} {t : TypeId} {o0 o1 o2 o3 o4 o5 o6 o7 v0 v1 v2 v3 v4 v5 v6 v7 : Value} (h : W.heap[g]? = some (.cells #[o0, o1, o2, o3, o4, o5, o6, o7] t (0, 0))) : ((((((((W.setCell ⟨g, 0, none⟩ v0).setCell ⟨g, 1, none⟩ v1).setCell ⟨g, 2, none⟩ v2).setCell ⟨g, 3, none⟩ v3).setCell ⟨g, 4, none⟩ v4).setCell ⟨g, 5, none⟩ v5).setCell ⟨g, 6, none⟩ v6).setCell ⟨g, 7, none⟩ v7).heap[g]? = some (.cells #[v0, v1, v2, v3, v4, v5, v6, v7] t (0, 0)) := (blk_put (cs := #[v0, v1, v2, v3, v4, v5, v6, o7]) (blk_put (cs := #[v0, v1, v2, v3, v4, v5, o6, o7]) (blk_put (cs := #[v0, v1, v2, v3, v4, o5, o6, o7]) (blk_put (cs := #[v0, v1, v2, v3, o4, o5, o6, o7]) (blk_put (cs := #[v0, v1, v2, o3, o4, o5, o6, o7]) (blk_put (cs := #[v0, v1, o2, o3, o4, o5, o6, o7]) (blk_put (cs := #[v0, o1, o2, o3, o4, o5, o6, o7]) (blk_put (cs := #[o0, o1, o2, o3, o4, o5, o6, o7]) h 0 v0 rfl) 1 v1 rfl) 2 v2 rfl) 3 v3 rfl) 4 v4 rfl) 5 v5 rfl) 6 v6 rfl) 7 v7 rfl)
theorem far8 {W : World} {g g' : Nat} {t : TypeId} {cs : Array Value} {v0 v1 v2 v3 v4 v5 v6 v7 : Value} (h : W.heap[g]? = some (.cells cs t (0, 0))) (hne : g ≠ g') : ((((((((W.setCell ⟨g', 0, none⟩ v0).setCell ⟨g', 1, none⟩ v1).setCell ⟨g', 2, none⟩ v2).setCell ⟨g', 3, none⟩ v3).setCell ⟨g', 4, none⟩ v4).setCell ⟨g', 5, none⟩ v5).setCell ⟨g', 6, none⟩ v6).setCell ⟨g', 7, none⟩ v7).heap[g]? = some (.cells cs t (0, 0)) := (blk_far (blk_far (blk_far (blk_far (blk_far (blk_far (blk_far (blk_far h (p := ⟨g', 0, none⟩) hne v0) (p := ⟨g', 1, none⟩) hne v1) (p := ⟨g', 2, none⟩) hne v2) (p := ⟨g', 3, none⟩) hne v3) (p := ⟨g', 4, none⟩) hne v4) (p := ⟨g', 5, none⟩) hne v5) (p := ⟨g', 6, none⟩) hne v6) (p := ⟨g', 7, none⟩) hne v7)
theorem cells8 {W : World} {g : Nat} {t : TypeId} {v0 v1 v2 v3 v4 v5 v6 v7 : Value} (h : W.heap[g]? = some (.cells #[v0, v1, v2, v3, v4, v5, v6, v7] t (0, 0))) : W.cell? ⟨g, 0, none⟩ = some v0 ∧ W.cell? ⟨g, 1, none⟩ = some v1 ∧ W.cell? ⟨g, 2, none⟩ = some v2 ∧ W.cell? ⟨g, 3, none⟩ = some v3 ∧ W.cell? ⟨g, 4, none⟩ = some v4 ∧ W.cell? ⟨g, 5, none⟩ = some v5 ∧ W.cell? ⟨g, 6, none⟩ = some v6 ∧ W.cell? ⟨g, 7, none⟩ = some v7 := ⟨(blk_cell h 0).trans rfl, (blk_cell h 1).trans rfl, (blk_cell h 2).trans rfl, (blk_cell h 3).trans rfl, (blk_cell h 4).trans rfl, (blk_cell h 5).trans rfl, (blk_cell h 6).trans rfl, (blk_cell h 7).trans rfl⟩
theorem froz8 {W : World} {g : Nat} {t : TypeId} {v0 v1 v2 v3 v4 v5 v6 v7 : Value} (h : W.heap[g]? = some (.cells #[v0, v1, v2, v3, v4, v5, v6, v7] t (0, 0))) : W.frozen? ⟨g, 0, none⟩ = false ∧ W.frozen? ⟨g, 1, none⟩ = false ∧ W.frozen? ⟨g, 2, none⟩ = false ∧ W.frozen? ⟨g, 3, none⟩ = false ∧ W.frozen? ⟨g, 4, none⟩ = false ∧ W.frozen? ⟨g, 5, none⟩ = false ∧ W.frozen? ⟨g, 6, none⟩ = false ∧ W.frozen? ⟨g, 7, none⟩ = false := ⟨blk_frozen h 0, blk_frozen h 1, blk_frozen h 2, blk_frozen h 3, blk_frozen h 4, blk_frozen h 5, blk_frozen h 6, blk_frozen h 7⟩
theorem pu {P : Program} {md : Region.Mode} {ops : Array Oper} {Q : Exit → Act → World → Prop} {S : World → Prop} {ds : List Nat} {T : Bool × List (List Nat × List Nat)} (i : Nat) (N : Option Tmp) {oi : Oper} {v : Value} {fuel : Nat} {l : Array Bool} {a : Act} {w : World} (l' : Array Bool) (hT : rtab md ops = T) (hi : ops[i]? = some oi) (hN : oi.dst = N) {a' : Act}
  (h : wpAnyLast P md ops Q S ds fuel l' a' w) (hc : anyT T l.toList l'.toList i = true := by kernel_rfl) (hQ : ∀ c a w, Q (.panic c) (a.put oi.dst v) w → Q (.panic c) a w := by exact fun _ _ _ h => h) (hw : Region.wanted oi (yielded ops a.tmps) = true := by rfl)
  (hr : ∀ w' : World, (execOp a.eval oi).run P w' = .ok (.value v) w' := by (intro w'; go_simp; with_reducible rfl)) (ha : a.put N v = a' := by (simp only [Act.put, List.setIfInBounds_toArray, List.set_cons_zero, List.set_cons_succ, i64_w, i32_w]; rfl)) : wpAnyLast P md ops Q S ds (fuel + 1) l a w :=
 pure_ l' hi hN (any_of hT hc) hQ (Or.inl ⟨hw, hr⟩) ha h
theorem pv {P : Program} {md : Region.Mode} {ops : Array Oper} {Q : Exit → Act → World → Prop} {S : World → Prop} {ds : List Nat} (i : Nat) (N : Option Tmp) {oi : Oper} {v : Value} {fuel : Nat} {l : Array Bool} {a : Act} {w : World} (l' : Array Bool) (hi : ops[i]? = some oi) (hN : oi.dst = N) {a' : Act}
  (h : wpAnyLast P md ops Q S ds fuel l' a' w) (hc : anyB md ops l l' i = true := by kernel_rfl) (hQ : ∀ c a w, Q (.panic c) (a.put oi.dst v) w → Q (.panic c) a w := by exact fun _ _ _ h => h) (hw : Region.wanted oi (yielded ops a.tmps) = true := by rfl)
  (hr : ∀ w' : World, (execOp a.eval oi).run P w' = .ok (.value v) w' := by (intro w'; go_simp; with_reducible rfl)) (ha : a.put N v = a' := by (simp only [Act.put, List.setIfInBounds_toArray, List.set_cons_zero, List.set_cons_succ, i64_w, i32_w]; rfl)) : wpAnyLast P md ops Q S ds (fuel + 1) l a w :=
 pure_ l' hi hN hc hQ (Or.inl ⟨hw, hr⟩) ha h
end Go.Proofs.Ytmehbabchakkpaa.Short
namespace Go.Proofs.Ytmehbabchakkpaa.Short
open Go.RowKit YtmehbabchakkpaaW.PrintWords
theorem bs_ {α β : Type} {o : Option α} {f : α → Option β} {r : β} (h : o.bind f = some r) : ∃ t, Aside0 (o = some t) ∧ f t = some r := by
 obtain ⟨t, a, b⟩ := Option.bind_eq_some_iff.mp h
 exact ⟨t, ⟨a⟩, b⟩
theorem gw_ {n g m : Nat} (hg : g = m) (h : n ≤ m) : n ≤ g := hg ▸ h
theorem od_ {p : Prop} [Decidable p] (h : decide p = true) : p := of_decide_eq_true h
end Go.Proofs.Ytmehbabchakkpaa.Short
namespace Go.Proofs.Ytmehbabchakkpaa.Pieces
set_option linter.unusedVariables false
open Go.RowKit YtmehbabchakkpaaW.PrintWords
def Stays (G B : Nat) (W W' : World) : Prop := W.heap.size ≤ W'.heap.size ∧ ∀ k, k < W.heap.size → (k < G ∨ k = B ∨ k = B + 1) → W'.heap[k]? = W.heap[k]?
theorem Stays.trans {G B : Nat} {X Y Z : World} (h : Stays G B X Y) (k : Stays G B Y Z) : Stays G B X Z := ⟨Nat.le_trans h.1 k.1, fun i hi hc => (k.2 i (Nat.lt_of_lt_of_le hi h.1) hc).trans (h.2 i hi hc)⟩
theorem Stays.refl (G B : Nat) (W : World) : Stays G B W W := ⟨Nat.le_refl _, fun _ _ _ => rfl⟩
theorem Stays.of_below {G B : Nat} {W W' : World} (h : Below W.heap.size W W') : Stays G B W W' := ⟨h.size, fun k hk _ => h.block k hk⟩
theorem Stays.of_grown {G B : Nat} {W W' : World} {row : Option Nat} (h : W.grownBy W' row) (hr : ∀ r, row = some r → G ≤ r ∧ r ≠ B ∧ r ≠ B + 1) : Stays G B W W' :=
 ⟨h.size, fun k hk hc => h.block k hk (fun e => by have := hr k e.symm; omega)⟩
theorem Stays.set {G B : Nat} {W W' : World} (h : Stays G B W W') {a : Addr} (v : Value) (ha : G ≤ a.block ∧ a.block ≠ B ∧ a.block ≠ B + 1) : Stays G B W (W'.setCell a v) :=
 h.trans ⟨by simp, fun k _ hc => Below.heap_setCell W' a v k (by omega)⟩
def PiecesC (F : Fence) (n : Nat) (P : Program) (gf G B : Nat) (lb : Array Value) (m : Nat) (A : Option Addr) (c : Nat) (L : List Int) (w : World) : Prop :=
 ∀ (l : Nat) (J : List Int → World → Prop) (Jx : World → Prop) (W : World), Below w.heap.size w W →
  (∀ s W v, J s W → J s (W.setCell ⟨B, 0, none⟩ v)) →
  (∀ (A' : Option Addr) (c' : Nat) (L' : List Int) (W1 : World), L' ≠ [] → m ≤ L'.length → L'.length % m = 0 → (L'.take m).length ≤ c' → J L' W1 → Kd.C (Kd.int .u8) W1 A' (L'.take m).length (L'.take m) → YieldAt F (n - 1) P l #[.slice A' (L'.take m).length c'] W1 fun e W' =>
   (e = .returned (.bool true) ∧ J (L'.drop m) W' ∧ Stays G B W1 W') ∨ (e = .returned (.bool false) ∧ Jx W')) →
  J L W → CallsIn F n P gf (#[.func (.yield l) #[] #[]] ++ lb) W fun e W' => (∃ v, e = .returned v) ∧ (J [] W' ∨ Jx W')
def piecesPost (G B : Nat) (I : World → Prop) (Ix : Code → World → Prop) (W : World) : Exit → Act → World → Prop
 | .normal, _, W' => KeepsOthers W W' ∧ Stays G B W W' ∧ I W'
 | .ret, _, W' => KeepsOthers W W' ∧ Ix .ret W'
 | _, _, _ => False
variable {F : Fence} {n : Nat} {P : Program}
def Cells (B2 : Nat) (I : World → Prop) : Prop := ∀ W W' row, I W → W.grownBy W' row → (∀ r, row = some r → B2 ≤ r ∧ ∃ o : Obj, W.heap[r]? = some o ∧ o.isCells = false) → I W'
theorem Cells.putObj {B2 : Nat} {I : World → Prop} (h : Cells B2 I) {W : World} {l : Nat} {o : Obj} (o' : Obj) (hs : I W) (hB : B2 ≤ l) (hl : W.heap[l]? = some o) (ho : o.isCells = false) : I (W.putObj l o') :=
 h W _ (some l) hs (grownBy_putObj' W l o') (fun r e => by cases e; exact ⟨hB, o, hl, ho⟩)
theorem Cells.alloc {B2 : Nat} {I : World → Prop} (h : Cells B2 I) {W : World} (o : Obj) (hs : I W) : I (W.alloc o) :=
 h W _ none hs (World.grownBy_alloc W o none) (fun r e => by cases e)
theorem Cells.and {B2 : Nat} {I I' : World → Prop} (h : Cells B2 I) (h' : Cells B2 I') : Cells B2 (fun W => I W ∧ I' W) := fun W W' row hs hg hr => ⟨h W W' row hs.1 hg hr, h' W W' row hs.2 hg hr⟩
theorem wpIn_rangeFunc_pieces {g : Operand} {ps : Array Tmp} {assign body : Code} {Q : Exit → Act → World → Prop} {a : Act} {w : World}
  (hro : F.round = none) (h1 : 1 ≤ n) {gf : Nat} {lb : Array Value} (hg : a.eval g = .func (.func gf) #[] lb) (hFg : F.fn gf) (eg : ∀ args w, (callFunc gf args).run P w = .ok (.enter gf args) w)
  {G B m : Nat} {A : Option Addr} {c : Nat} {L : List Int} {w0 : World} (hGB : G ≤ B) (hseq : PiecesC F (n - 1) P gf G B lb m A c L w0) (hb0 : Below w0.heap.size w0 w) (hB : B + 2 ≤ w.heap.size) (hps : ps.size = 1)
  (I : List Int → World → Prop) (Ix : Code → World → Prop) (hI : ∀ s, Cells (B + 2) (I s)) (hIx : ∀ c, Cells (B + 2) (Ix c)) (hIB : ∀ s W v, I s W → I s (W.setCell ⟨B, 0, none⟩ v)) (h0 : I L w) (a₁ : Value → Act)
  (hassign : ∀ (l : Nat) (x : Value) (W : World) (K : Act → World → Prop), K (a₁ x) W →
   assign.wpIn (F.inRound l) (n - 1 - 1) P (Exit.then K (fun _ _ _ => False)) { tmps := (ps.zip #[x]).foldl (fun t (p, v) => t.setIfInBounds p v) a.tmps, defers := [] } W)
  (hbody : ∀ (l : Nat) (A' : Option Addr) (c' : Nat) (L' : List Int) (W : World), L' ≠ [] → m ≤ L'.length → L'.length % m = 0 → (L'.take m).length ≤ c' → I L' W → w.heap.size + 2 ≤ W.heap.size → Kd.C (Kd.int .u8) W A' (L'.take m).length (L'.take m) → body.wpIn (F.inRound l) (n - 1 - 1) P (piecesPost G B (I (L'.drop m)) Ix W) (a₁ (.slice A' (L'.take m).length c')) W)
  (hdone : ∀ (D : Nat) (W : World), I [] W → w.heap.size ≤ D → W.heap[D]? = some (.deferred (some [])) → Q .normal { a with defers := { target := .collected D, args := #[] } :: a.defers } W)
  (hstop : ∀ (D : Nat) (c : Code) (W : World), Ix c W → w.heap.size ≤ D → W.heap[D]? = some (.deferred (some [])) → c.wpIn F n P Q { a with defers := { target := .collected D, args := #[] } :: a.defers } W) :
  (Code.rangeFunc g ps assign body).wpIn F n P Q a w := by
 refine wpIn_rangeFunc ?_
 intro fn hfn
 rw [hro]
 obtain ⟨rec, hrec⟩ : ∃ rec : LoopState → Option Code → Loop, rec = fun st pe => { state := st, pending := pe, fn, tmps := a.tmps, params := ps, assign, body, defers := w.heap.size } := ⟨_, rfl⟩
 obtain ⟨W1, hW1⟩ : ∃ W1, (w.alloc (.deferred (some []))).alloc (.loop (rec .ready none)) = W1 := ⟨_, rfl⟩
 have hL1 : W1.heap[w.heap.size + 1]? = some (.loop (rec .ready none)) := by
  rw [← hW1]; have := World.alloc_heap_new (w.alloc (.deferred (some []))) (.loop (rec .ready none)); rwa [World.size_alloc] at this
 have hK1 : W1.heap[w.heap.size]? = some (.deferred (some [])) := by
  rw [← hW1]; exact (Below.heap_alloc _ _ _ (by simp)).trans (World.alloc_heap_new w _)
 have hI1 : I L W1 := by rw [← hW1]; exact (hI L).alloc _ ((hI L).alloc _ h0)
 have hb1 : Below w0.heap.size w0 W1 := by
  rw [← hW1]; exact hb0.trans ((((Below.refl _ w).alloc (Nat.le_refl _) _).alloc (by simp) _).mono hb0.size)
 refine ⟨w.heap.size + 1, [{ target := .collected w.heap.size, args := #[] }], W1, { target := .fn (.func gf) lb, args := #[.func (.yield (w.heap.size + 1)) #[] #[]] }, W1, gf,
  #[.func (.yield (w.heap.size + 1)) #[] #[]] ++ lb, W1, ?_, ?_, ?_, ?_, fun _ => h1, ?_⟩
 ·rw [← hW1, hrec]; exact run_enterLoop_outer _ _ _ _ _
 ·simp only [resolve, hg]
  simp [go_sem]
 ·intro f' hf'; simp [Target.leads] at hf'; subst hf'; exact hFg
 ·simp [invoke, go_sem, eg]
 ·have hset : ∀ (W : World) (v : Value) (k : Nat) (o : Obj), B < k → W.heap[k]? = some o → (W.setCell ⟨B, 0, none⟩ v).heap[k]? = some o := fun W v k o hk h => (Below.heap_setCell W ⟨B, 0, none⟩ v k (by show k ≠ B; omega)).trans h
  refine (hseq (w.heap.size + 1)
   (fun s W => I s W ∧ W.heap[w.heap.size + 1]? = some (.loop (rec .ready none)) ∧ W.heap[w.heap.size]? = some (.deferred (some [])))
   (fun W => ∃ c, Ix c W ∧ W.heap[w.heap.size + 1]? = some (.loop (rec .done (some c))) ∧ W.heap[w.heap.size]? = some (.deferred (some [])))
   W1 hb1
   (fun s W v ⟨h1, h2, h3⟩ => ⟨hIB s W v h1, hset W v _ _ (by omega) h2, hset W v _ _ (by omega) h3⟩)
   ?_ ⟨hI1, hL1, hK1⟩).mono ?_
  ·-- one round
   rintro A' c' L' W hne hml hmod hlc ⟨hi, hl, hk⟩ hC
   have hlt : w.heap.size + 1 < W.heap.size := (Array.getElem?_eq_some_iff.1 hl).1
   have hy := run_yield (P := P) (args := #[.slice A' (L'.take m).length c']) hl (by rw [hrec]; exact hps.symm)
   rw [hrec] at hy
   refine ⟨fn, _, assign, body, hy, roundIn_of_wpIn hfn (hassign _ _ W _ ⟨_, run_beginRound hl (by rw [hrec]), ?_⟩)⟩
   have hl2 : (W.putObj (w.heap.size + 1) (.loop { rec .ready none with state := .busy })).heap[w.heap.size + 1]? = some (.loop { rec .ready none with state := .busy }) := World.putObj_heap_same hlt
   have hk2 : (W.putObj (w.heap.size + 1) (.loop { rec .ready none with state := .busy })).heap[w.heap.size]? = some (.deferred (some [])) := (World.putObj_heap_other (by omega)).trans hk
   have hC2 : Kd.C (Kd.int .u8) (W.putObj (w.heap.size + 1) (.loop { rec .ready none with state := .busy })) A' (L'.take m).length (L'.take m) := by
    refine ⟨hC.1, hC.2.1, fun hp => ?_⟩
    obtain ⟨ad, e, hc⟩ := hC.2.2 hp
    refine ⟨ad, e, fun j p hj => ?_⟩
    obtain ⟨cs, h1, h2, h3⟩ := hc j p hj
    exact ⟨cs, h1, h2, fun i u hu => cell_kept (h3 i u hu) (grownBy_putObj' W _ _) (fun r e => by cases e; exact ⟨_, hl, rfl⟩)⟩
   have hput : ∀ (X : World) (o : Obj), Stays G B X (X.putObj (w.heap.size + 1) o) := fun X o => Stays.of_grown (grownBy_putObj' X _ o) (fun r e => by cases e; omega)
   have hw2 : Stays G B W (W.putObj (w.heap.size + 1) (.loop { rec .ready none with state := .busy })) := hput W _
   refine wpIn_mono (hbody _ A' c' L' _ hne hml hmod hlc ((hI L').putObj _ hi (by omega) hl rfl) (by simp [World.putObj]; omega) hC2) ?_
   have fin : ∀ (jump : Option Code) (W3 : World), KeepsOthers (W.putObj (w.heap.size + 1) (.loop { rec .ready none with state := .busy })) W3 →
     (Instr.endRound (w.heap.size + 1) jump).run P W3 = .ok (.bool jump.isNone) (W3.putObj (w.heap.size + 1) (.loop (rec (if jump.isNone then .ready else .done) jump))) ∧
     W3.heap[w.heap.size + 1]? = some (.loop { rec .ready none with state := .busy }) ∧
     (W3.putObj (w.heap.size + 1) (.loop (rec (if jump.isNone then .ready else .done) jump))).heap[w.heap.size + 1]? = some (.loop (rec (if jump.isNone then .ready else .done) jump)) ∧
     (W3.putObj (w.heap.size + 1) (.loop (rec (if jump.isNone then .ready else .done) jump))).heap[w.heap.size]? = some (.deferred (some [])) := fun jump W3 hk3 => by
    have hl3 := hk3.same _ _ hl2 rfl
    have := run_endRound (P := P) jump hl3
    rw [hrec] at this ⊢
    exact ⟨this, by rw [hrec] at hl3; exact hl3, World.putObj_heap_same (Array.getElem?_eq_some_iff.1 hl3).1, (World.putObj_heap_other (by omega)).trans (hk3.same _ _ hk2 rfl)⟩
   rintro e a3 W3 hp
   cases e with
   | normal =>
    obtain ⟨hk3, hkp3, hi3⟩ := hp
    obtain ⟨hr, hl3, hl4, hk4⟩ := fin none W3 hk3
    exact ⟨_, _, hr, .inl ⟨rfl, ⟨(hI _).putObj _ hi3 (by omega) hl3 rfl, hl4, hk4⟩, (hw2.trans hkp3).trans (hput W3 _)⟩⟩
   | ret =>
    obtain ⟨hk3, hi3⟩ := hp
    obtain ⟨hr, hl3, hl4, hk4⟩ := fin (some .ret) W3 hk3
    exact ⟨_, _, hr, .inr ⟨rfl, .ret, (hIx _).putObj _ hi3 (by omega) hl3 rfl, hl4, hk4⟩⟩
   | exit id => exact hp.elim
   | goto t => exact hp.elim
   | panic ch => exact hp.elim
   | outgrown => exact hp.elim
  ·-- behind the iterator
   rintro e W2 ⟨⟨v, rfl⟩, (⟨hi, hl, hk⟩ | ⟨c, hi, hl, hk⟩)⟩
   ·exact ⟨none, _, by have := run_endLoop (P := P) hl (by rw [hrec]; simp); rw [hrec] at this; exact this, hdone _ _ ((hI _).putObj _ hi (by omega) hl rfl) (Nat.le_refl _) ((World.putObj_heap_other (by omega)).trans hk)⟩
   ·exact ⟨some c, _, by have := run_endLoop (P := P) hl (by rw [hrec]; simp); rw [hrec] at this; exact this, hstop _ c _ ((hIx c).putObj _ hi (by omega) hl rfl) (Nat.le_refl _) ((World.putObj_heap_other (by omega)).trans hk)⟩
end Go.Proofs.Ytmehbabchakkpaa.Pieces
namespace Go.Proofs.Ytmehbabchakkpaa.Read
open Go.RowKit YtmehbabchakkpaaW.PrintWords
section
variable {P : Program}
theorem cutT {k : IntKind} (t e : TypeId) {i : TypeInfo} (ht : P.underlying t = some (.slice e)) (hi : P.info? e = some i) (hsz : i.size = 1) (A : Option Addr) (c : Nat) (xs : List Int) (m : Nat) (hm : m ≤ xs.length) (hc : xs.length ≤ c) :
  ∃ L : List Int, L = xs.take m ∧ (∀ W : World, (Instr.slice t (.slice A xs.length c) none (some (.int .i64 (m : Int))) none).run P W = .ok (.slice A L.length c) W) ∧ (∀ w : World, Kd.C (Kd.int k) w A xs.length xs → Kd.C (Kd.int k) w A L.length L) ∧ L.length ≤ c := by
 obtain ⟨h1, _, h3⟩ := print_take_of (P := P) (Value.int .u8) 0 t e .i64 ht hi hsz A c xs (m : Int) (by omega) (by omega) hc
 rw [Int.toNat_natCast] at h1 h3
 exact ⟨_, rfl, h1, fun w h => Kd.C_take h hm, h3⟩
theorem cutD {k : IntKind} (t e : TypeId) {i : TypeInfo} (ht : P.underlying t = some (.slice e)) (hi : P.info? e = some i) (hsz : i.size = 1) (A : Option Addr) (c : Nat) (xs : List Int) (m : Nat) (hm : m ≤ xs.length) (hc : xs.length ≤ c) :
  ∃ (L : List Int) (A' : Option Addr) (c' : Nat), L = xs.drop m ∧ (∀ W : World, (Instr.slice t (.slice A xs.length c) (some (.int .i64 (m : Int))) none none).run P W = .ok (.slice A' L.length c') W) ∧ (∀ w : World, Kd.C (Kd.int k) w A xs.length xs → Kd.C (Kd.int k) w A' L.length L) ∧ L.length ≤ c' := by
 obtain ⟨A', h1, h2, h3⟩ := print_drop_of (P := P) (Value.int k) 0 t e .i64 ht hi hsz A c xs (m : Int) (by omega) (by omega) hc
 rw [Int.toNat_natCast] at h1 h2 h3
 exact ⟨_, A', _, rfl, h1, fun w h => Kd.C_of_reads (h1 := fun _ => rfl) (h2 w (Kd.reads_of_C h)), h3⟩
end
end Go.Proofs.Ytmehbabchakkpaa.Read
namespace Go.Proofs.Ytmehbabchakkpaa.Pieces
open Go.RowKit Go.Shelf YtmehbabchakkpaaW.PrintWords Go.Proofs.Ytmehbabchakkpaa.Read
attribute [local go_sem] Oper.semAt_some
set_option linter.unusedVariables false
def left (B : Nat) (w : World) : Nat := match w.heap[B]? with
 | some (.cells cs _ _) => (match (cs[0]? : Option Value) with
  | some (Value.slice _ k _) => k
  | _ => 0)
 | _ => 0
theorem left_of {B : Nat} {w : World} {A : Option Addr} {n c t : Nat} (h : w.heap[B]? = some (.cells #[.slice A n c] t (0, 0))) : left B w = n := by simp [left, h]
theorem infou8 : (Try.prog.info? 5).map (fun i => (i.zero, i.size, i.bytes)) = some (some (.int .u8 0), 1, 1) := by kernel_rfl
set_option maxRecDepth 100000 in
set_option maxHeartbeats 2000000 in
theorem pieces1_in (F : Fence) (n : Nat) (hF : F.fn 95) (hro : F.round = none) (hn : 1 ≤ n) (G B m : Nat) (hGB : G ≤ B) (hm : 3 ≤ m ∧ m ≤ 514) (A : Option Addr) (c : Nat) (L : List Int) (hLm : L.length % m = 0) (w : World)
  (hBw : B + 1 < w.heap.size) (hlc : L.length ≤ c) (hread : Kd.F (Kd.int .u8) w (fun k => k < G) A L.length L) (hb : w.heap[B]? = some (.cells #[.slice A L.length c] 24 (0, 0))) (hs : w.heap[B + 1]? = some (.cells #[.int .i64 ((m : Int) - 2)] 3 (0, 0))) :
  PiecesC F n Try.prog 95 G B #[.pointer (some ⟨B, 0, none⟩), .pointer (some ⟨B + 1, 0, none⟩)] m A c L w := by
 intro l J Jx W hW hJB hY h0
 have HM := hm.1
 have HM2 := hm.2
 have HJB := Aside0.mk hJB
 have HY := Aside0.mk hY
 have HR := Aside0.mk (Kd.F_below hread hW)
 have HB := Aside0.mk (blk_below hb hW)
 have HS := Aside0.mk (blk_below hs hW)
 have HLC := Aside0.mk hlc
 have HLM := Aside0.mk hLm
 have HJ0 := Aside0.mk h0
 clear hJB hY hread hb hs hlc hLm h0 hW hBw hm
 obtain ⟨ii, hii, hz_, hsz, hb_⟩ := info_parts infou8
 have HII := Aside0.mk hii
 have HSZ := Aside0.mk hsz
 clear hii hsz hz_ hb_
 refine callsIn_of_wp Try.func95 rfl hF ?_ hro
 simp only [Try.ntmps95, List.size_toArray, List.length_cons, List.length_nil, Nat.reduceAdd, Nat.reduceSub, Array.replicate_succ, Array.replicate_zero, List.push_toArray, List.append_toArray, List.nil_append, List.cons_append]
 gi_wp2
 gi_loopw [4] (fun _ wr => ∃ (A' : Option Addr) (c' : Nat) (L' : List Int), L'.length ≤ c' ∧ L'.length ≤ L.length ∧ Aside0 (L'.length % m = 0) ∧ Aside0 (Kd.F (Kd.int .u8) wr (fun k => k < G) A' L'.length L') ∧ Aside0 (wr.heap[B]? = some (.cells #[.slice A' L'.length c'] 24 (0, 0))) ∧ Aside0 (wr.heap[B + 1]? = some (.cells #[.int .i64 ((m : Int) - 2)] 3 (0, 0))) ∧ Aside0 (J L' wr)) (fun _ wr => left B wr)
 case atStart => exact ⟨A, c, L, HLC.out, Nat.le_refl _, HLM, HR, HB, HS, HJ0⟩
 case round =>
  clear HR HB HS HLC HLM HJ0
  obtain ⟨A', c', L', hlc, hll, HLM, HR, HB, HS, HJ⟩ := hrel
  have hcB := blk_cell HB.out 0
  have hfB := blk_frozen HB.out 0
  have hcS := blk_cell HS.out 0
  by_cases hlt : 0 < L'.length
  ·have hml : m ≤ L'.length := Nat.le_of_dvd hlt (Nat.dvd_of_mod_eq_zero HLM.out)
   have hmax := Kd.F_max HR.out
   obtain ⟨L1, hL1, hT, hTc, hTl⟩ := cutT (P := Try.prog) (k := .u8) 24 5 Try.underlying24 HII.out HSZ.out A' c' L' m hml hlc
   obtain ⟨L2, A2, c2, hL2, hD, hDc, hDl⟩ := cutD (P := Try.prog) (k := .u8) 24 5 Try.underlying24 HII.out HSZ.out A' c' L' m hml hlc
   have hy := HY.out A' c' L' wr (fun e => by rw [e] at hlt; exact absurd hlt (Nat.lt_irrefl 0)) hml HLM.out (by rw [← hL1]; exact hTl) HJ.out (by rw [← hL1]; exact hTc wr (Kd.F_now HR.out))
   rw [← hL1, ← hL2] at hy
   obtain ⟨fn, tmps, assign, body, hy, hR⟩ := hy
   have RR := Aside0.mk hR
   have w1_ : wrap64 ((m : Int) - 2 + 2) = (m : Int) := by unfold wrap64; omega
   have w2_ : (m : Int) - 2 + 2 = (m : Int) := by omega
   have w3_ : IntKind.i64.wrap ((m : Int) - 2 + 2) = (m : Int) := by rw [IntKind.wrap_i64]; unfold wrap64 at w1_; exact w1_
   have d1_ : decide ((L'.length : Int) > 0) = true := decide_eq_true (by omega)
   have d2_ : decide (0 < L'.length) = true := decide_eq_true hlt
   have HL1 := Aside0.mk hL1
   have HL2 := Aside0.mk hL2
   have HDc := Aside0.mk hDc
   have HDl := Aside0.mk hDl
   clear hL1 hL2 hDc hDl
   have HLT := Aside0.mk hlt
   have HLF := Aside0.mk (left_of HB.out)
   have HML := Aside0.mk hml
   clear hR hlt hml hmax hTc hTl
   gi_wp2
   refine RR.out.mono ?_
   rintro e W3 (⟨rfl, hJ3, hk3⟩ | ⟨rfl, hJx3⟩)
   ·have hb3 := (hk3.2 B (blk_lt HB.out) (by omega)).trans HB.out
    have hs3 := (hk3.2 (B + 1) (blk_lt HS.out) (by omega)).trans HS.out
    have HB3 := Aside0.mk hb3
    have HS3 := Aside0.mk hs3
    have HJ3 := Aside0.mk hJ3
    have HR3 := Aside0.mk (Kd.F_step HR.out (fun k hk hlt => hk3.2 k hlt (by omega)))
    have hcB3 := blk_cell hb3 0
    have hfB3 := blk_frozen hb3 0
    have hcS3 := blk_cell hs3 0
    clear hb3 hs3 hJ3 hk3 HR HB HS HJ hcB hfB hcS
    gi_wp2
    go_roundw
    case rel => exact ⟨A2, c2, L2, HDl.out, by rw [HL2.out, List.length_drop]; omega, ⟨by rw [HL2.out, List.length_drop, ← Nat.mod_eq_sub_mod HML.out]; exact HLM.out⟩, ⟨Kd.F_far (Kd.F_imp HR3.out (fun W' h => HDc.out W' h)) (fun k hk => by show k ≠ B; omega) _⟩, ⟨blk_set HB3.out 0 _⟩, ⟨blk_far HS3.out (by show B + 1 ≠ B; omega) _⟩, ⟨HJB.out _ _ _ HJ3.out⟩⟩
    case measure =>
     have h1 := left_of (B := B) (blk_set HB3.out 0 (.slice A2 L2.length c2))
     rw [h1, HLF.out, HL2.out, List.length_drop]
     have := HML.out
     omega
   ·gi_wp2
    refine bodyPost_ret (results_none rfl _ _ _) rfl ?_
    exact ⟨⟨_, rfl⟩, .inr hJx3⟩
  ·obtain rfl : L' = [] := List.eq_nil_of_length_eq_zero (by omega)
   gi_wp2
   go_end0
   exact ⟨⟨_, rfl⟩, .inl HJ.out⟩
set_option maxHeartbeats 1000000 in
theorem pieces_in (F : Fence) (n : Nat) (hF : F.fn 78) (hro : F.round = none) (A : Option Addr) (len c : Nat) (size : Int) (w : World) :
  CallsIn F n Try.prog 78 #[.slice A len c, .int .i64 size] w fun e w' => e = .returned (.func (.func 95) #[] #[.pointer (some ⟨w.heap.size, 0, none⟩), .pointer (some ⟨w.heap.size + 1, 0, none⟩)]) ∧ w' = (w.alloc (.cells #[.slice A len c] 24)).alloc (.cells #[.int .i64 size] 3) := by
 refine callsIn_of_wp Try.func78 rfl hF ?_ hro
 simp only [Try.ntmps78, List.size_toArray, List.length_cons, List.length_nil, Nat.reduceAdd, Nat.reduceSub, Array.replicate_succ, Array.replicate_zero, List.push_toArray, List.append_toArray, List.nil_append, List.cons_append]
 gi_wp2
 go_ret
 exact ⟨rfl, rfl⟩
end Go.Proofs.Ytmehbabchakkpaa.Pieces
namespace Go.Proofs.Ytmehbabchakkpaa.QLadderClimbs
open Go.RowKit YtmehbabchakkpaaW.PrintWords YtmehbabchakkpaaW.PrintLast YtmehbabchakkpaaW.PrintMore
attribute [local go_sem] max2_int min2_int max_two min_two max_three min_three max_four min_four
set_option linter.unusedVariables false
set_option linter.unusedSimpArgs false
def errW : Option Int → Value
 | none => .nilIface
 | some c => .iface 0 (.int .i64 c)
theorem errW_none : errW none = .nilIface := rfl
theorem errW_some (c : Int) : errW (some c) = .iface 0 (.int .i64 c) := rfl
theorem info3 : (Try.prog.info? 3).map (fun i => (i.zero, i.size, i.bytes)) = some (some (.int .i64 0), 1, 8) := by kernel_rfl
theorem info5 : (Try.prog.info? 5).map (fun i => (i.zero, i.size, i.bytes)) = some (some (.int .u8 0), 1, 1) := by kernel_rfl
structure S23 where
 f0 : Int
 f1 : Int
 f2 : Int
 f3 : Int
 f4 : Int
 f5 : Int
 f6 : Int
def z23 : S23 := ⟨(0 : Int), (0 : Int), (0 : Int), (0 : Int), (0 : Int), (0 : Int), (0 : Int)⟩
def k23 : Kd S23 := Kd.iso (Kd.pair (Kd.int .i64) (Kd.pair (Kd.int .i64) (Kd.pair (Kd.int .i64) (Kd.pair (Kd.int .i64) (Kd.pair (Kd.int .i64) (Kd.pair (Kd.int .i64) (Kd.int .i64))))))) (fun x : S23 => (x.f0, x.f1, x.f2, x.f3, x.f4, x.f5, x.f6))
theorem k23_open {w : World} {x : S23} {cs : List Value} (h : k23.K w x cs) : cs = [.int .i64 x.f0, .int .i64 x.f1, .int .i64 x.f2, .int .i64 x.f3, .int .i64 x.f4, .int .i64 x.f5, .int .i64 x.f6] := by
 obtain ⟨_, _, rfl, rfl, ⟨_, _, rfl, rfl, ⟨_, _, rfl, rfl, ⟨_, _, rfl, rfl, ⟨_, _, rfl, rfl, ⟨_, _, rfl, rfl, rfl⟩⟩⟩⟩⟩⟩ := h
 exact rfl
def rd_L3 (xs : List (List Int)) (i : Int) : (List Int) := xs.getD i.toNat ([] : List Int)
theorem at_L3 {w : World} {A : Option Addr} {n : Nat} {xs : List (List Int)} (h : Kd.C (Kd.slice 5 (Kd.int .u8)) w A n xs) (i : Int) (h0 : 0 ≤ i) (h1 : i < n) : ∃ ad A0 c0, A = some ad ∧ w.cell? (ad.add i.toNat) = some (.slice A0 (rd_L3 xs i).length c0) ∧ (rd_L3 xs i).length ≤ c0 ∧ (Kd.int .u8).C w A0 (rd_L3 xs i).length (rd_L3 xs i) := by
 obtain ⟨ad, c, e, _, hK, hc0⟩ := Kd.C_get h ([] : List Int) i h0 h1
 have hc : ∀ j u, c[j]? = some u → w.cell? (ad.add (i.toNat * 1 + j)) = some u := hc0
 obtain ⟨A0, c0, rfl, l0, g0⟩ := hK
 exact ⟨ad, A0, c0, e, by have hq := hc 0 _ rfl; rwa [Nat.mul_one, Nat.add_zero] at hq, l0, g0⟩
end Go.Proofs.Ytmehbabchakkpaa.QLadderClimbs
namespace Go.Proofs.Ytmehbabchakkpaa.QLadderClimbs
open Go.RowKit YtmehbabchakkpaaW.PrintWords YtmehbabchakkpaaW.PrintLast YtmehbabchakkpaaW.PrintMore
attribute [local go_sem] max2_int min2_int max_two min_two max_three min_three max_four min_four
set_option linter.unusedVariables false
set_option linter.unusedSimpArgs false
theorem eqA26 (d : Nat) (w : World) (x0 y0 : Int) (x1 y1 : Int) (x2 y2 : Int) (x3 y3 : Int) :
  (Op.equalIn (d + 2) 26 (.agg #[.int .i64 x0, .int .i64 x1, .int .i64 x2, .int .i64 x3]) (.agg #[.int .i64 y0, .int .i64 y1, .int .i64 y2, .int .i64 y3])).run Try.prog w = .ok (x0 == y0 && (x1 == y1 && (x2 == y2 && (x3 == y3)))) w := by
 refine eqA_of Try.underlying26 (by kernel_rfl) ?_
 refine eqf_cons (by rfl) (by go_simp; rfl) (by go_simp; rfl) (by go_simp) ?_
 refine eqf_cons (by rfl) (by go_simp; rfl) (by go_simp; rfl) (by go_simp) ?_
 refine eqf_cons (by rfl) (by go_simp; rfl) (by go_simp; rfl) (by go_simp) ?_
 exact eqf_last (by rfl) (by go_simp; rfl) (by go_simp; rfl) (by go_simp)
end Go.Proofs.Ytmehbabchakkpaa.QLadderClimbs
