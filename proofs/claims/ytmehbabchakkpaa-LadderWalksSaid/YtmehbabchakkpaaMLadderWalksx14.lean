import Derived.Test.YtmehbabchakkpaaMLadderWalksx13
import Derived.Deep.MidRow
namespace Go.Proofs.Ytmehbabchakkpaa.QLadderWalks
open Go.RowKit YtmehbabchakkpaaW.PrintWords YtmehbabchakkpaaW.PrintLast YtmehbabchakkpaaW.PrintMore
attribute [local go_sem] max2_int min2_int max_two min_two max_three min_three max_four min_four
set_option linter.unusedVariables false
set_option linter.unusedSimpArgs false
end Go.Proofs.Ytmehbabchakkpaa.QLadderWalks
namespace Go.Proofs.Ytmehbabchakkpaa.QLadderWalks
open Go.RowKit YtmehbabchakkpaaW.PrintWords YtmehbabchakkpaaW.PrintLast YtmehbabchakkpaaW.PrintMore
attribute [local go_sem] max2_int min2_int max_two min_two max_three min_three max_four min_four
set_option linter.unusedVariables false
set_option linter.unusedSimpArgs false
end Go.Proofs.Ytmehbabchakkpaa.QLadderWalks
namespace Go.Proofs.Ytmehbabchakkpaa.QLadderWalks
open Go.RowKit YtmehbabchakkpaaW.PrintWords YtmehbabchakkpaaW.PrintLast YtmehbabchakkpaaW.PrintMore
set_option linter.unusedVariables false
set_option linter.unusedSimpArgs false
abbrev two (w : World) (gO gA : Nat) (b : Bool) (n : Int) : World := (w.setCell ⟨gO, 0, none⟩ (.bool b)).setCell ⟨gA, 0, none⟩ (.int .i64 n)
section
variable {w w0 W V U W2 : World} {gO gA g : Nat} {b b' : Bool} {n n' : Int}
theorem two_size : (two w gO gA b n).heap.size = w.heap.size := by simp [two, World.setCell]
theorem two_far (h : g ≠ gO) (h' : g ≠ gA) : (two w gO gA b n).heap[g]? = w.heap[g]? := (Below.heap_setCell _ _ _ g h').trans (Below.heap_setCell _ _ _ g h)
theorem two_O {b0 : Bool} (h : w.heap[gO]? = some (.cells #[.bool b0] 4 (0, 0))) (hne : gO ≠ gA) : (two w gO gA b n).heap[gO]? = some (.cells #[.bool b] 4 (0, 0)) := blk_far (blk_put h 0 _ rfl) hne _
theorem two_A {n0 : Int} (h : w.heap[gA]? = some (.cells #[.int .i64 n0] 3 (0, 0))) (hne : gO ≠ gA) : (two w gO gA b n).heap[gA]? = some (.cells #[.int .i64 n] 3 (0, 0)) := blk_put (blk_far (p := ⟨gO, 0, none⟩) h hne.symm _) 0 _ rfl
theorem two_le (hV : V = two w gO gA b n) : w.heap.size ≤ V.heap.size := by rw [hV, two_size]; exact Nat.le_refl _
theorem two_ge (hV : V = two w gO gA b n) (h : w.heap.size ≤ g) : V.heap.size ≤ g := by rw [hV, two_size]; exact h
theorem two_self (hO : w.heap[gO]? = some (.cells #[.bool b] 4 (0, 0))) (hA : w.heap[gA]? = some (.cells #[.int .i64 n] 3 (0, 0))) (hne : gO ≠ gA) : ∃ V, V = two w gO gA b n ∧ Below V.heap.size V w := by
 refine ⟨_, rfl, rfl, rfl, rfl, by rw [two_size]; exact Nat.le_refl _, fun k _ => ?_⟩
 by_cases h1 : k = gO
 ·subst h1
  rw [two_O hO hne, hO]
 ·by_cases h2 : k = gA
  ·subst h2
   rw [two_A hA hne, hA]
  ·rw [two_far h1 h2]
theorem two_keep {o : Obj} (hU : U = two W gO gA b n) (hB : Below U.heap.size U W2) (h : W.heap[g]? = some o) (h1 : g ≠ gO) (h2 : g ≠ gA) : W2.heap[g]? = some o := by
 subst hU
 exact blk_below ((two_far h1 h2).trans h) hB
theorem two_getO {b0 : Bool} (hV : V = two w gO gA b n) (hB : Below V.heap.size V W) (h : w.heap[gO]? = some (.cells #[.bool b0] 4 (0, 0))) (hne : gO ≠ gA) : W.heap[gO]? = some (.cells #[.bool b] 4 (0, 0)) := by
 subst hV
 exact blk_below (two_O h hne) hB
theorem two_getA {n0 : Int} (hV : V = two w gO gA b n) (hB : Below V.heap.size V W) (h : w.heap[gA]? = some (.cells #[.int .i64 n0] 3 (0, 0))) (hne : gO ≠ gA) : W.heap[gA]? = some (.cells #[.int .i64 n] 3 (0, 0)) := by
 subst hV
 exact blk_below (two_A h hne) hB
theorem two_step {b0 : Bool} {n0 : Int} (hV : V = two w gO gA b n) (hB : Below V.heap.size V W) (hO : w.heap[gO]? = some (.cells #[.bool b0] 4 (0, 0))) (hA : w.heap[gA]? = some (.cells #[.int .i64 n0] 3 (0, 0))) (hne : gO ≠ gA) (hU : U = two W gO gA b' n') (h2 : Below U.heap.size U W2) : ∃ V', V' = two w gO gA b' n' ∧ Below V'.heap.size V' W2 := by
 have eO := two_getO hV hB hO hne
 have eA := two_getA hV hB hA hne
 subst hV hU
 have hs : w.heap.size ≤ W.heap.size := by have := hB.size; rw [two_size] at this; exact this
 refine ⟨_, rfl, h2.os.trans hB.os, h2.tape.trans hB.tape, h2.output.trans hB.output, ?_, fun k hk => ?_⟩
 ·have := h2.size
  rw [two_size] at this ⊢
  omega
 ·rw [two_size] at hk
  refine (h2.block k (by rw [two_size]; omega)).trans ?_
  by_cases h1 : k = gO
  ·subst h1
   rw [two_O eO hne, two_O hO hne]
  ·by_cases h2 : k = gA
   ·subst h2
    rw [two_A eA hne, two_A hA hne]
   ·rw [two_far h1 h2, hB.block k (by rw [two_size]; exact hk), two_far h1 h2, two_far h1 h2]
theorem two_base (hV : V = two w gO gA b n) (hB : Below V.heap.size V W) (h0 : Below w0.heap.size w0 w) (ho : w0.heap.size ≤ gO) (ha : w0.heap.size ≤ gA) : Below w0.heap.size w0 W := by
 subst hV
 exact below_then (h0.setCell (p := ⟨gO, 0, none⟩) ho _ |>.setCell (p := ⟨gA, 0, none⟩) ha _) (by rw [two_size]; exact h0.size) hB
end
set_option maxHeartbeats 1000000 in
set_option maxRecDepth 100000 in
theorem LW_lit (gO gA gL gB : Nat) (A0 : Option Addr) (c0 : Nat) (ls : List (List Int)) (bad : Int) (b : Bool) (n i : Int) (w0 w : World) (hC : Kd.C (Kd.slice 5 (Kd.int .u8)) w0 A0 ls.length ls) (hB : Below w0.heap.size w0 w) (ho : w0.heap.size ≤ gO) (ha : w0.heap.size ≤ gA) (hO : w.heap[gO]? = some (.cells #[.bool b] 4 (0, 0))) (hA : w.heap[gA]? = some (.cells #[.int .i64 n] 3 (0, 0))) (hL : w.heap[gL]? = some (.cells #[.slice A0 ls.length c0] 39 (0, 0))) (hD : w.heap[gB]? = some (.cells #[.int .u8 bad] 5 (0, 0))) (hd : 0 ≤ bad ∧ bad ≤ 255) (h0 : 0 ≤ i) (hi : i < (ls.length : Int)) (hb : ¬ i = bad) (p : List Int) (hp : ls.getD i.toNat [] = p) :
  Calls Try.prog 28 #[.int .i64 i, .pointer (some ⟨gO, 0, none⟩), .pointer (some ⟨gA, 0, none⟩), .pointer (some ⟨gL, 0, none⟩), .pointer (some ⟨gB, 0, none⟩)] w fun e w' => ∃ A c, e = .returned (.tuple #[.slice A p.length c, .int .i64 0]) ∧ p.length ≤ c ∧ Kd.C (Kd.int .u8) w' A p.length p ∧ ∃ U, Aside0 (U = two w gO gA (b && (i == n)) (wrap64 (n + 1))) ∧ Below U.heap.size U w' := by
 have hne : gO ≠ gA := blk_ne hO hA (by decide)
 have nLO : gL ≠ gO := blk_ne hL hO (by decide)
 have nLA : gL ≠ gA := blk_ne hL hA (by decide)
 have nBO : gB ≠ gO := blk_ne hD hO (by decide)
 have nBA : gB ≠ gA := blk_ne hD hA (by decide)
 have d1_ : decide (i ≥ (ls.length : Int)) = false := df_ (by omega)
 have d2_ : decide ((ls.length : Int) ≤ i) = false := df_ (by omega)
 have d3_ : (0 ≤ i) = True := eq_true h0
 have d4_ : (i < (ls.length : Int)) = True := eq_true hi
 have d5_ : decide (0 ≤ i) = true := dt_ h0
 have d6_ : decide (i < (ls.length : Int)) = true := dt_ hi
 have d7_ : (i == bad) = false := beq_eq_false_iff_ne.2 hb
 have b1_ : 0 ≤ bad := hd.1
 have b2_ : bad ≤ 255 := hd.2
 cases b with
 | false =>
  have hA1 : (w.setCell ⟨gO, 0, none⟩ (.bool false)).heap[gA]? = some (.cells #[.int .i64 n] 3 (0, 0)) := blk_far (p := ⟨gO, 0, none⟩) hA hne.symm _
  have hL2 : (two w gO gA false (wrap64 (n + 1))).heap[gL]? = some (.cells #[.slice A0 ls.length c0] 39 (0, 0)) := (two_far nLO nLA).trans hL
  have hD2 : (two w gO gA false (wrap64 (n + 1))).heap[gB]? = some (.cells #[.int .u8 bad] 5 (0, 0)) := (two_far nBO nBA).trans hD
  have c0_ : w.cell? ⟨gO, 0, none⟩ = some (.bool false) := (bc_ hO 0).trans rfl
  have f0_ := bf_ hO 0
  have c1_ : (w.setCell ⟨gO, 0, none⟩ (.bool false)).cell? ⟨gA, 0, none⟩ = some (.int .i64 n) := (bc_ hA1 0).trans rfl
  have f1_ := bf_ hA1 0
  have c4_ : w.cell? ⟨gA, 0, none⟩ = some (.int .i64 n) := (bc_ hA 0).trans rfl
  have f4_ := bf_ hA 0
  have c2_ : (two w gO gA false (wrap64 (n + 1))).cell? ⟨gL, 0, none⟩ = some (.slice A0 ls.length c0) := (bc_ hL2 0).trans rfl
  have c3_ : (two w gO gA false (wrap64 (n + 1))).cell? ⟨gB, 0, none⟩ = some (.int .u8 bad) := (bc_ hD2 0).trans rfl
  obtain ⟨ad, A', c', rfl, hx, hl, hc⟩ := ladder_Climb_at (Kd.C_below hC ((hB.setCell (p := ⟨gO, 0, none⟩) ho (.bool false)).setCell (p := ⟨gA, 0, none⟩) ha (.int .i64 (wrap64 (n + 1))))) i h0 hi
  rw [hp] at hx hl hc
  have HC := ak_ hc
  have HL := ak_ hl
  have cx_ := hx
  clear hx hl hc
  clear hA1 hL2 hD2 hO hA hL hD hC hB hne nLO nLA nBO nBA ho ha
  go_enter Try.func28, Try.ntmps28
  go_wp2
  refine bodyPost_ret (results_list (rs := [.tmp 6, .tmp 7]) rfl (by simp) (.tmp (.tmp .nil))) rfl ?_
  exact ⟨A', c', rfl, HL.out, HC.out, _, ⟨rfl⟩, Below.refl _ _⟩
 | true =>
  have hA1 : (w.setCell ⟨gO, 0, none⟩ (.bool (i == n))).heap[gA]? = some (.cells #[.int .i64 n] 3 (0, 0)) := blk_far (p := ⟨gO, 0, none⟩) hA hne.symm _
  have hL2 : (two w gO gA (i == n) (wrap64 (n + 1))).heap[gL]? = some (.cells #[.slice A0 ls.length c0] 39 (0, 0)) := (two_far nLO nLA).trans hL
  have hD2 : (two w gO gA (i == n) (wrap64 (n + 1))).heap[gB]? = some (.cells #[.int .u8 bad] 5 (0, 0)) := (two_far nBO nBA).trans hD
  have c0_ : w.cell? ⟨gO, 0, none⟩ = some (.bool true) := (bc_ hO 0).trans rfl
  have f0_ := bf_ hO 0
  have c1_ : (w.setCell ⟨gO, 0, none⟩ (.bool (i == n))).cell? ⟨gA, 0, none⟩ = some (.int .i64 n) := (bc_ hA1 0).trans rfl
  have f1_ := bf_ hA1 0
  have c4_ : w.cell? ⟨gA, 0, none⟩ = some (.int .i64 n) := (bc_ hA 0).trans rfl
  have f4_ := bf_ hA 0
  have c2_ : (two w gO gA (i == n) (wrap64 (n + 1))).cell? ⟨gL, 0, none⟩ = some (.slice A0 ls.length c0) := (bc_ hL2 0).trans rfl
  have c3_ : (two w gO gA (i == n) (wrap64 (n + 1))).cell? ⟨gB, 0, none⟩ = some (.int .u8 bad) := (bc_ hD2 0).trans rfl
  obtain ⟨ad, A', c', rfl, hx, hl, hc⟩ := ladder_Climb_at (Kd.C_below hC ((hB.setCell (p := ⟨gO, 0, none⟩) ho (.bool (i == n))).setCell (p := ⟨gA, 0, none⟩) ha (.int .i64 (wrap64 (n + 1))))) i h0 hi
  rw [hp] at hx hl hc
  have HC := ak_ hc
  have HL := ak_ hl
  have cx_ := hx
  clear hx hl hc
  clear hA1 hL2 hD2 hO hA hL hD hC hB hne nLO nLA nBO nBA ho ha
  go_enter Try.func28, Try.ntmps28
  go_wp2
  refine bodyPost_ret (results_list (rs := [.tmp 6, .tmp 7]) rfl (by simp) (.tmp (.tmp .nil))) rfl ?_
  exact ⟨A', c', rfl, HL.out, HC.out, _, ⟨rfl⟩, Below.refl _ _⟩
set_option maxHeartbeats 1000000 in
set_option maxRecDepth 100000 in
theorem LW_off (gO gA gL gB : Nat) (A0 : Option Addr) (c0 : Nat) (ls : List (List Int)) (bad : Int) (b : Bool) (n i : Int) (w0 w : World) (hC : Kd.C (Kd.slice 5 (Kd.int .u8)) w0 A0 ls.length ls) (hB : Below w0.heap.size w0 w) (ho : w0.heap.size ≤ gO) (ha : w0.heap.size ≤ gA) (hO : w.heap[gO]? = some (.cells #[.bool b] 4 (0, 0))) (hA : w.heap[gA]? = some (.cells #[.int .i64 n] 3 (0, 0))) (hL : w.heap[gL]? = some (.cells #[.slice A0 ls.length c0] 39 (0, 0))) (hD : w.heap[gB]? = some (.cells #[.int .u8 bad] 5 (0, 0))) (hd : 0 ≤ bad ∧ bad ≤ 255) (h0 : 0 ≤ i) (hi : ¬ i < (ls.length : Int) ∨ i = bad) :
  Calls Try.prog 28 #[.int .i64 i, .pointer (some ⟨gO, 0, none⟩), .pointer (some ⟨gA, 0, none⟩), .pointer (some ⟨gL, 0, none⟩), .pointer (some ⟨gB, 0, none⟩)] w fun e w' => e = .returned (.tuple #[.slice none 0 0, .int .i64 20]) ∧ ∃ U, Aside0 (U = two w gO gA (b && (i == n)) (wrap64 (n + 1))) ∧ Below U.heap.size U w' := by
 have hne : gO ≠ gA := blk_ne hO hA (by decide)
 have nLO : gL ≠ gO := blk_ne hL hO (by decide)
 have nLA : gL ≠ gA := blk_ne hL hA (by decide)
 have nBO : gB ≠ gO := blk_ne hD hO (by decide)
 have nBA : gB ≠ gA := blk_ne hD hA (by decide)
 have b1_ : 0 ≤ bad := hd.1
 have b2_ : bad ≤ 255 := hd.2
 by_cases hi2 : i < (ls.length : Int)
 ·have d1_ : decide (i ≥ (ls.length : Int)) = false := df_ (by omega)
  have d2_ : decide ((ls.length : Int) ≤ i) = false := df_ (by omega)
  have d7_ : (i == bad) = true := beq_iff_eq.2 (by omega)
  cases b with
  | false =>
   have hA1 : (w.setCell ⟨gO, 0, none⟩ (.bool false)).heap[gA]? = some (.cells #[.int .i64 n] 3 (0, 0)) := blk_far (p := ⟨gO, 0, none⟩) hA hne.symm _
   have hL2 : (two w gO gA false (wrap64 (n + 1))).heap[gL]? = some (.cells #[.slice A0 ls.length c0] 39 (0, 0)) := (two_far nLO nLA).trans hL
   have hD2 : (two w gO gA false (wrap64 (n + 1))).heap[gB]? = some (.cells #[.int .u8 bad] 5 (0, 0)) := (two_far nBO nBA).trans hD
   have c0_ : w.cell? ⟨gO, 0, none⟩ = some (.bool false) := (bc_ hO 0).trans rfl
   have f0_ := bf_ hO 0
   have c1_ : (w.setCell ⟨gO, 0, none⟩ (.bool false)).cell? ⟨gA, 0, none⟩ = some (.int .i64 n) := (bc_ hA1 0).trans rfl
   have f1_ := bf_ hA1 0
   have c4_ : w.cell? ⟨gA, 0, none⟩ = some (.int .i64 n) := (bc_ hA 0).trans rfl
   have f4_ := bf_ hA 0
   have c2_ : (two w gO gA false (wrap64 (n + 1))).cell? ⟨gL, 0, none⟩ = some (.slice A0 ls.length c0) := (bc_ hL2 0).trans rfl
   have c3_ : (two w gO gA false (wrap64 (n + 1))).cell? ⟨gB, 0, none⟩ = some (.int .u8 bad) := (bc_ hD2 0).trans rfl
   clear hA1 hL2 hD2 hO hA hL hD hC hB hne nLO nLA nBO nBA ho ha
   go_enter Try.func28, Try.ntmps28
   go_wp2
   refine bodyPost_ret (results_list (rs := [.tmp 6, .tmp 7]) rfl (by simp) (.tmp (.tmp .nil))) rfl ?_
   exact ⟨rfl, _, ⟨rfl⟩, Below.refl _ _⟩
  | true =>
   have hA1 : (w.setCell ⟨gO, 0, none⟩ (.bool (i == n))).heap[gA]? = some (.cells #[.int .i64 n] 3 (0, 0)) := blk_far (p := ⟨gO, 0, none⟩) hA hne.symm _
   have hL2 : (two w gO gA (i == n) (wrap64 (n + 1))).heap[gL]? = some (.cells #[.slice A0 ls.length c0] 39 (0, 0)) := (two_far nLO nLA).trans hL
   have hD2 : (two w gO gA (i == n) (wrap64 (n + 1))).heap[gB]? = some (.cells #[.int .u8 bad] 5 (0, 0)) := (two_far nBO nBA).trans hD
   have c0_ : w.cell? ⟨gO, 0, none⟩ = some (.bool true) := (bc_ hO 0).trans rfl
   have f0_ := bf_ hO 0
   have c1_ : (w.setCell ⟨gO, 0, none⟩ (.bool (i == n))).cell? ⟨gA, 0, none⟩ = some (.int .i64 n) := (bc_ hA1 0).trans rfl
   have f1_ := bf_ hA1 0
   have c4_ : w.cell? ⟨gA, 0, none⟩ = some (.int .i64 n) := (bc_ hA 0).trans rfl
   have f4_ := bf_ hA 0
   have c2_ : (two w gO gA (i == n) (wrap64 (n + 1))).cell? ⟨gL, 0, none⟩ = some (.slice A0 ls.length c0) := (bc_ hL2 0).trans rfl
   have c3_ : (two w gO gA (i == n) (wrap64 (n + 1))).cell? ⟨gB, 0, none⟩ = some (.int .u8 bad) := (bc_ hD2 0).trans rfl
   clear hA1 hL2 hD2 hO hA hL hD hC hB hne nLO nLA nBO nBA ho ha
   go_enter Try.func28, Try.ntmps28
   go_wp2
   refine bodyPost_ret (results_list (rs := [.tmp 6, .tmp 7]) rfl (by simp) (.tmp (.tmp .nil))) rfl ?_
   exact ⟨rfl, _, ⟨rfl⟩, Below.refl _ _⟩
 ·have d1_ : decide (i ≥ (ls.length : Int)) = true := dt_ (by omega)
  have d2_ : decide ((ls.length : Int) ≤ i) = true := dt_ (by omega)
  cases b with
  | false =>
   have hA1 : (w.setCell ⟨gO, 0, none⟩ (.bool false)).heap[gA]? = some (.cells #[.int .i64 n] 3 (0, 0)) := blk_far (p := ⟨gO, 0, none⟩) hA hne.symm _
   have hL2 : (two w gO gA false (wrap64 (n + 1))).heap[gL]? = some (.cells #[.slice A0 ls.length c0] 39 (0, 0)) := (two_far nLO nLA).trans hL
   have hD2 : (two w gO gA false (wrap64 (n + 1))).heap[gB]? = some (.cells #[.int .u8 bad] 5 (0, 0)) := (two_far nBO nBA).trans hD
   have c0_ : w.cell? ⟨gO, 0, none⟩ = some (.bool false) := (bc_ hO 0).trans rfl
   have f0_ := bf_ hO 0
   have c1_ : (w.setCell ⟨gO, 0, none⟩ (.bool false)).cell? ⟨gA, 0, none⟩ = some (.int .i64 n) := (bc_ hA1 0).trans rfl
   have f1_ := bf_ hA1 0
   have c4_ : w.cell? ⟨gA, 0, none⟩ = some (.int .i64 n) := (bc_ hA 0).trans rfl
   have f4_ := bf_ hA 0
   have c2_ : (two w gO gA false (wrap64 (n + 1))).cell? ⟨gL, 0, none⟩ = some (.slice A0 ls.length c0) := (bc_ hL2 0).trans rfl
   have c3_ : (two w gO gA false (wrap64 (n + 1))).cell? ⟨gB, 0, none⟩ = some (.int .u8 bad) := (bc_ hD2 0).trans rfl
   clear hA1 hL2 hD2 hO hA hL hD hC hB hne nLO nLA nBO nBA ho ha
   go_enter Try.func28, Try.ntmps28
   go_wp2
   refine bodyPost_ret (results_list (rs := [.tmp 6, .tmp 7]) rfl (by simp) (.tmp (.tmp .nil))) rfl ?_
   exact ⟨rfl, _, ⟨rfl⟩, Below.refl _ _⟩
  | true =>
   have hA1 : (w.setCell ⟨gO, 0, none⟩ (.bool (i == n))).heap[gA]? = some (.cells #[.int .i64 n] 3 (0, 0)) := blk_far (p := ⟨gO, 0, none⟩) hA hne.symm _
   have hL2 : (two w gO gA (i == n) (wrap64 (n + 1))).heap[gL]? = some (.cells #[.slice A0 ls.length c0] 39 (0, 0)) := (two_far nLO nLA).trans hL
   have hD2 : (two w gO gA (i == n) (wrap64 (n + 1))).heap[gB]? = some (.cells #[.int .u8 bad] 5 (0, 0)) := (two_far nBO nBA).trans hD
   have c0_ : w.cell? ⟨gO, 0, none⟩ = some (.bool true) := (bc_ hO 0).trans rfl
   have f0_ := bf_ hO 0
   have c1_ : (w.setCell ⟨gO, 0, none⟩ (.bool (i == n))).cell? ⟨gA, 0, none⟩ = some (.int .i64 n) := (bc_ hA1 0).trans rfl
   have f1_ := bf_ hA1 0
   have c4_ : w.cell? ⟨gA, 0, none⟩ = some (.int .i64 n) := (bc_ hA 0).trans rfl
   have f4_ := bf_ hA 0
   have c2_ : (two w gO gA (i == n) (wrap64 (n + 1))).cell? ⟨gL, 0, none⟩ = some (.slice A0 ls.length c0) := (bc_ hL2 0).trans rfl
   have c3_ : (two w gO gA (i == n) (wrap64 (n + 1))).cell? ⟨gB, 0, none⟩ = some (.int .u8 bad) := (bc_ hD2 0).trans rfl
   clear hA1 hL2 hD2 hO hA hL hD hC hB hne nLO nLA nBO nBA ho ha
   go_enter Try.func28, Try.ntmps28
   go_wp2
   refine bodyPost_ret (results_list (rs := [.tmp 6, .tmp 7]) rfl (by simp) (.tmp (.tmp .nil))) rfl ?_
   exact ⟨rfl, _, ⟨rfl⟩, Below.refl _ _⟩
def LW.w0 : Nat → Int → Int → Int → Int → Int → Int → Int → List (List Int) → Int → Int → Bool → Int → Option (List Int × Int × Int × Int × Int × Int × Int × Int × Bool × Int)
 | 0, _, _, _, _, _, _, _, _, _, _, _, _ => none
 | k + 1, a0, a1, a2, a3, a4, a5, a6, ls, bad, i, b, n => if i < a5 then (if i < (ls.length : Int) then (if i = bad then some ([], 0, 0, 0, 0, 0, 0, 20, b && (i == n), wrap64 (n + 1)) else (page_Decode.f k a0 a1 a2 a3 a4 a5 a6 (ls.getD i.toNat [])).bind fun t => if t.2.2.2.2.2.2 = 0 then some (t.1, t.2.1, t.2.2.1, t.2.2.2.1, t.2.2.2.2.1, t.2.2.2.2.2.1, i, 0, b && (i == n), wrap64 (n + 1)) else if t.2.2.2.2.2.2 = 2 then some ([], 0, 0, 0, 0, 0, 0, 2, b && (i == n), wrap64 (n + 1)) else LW.w0 k a0 a1 a2 a3 a4 a5 a6 ls bad (wrap64 (i + 1)) (b && (i == n)) (wrap64 (n + 1))) else some ([], 0, 0, 0, 0, 0, 0, 20, b && (i == n), wrap64 (n + 1))) else some ([], 0, 0, 0, 0, 0, 0, 30, b, n)
set_option maxHeartbeats 4000000 in
set_option maxRecDepth 100000 in
theorem LW_walk (k : Nat) (a0 a1 a2 a3 a4 a5 a6 : Int) (gO gA gL gB : Nat) (A0 : Option Addr) (c0 : Nat) (ls : List (List Int)) (bad : Int) (r1 : List Int) (r2 r3 r4 r5 r6 r7 r8 : Int) (rb : Bool) (rn : Int) (w0 w : World) (hC : Kd.C (Kd.slice 5 (Kd.int .u8)) w0 A0 ls.length ls) (hB : Below w0.heap.size w0 w) (ho : w0.heap.size ≤ gO) (ha : w0.heap.size ≤ gA) (hO : w.heap[gO]? = some (.cells #[.bool true] 4 (0, 0))) (hA : w.heap[gA]? = some (.cells #[.int .i64 0] 3 (0, 0))) (hL : w.heap[gL]? = some (.cells #[.slice A0 ls.length c0] 39 (0, 0))) (hD : w.heap[gB]? = some (.cells #[.int .u8 bad] 5 (0, 0))) (hd : 0 ≤ bad ∧ bad ≤ 255) (hchk : geom_Check.f a0 a1 a2 a3 a4 a5 a6 = some 0) (h : LW.w0 k a0 a1 a2 a3 a4 a5 a6 ls bad 0 true 0 = some (r1, r2, r3, r4, r5, r6, r7, r8, rb, rn)) :
  Calls Try.prog 27 #[.agg #[.int .i64 a0, .int .i64 a1, .int .i64 a2, .int .i64 a3, .int .i64 a4, .int .i64 a5, .int .i64 a6], .func (.func 28) #[] #[.pointer (some ⟨gO, 0, none⟩), .pointer (some ⟨gA, 0, none⟩), .pointer (some ⟨gL, 0, none⟩), .pointer (some ⟨gB, 0, none⟩)]] w fun e w' => ∃ v0_ : Value, e = .returned (.tuple #[.agg #[v0_, .int .i64 r2, .int .i64 r3, .int .i64 r4, .int .i64 r5, .int .i64 r6], .int .i64 r7, .int .i64 r8]) ∧ Kd.R (Kd.int .u8) 5 w' w.heap.size (fun _ => True) v0_ r1 ∧ ∃ V : World, Aside0 (V = two w gO gA rb rn) ∧ Below V.heap.size V w' := by
 have NOA : Aside0 (gO ≠ gA) := ⟨blk_ne hO hA (by decide)⟩
 have NLO : Aside0 (gL ≠ gO) := ⟨blk_ne hL hO (by decide)⟩
 have NLA : Aside0 (gL ≠ gA) := ⟨blk_ne hL hA (by decide)⟩
 have NBO : Aside0 (gB ≠ gO) := ⟨blk_ne hD hO (by decide)⟩
 have NBA : Aside0 (gB ≠ gA) := ⟨blk_ne hD hA (by decide)⟩
 have HLO : Aside0 (gO < w.heap.size) := ⟨blk_lt hO⟩
 have HLA : Aside0 (gA < w.heap.size) := ⟨blk_lt hA⟩
 obtain ⟨V, hV, hB'⟩ := two_self hO hA NOA.out
 have HC0 := ak_ hC
 have H0W := ak_ hB
 have HO0 := ak_ ho
 have HA0 := ak_ ha
 have HO := ak_ hO
 have HA := ak_ hA
 have HLB := ak_ hL
 have HDB := ak_ hD
 have HBAD := ak_ hd
 have HV := ak_ hV
 have HB := ak_ hB'
 have HCHK := ak_ hchk
 clear hC hB ho ha hO hA hL hD hd hV hB' hchk
 have H' := ak_ h
 clear h
 go_enter Try.func27, Try.ntmps27
 go_wp2_with (first | ((with_reducible refine gate_dst (N := 2) rfl ?_); (try (refine gate_guard (by rfl) ?_; dsimp only)); refine box_event ?hg (N := 2) ?hd (cs := #[.int .i64 a0, .int .i64 a1, .int .i64 a2, .int .i64 a3, .int .i64 a4, .int .i64 a5, .int .i64 a6]) (t := 23) ?hr ?_; (case hd => rfl); (case hg => rfl); (case hr => first | (go_simp; done) | (go_simp; rfl)); intro g2 hg w1 hbox hb; have n0_ := ak_ (below_step HB.out hb); have GE2 := ak_ ((by rw [hg]; exact (Nat.le_trans (two_le HV.out) (below_size HB.out))) : w.heap.size ≤ g2); clear HB; have HB := n0_; have BK2 := ak_ hbox; clear n0_ hb hbox hg; have NO2 := ak_ (show g2 ≠ gO from fun h => by have := GE2.out; have := HLO.out; omega); have NA2 := ak_ (show g2 ≠ gA from fun h => by have := GE2.out; have := HLA.out; omega)) | ((with_reducible refine gate_dst (N := 4) rfl ?_); (try (refine gate_guard (by rfl) ?_; dsimp only)); refine box_event ?hg (N := 4) ?hd (cs := #[.slice none 0 0, .int .i64 0, .int .i64 0, .int .i64 0, .int .i64 0, .int .i64 0]) (t := 42) ?hr ?_; (case hd => rfl); (case hg => rfl); (case hr => first | (go_simp; done) | (go_simp; rfl)); intro g4 hg w2 hbox hb; have n0_ := ak_ (below_step HB.out hb); have n1_ := ak_ (blk_below (g := g2) (o := .cells #[.int .i64 a0, .int .i64 a1, .int .i64 a2, .int .i64 a3, .int .i64 a4, .int .i64 a5, .int .i64 a6] 23 (0, 0)) BK2.out hb); have GE4 := ak_ ((by rw [hg]; exact (Nat.le_trans (two_le HV.out) (below_size HB.out))) : w.heap.size ≤ g4); have NE24 := ak_ ((by rw [hg]; exact Nat.ne_of_lt (blk_lt (g := g2) (o := .cells #[.int .i64 a0, .int .i64 a1, .int .i64 a2, .int .i64 a3, .int .i64 a4, .int .i64 a5, .int .i64 a6] 23 (0, 0)) BK2.out)) : g2 ≠ g4); clear HB BK2; have HB := n0_; have BK2 := n1_; have BK4 := ak_ hbox; clear n0_ n1_ hb hbox hg; have NO4 := ak_ (show g4 ≠ gO from fun h => by have := GE4.out; have := HLO.out; omega); have NA4 := ak_ (show g4 ≠ gA from fun h => by have := GE4.out; have := HLA.out; omega); have z0_ : w2.cell? ⟨g2, 0, none⟩ = some (.int .i64 a0) := (bc_ BK2.out 0).trans rfl; have z1_ : w2.cell? ⟨g2, 1, none⟩ = some (.int .i64 a1) := (bc_ BK2.out 1).trans rfl; have z2_ : w2.cell? ⟨g2, 2, none⟩ = some (.int .i64 a2) := (bc_ BK2.out 2).trans rfl; have z3_ : w2.cell? ⟨g2, 3, none⟩ = some (.int .i64 a3) := (bc_ BK2.out 3).trans rfl; have z4_ : w2.cell? ⟨g2, 4, none⟩ = some (.int .i64 a4) := (bc_ BK2.out 4).trans rfl; have z5_ : w2.cell? ⟨g2, 5, none⟩ = some (.int .i64 a5) := (bc_ BK2.out 5).trans rfl; have z6_ : w2.cell? ⟨g2, 6, none⟩ = some (.int .i64 a6) := (bc_ BK2.out 6).trans rfl) | ((with_reducible refine gate_callee (f := 35) rfl ?_); refine goesL_ (some 14) rfl rfl Try.func35 (by kernel_rfl) rfl #[.agg #[.int .i64 a0, .int .i64 a1, .int .i64 a2, .int .i64 a3, .int .i64 a4, .int .i64 a5, .int .i64 a6]] rfl (by (try simp only [List.map_toArray, List.map_cons, List.map_nil]); first | done | rfl) ?_; (with_reducible refine (geom_Check.calls a0 a1 a2 a3 a4 a5 a6 0 _ HCHK.out).mono ?_); rintro e w3 ⟨rfl, hb⟩; refine ⟨_, rfl, ?_⟩; clear z0_ z1_ z2_ z3_ z4_ z5_ z6_; have n0_ := ak_ (below_step HB.out hb); have n1_ := ak_ (blk_below (g := g2) (o := .cells #[.int .i64 a0, .int .i64 a1, .int .i64 a2, .int .i64 a3, .int .i64 a4, .int .i64 a5, .int .i64 a6] 23 (0, 0)) BK2.out hb); have n2_ := ak_ (blk_below (g := g4) (o := .cells #[.slice none 0 0, .int .i64 0, .int .i64 0, .int .i64 0, .int .i64 0, .int .i64 0] 42 (0, 0)) BK4.out hb); clear HB BK2 BK4; have HB := n0_; have BK2 := n1_; have BK4 := n2_; clear n0_ n1_ n2_ hb; have z5_ : w3.cell? ⟨g2, 5, none⟩ = some (.int .i64 a5) := (bc_ BK2.out 5).trans rfl))
 clear z5_
 go_loopg [19] k (fun kq v19 wr => ∃ (i : Int) (b : Bool) (n : Int) (V : World), v19 = .int .i64 i ∧ Aside0 (0 ≤ i) ∧ Aside0 (LW.w0 kq a0 a1 a2 a3 a4 a5 a6 ls bad i b n = some (r1, r2, r3, r4, r5, r6, r7, r8, rb, rn)) ∧ Aside0 (kq ≤ k) ∧ Aside0 (wr.heap[g2]? = some (.cells #[.int .i64 a0, .int .i64 a1, .int .i64 a2, .int .i64 a3, .int .i64 a4, .int .i64 a5, .int .i64 a6] 23 (0, 0))) ∧ Aside0 (wr.heap[g4]? = some (.cells #[.slice none 0 0, .int .i64 0, .int .i64 0, .int .i64 0, .int .i64 0, .int .i64 0] 42 (0, 0))) ∧ Aside0 (V = two w gO gA b n) ∧ Aside0 (Below V.heap.size V wr))
 case atStart => exact ⟨0, true, 0, V, rfl, ⟨Int.le_refl _⟩, H', ⟨Nat.le_refl _⟩, ⟨BK2.out⟩, ⟨BK4.out⟩, HV, ⟨HB.out⟩⟩
 case round =>
  clear H' HV HB BK2 BK4
  obtain ⟨i, b, n, V2, rfl, HI0, HR_, HK1, BK2, BK4, HV, HB⟩ := hrel
  cases gk with
  | zero => exact absurd HR_.out (by simp [LW.w0])
  | succ k1 =>
   have H := HR_.out
   clear HR_
   simp only [LW.w0] at H
   by_cases c1 : i < a5
   ·rw [if_pos c1] at H
    have c1_ : decide (i < a5) = true := dt_ c1
    by_cases c2 : i < (ls.length : Int)
    ·rw [if_pos c2] at H
     by_cases cb : i = bad
     ·rw [if_pos cb] at H
      have HE := ak_ (si_ H)
      have COFF : Aside0 (¬ i < (ls.length : Int) ∨ i = bad) := ⟨.inr cb⟩
      clear H cb
      go_wp2_with (go_at_call 28; (with_reducible refine (LW_off gO gA gL gB A0 c0 ls bad b n i w0 _ HC0.out (two_base HV.out HB.out H0W.out HO0.out HA0.out) HO0.out HA0.out (two_getO HV.out HB.out HO.out NOA.out) (two_getA HV.out HB.out HA.out NOA.out) (two_keep HV.out HB.out HLB.out NLO.out NLA.out) (two_keep HV.out HB.out HDB.out NBO.out NBA.out) HBAD.out HI0.out COFF.out).mono ?_); rintro e w4 ⟨rfl, U, ⟨hU⟩, hb⟩; have n1_ := ak_ (two_keep (g := g2) (o := .cells #[.int .i64 a0, .int .i64 a1, .int .i64 a2, .int .i64 a3, .int .i64 a4, .int .i64 a5, .int .i64 a6] 23 (0, 0)) hU hb BK2.out NO2.out NA2.out); have n2_ := ak_ (two_keep (g := g4) (o := .cells #[.slice none 0 0, .int .i64 0, .int .i64 0, .int .i64 0, .int .i64 0, .int .i64 0] 42 (0, 0)) hU hb BK4.out NO4.out NA4.out); obtain ⟨V', hV', hB'⟩ := two_step HV.out HB.out HO.out HA.out NOA.out hU hb; clear HB HV BK2 BK4 hU hb; have HB := ak_ hB'; have HV := ak_ hV'; have BK2 := n1_; have BK4 := n2_; clear n1_ n2_ hV' hB'; have y0_ := bc_ BK4.out 0; have yf0_ := bf_ BK4.out 0; have y1_ := bc_ BK4.out 1; have yf1_ := bf_ BK4.out 1; have y2_ := bc_ BK4.out 2; have yf2_ := bf_ BK4.out 2; have y3_ := bc_ BK4.out 3; have yf3_ := bf_ BK4.out 3; have y4_ := bc_ BK4.out 4; have yf4_ := bf_ BK4.out 4; have y5_ := bc_ BK4.out 5; have yf5_ := bf_ BK4.out 5)
      obtain ⟨rfl, rfl, rfl, rfl, rfl, rfl, rfl, rfl, rfl, rfl⟩ : [] = r1 ∧ 0 = r2 ∧ 0 = r3 ∧ 0 = r4 ∧ 0 = r5 ∧ 0 = r6 ∧ 0 = r7 ∧ 20 = r8 ∧ (b && (i == n)) = rb ∧ (wrap64 (n + 1)) = rn := by simpa only [Prod.mk.injEq, and_assoc] using HE.out
      refine bodyPost_ret (results_list (rs := [.cell 4 42, .tmp 5, .tmp 6]) rfl (by simp) (.cell g4 42 #[.slice none 0 0, .int .i64 0, .int .i64 0, .int .i64 0, .int .i64 0, .int .i64 0] (0, 0) _ rfl (ladder_Climb_put6 BK4.out _ _ _ _ _ _) Try.underlying42 rfl (by kernel_rfl) (.tmp (.tmp .nil)))) rfl ?_
      exact ⟨_, rfl, Kd.R_nil _ _ _ _ _, _, HV, ladder_Climb_below6 HB.out (two_ge HV.out GE4.out) _ _ _ _ _ _⟩
     ·rw [if_neg cb] at H
      obtain ⟨⟨q1, q2, q3, q4, q5, q6, q7⟩, hdec, H2⟩ := Option.bind_eq_some_iff.1 H
      clear H
      dsimp only at H2
      obtain ⟨pc, hpc⟩ : ∃ pc, ls.getD i.toNat [] = pc := ⟨_, rfl⟩
      rw [hpc] at hdec
      have HDEC := ak_ hdec
      clear hdec
      have hmax := HC0.out.2.1
      unfold maxLen at hmax
      have hw0 : 0 ≤ wrap64 (i + 1) := by
       have := HI0.out
       unfold wrap64
       omega
      have HW0 := ak_ hw0
      have H3 := ak_ H2
      clear hmax hw0 H2
      go_upto_if 41 with (first | (go_at_call 28; (with_reducible refine (LW_lit gO gA gL gB A0 c0 ls bad b n i w0 _ HC0.out (two_base HV.out HB.out H0W.out HO0.out HA0.out) HO0.out HA0.out (two_getO HV.out HB.out HO.out NOA.out) (two_getA HV.out HB.out HA.out NOA.out) (two_keep HV.out HB.out HLB.out NLO.out NLA.out) (two_keep HV.out HB.out HDB.out NBO.out NBA.out) HBAD.out HI0.out c2 cb pc hpc).mono ?_); rintro e w4 ⟨Ar, cr, rfl, hlr, hCr, U, ⟨hU⟩, hb⟩; have n1_ := ak_ (two_keep (g := g2) (o := .cells #[.int .i64 a0, .int .i64 a1, .int .i64 a2, .int .i64 a3, .int .i64 a4, .int .i64 a5, .int .i64 a6] 23 (0, 0)) hU hb BK2.out NO2.out NA2.out); have n2_ := ak_ (two_keep (g := g4) (o := .cells #[.slice none 0 0, .int .i64 0, .int .i64 0, .int .i64 0, .int .i64 0, .int .i64 0] 42 (0, 0)) hU hb BK4.out NO4.out NA4.out); obtain ⟨V', hV', hB'⟩ := two_step HV.out HB.out HO.out HA.out NOA.out hU hb; clear HB HV BK2 BK4 hU hb; have HB := ak_ hB'; have HV := ak_ hV'; have BK2 := n1_; have BK4 := n2_; clear n1_ n2_ hV' hB'; have HLR := ak_ hlr; have HCR := ak_ hCr; clear hlr hCr; have z0_ : w4.cell? ⟨g2, 0, none⟩ = some (.int .i64 a0) := (bc_ BK2.out 0).trans rfl; have z1_ : w4.cell? ⟨g2, 1, none⟩ = some (.int .i64 a1) := (bc_ BK2.out 1).trans rfl; have z2_ : w4.cell? ⟨g2, 2, none⟩ = some (.int .i64 a2) := (bc_ BK2.out 2).trans rfl; have z3_ : w4.cell? ⟨g2, 3, none⟩ = some (.int .i64 a3) := (bc_ BK2.out 3).trans rfl; have z4_ : w4.cell? ⟨g2, 4, none⟩ = some (.int .i64 a4) := (bc_ BK2.out 4).trans rfl; have z5_ : w4.cell? ⟨g2, 5, none⟩ = some (.int .i64 a5) := (bc_ BK2.out 5).trans rfl; have z6_ : w4.cell? ⟨g2, 6, none⟩ = some (.int .i64 a6) := (bc_ BK2.out 6).trans rfl) | (go_at_call 30; (with_reducible refine (page_Decode.calls k1 a0 a1 a2 a3 a4 a5 a6 Ar cr pc q1 q2 q3 q4 q5 q6 q7 _ ?s1 HLR.out HDEC.out).mono ?_); (case s1 => (with_reducible repeat (first | apply Kd.C_alloc | apply Kd.C_drewN | apply Kd.C_drew)); exact HCR.out); rintro e w5 ⟨vd, rfl, hR, hb⟩; have n0_ := ak_ (below_step HB.out hb); have n1_ := ak_ (blk_below (g := g2) (o := .cells #[.int .i64 a0, .int .i64 a1, .int .i64 a2, .int .i64 a3, .int .i64 a4, .int .i64 a5, .int .i64 a6] 23 (0, 0)) BK2.out hb); have n2_ := ak_ (blk_below (g := g4) (o := .cells #[.slice none 0 0, .int .i64 0, .int .i64 0, .int .i64 0, .int .i64 0, .int .i64 0] 42 (0, 0)) BK4.out hb); have hsz_ := (Nat.le_trans (two_le HV.out) (below_size HB.out)); clear HB BK2 BK4; have HB := n0_; have BK2 := n1_; have BK4 := n2_; clear n0_ n1_ n2_ hb; obtain ⟨Ad, nd, cd, rfl⟩ : ∃ A n c, vd = .slice A n c := (by obtain ⟨A, c, h⟩ := Kd.R_slice hR; exact ⟨A, _, c, h⟩); have HRD := ak_ (Kd.R_lower hR hsz_); clear hR) | ((with_reducible refine gate_dst (N := 11) rfl ?_); (try (refine gate_guard (by rfl) ?_; dsimp only)); refine box_event ?hg (N := 11) ?hd (cs := #[.int .i64 0, .int .i64 0, .int .i64 0, .int .i64 0]) (t := 26) ?hr ?_; (case hd => rfl); (case hg => rfl); (case hr => first | (go_simp; done) | (go_simp; rfl)); intro g11 hg w6 hbox hb; have GE11 := ak_ ((by rw [hg]; exact (Nat.le_trans (two_le HV.out) (below_size HB.out))) : w.heap.size ≤ g11); have NE2 := ak_ ((by rw [hg]; exact Nat.ne_of_lt (blk_lt (g := g2) (o := .cells #[.int .i64 a0, .int .i64 a1, .int .i64 a2, .int .i64 a3, .int .i64 a4, .int .i64 a5, .int .i64 a6] 23 (0, 0)) BK2.out)) : g2 ≠ g11); have NE4 := ak_ ((by rw [hg]; exact Nat.ne_of_lt (blk_lt (g := g4) (o := .cells #[.slice none 0 0, .int .i64 0, .int .i64 0, .int .i64 0, .int .i64 0, .int .i64 0] 42 (0, 0)) BK4.out)) : g4 ≠ g11); have HRT := ak_ (Kd.R_below (show Kd.R _ _ _ _ _ _ _ from (by (with_reducible repeat (first | apply Kd.R_alloc | apply Kd.R_drewN | apply Kd.R_drew)); exact HRD.out)) hb); clear HRD; have n0_ := ak_ (below_step HB.out hb); have n1_ := ak_ (blk_below (g := g2) (o := .cells #[.int .i64 a0, .int .i64 a1, .int .i64 a2, .int .i64 a3, .int .i64 a4, .int .i64 a5, .int .i64 a6] 23 (0, 0)) BK2.out hb); have n2_ := ak_ (blk_below (g := g4) (o := .cells #[.slice none 0 0, .int .i64 0, .int .i64 0, .int .i64 0, .int .i64 0, .int .i64 0] 42 (0, 0)) BK4.out hb); clear HB BK2 BK4; have HB := n0_; have BK2 := n1_; have BK4 := n2_; clear n0_ n1_ n2_ hb; have BK11 := ak_ hbox; clear hbox hg; have y0_ := bc_ BK4.out 0; have yf0_ := bf_ BK4.out 0; have y1_ := bc_ BK4.out 1; have yf1_ := bf_ BK4.out 1; have y2_ := bc_ BK4.out 2; have yf2_ := bf_ BK4.out 2; have y3_ := bc_ BK4.out 3; have yf3_ := bf_ BK4.out 3; have y4_ := bc_ BK4.out 4; have yf4_ := bf_ BK4.out 4; have y5_ := bc_ BK4.out 5; have yf5_ := bf_ BK4.out 5; have x0_ := bc_ BK11.out 0; have xf0_ := bf_ BK11.out 0; have x1_ := bc_ BK11.out 1; have xf1_ := bf_ BK11.out 1; have x2_ := bc_ BK11.out 2; have xf2_ := bf_ BK11.out 2; have x3_ := bc_ BK11.out 3; have xf3_ := bf_ BK11.out 3; have ne2_ := NE2.out; have ne4_ := NE4.out; have ne2'_ := NE2.out.symm; have ne4'_ := NE4.out.symm; have HRD := HRT))
      have H2 := H3.out
      clear H3
      by_cases e0 : q7 = 0
      ·rw [if_pos e0] at H2
       subst e0
       have HE := ak_ (si_ H2)
       clear H2
       go_wp2
       obtain ⟨rfl, rfl, rfl, rfl, rfl, rfl, rfl, rfl, rfl, rfl⟩ : q1 = r1 ∧ q2 = r2 ∧ q3 = r3 ∧ q4 = r4 ∧ q5 = r5 ∧ q6 = r6 ∧ i = r7 ∧ 0 = r8 ∧ (b && (i == n)) = rb ∧ (wrap64 (n + 1)) = rn := by simpa only [Prod.mk.injEq, and_assoc] using HE.out
       refine bodyPost_ret (results_list (rs := [.cell 4 42, .tmp 5, .tmp 6]) rfl (by simp) (.cell g4 42 #[.slice Ad nd cd, .int .i64 q2, .int .i64 q3, .int .i64 q4, .int .i64 q5, .int .i64 q6] (0, 0) _ rfl (ladder_Climb_put6 (blk_far (blk_far (blk_far (blk_far BK4.out NE4.out _) NE4.out _) NE4.out _) NE4.out _) _ _ _ _ _ _) Try.underlying42 rfl (by kernel_rfl) (.tmp (.tmp .nil)))) rfl ?_
       exact ⟨_, rfl, ladder_Climb_R10 HRD.out BK11.out BK4.out trivial (fun k h1 h2 => ladder_Climb_far10 _ _ _ _ _ _ _ _ _ _ h1 h2), _, HV, ladder_Climb_below6 (below_set (below_set (below_set (below_set HB.out (two_ge HV.out GE11.out)) (two_ge HV.out GE11.out)) (two_ge HV.out GE11.out)) (two_ge HV.out GE11.out)) (two_ge HV.out GE4.out) _ _ _ _ _ _⟩
      ·rw [if_neg e0] at H2
       by_cases e2 : q7 = 2
       ·rw [if_pos e2] at H2
        subst e2
        have HE := ak_ (si_ H2)
        clear H2
        go_wp2
        obtain ⟨rfl, rfl, rfl, rfl, rfl, rfl, rfl, rfl, rfl, rfl⟩ : [] = r1 ∧ 0 = r2 ∧ 0 = r3 ∧ 0 = r4 ∧ 0 = r5 ∧ 0 = r6 ∧ 0 = r7 ∧ 2 = r8 ∧ (b && (i == n)) = rb ∧ (wrap64 (n + 1)) = rn := by simpa only [Prod.mk.injEq, and_assoc] using HE.out
        refine bodyPost_ret (results_list (rs := [.cell 4 42, .tmp 5, .tmp 6]) rfl (by simp) (.cell g4 42 #[.slice none 0 0, .int .i64 0, .int .i64 0, .int .i64 0, .int .i64 0, .int .i64 0] (0, 0) _ rfl (ladder_Climb_put6 (blk_far (blk_far (blk_far (blk_far BK4.out NE4.out _) NE4.out _) NE4.out _) NE4.out _) _ _ _ _ _ _) Try.underlying42 rfl (by kernel_rfl) (.tmp (.tmp .nil)))) rfl ?_
        exact ⟨_, rfl, Kd.R_nil _ _ _ _ _, _, HV, ladder_Climb_below6 (below_set (below_set (below_set (below_set HB.out (two_ge HV.out GE11.out)) (two_ge HV.out GE11.out)) (two_ge HV.out GE11.out)) (two_ge HV.out GE11.out)) (two_ge HV.out GE4.out) _ _ _ _ _ _⟩
       ·rw [if_neg e2] at H2
        have HN := ak_ H2
        clear H2
        have f0_ : (q7 == 0) = false := beq_eq_false_iff_ne.2 e0
        have f2_ : (q7 == 2) = false := beq_eq_false_iff_ne.2 e2
        clear e0 e2
        go_wp2
        go_roundg k1
        case measure => have := HK1.out; omega
        case rel => exact ⟨wrap64 (i + 1), _, _, _, rfl, HW0, HN, ⟨by have := HK1.out; omega⟩, ⟨(blk_far (blk_far (blk_far (blk_far BK2.out NE2.out _) NE2.out _) NE2.out _) NE2.out _)⟩, ⟨(blk_far (blk_far (blk_far (blk_far BK4.out NE4.out _) NE4.out _) NE4.out _) NE4.out _)⟩, HV, ⟨(below_set (below_set (below_set (below_set HB.out (two_ge HV.out GE11.out)) (two_ge HV.out GE11.out)) (two_ge HV.out GE11.out)) (two_ge HV.out GE11.out))⟩⟩
    ·rw [if_neg c2] at H
     have HE := ak_ (si_ H)
     have COFF : Aside0 (¬ i < (ls.length : Int) ∨ i = bad) := ⟨.inl c2⟩
     clear H
     go_wp2_with (go_at_call 28; (with_reducible refine (LW_off gO gA gL gB A0 c0 ls bad b n i w0 _ HC0.out (two_base HV.out HB.out H0W.out HO0.out HA0.out) HO0.out HA0.out (two_getO HV.out HB.out HO.out NOA.out) (two_getA HV.out HB.out HA.out NOA.out) (two_keep HV.out HB.out HLB.out NLO.out NLA.out) (two_keep HV.out HB.out HDB.out NBO.out NBA.out) HBAD.out HI0.out COFF.out).mono ?_); rintro e w4 ⟨rfl, U, ⟨hU⟩, hb⟩; have n1_ := ak_ (two_keep (g := g2) (o := .cells #[.int .i64 a0, .int .i64 a1, .int .i64 a2, .int .i64 a3, .int .i64 a4, .int .i64 a5, .int .i64 a6] 23 (0, 0)) hU hb BK2.out NO2.out NA2.out); have n2_ := ak_ (two_keep (g := g4) (o := .cells #[.slice none 0 0, .int .i64 0, .int .i64 0, .int .i64 0, .int .i64 0, .int .i64 0] 42 (0, 0)) hU hb BK4.out NO4.out NA4.out); obtain ⟨V', hV', hB'⟩ := two_step HV.out HB.out HO.out HA.out NOA.out hU hb; clear HB HV BK2 BK4 hU hb; have HB := ak_ hB'; have HV := ak_ hV'; have BK2 := n1_; have BK4 := n2_; clear n1_ n2_ hV' hB'; have y0_ := bc_ BK4.out 0; have yf0_ := bf_ BK4.out 0; have y1_ := bc_ BK4.out 1; have yf1_ := bf_ BK4.out 1; have y2_ := bc_ BK4.out 2; have yf2_ := bf_ BK4.out 2; have y3_ := bc_ BK4.out 3; have yf3_ := bf_ BK4.out 3; have y4_ := bc_ BK4.out 4; have yf4_ := bf_ BK4.out 4; have y5_ := bc_ BK4.out 5; have yf5_ := bf_ BK4.out 5)
     obtain ⟨rfl, rfl, rfl, rfl, rfl, rfl, rfl, rfl, rfl, rfl⟩ : [] = r1 ∧ 0 = r2 ∧ 0 = r3 ∧ 0 = r4 ∧ 0 = r5 ∧ 0 = r6 ∧ 0 = r7 ∧ 20 = r8 ∧ (b && (i == n)) = rb ∧ (wrap64 (n + 1)) = rn := by simpa only [Prod.mk.injEq, and_assoc] using HE.out
     refine bodyPost_ret (results_list (rs := [.cell 4 42, .tmp 5, .tmp 6]) rfl (by simp) (.cell g4 42 #[.slice none 0 0, .int .i64 0, .int .i64 0, .int .i64 0, .int .i64 0, .int .i64 0] (0, 0) _ rfl (ladder_Climb_put6 BK4.out _ _ _ _ _ _) Try.underlying42 rfl (by kernel_rfl) (.tmp (.tmp .nil)))) rfl ?_
     exact ⟨_, rfl, Kd.R_nil _ _ _ _ _, _, HV, ladder_Climb_below6 HB.out (two_ge HV.out GE4.out) _ _ _ _ _ _⟩
   ·rw [if_neg c1] at H
    have c1_ : decide (i < a5) = false := df_ c1
    have HE := ak_ (si_ H)
    clear H
    have y0_ := bc_ BK4.out 0; have yf0_ := bf_ BK4.out 0; have y1_ := bc_ BK4.out 1; have yf1_ := bf_ BK4.out 1; have y2_ := bc_ BK4.out 2; have yf2_ := bf_ BK4.out 2; have y3_ := bc_ BK4.out 3; have yf3_ := bf_ BK4.out 3; have y4_ := bc_ BK4.out 4; have yf4_ := bf_ BK4.out 4; have y5_ := bc_ BK4.out 5; have yf5_ := bf_ BK4.out 5
    go_wp2
    obtain ⟨rfl, rfl, rfl, rfl, rfl, rfl, rfl, rfl, rfl, rfl⟩ : [] = r1 ∧ 0 = r2 ∧ 0 = r3 ∧ 0 = r4 ∧ 0 = r5 ∧ 0 = r6 ∧ 0 = r7 ∧ 30 = r8 ∧ b = rb ∧ n = rn := by simpa only [Prod.mk.injEq, and_assoc] using HE.out
    refine bodyPost_ret (results_list (rs := [.cell 4 42, .tmp 5, .tmp 6]) rfl (by simp) (.cell g4 42 #[.slice none 0 0, .int .i64 0, .int .i64 0, .int .i64 0, .int .i64 0, .int .i64 0] (0, 0) _ rfl (ladder_Climb_put6 BK4.out _ _ _ _ _ _) Try.underlying42 rfl (by kernel_rfl) (.tmp (.tmp .nil)))) rfl ?_
    exact ⟨_, rfl, Kd.R_nil _ _ _ _ _, _, HV, ladder_Climb_below6 HB.out (two_ge HV.out GE4.out) _ _ _ _ _ _⟩
set_option maxHeartbeats 1000000 in
set_option maxRecDepth 100000 in
theorem LW_none (k : Nat) (a0 a1 a2 a3 a4 a5 a6 : Int) (gO gA gL gB : Nat) (A0 : Option Addr) (c0 : Nat) (ls : List (List Int)) (bad : Int) (r1 : List Int) (r2 r3 r4 r5 r6 r7 r8 : Int) (rb : Bool) (rn : Int) (w0 w : World) (hC : Kd.C (Kd.slice 5 (Kd.int .u8)) w0 A0 ls.length ls) (hB : Below w0.heap.size w0 w) (ho : w0.heap.size ≤ gO) (ha : w0.heap.size ≤ gA) (hO : w.heap[gO]? = some (.cells #[.bool true] 4 (0, 0))) (hA : w.heap[gA]? = some (.cells #[.int .i64 0] 3 (0, 0))) (hL : w.heap[gL]? = some (.cells #[.slice A0 ls.length c0] 39 (0, 0))) (hD : w.heap[gB]? = some (.cells #[.int .u8 bad] 5 (0, 0))) (hd : 0 ≤ bad ∧ bad ≤ 255) (e0 : Int) (he : ¬ e0 = 0) (hchk : geom_Check.f a0 a1 a2 a3 a4 a5 a6 = some e0) (hr : (([] : List Int), (0 : Int), (0 : Int), (0 : Int), (0 : Int), (0 : Int), (0 : Int), (2 : Int), true, (0 : Int)) = (r1, r2, r3, r4, r5, r6, r7, r8, rb, rn)) :
  Calls Try.prog 27 #[.agg #[.int .i64 a0, .int .i64 a1, .int .i64 a2, .int .i64 a3, .int .i64 a4, .int .i64 a5, .int .i64 a6], .func (.func 28) #[] #[.pointer (some ⟨gO, 0, none⟩), .pointer (some ⟨gA, 0, none⟩), .pointer (some ⟨gL, 0, none⟩), .pointer (some ⟨gB, 0, none⟩)]] w fun e w' => ∃ v0_ : Value, e = .returned (.tuple #[.agg #[v0_, .int .i64 r2, .int .i64 r3, .int .i64 r4, .int .i64 r5, .int .i64 r6], .int .i64 r7, .int .i64 r8]) ∧ Kd.R (Kd.int .u8) 5 w' w.heap.size (fun _ => True) v0_ r1 ∧ ∃ V : World, Aside0 (V = two w gO gA rb rn) ∧ Below V.heap.size V w' := by
 have NOA : Aside0 (gO ≠ gA) := ⟨blk_ne hO hA (by decide)⟩
 have NLO : Aside0 (gL ≠ gO) := ⟨blk_ne hL hO (by decide)⟩
 have NLA : Aside0 (gL ≠ gA) := ⟨blk_ne hL hA (by decide)⟩
 have NBO : Aside0 (gB ≠ gO) := ⟨blk_ne hD hO (by decide)⟩
 have NBA : Aside0 (gB ≠ gA) := ⟨blk_ne hD hA (by decide)⟩
 have HLO : Aside0 (gO < w.heap.size) := ⟨blk_lt hO⟩
 have HLA : Aside0 (gA < w.heap.size) := ⟨blk_lt hA⟩
 obtain ⟨V, hV, hB'⟩ := two_self hO hA NOA.out
 have HC0 := ak_ hC
 have H0W := ak_ hB
 have HO0 := ak_ ho
 have HA0 := ak_ ha
 have HO := ak_ hO
 have HA := ak_ hA
 have HLB := ak_ hL
 have HDB := ak_ hD
 have HBAD := ak_ hd
 have HV := ak_ hV
 have HB := ak_ hB'
 have HCHK := ak_ hchk
 clear hC hB ho ha hO hA hL hD hd hV hB' hchk
 have HE := ak_ hr
 clear hr
 have f0_ : (e0 == 0) = false := beq_eq_false_iff_ne.2 he
 have f1_ : (e0 != 0) = true := by rw [bne, f0_]; rfl
 go_enter Try.func27, Try.ntmps27
 go_wp2_with (first | ((with_reducible refine gate_dst (N := 2) rfl ?_); (try (refine gate_guard (by rfl) ?_; dsimp only)); refine box_event ?hg (N := 2) ?hd (cs := #[.int .i64 a0, .int .i64 a1, .int .i64 a2, .int .i64 a3, .int .i64 a4, .int .i64 a5, .int .i64 a6]) (t := 23) ?hr ?_; (case hd => rfl); (case hg => rfl); (case hr => first | (go_simp; done) | (go_simp; rfl)); intro g2 hg w1 hbox hb; have n0_ := ak_ (below_step HB.out hb); have GE2 := ak_ ((by rw [hg]; exact (Nat.le_trans (two_le HV.out) (below_size HB.out))) : w.heap.size ≤ g2); clear HB; have HB := n0_; have BK2 := ak_ hbox; clear n0_ hb hbox hg; have NO2 := ak_ (show g2 ≠ gO from fun h => by have := GE2.out; have := HLO.out; omega); have NA2 := ak_ (show g2 ≠ gA from fun h => by have := GE2.out; have := HLA.out; omega)) | ((with_reducible refine gate_dst (N := 4) rfl ?_); (try (refine gate_guard (by rfl) ?_; dsimp only)); refine box_event ?hg (N := 4) ?hd (cs := #[.slice none 0 0, .int .i64 0, .int .i64 0, .int .i64 0, .int .i64 0, .int .i64 0]) (t := 42) ?hr ?_; (case hd => rfl); (case hg => rfl); (case hr => first | (go_simp; done) | (go_simp; rfl)); intro g4 hg w2 hbox hb; have n0_ := ak_ (below_step HB.out hb); have n1_ := ak_ (blk_below (g := g2) (o := .cells #[.int .i64 a0, .int .i64 a1, .int .i64 a2, .int .i64 a3, .int .i64 a4, .int .i64 a5, .int .i64 a6] 23 (0, 0)) BK2.out hb); have GE4 := ak_ ((by rw [hg]; exact (Nat.le_trans (two_le HV.out) (below_size HB.out))) : w.heap.size ≤ g4); have NE24 := ak_ ((by rw [hg]; exact Nat.ne_of_lt (blk_lt (g := g2) (o := .cells #[.int .i64 a0, .int .i64 a1, .int .i64 a2, .int .i64 a3, .int .i64 a4, .int .i64 a5, .int .i64 a6] 23 (0, 0)) BK2.out)) : g2 ≠ g4); clear HB BK2; have HB := n0_; have BK2 := n1_; have BK4 := ak_ hbox; clear n0_ n1_ hb hbox hg; have NO4 := ak_ (show g4 ≠ gO from fun h => by have := GE4.out; have := HLO.out; omega); have NA4 := ak_ (show g4 ≠ gA from fun h => by have := GE4.out; have := HLA.out; omega); have z0_ : w2.cell? ⟨g2, 0, none⟩ = some (.int .i64 a0) := (bc_ BK2.out 0).trans rfl; have z1_ : w2.cell? ⟨g2, 1, none⟩ = some (.int .i64 a1) := (bc_ BK2.out 1).trans rfl; have z2_ : w2.cell? ⟨g2, 2, none⟩ = some (.int .i64 a2) := (bc_ BK2.out 2).trans rfl; have z3_ : w2.cell? ⟨g2, 3, none⟩ = some (.int .i64 a3) := (bc_ BK2.out 3).trans rfl; have z4_ : w2.cell? ⟨g2, 4, none⟩ = some (.int .i64 a4) := (bc_ BK2.out 4).trans rfl; have z5_ : w2.cell? ⟨g2, 5, none⟩ = some (.int .i64 a5) := (bc_ BK2.out 5).trans rfl; have z6_ : w2.cell? ⟨g2, 6, none⟩ = some (.int .i64 a6) := (bc_ BK2.out 6).trans rfl) | ((with_reducible refine gate_callee (f := 35) rfl ?_); refine goesL_ (some 14) rfl rfl Try.func35 (by kernel_rfl) rfl #[.agg #[.int .i64 a0, .int .i64 a1, .int .i64 a2, .int .i64 a3, .int .i64 a4, .int .i64 a5, .int .i64 a6]] rfl (by (try simp only [List.map_toArray, List.map_cons, List.map_nil]); first | done | rfl) ?_; (with_reducible refine (geom_Check.calls a0 a1 a2 a3 a4 a5 a6 e0 _ HCHK.out).mono ?_); rintro e w3 ⟨rfl, hb⟩; refine ⟨_, rfl, ?_⟩; clear z0_ z1_ z2_ z3_ z4_ z5_ z6_; have n0_ := ak_ (below_step HB.out hb); have n1_ := ak_ (blk_below (g := g2) (o := .cells #[.int .i64 a0, .int .i64 a1, .int .i64 a2, .int .i64 a3, .int .i64 a4, .int .i64 a5, .int .i64 a6] 23 (0, 0)) BK2.out hb); have n2_ := ak_ (blk_below (g := g4) (o := .cells #[.slice none 0 0, .int .i64 0, .int .i64 0, .int .i64 0, .int .i64 0, .int .i64 0] 42 (0, 0)) BK4.out hb); clear HB BK2 BK4; have HB := n0_; have BK2 := n1_; have BK4 := n2_; clear n0_ n1_ n2_ hb; have y0_ := bc_ BK4.out 0; have yf0_ := bf_ BK4.out 0; have y1_ := bc_ BK4.out 1; have yf1_ := bf_ BK4.out 1; have y2_ := bc_ BK4.out 2; have yf2_ := bf_ BK4.out 2; have y3_ := bc_ BK4.out 3; have yf3_ := bf_ BK4.out 3; have y4_ := bc_ BK4.out 4; have yf4_ := bf_ BK4.out 4; have y5_ := bc_ BK4.out 5; have yf5_ := bf_ BK4.out 5))
 obtain ⟨rfl, rfl, rfl, rfl, rfl, rfl, rfl, rfl, rfl, rfl⟩ : [] = r1 ∧ 0 = r2 ∧ 0 = r3 ∧ 0 = r4 ∧ 0 = r5 ∧ 0 = r6 ∧ 0 = r7 ∧ 2 = r8 ∧ true = rb ∧ 0 = rn := by simpa only [Prod.mk.injEq, and_assoc] using HE.out
 refine bodyPost_ret (results_list (rs := [.cell 4 42, .tmp 5, .tmp 6]) rfl (by simp) (.cell g4 42 #[.slice none 0 0, .int .i64 0, .int .i64 0, .int .i64 0, .int .i64 0, .int .i64 0] (0, 0) _ rfl (ladder_Climb_put6 BK4.out _ _ _ _ _ _) Try.underlying42 rfl (by kernel_rfl) (.tmp (.tmp .nil)))) rfl ?_
 exact ⟨_, rfl, Kd.R_nil _ _ _ _ _, _, HV, ladder_Climb_below6 HB.out (two_ge HV.out GE4.out) _ _ _ _ _ _⟩
end Go.Proofs.Ytmehbabchakkpaa.QLadderWalks
namespace Go.Proofs.Ytmehbabchakkpaa.Mono
open Go.RowKit YtmehbabchakkpaaW.PrintWords YtmehbabchakkpaaW.PrintLast
set_option linter.unusedVariables false
def Ext (w w' : World) : Prop := Below w.heap.size w w'
theorem Ext.below {w w' : World} (h : Ext w w') : Below w.heap.size w w' := h
theorem Ext.refl (w : World) : Ext w w := Below.refl _ _
theorem Ext.trans {a b c : World} (h : Ext a b) (k : Ext b c) : Ext a c := below_step h k
theorem Ext.of {w w' : World} (h : Below w.heap.size w w') : Ext w w' := h
theorem c_ext {α : Type} {d : Kd α} {w w' : World} {A : Option Addr} {n : Nat} {xs : List α} (h : Kd.C d w A n xs) (e : Ext w w') : Kd.C d w' A n xs := Kd.C_below h e
theorem Ext.drew (w : World) : Ext w w.drew := below_drew1 (Below.refl _ _)
def Stable (f : Value → World → Prop) : Prop := ∀ v w w', f v w → Ext w w' → f v w'
def Is (x : Value) : Value → World → Prop := fun v _ => v = x
theorem stable_is (x : Value) : Stable (Is x) := fun _ _ _ h _ => h
theorem cell_ext {w w' : World} {a : Addr} {v : Value} (h : w.cell? a = some v) (e : Ext w w') : w'.cell? a = some v := pw_cell_below e h
def dstAt (ops : Array Oper) (i : Nat) : Option Tmp := (ops[i]?).bind (·.dst)
def edges (ops : Array Oper) (i : Nat) : List Nat := match ops[i]? with
 | some o => (o.after.toList.filter (fun e => Region.binds .any e)).map (·.on)
 | none => []
def reach (ops : Array Oper) : Nat → Nat → Nat → Bool
 | 0, _, _ => false
 | n + 1, i, j => (edges ops i).any fun e => e == j || reach ops n e j
def okOps (ops : Array Oper) : Bool :=
 (List.range ops.size).all fun i => ((edges ops i).all fun e => decide (e < i)) && (List.range ops.size).all fun j => i == j || dstAt ops i == none || dstAt ops i != dstAt ops j
section
variable {P : Program} {ops : Array Oper} {Q : Exit → Act → World → Prop}
structure Fr (ops : Array Oper) (ts : List Tmp) (a0 a : Act) : Prop where
 size : a.tmps.size = a0.tmps.size
 defers : a.defers = a0.defers
 off : ∀ t, ts.contains t = false → a.tmps[t]? = a0.tmps[t]?
def Known (ops : Array Oper) (F : Nat → Value → World → Prop) (i : Nat) (a : Act) (w : World) : Prop :=
 ∀ j t, reach ops ops.size i j = true → dstAt ops j = some t → ∃ v, a.tmps[t]? = some v ∧ F j v w
def MStep (P : Program) (ops : Array Oper) (Q : Exit → Act → World → Prop) (ts : List Tmp) (a0 : Act) (w0 : World) (F : Nat → Value → World → Prop) (i : Nat) : Prop :=
 ∀ (a : Act) (w : World), Ext w0 w → Fr ops ts a0 a → Known ops F i a w →
  ∃ oi, ops[i]? = some oi ∧ ∀ K : Act → World → Prop, (∀ v w', F i v w' → Ext w w' → K (a.put oi.dst v) w') → if Region.wanted oi (yielded ops a.tmps) = true then Oper.wp P oi a w K Q else K (a.put oi.dst undef) w
theorem msteps_nil {ts : List Tmp} {a0 : Act} {w0 : World} {F : Nat → Value → World → Prop} : ∀ i ∈ ([] : List Nat), MStep P ops Q ts a0 w0 F i := fun _ h => by cases h
theorem msteps_cons {ts : List Tmp} {a0 : Act} {w0 : World} {F : Nat → Value → World → Prop} {i : Nat} {rs : List Nat} (h : MStep P ops Q ts a0 w0 F i) (hs : ∀ j ∈ rs, MStep P ops Q ts a0 w0 F j) : ∀ j ∈ i :: rs, MStep P ops Q ts a0 w0 F j := fun j hj => by
 rcases List.mem_cons.1 hj with rfl | hj
 ·exact h
 ·exact hs j hj
theorem edges_lt (h : okOps ops = true) {i j : Nat} (hj : j ∈ edges ops i) : j < i := by
 by_cases hi : i < ops.size
 ·have h1 := List.all_eq_true.1 h i (List.mem_range.2 hi)
  rw [Bool.and_eq_true] at h1
  simpa using List.all_eq_true.1 h1.1 j hj
 ·unfold edges at hj
  rw [Array.getElem?_eq_none (by omega)] at hj
  cases hj
theorem dst_ne (h : okOps ops = true) {i j : Nat} {t : Tmp} (hi : dstAt ops i = some t) (hj : dstAt ops j = some t) : i = j := by
 have lt : ∀ {i : Nat}, dstAt ops i = some t → i < ops.size := fun {i} hi => by
  by_cases hlt : i < ops.size
  ·exact hlt
  ·unfold dstAt at hi
   rw [Array.getElem?_eq_none (by omega)] at hi
   cases hi
 have h1 := List.all_eq_true.1 h i (List.mem_range.2 (lt hi))
 rw [Bool.and_eq_true] at h1
 have h2 := List.all_eq_true.1 h1.2 j (List.mem_range.2 (lt hj))
 rw [hi, hj] at h2
 simpa using h2
theorem ready_edges {listed : Array Bool} (hsz : listed.size = ops.size) {i : Nat} (hok : okOps ops = true) : i ∈ Region.ready .any ops listed ↔ i < ops.size ∧ listed.getD i true = false ∧ ∀ e ∈ edges ops i, listed.getD e true = true := by
 rw [mem_ready]
 constructor
 ·rintro ⟨h1, o, ho, h2⟩
  have hi := (Array.getElem?_eq_some_iff.1 ho).1
  refine ⟨hi, h1, fun e he => ?_⟩
  have hlt := edges_lt hok he
  unfold edges at he
  rw [ho] at he
  obtain ⟨x, hx, rfl⟩ := List.mem_map.1 he
  obtain ⟨hx1, hx2⟩ := List.mem_filter.1 hx
  have := h2 x (by simpa using hx1) hx2
  rw [Array.getD_eq_getD_getElem?] at this ⊢
  rw [Array.getElem?_eq_getElem (by omega)] at this ⊢
  exact this
 ·rintro ⟨hi, h1, h2⟩
  refine ⟨h1, ops[i], Array.getElem?_eq_getElem hi, fun e he hb => ?_⟩
  have hm : e.on ∈ edges ops i := by
   unfold edges
   rw [Array.getElem?_eq_getElem hi]
   exact List.mem_map.2 ⟨e, List.mem_filter.2 ⟨by simpa using he, hb⟩, rfl⟩
  have hlt := edges_lt hok hm
  have := h2 _ hm
  rw [Array.getD_eq_getD_getElem?] at this ⊢
  rw [Array.getElem?_eq_getElem (by omega)] at this ⊢
  exact this
def putT (a : Act) (ts : List Tmp) (val : Tmp → Value) : Act := ts.foldl (fun a t => a.put (some t) (val t)) a
theorem putT_spec (val : Tmp → Value) : ∀ (ts : List Tmp) (a : Act), (putT a ts val).tmps.size = a.tmps.size ∧ (putT a ts val).defers = a.defers ∧ (∀ t, t ∉ ts → (putT a ts val).tmps[t]? = a.tmps[t]?) ∧ (∀ t, t ∈ ts → t < a.tmps.size → (putT a ts val).tmps[t]? = some (val t))
 | [], a => ⟨rfl, rfl, fun _ _ => rfl, fun _ h => by cases h⟩
 | s :: r, a => by
  obtain ⟨h1, h2, h3, h4⟩ := putT_spec val r (a.put (some s) (val s))
  have hsz : (a.put (some s) (val s)).tmps.size = a.tmps.size := by simp [Act.put]
  refine ⟨h1.trans hsz, h2.trans rfl, fun t ht => ?_, fun t ht hlt => ?_⟩
  ·rw [List.mem_cons, not_or] at ht
   refine (h3 t ht.2).trans ?_
   simp [Act.put, Array.getElem?_setIfInBounds_ne (Ne.symm ht.1)]
  ·by_cases htr : t ∈ r
   ·exact h4 t htr (by rw [hsz]; exact hlt)
   ·rcases List.mem_cons.1 ht with rfl | h
    ·refine (h3 t htr).trans ?_
     simp [Act.put, hlt]
    ·exact absurd h htr
theorem reach_listed {listed : Array Bool} (hok : okOps ops = true) (shut : ∀ i j, i < ops.size → listed.getD i true = true → j ∈ edges ops i → listed.getD j true = true) : ∀ (n i j : Nat), i < ops.size → (∀ e ∈ edges ops i, listed.getD e true = true) → reach ops n i j = true → j < ops.size ∧ listed.getD j true = true := by
 intro n
 induction n with
 | zero => intro i j _ _ h; cases h
 | succ n ih =>
  intro i j hi he h
  unfold reach at h
  obtain ⟨e, hem, h⟩ := List.any_eq_true.1 h
  have hlt := edges_lt hok hem
  have hl := he e hem
  rw [Bool.or_eq_true] at h
  rcases h with h | h
  ·obtain rfl := beq_iff_eq.1 h
   exact ⟨by omega, hl⟩
  ·exact ih e j (by omega) (fun x hx => shut e x (by omega) hl hx) h
end
end Go.Proofs.Ytmehbabchakkpaa.Mono
namespace Go.Proofs.Ytmehbabchakkpaa.Mono
open Go.RowKit YtmehbabchakkpaaW.PrintWords YtmehbabchakkpaaW.PrintLast
set_option linter.unusedVariables false
section
variable {P : Program} {ops : Array Oper} {Q : Exit → Act → World → Prop}
def PStep (P : Program) (ops : Array Oper) (Q : Exit → Act → World → Prop) (ts : List Tmp) (a0 : Act) (w0 : World) (F : Nat → Value → World → Prop) (i : Nat) : Prop :=
 ∀ (a : Act) (w wf : World), Ext w0 wf → Fr ops ts a0 a → Known ops F i a wf →
  ∃ oi, ops[i]? = some oi ∧ ∀ K : Act → World → Prop, (∀ v, F i v wf → K (a.put oi.dst v) w) → if Region.wanted oi (yielded ops a.tmps) = true then Oper.wp P oi a w K Q else K (a.put oi.dst undef) w
theorem PStep.m {ts : List Tmp} {a0 : Act} {w0 : World} {F : Nat → Value → World → Prop} {i : Nat} (h : PStep P ops Q ts a0 w0 F i) : MStep P ops Q ts a0 w0 F i := fun a w hx hfr hk => by
 obtain ⟨oi, h1, h2⟩ := h a w w hx hfr hk
 exact ⟨oi, h1, fun K hK => h2 K fun v hv => hK v w hv (Ext.refl _)⟩
def SStep (P : Program) (ops : Array Oper) (Q : Exit → Act → World → Prop) (ts : List Tmp) (a0 : Act) (w0 : World) (F : Nat → Value → World → Prop) (ST : (Tmp → Value) → World → World → Prop) (s : Nat) : Prop :=
 ∀ (a : Act) (w : World), Ext w0 w → Fr ops ts a0 a → Known ops F s a w →
  ∃ oi, ops[s]? = some oi ∧ ∀ K : Act → World → Prop, (∀ w2, ST (fun t => a.tmps.getD t undef) w w2 → K a w2) → if Region.wanted oi (yielded ops a.tmps) = true then Oper.wp P oi a w K Q else K (a.put oi.dst undef) w
structure InvS (ops : Array Oper) (ts : List Tmp) (s : Nat) (a0 : Act) (w0 : World) (F : Nat → Value → World → Prop) (ST : (Tmp → Value) → World → World → Prop) (listed : Array Bool) (a : Act) (w : World) : Prop where
 sz : listed.size = ops.size
 fr : Fr ops ts a0 a
 shut : ∀ i j, i < ops.size → listed.getD i true = true → j ∈ edges ops i → listed.getD j true = true
 st : ∃ wf, Ext w0 wf ∧ (∀ i t, i < ops.size → listed.getD i true = true → dstAt ops i = some t → ∃ v, a.tmps[t]? = some v ∧ F i v wf) ∧ ((listed.getD s true = false ∧ wf = w) ∨ (listed.getD s true = true ∧ ST (fun t => a.tmps.getD t undef) wf w))
theorem monoS_all {ts : List Tmp} {s : Nat} (hsz : s < ops.size) (hsd : dstAt ops s = none) (hts : ∀ i t, dstAt ops i = some t → ts.contains t = true) {a0 : Act} {w0 : World} {F : Nat → Value → World → Prop} {ST : (Tmp → Value) → World → World → Prop} (hok : okOps ops = true) (hF : ∀ i, Stable (F i))
  (hcong : ∀ (u v : Tmp → Value) (w w2 : World), (∀ j t, reach ops ops.size s j = true → dstAt ops j = some t → u t = v t) → ST u w w2 → ST v w w2)
  (hs : ∀ i ∈ List.range s, MStep P ops Q ts a0 w0 F i) (late : List Nat) (hlate : ∀ i, i < s → late.contains i = true ∨ reach ops ops.size s i = true) (hp : ∀ i ∈ late, PStep P ops Q ts a0 w0 F i) (hafter : ∀ i, s < i → i < ops.size → reach ops ops.size i s = true ∧ late.contains i = true)
  (hst : SStep P ops Q ts a0 w0 F ST s) (hdst : ∀ i t, dstAt ops i = some t → t < a0.tmps.size)
  (hend : ∀ a wf w, Ext w0 wf → Fr ops ts a0 a → (∀ i t, dstAt ops i = some t → ∃ v, a.tmps[t]? = some v ∧ F i v wf) → ST (fun t => a.tmps.getD t undef) wf w → Q .normal a w) :
  ∀ (fuel : Nat) (listed : Array Bool) (a : Act) (w : World), listed.toList.count false = fuel → InvS ops ts s a0 w0 F ST listed a w → wpAny P .any ops Q fuel listed a w := by
 have fin : ∀ (listed : Array Bool) (a : Act) (w : World), InvS ops ts s a0 w0 F ST listed a w → (∀ i, i < ops.size → listed.getD i true = true) → Q .normal a w := by
  intro listed a w hI hall
  obtain ⟨wf, hx, hv, hc⟩ := hI.st
  rcases hc with ⟨h1, _⟩ | ⟨_, h2⟩
  ·rw [hall s hsz] at h1
   cases h1
  ·refine hend a wf w hx hI.fr (fun i t ht => ?_) h2
   by_cases hi : i < ops.size
   ·exact hv i t hi (hall i hi) ht
   ·unfold dstAt at ht
    rw [Array.getElem?_eq_none (by omega)] at ht
    cases ht
 have none_ : ∀ (listed : Array Bool), listed.size = ops.size → Region.ready .any ops listed = [] → ∀ i, i < ops.size → listed.getD i true = true := by
  intro listed hsz hr i
  induction i using Nat.strongRecOn with
  | _ i ih =>
   intro hi
   cases hl : listed.getD i true with
   | true => rfl
   | false =>
    have : i ∈ Region.ready .any ops listed := (ready_edges hsz hok).2 ⟨hi, hl, fun e he => ih e (edges_lt hok he) (by have := edges_lt hok he; omega)⟩
    rw [hr] at this
    cases this
 intro fuel
 induction fuel with
 | zero =>
  intro listed a w hc hI
  have hall : ∀ i, i < ops.size → listed.getD i true = true := by
   intro i hi
   have hm := List.count_eq_zero.1 hc
   rw [Array.getD_eq_getD_getElem?, Array.getElem?_eq_getElem (by rw [hI.sz]; exact hi)]
   cases hb : listed[i]'(by rw [hI.sz]; exact hi) with
   | true => rfl
   | false => exact absurd (by rw [← hb]; exact Array.getElem_mem_toList _) hm
  refine ⟨?_, fin listed a w hI hall⟩
  refine List.eq_nil_iff_forall_not_mem.2 (fun i hi => ?_)
  obtain ⟨h1, h2, _⟩ := (ready_edges hI.sz hok).1 hi
  rw [hall i h1] at h2
  cases h2
 | succ fuel ih =>
  intro listed a w hc hI
  refine ⟨fun hr => fin listed a w hI (none_ listed hI.sz hr), fun i hi => ?_⟩
  obtain ⟨hlt, hl, he⟩ := (ready_edges hI.sz hok).1 hi
  have hdi : ∀ oi, ops[i]? = some oi → dstAt ops i = oi.dst := fun oi hoi => by unfold dstAt; rw [hoi]; rfl
  have hli : listed[i]'(by rw [hI.sz]; exact hlt) = false := by
   rw [Array.getD_eq_getD_getElem?, Array.getElem?_eq_getElem (by rw [hI.sz]; exact hlt)] at hl
   exact hl
  have hcnt : (listed.setIfInBounds i true).toList.count false = fuel := by
   rw [Array.toList_setIfInBounds, List.count_set (h := by rw [Array.length_toList, hI.sz]; exact hlt)]
   have : listed.toList[i]'(by rw [Array.length_toList, hI.sz]; exact hlt) = false := by rw [Array.getElem_toList]; exact hli
   rw [this, hc]
   simp
  have hshut : ∀ j e, j < ops.size → (listed.setIfInBounds i true).getD j true = true → e ∈ edges ops j → (listed.setIfInBounds i true).getD e true = true := by
   intro j e hj hlj hem
   by_cases hej : i = e
   ·subst hej
    rw [Array.getD_eq_getD_getElem?]
    simp [hI.sz, hlt]
   ·rw [getD_set_ne true hej]
    by_cases hij : i = j
    ·subst hij
     exact he e hem
    ·rw [getD_set_ne true hij] at hlj
     exact hI.shut j e hj hlj hem
  have hfrm : ∀ (oi : Oper) (v : Value), ops[i]? = some oi → Fr ops ts a0 (a.put oi.dst v) := by
   intro oi v hoi
   refine ⟨?_, ?_, ?_⟩
   ·rw [← hI.fr.size]
    unfold Act.put
    split <;> simp
   ·rw [← hI.fr.defers]
    unfold Act.put
    split <;> rfl
   ·intro t ht
    rw [← hI.fr.off t ht]
    cases hd : oi.dst with
    | none => rfl
    | some d =>
     have hne : d ≠ t := fun e => by have := hts i t (by rw [hdi oi hoi, hd, e]); rw [ht] at this; cases this
     simp [Act.put, Array.getElem?_setIfInBounds_ne hne]
  have hgo : ∀ (oi : Oper) (v : Value) (wf wf' : World), ops[i]? = some oi → (∀ j t, j < ops.size → listed.getD j true = true → dstAt ops j = some t → ∃ v, a.tmps[t]? = some v ∧ F j v wf) → F i v wf' → Ext wf wf' → ∀ j t, j < ops.size → (listed.setIfInBounds i true).getD j true = true → dstAt ops j = some t → ∃ v', (a.put oi.dst v).tmps[t]? = some v' ∧ F j v' wf' := by
   intro oi v wf wf' hoi hval hv hx j t hj hlj htj
   by_cases hij : i = j
   ·subst hij
    rw [hdi oi hoi] at htj
    refine ⟨v, ?_, hv⟩
    have := hdst i t (by rw [hdi oi hoi]; exact htj)
    rw [htj]
    simp [Act.put, hI.fr.size, this]
   ·have hlj' : listed.getD j true = true := by rw [getD_set_ne true hij] at hlj; exact hlj
    obtain ⟨u, hu, hfu⟩ := hval j t hj hlj' htj
    refine ⟨u, ?_, hF j u wf wf' hfu hx⟩
    cases hd : oi.dst with
    | none => exact hu
    | some d =>
     have hne : d ≠ t := fun e => hij (dst_ne hok (by rw [hdi oi hoi, hd, e]) htj)
     simpa [Act.put, Array.getElem?_setIfInBounds_ne hne] using hu
  obtain ⟨wf, hx, hval, hc2⟩ := hI.st
  have hknown : Known ops F i a wf := fun j t hr ht => by
   obtain ⟨h1, h2⟩ := reach_listed hok hI.shut _ i j hlt he hr
   exact hval j t h1 h2 ht
  have hsz' : (listed.setIfInBounds i true).size = ops.size := by rw [Array.size_setIfInBounds]; exact hI.sz
  by_cases his : i = s
  ·-- the store
   subst his
   rcases hc2 with ⟨h1, rfl⟩ | ⟨h1, _⟩
   ·obtain ⟨oi, hoi, hK⟩ := hst a wf hx hI.fr hknown
    have hnone : oi.dst = none := by rw [← hdi oi hoi]; exact hsd
    refine wpOp_step hoi (fun K' hK' => hK K' (fun w2 hw2 => ?_))
    have h3 := hK' a w2
    refine h3 (ih _ _ _ hcnt ⟨hsz', hI.fr, hshut, wf, hx, ?_, Or.inr ⟨?_, hw2⟩⟩)
    ·intro j t hj hlj htj
     by_cases hij : i = j
     ·subst hij
      rw [hsd] at htj
      cases htj
     ·rw [getD_set_ne true hij] at hlj
      exact hval j t hj hlj htj
    ·rw [Array.getD_eq_getD_getElem?]
     simp [hI.sz, hlt]
   ·rw [h1] at hl
    cases hl
  ·rcases hc2 with ⟨h1, rfl⟩ | ⟨h1, h2⟩
   ·-- ahead of the store
    have hlt2 : i < s := by
     rcases Nat.lt_or_ge i s with h | h
     ·exact h
     ·obtain ⟨hr, _⟩ := hafter i (by omega) hlt
      have := (reach_listed hok hI.shut _ i s hlt he hr).2
      rw [h1] at this
      cases this
    obtain ⟨oi, hoi, hK⟩ := hs i (List.mem_range.2 hlt2) a wf hx hI.fr hknown
    refine wpOp_step hoi (fun K' hK' => hK K' (fun v w' hv hx' => hK' _ _ ?_))
    refine ih _ _ _ hcnt ⟨hsz', hfrm oi v hoi, hshut, w', hx.trans hx', hgo oi v wf w' hoi hval hv hx', Or.inl ⟨?_, rfl⟩⟩
    rw [getD_set_ne true his]
    exact h1
   ·-- behind it
    have hlt2 : late.contains i = true := by
     rcases Nat.lt_or_ge i s with h | h
     ·rcases hlate i h with h3 | h3
      ·exact h3
      ·have := (reach_listed hok hI.shut _ s i hsz (fun e he' => hI.shut s e hsz h1 he') h3).2
       rw [this] at hl
       cases hl
     ·exact (hafter i (by omega) hlt).2
    obtain ⟨oi, hoi, hK⟩ := hp i (List.contains_iff_mem.1 hlt2) a w wf hx hI.fr hknown
    refine wpOp_step hoi (fun K' hK' => hK K' (fun v hv => hK' _ _ ?_))
    refine ih _ _ _ hcnt ⟨hsz', hfrm oi v hoi, hshut, wf, hx, hgo oi v wf wf hoi hval hv (Ext.refl _), Or.inr ⟨?_, ?_⟩⟩
    ·rw [getD_set_ne true his]
     exact h1
    ·refine hcong _ _ _ _ (fun j t hr ht => ?_) h2
     cases hd : oi.dst with
     | none => rfl
     | some d =>
      have hne : d ≠ t := fun e => by
       have hij := dst_ne hok (by rw [hdi oi hoi, hd, e]) ht
       subst hij
       have := (reach_listed hok hI.shut _ s i hsz (fun e he' => hI.shut s e hsz h1 he') hr).2
       rw [this] at hl
       cases hl
      simp only [Array.getD_eq_getD_getElem?]
      simp [Act.put, Array.getElem?_setIfInBounds_ne hne]
theorem psteps_nil {ts : List Tmp} {a0 : Act} {w0 : World} {F : Nat → Value → World → Prop} : ∀ i ∈ ([] : List Nat), PStep P ops Q ts a0 w0 F i := fun _ h => by cases h
theorem psteps_cons {ts : List Tmp} {a0 : Act} {w0 : World} {F : Nat → Value → World → Prop} {i : Nat} {rs : List Nat} (h : PStep P ops Q ts a0 w0 F i) (hs : ∀ j ∈ rs, PStep P ops Q ts a0 w0 F j) : ∀ j ∈ i :: rs, PStep P ops Q ts a0 w0 F j := fun j hj => by
 rcases List.mem_cons.1 hj with rfl | hj
 ·exact h
 ·exact hs j hj
def storeOk (ops : Array Oper) (s : Nat) (early late : List Nat) : Bool :=
 decide (s < ops.size) && dstAt ops s == none && ((List.range s).all fun i => late.contains i || (early.contains i && reach ops ops.size s i)) && (List.range ops.size).all fun i => decide (i ≤ s) || (reach ops ops.size i s && late.contains i)
theorem mono_region_store {id : Nat} {a0 : Act} {w0 : World} (F : Nat → Value → World → Prop) (ST : (Tmp → Value) → World → World → Prop) (s : Nat) (early late : List Nat) (ts : List Tmp) (hm : P.follows .mixedOrders = true) (hok : okOps ops = true) (hso : storeOk ops s early late = true)
  (hts : (ops.toList.filterMap (·.dst) == ts && ts.all fun t => decide (t < a0.tmps.size)) = true) (hF : ∀ i, Stable (F i))
  (hcong : ∀ (u v : Tmp → Value) (w w2 : World), (∀ j t, reach ops ops.size s j = true → dstAt ops j = some t → u t = v t) → ST u w w2 → ST v w w2)
  (hs : ∀ i ∈ early, MStep P ops Q ts a0 w0 F i) (hp : ∀ i ∈ late, PStep P ops Q ts a0 w0 F i) (hst : SStep P ops Q ts a0 w0 F ST s)
  (hend : ∀ (val : Tmp → Value) (wf w : World), Ext w0 wf → (∀ i t, dstAt ops i = some t → F i (val t) wf) → ST val wf w → Q .normal (putT a0 ts val) w) : (Code.region id ops true).wp P Q a0 w0 := by
 rw [Bool.and_eq_true, beq_iff_eq] at hts
 obtain ⟨hts, hlt⟩ := hts
 have hdst : ∀ i t, dstAt ops i = some t → t ∈ ts := by
  intro i t h
  rw [← hts]
  unfold dstAt at h
  cases ho : ops[i]? with
  | none => rw [ho] at h; cases h
  | some o =>
   rw [ho] at h
   exact List.mem_filterMap.2 ⟨o, by have := Array.mem_of_getElem? ho; simpa using this, h⟩
 have hdlt : ∀ i t, dstAt ops i = some t → t < a0.tmps.size := fun i t h => by simpa using List.all_eq_true.1 hlt t (hdst i t h)
 unfold storeOk at hso
 simp only [Bool.and_eq_true, decide_eq_true_eq, beq_iff_eq, List.all_eq_true, List.mem_range, Bool.or_eq_true] at hso
 obtain ⟨⟨⟨hsz, hsd⟩, hl⟩, ha⟩ := hso
 have hp0 : ∀ i ∈ late, PStep P ops Q ts a0 w0.drew F i := fun i hi a w wf hx => hp i hi a w wf ((Ext.drew w0).trans hx)
 refine wp_region_any hm (monoS_all (ts := ts) (s := s) hsz hsd (fun i t h => List.contains_iff_mem.2 (hdst i t h)) (a0 := a0) (w0 := w0.drew) (F := F) (ST := ST) hok hF hcong (fun i hi => ?_) late (fun i hi => ?_) hp0 (fun i h1 h2 => ?_) (fun a w hx => hst a w ((Ext.drew w0).trans hx)) hdlt ?_ _ _ _ _ ?_ ⟨by simp, ⟨rfl, rfl, fun _ _ => rfl⟩, ?_, w0.drew, Ext.refl _, ?_, Or.inl ⟨?_, rfl⟩⟩)
 ·rcases hl i (List.mem_range.1 hi) with h | h
  ·exact (hp0 i (List.contains_iff_mem.1 h)).m
  ·exact fun a w hx => hs i (List.contains_iff_mem.1 h.1) a w ((Ext.drew w0).trans hx)
 ·rcases hl i hi with h | h
  ·exact Or.inl h
  ·exact Or.inr h.2
 ·rcases ha i h2 with h3 | h3
  ·omega
  ·exact h3
 ·intro a wf w hx hfr hv hST
  have key : a = putT a0 ts (fun t => a.tmps.getD t undef) := by
   obtain ⟨h1, h2, h3, h4⟩ := putT_spec (fun t => a.tmps.getD t undef) ts a0
   have ht : a.tmps = (putT a0 ts (fun t => a.tmps.getD t undef)).tmps := by
    refine Array.ext_getElem? (fun t => ?_)
    by_cases hmem : t ∈ ts
    ·have hl : t < a0.tmps.size := by simpa using List.all_eq_true.1 hlt t hmem
     rw [h4 t hmem hl, Array.getD_eq_getD_getElem?]
     rw [Array.getElem?_eq_getElem (by rw [hfr.size]; exact hl)]
     rfl
    ·rw [h3 t hmem]
     refine hfr.off t (by cases h : ts.contains t with | false => rfl | true => exact absurd (List.contains_iff_mem.1 h) hmem)
   have hd : a.defers = (putT a0 ts (fun t => a.tmps.getD t undef)).defers := by rw [h2]; exact hfr.defers
   cases a
   cases hp : putT a0 ts _
   rw [hp] at ht hd
   simp only at ht hd
   rw [ht, hd]
  rw [key]
  refine hend _ wf w ((Ext.drew w0).trans hx) (fun i t h => ?_) hST
  obtain ⟨v, h1, h2⟩ := hv i t h
  rw [Array.getD_eq_getD_getElem?, h1]
  exact h2
 ·simp
 ·intro i j hi h
  rw [Array.getD_eq_getD_getElem?, Array.getElem?_replicate, if_pos hi] at h
  cases h
 ·intro i t hi h
  rw [Array.getD_eq_getD_getElem?, Array.getElem?_replicate, if_pos hi] at h
  cases h
 ·rw [Array.getD_eq_getD_getElem?, Array.getElem?_replicate, if_pos hsz]
  rfl
end
end Go.Proofs.Ytmehbabchakkpaa.Mono
namespace Go.Proofs.Ytmehbabchakkpaa.Box
open Go.RowKit YtmehbabchakkpaaW.PrintWords YtmehbabchakkpaaW.PrintLast Mono
set_option linter.unusedVariables false
structure Put (W W2 : World) (g : Nat) (T : TypeId) (cs : Array Value) : Prop where
 here : W2.heap[g]? = some (.cells cs T (0, 0))
 far : ∀ k, k ≠ g → W2.heap[k]? = W.heap[k]?
 ext : ∀ w0 : World, w0.heap.size ≤ g → Ext w0 W → Ext w0 W2
def setAll (old : Array Value) : Nat → List Value → Array Value
 | _, [] => old
 | o, v :: r => setAll (old.setIfInBounds o v) (o + 1) r
theorem setAll_get (old : Array Value) : ∀ (vs : List Value) (o i : Nat), (setAll old o vs)[i]? = if i < old.size ∧ o ≤ i ∧ i < o + vs.length then vs[i - o]? else old[i]?
 | [], o, i => by
  rw [if_neg (by simp; try omega)]
  rfl
 | v :: r, o, i => by
  rw [setAll, setAll_get _ r (o + 1) i, Array.size_setIfInBounds, List.length_cons]
  by_cases h : i < old.size
  ·by_cases h1 : o + 1 ≤ i ∧ i < o + 1 + r.length
   ·rw [if_pos ⟨h, h1⟩, if_pos ⟨h, by omega, by omega⟩, show i - o = (i - (o + 1)) + 1 by omega, List.getElem?_cons_succ]
   ·rw [if_neg (fun z => h1 z.2)]
    by_cases h2 : i = o
    ·subst h2
     rw [if_pos ⟨h, Nat.le_refl _, by omega⟩, Nat.sub_self, List.getElem?_cons_zero]
     simp [h]
    ·rw [if_neg (by omega), Array.getElem?_setIfInBounds_ne (Ne.symm h2)]
  ·rw [if_neg (fun z => h z.1), if_neg (fun z => h z.1), Array.getElem?_eq_none (by rw [Array.size_setIfInBounds]; omega), Array.getElem?_eq_none (by omega)]
theorem setAll_all {old cs : Array Value} (h : cs.size = old.size) : setAll old 0 cs.toList = cs := by
 refine Array.ext_getElem? (fun i => ?_)
 rw [setAll_get]
 by_cases hi : i < old.size
 ·rw [if_pos ⟨hi, Nat.zero_le _, by rw [Nat.zero_add, Array.length_toList]; omega⟩, Nat.sub_zero, Array.getElem?_toList]
 ·rw [if_neg (fun z => hi z.1), Array.getElem?_eq_none (by omega), Array.getElem?_eq_none (by omega)]
theorem heap_cells (g : Nat) (T : TypeId) : ∀ (vs : List Value) (o : Nat) (W : World) (old : Array Value), W.heap[g]? = some (.cells old T (0, 0)) → (W.setCells g o vs).heap[g]? = some (.cells (setAll old o vs) T (0, 0))
 | [], _, _, _, h => h
 | v :: r, o, W, old, h => heap_cells g T r (o + 1) _ _ (blk_set h o v)
theorem heap_cells_far (g k : Nat) (hk : k ≠ g) : ∀ (vs : List Value) (o : Nat) (W : World), (W.setCells g o vs).heap[k]? = W.heap[k]?
 | [], _, _ => rfl
 | v :: r, o, W => (heap_cells_far g k hk r (o + 1) _).trans (Below.heap_setCell W _ _ k hk)
theorem ext_cells {w0 : World} {g : Nat} (hg : w0.heap.size ≤ g) : ∀ (vs : List Value) (o : Nat) (W : World), Ext w0 W → Ext w0 (W.setCells g o vs)
 | [], _, _, h => h
 | v :: r, o, W, h => ext_cells hg r (o + 1) _ (Below.setCell h hg _)
theorem put_cells {W : World} {g : Nat} {T : TypeId} {old cs : Array Value} (h : W.heap[g]? = some (.cells old T (0, 0))) (hn : cs.size = old.size) : Put W (W.setCells g 0 cs.toList) g T cs :=
 ⟨by rw [heap_cells g T _ _ _ _ h, setAll_all hn], fun k hk => heap_cells_far g k hk _ _ _, fun w0 h0 hx => ext_cells h0 _ _ _ hx⟩
theorem there_of {W : World} {g : Nat} {T : TypeId} {old : Array Value} (h : W.heap[g]? = some (.cells old T (0, 0))) {n : Nat} (hn : n = old.size) : W.there g 0 n := fun j hj => by
 rw [Nat.zero_add, blk_cell h j, blk_frozen h j]
 exact ⟨by rw [Array.getElem?_eq_getElem (by omega)]; rfl, rfl⟩
theorem r_put {α : Type} {d : Kd α} {e : TypeId} {W W2 : World} {base : Nat} {ok : Nat → Prop} {v : Value} {xs : List α} {g : Nat} {T : TypeId} {cs cs' : Array Value} (h : d.R e W base ok v xs) (hb : W.heap[g]? = some (.cells cs T (0, 0))) (hT : ∀ q ∈ e :: d.E, q ≠ T) (hp : Put W W2 g T cs') : d.R e W2 base ok v xs :=
 Kd.R_mono (Kd.R_move (Kd.R_bound h) (fun k hk => hp.far k (by
  rintro rfl
  obtain ⟨_, _, _, q, hq, cells, hc⟩ := hk
  rw [hb] at hc
  cases hc
  exact hT _ hq rfl))) (fun k hk => hk.1)
theorem blk_ext {W W2 : World} {g : Nat} {o : Obj} (h : W.heap[g]? = some o) (e : Ext W W2) : W2.heap[g]? = some o := blk_below h e
section
variable {P : Program} {ops : Array Oper} {rest : List Oper} {o : Oper} {a : Act} {Q : Exit → Act → World → Prop}
theorem store_box {W : World} (hgd : o.guard = none) {ty : TypeId} {p v : Tmp} (ho : o.op = .store ty (.tmp p) (.tmp v)) (hd : o.dst = none) (g : Nat) (cs : Array Value) (hx : a.eval (.tmp p) = .pointer (some ⟨g, 0, none⟩)) (hy : a.eval (.tmp v) = .agg cs)
  {T : TypeId} {old : Array Value} (hb : W.heap[g]? = some (.cells old T (0, 0))) (hn : cs.size = old.size) (hi : (P.info? ty).map (·.size) = some cs.size) (h1 : cs.toList.all (·.oneCell') = true)
  (h : ∀ W2, Put W W2 g T cs → wpList P ops Q rest a W2) : wpList P ops Q (o :: rest) a W := by
 refine wpList_store_mid hgd ty _ _ ho g 0 cs hx hy (there_of hb hn) hi (Array.all_toList.symm.trans h1) ?_
 rw [hd]
 exact h _ (put_cells hb hn)
theorem load_box {W : World} (hgd : o.guard = none) {ty : TypeId} {p : Tmp} (ho : o.op = .load ty (.tmp p)) (g : Nat) (hx : a.eval (.tmp p) = .pointer (some ⟨g, 0, none⟩)) {T : TypeId} {cs : Array Value} (hb : W.heap[g]? = some (.cells cs T (0, 0)))
  {d : TypeDesc} (hu : P.underlying ty = some d) (hdd : (match d with | .struct _ | .array _ _ => true | _ => false) = true) (hi : (P.info? ty).map (·.size) = some cs.size) (h : wpList P ops Q rest (a.put o.dst (.agg cs)) W) : wpList P ops Q (o :: rest) a W :=
 wpList_load_row hgd ty _ ho g hx T cs (0, 0) d hb hu hdd hi h
end
section
variable {P : Program} {ops : Array Oper} {Q : Exit → Act → World → Prop}
def AllocF (w0 : World) (T : TypeId) (cs : Array Value) : Value → World → Prop := fun v w => ∃ g, v = .pointer (some ⟨g, 0, none⟩) ∧ w0.heap.size ≤ g ∧ w.heap[g]? = some (.cells cs T (0, 0))
theorem stable_alloc (w0 : World) (T : TypeId) (cs : Array Value) : Stable (AllocF w0 T cs) := fun _ _ _ ⟨g, h1, h2, h3⟩ e => ⟨g, h1, h2, blk_ext h3 e⟩
def RowR {α : Type} (d : Kd α) (e : TypeId) (base : Nat) (xs : List α) (f : Value → Value) : Value → World → Prop := fun v w => ∃ u, v = f u ∧ d.R e w base (fun _ => True) u xs
theorem stable_rowR {α : Type} (d : Kd α) (e : TypeId) (base : Nat) (xs : List α) (f : Value → Value) : Stable (RowR d e base xs f) := fun _ _ _ ⟨u, h1, h2⟩ x => ⟨u, h1, Kd.R_below h2 x⟩
theorem alloc_step {ts : List Tmp} {a0 : Act} {w0 : World} {F : Nat → Value → World → Prop} {i : Nat} {oi : Oper} (hoi : ops[i]? = some oi) (hg : oi.guard = none) {T : TypeId} {cs : Array Value} (hF : F i = AllocF w0 T cs)
  (hrun : ∀ (b : Act) (W : World), (execOp b.eval oi).run P W = .ok (.value (.pointer (some ⟨W.heap.size, 0, none⟩))) (W.alloc (.cells cs T (0, 0)))) : MStep P ops Q ts a0 w0 F i := fun a w hx hfr hk => by
 refine ⟨oi, hoi, fun K hK => ?_⟩
 refine value_ (w1 := w.alloc (.cells cs T (0, 0))) (by unfold Region.wanted; rw [hg]) rfl (hrun a w) (hK _ _ ?_ (Ext.of (below_alloc (Below.refl _ _) _)))
 rw [hF]
 exact ⟨_, rfl, hx.size, blk_new w _⟩
def StoreB (p v : Tmp) (T : TypeId) (old : Array Value) : (Tmp → Value) → World → World → Prop := fun val w w2 => ∃ g cs, val p = .pointer (some ⟨g, 0, none⟩) ∧ val v = .agg cs ∧ w.heap[g]? = some (.cells old T (0, 0)) ∧ Put w w2 g T cs
theorem storeB_cong {s p v ip iv : Nat} {T : TypeId} {old : Array Value} (h1 : reach ops ops.size s ip = true) (h2 : dstAt ops ip = some p) (h3 : reach ops ops.size s iv = true) (h4 : dstAt ops iv = some v) :
  ∀ (u u' : Tmp → Value) (w w2 : World), (∀ j t, reach ops ops.size s j = true → dstAt ops j = some t → u t = u' t) → StoreB p v T old u w w2 → StoreB p v T old u' w w2 := fun u u' w w2 h => by
 rintro ⟨g, cs, e1, e2, e3, e4⟩
 exact ⟨g, cs, (h ip p h1 h2).symm.trans e1, (h iv v h3 h4).symm.trans e2, e3, e4⟩
theorem store_step {ts : List Tmp} {a0 : Act} {w0 : World} {F : Nat → Value → World → Prop} {s ip iv : Nat} {p v : Tmp} {oi : Oper} (hoi : ops[s]? = some oi) (hg : oi.guard = none) (hd : oi.dst = none) {T : TypeId} {old : Array Value} (ho : oi.op = .store T (.tmp p) (.tmp v))
  (h1 : reach ops ops.size s ip = true) (h2 : dstAt ops ip = some p) (h3 : reach ops ops.size s iv = true) (h4 : dstAt ops iv = some v) (hFp : F ip = AllocF w0 T old)
  (hFv : ∀ x w, F iv x w → ∃ cs, x = .agg cs ∧ cs.size = old.size ∧ cs.toList.all (·.oneCell') = true) (hi : (P.info? T).map (·.size) = some old.size) : SStep P ops Q ts a0 w0 F (StoreB p v T old) s := fun a w hx hfr hk => by
 refine ⟨oi, hoi, fun K hK => ?_⟩
 obtain ⟨x, e1, f1⟩ := hk ip p h1 h2
 rw [hFp] at f1
 obtain ⟨g, rfl, hge, hb⟩ := f1
 obtain ⟨y, e2, f2⟩ := hk iv v h3 h4
 obtain ⟨cs, rfl, hn, hc⟩ := hFv y w f2
 have ep : a.eval (.tmp p) = .pointer (some ⟨g, 0, none⟩) := by simp [Act.eval, e1]
 have ev : a.eval (.tmp v) = .agg cs := by simp [Act.eval, e2]
 have hrun : (execOp a.eval oi).run P w = .ok .skip (w.setCells g 0 cs.toList) := by
  unfold execOp
  simp only [ho, ep, ev, Instr.storeAt, Instr.sureAddr, Sem.run_bind, Sem.run_pure, Result.andThen_ok, run_storeVar_mid w g 0 T cs (there_of hb hn) (by rw [hi, hn]) (Array.all_toList.symm.trans hc)]
 have h := skip_ (P := P) (ops := ops) (Q := Q) (K := K) (by unfold Region.wanted; rw [hg]) hd hrun (hK _ ⟨g, cs, by simp [e1], by simp [e2], hb, put_cells hb hn⟩)
 rw [hd]
 exact h
theorem mv_in {ts : List Tmp} {a0 : Act} {w0 : World} {F : Nat → Value → World → Prop} {i : Nat} (j : Nat) {t : Tmp} {oi : Oper} (hoi : ops[i]? = some oi) (hg : oi.guard = none) (ho : oi.op = .move (.tmp t) ∨ oi.op = .assign (.tmp t)) (hr : reach ops ops.size i j = true) (hd : dstAt ops j = some t)
  (hF : ∀ v w, F j v w → F i v w) : PStep P ops Q ts a0 w0 F i := fun a w wf hx hfr hk => by
 obtain ⟨v, e1, f1⟩ := hk j t hr hd
 refine ⟨oi, hoi, fun K hK => value_ (w1 := w) (by unfold Region.wanted; rw [hg]) rfl ?_ (hK v (hF v wf f1))⟩
 have ev : a.eval (.tmp t) = v := by simp [Act.eval, e1]
 rcases ho with ho | ho
 ·simp [execOp, ho, ev]
 ·simp [execOp, ho, ev]
theorem mv_out {ts : List Tmp} {a0 : Act} {w0 : World} {F : Nat → Value → World → Prop} {i : Nat} (v : Value) {t : Tmp} {oi : Oper} (hoi : ops[i]? = some oi) (hg : oi.guard = none) (ho : oi.op = .move (.tmp t) ∨ oi.op = .assign (.tmp t)) (e : a0.tmps[t]? = some v) (ht : ts.contains t = false)
  (hF : ∀ w, Ext w0 w → F i v w) : PStep P ops Q ts a0 w0 F i := fun a w wf hx hfr hk => by
 refine ⟨oi, hoi, fun K hK => value_ (w1 := w) (by unfold Region.wanted; rw [hg]) rfl ?_ (hK v (hF wf hx))⟩
 have ev : a.eval (.tmp t) = v := by simp [Act.eval, hfr.off t ht, e]
 rcases ho with ho | ho
 ·simp [execOp, ho, ev]
 ·simp [execOp, ho, ev]
theorem ex_in {ts : List Tmp} {a0 : Act} {w0 : World} {F : Nat → Value → World → Prop} {i : Nat} (j : Nat) {t : Tmp} {n : Nat} {oi : Oper} (hoi : ops[i]? = some oi) (hg : oi.guard = none) (ho : oi.op = .extract (.tmp t) n) (hr : reach ops ops.size i j = true) (hd : dstAt ops j = some t)
  (hF : ∀ v w, F j v w → ∃ xs x, v = .tuple xs ∧ xs[n]? = some x ∧ F i x w) : PStep P ops Q ts a0 w0 F i := fun a w wf hx hfr hk => by
 obtain ⟨v, e1, f1⟩ := hk j t hr hd
 obtain ⟨xs, x, rfl, hx1, f2⟩ := hF v wf f1
 refine ⟨oi, hoi, fun K hK => value_ (w1 := w) (by unfold Region.wanted; rw [hg]) rfl ?_ (hK x f2)⟩
 have ev : a.eval (.tmp t) = .tuple xs := by simp [Act.eval, e1]
 simp [execOp, ho, ev, Instr.extract, hx1]
theorem load_out {ts : List Tmp} {a0 : Act} {w0 : World} {F : Nat → Value → World → Prop} {i : Nat} (g : Nat) {t : Tmp} {ty T : TypeId} {cs : Array Value} {oi : Oper} (hoi : ops[i]? = some oi) (hg : oi.guard = none) (ho : oi.op = .load ty (.tmp t)) (e : a0.tmps[t]? = some (.pointer (some ⟨g, 0, none⟩))) (ht : ts.contains t = false)
  (hb : w0.heap[g]? = some (.cells cs T (0, 0))) {d : TypeDesc} (hu : P.underlying ty = some d) (hdd : (match d with | .struct _ | .array _ _ => true | _ => false) = true) (hi : (P.info? ty).map (·.size) = some cs.size)
  (hF : ∀ w, F i (.agg cs) w) : MStep P ops Q ts a0 w0 F i := fun a w hx hfr hk => by
 have ev : a.eval (.tmp t) = .pointer (some ⟨g, 0, none⟩) := by simp [Act.eval, hfr.off t ht, e]
 refine ⟨oi, hoi, fun K hK => value_ (w1 := w) (by unfold Region.wanted; rw [hg]) rfl ?_ (hK _ _ (hF w) (Ext.refl _))⟩
 simp only [execOp, ho, ev, Instr.loadAt, Instr.sureAddr, Sem.run_bind, Sem.run_pure, Result.andThen_ok, run_loadVar_row w g T ty cs (0, 0) d (blk_ext hb hx) hu hdd hi]
end
section
variable {P : Program} {ops : Array Oper} {rest : List Oper} {a : Act} {Q : Exit → Act → World → Prop}
theorem make_box {W : World} {oa os : Oper} {p v : Tmp} {T : TypeId} {old cs : Array Value} (hda : oa.dst = some p) (hga : oa.guard = none) (hgs : os.guard = none) (hds : os.dst = none) (ho : os.op = .store T (.tmp p) (.tmp v))
  (hrun : (execOp a.eval oa).run P W = .ok (.value (.pointer (some ⟨W.heap.size, 0, none⟩))) (W.alloc (.cells old T (0, 0)))) (hp : p < a.tmps.size) (hpv : p ≠ v) (hy : a.eval (.tmp v) = .agg cs) (hn : cs.size = old.size) (hi : (P.info? T).map (·.size) = some cs.size) (h1 : cs.toList.all (·.oneCell') = true)
  (h : ∀ g W2, W.heap.size ≤ g → Ext W W2 → W2.heap[g]? = some (.cells cs T (0, 0)) → wpList P ops Q rest (a.put (some p) (.pointer (some ⟨g, 0, none⟩))) W2) : wpList P ops Q (oa :: os :: rest) a W := by
 refine Kd.event_run hga hrun ?_
 rw [hda]
 refine store_box hgs ho hds W.heap.size cs ?_ ?_ (blk_new W _) hn hi h1 (fun W2 hp2 => h _ W2 (Nat.le_refl _) (hp2.ext W (Nat.le_refl _) (Ext.of (below_alloc (Below.refl _ _) _))) hp2.here)
 ·simp [Act.eval, Act.put, hp]
 ·rw [← hy]
  simp [Act.eval, Act.put, Array.getElem?_setIfInBounds_ne hpv]
end
end Go.Proofs.Ytmehbabchakkpaa.Box
namespace Go.Proofs.Ytmehbabchakkpaa.Box
open Go.RowKit YtmehbabchakkpaaW.PrintWords YtmehbabchakkpaaW.PrintLast Mono Go.Proofs.Ytmehbabchakkpaa.Read
set_option linter.unusedVariables false
section
variable {P : Program} {ops : Array Oper} {Q : Exit → Act → World → Prop}
end
section
variable {P : Program}
end
end Go.Proofs.Ytmehbabchakkpaa.Box
