import Derived.Test.YtmehbabchakkpaaMLadderWalksx8
namespace Go.Proofs.Ytmehbabchakkpaa.QLadderWalks
open Go.RowKit YtmehbabchakkpaaW.PrintWords YtmehbabchakkpaaW.PrintLast YtmehbabchakkpaaW.PrintMore Short
attribute [local go_sem] max2_int min2_int max_two min_two max_three min_three max_four min_four
set_option linter.unusedVariables false
set_option maxHeartbeats 8000000
set_option maxRecDepth 100000
set_option linter.unusedSimpArgs false
attribute [local go_sem high] eqA26
def ladder_Climb.w0 : Nat → Int → Int → Int → Int → Int → Int → Int → List (List Int) → Int → Option (List Int × Int × Int × Int × Int × Int × Int × Int)
 | 0, _, _, _, _, _, _, _, _, _ => none
 | k + 1, a0, a1, a2, a3, a4, a5, a6, ls, i => if i < a5 then (if i < (ls.length : Int) then (page_Decode.f k a0 a1 a2 a3 a4 a5 a6 (ls.getD i.toNat [])).bind fun t => if t.2.2.2.2.2.2 = 0 then some (t.1, t.2.1, t.2.2.1, t.2.2.2.1, t.2.2.2.2.1, t.2.2.2.2.2.1, i, 0) else if t.2.2.2.2.2.2 = 2 then some ([], 0, 0, 0, 0, 0, 0, 2) else ladder_Climb.w0 k a0 a1 a2 a3 a4 a5 a6 ls (wrap64 (i + 1)) else some ([], 0, 0, 0, 0, 0, 0, 30)) else some ([], 0, 0, 0, 0, 0, 0, 30)
def ladder_Climb.f (k : Nat) (a0_0 a0_1 a0_2 a0_3 a0_4 a0_5 a0_6 : Int) (l1 : List (List Int)) : Option (List Int × Int × Int × Int × Int × Int × Int × Int) := (geom_Check.f a0_0 a0_1 a0_2 a0_3 a0_4 a0_5 a0_6).bind fun e => if e = 0 then (if l1.length = 0 then some ([], 0, 0, 0, 0, 0, 0, 2) else if (l1.length : Int) > a0_5 then some ([], 0, 0, 0, 0, 0, 0, 2) else (geom_Raw.f a0_0 a0_1 a0_2 a0_3 a0_4 a0_5 a0_6).bind fun q => if l1.all (fun l => decide ((l.length : Int) = q)) = true then ladder_Climb.w0 k a0_0 a0_1 a0_2 a0_3 a0_4 a0_5 a0_6 l1 0 else some ([], 0, 0, 0, 0, 0, 0, 2)) else some ([], 0, 0, 0, 0, 0, 0, 2)
theorem ladder_Climb.mono_l : ∀ k, ∀ y0 y1 y2 y3 y4 y5 y6 y7 y8, LeO (ladder_Climb.w0 k y0 y1 y2 y3 y4 y5 y6 y7 y8) (ladder_Climb.w0 (k + 1) y0 y1 y2 y3 y4 y5 y6 y7 y8)
 | 0 => fun _ _ _ _ _ _ _ _ _ r h => by simp [ladder_Climb.w0] at h
 | k + 1 => by
  have ih := ladder_Climb.mono_l k
  intro y0 y1 y2 y3 y4 y5 y6 y7 y8
  unfold ladder_Climb.w0
  repeat' first
  | (with_reducible exact ih _ _ _ _ _ _ _ _ _)
  | (with_reducible exact page_Decode.mono _ _ _ _ _ _ _ _ _)
  | (with_reducible exact LeO.refl _)
  | (with_reducible refine LeO.ite ?_ ?_)
  | (with_reducible refine LeO.bind ?_ (fun _ => ?_))
theorem ladder_Climb.mono : ∀ a0 a1 a2 a3 a4 a5 a6 a7 k, LeO (ladder_Climb.f k a0 a1 a2 a3 a4 a5 a6 a7) (ladder_Climb.f (k + 1) a0 a1 a2 a3 a4 a5 a6 a7) := by
 intro a0 a1 a2 a3 a4 a5 a6 a7 k
 unfold ladder_Climb.f
 repeat' first
 | (with_reducible exact ladder_Climb.mono_l _ _ _ _ _ _ _ _ _ _)
 | (with_reducible exact LeO.refl _)
 | (with_reducible refine LeO.ite ?_ ?_)
 | (with_reducible refine LeO.bind ?_ (fun _ => ?_))
theorem ladder_Climb_at {w : World} {A : Option Addr} {n : Nat} {ls : List (List Int)} (h : Kd.C (Kd.slice 5 (Kd.int .u8)) w A n ls) (i : Int) (h0 : 0 ≤ i) (h1 : i < n) :
  ∃ ad A' c', A = some ad ∧ w.cell? (ad.add i.toNat) = some (.slice A' (ls.getD i.toNat []).length c') ∧ (ls.getD i.toNat []).length ≤ c' ∧ Kd.C (Kd.int .u8) w A' (ls.getD i.toNat []).length (ls.getD i.toNat []) := by
 obtain ⟨ad, c, h2, _, ⟨A', c', rfl, h3, h4⟩, h5⟩ := Kd.C_get h [] i h0 h1
 refine ⟨ad, A', c', h2, ?_, h3, h4⟩
 have := h5 0 _ rfl
 rw [show (Kd.slice 5 (Kd.int .u8)).sz = 1 from rfl, Nat.mul_one, Nat.add_zero] at this
 exact this
set_option maxHeartbeats 1000000 in
set_option maxRecDepth 100000 in
theorem ladder_Climb_lit (B : Nat) (A0 : Option Addr) (c0 : Nat) (ls : List (List Int)) (i : Int) (w : World) (h0 : 0 ≤ i) (hB : w.heap[B]? = some (.cells #[.slice A0 ls.length c0] 39 (0, 0))) (hC : Kd.C (Kd.slice 5 (Kd.int .u8)) w A0 ls.length ls) (hi : i < (ls.length : Int)) (p : List Int) (hp : ls.getD i.toNat [] = p) :
  Calls Try.prog 50 #[.int .i64 i, .pointer (some ⟨B, 0, none⟩)] w fun e w' => ∃ A c, e = .returned (.tuple #[.slice A p.length c, .int .i64 0]) ∧ p.length ≤ c ∧ Kd.C (Kd.int .u8) w' A p.length p ∧ Below w.heap.size w w' := by
 have c1_ := bc_ hB 0
 obtain ⟨ad, A', c', rfl, hx, hl, hc⟩ := ladder_Climb_at hC i h0 hi
 rw [hp] at hx hl hc
 have HC := ak_ hc
 have HL := ak_ hl
 have cx_ := hx
 have d1_ : decide (i ≥ (ls.length : Int)) = false := df_ (by omega)
 have d2_ : decide ((ls.length : Int) ≤ i) = false := df_ (by omega)
 have d3_ : (0 ≤ i) = True := eq_true h0
 have d4_ : (i < (ls.length : Int)) = True := eq_true hi
 have d5_ : decide (0 ≤ i) = true := dt_ h0
 have d6_ : decide (i < (ls.length : Int)) = true := dt_ hi
 clear hC hB hx hl hc hp
 go_enter Try.func50, Try.ntmps50
 go_wp2
 refine bodyPost_ret (results_list (rs := [.tmp 3, .tmp 4]) rfl (by simp) (.tmp (.tmp .nil))) rfl ?_
 exact ⟨A', c', rfl, HL.out, HC.out, Below.refl _ _⟩
set_option maxHeartbeats 1000000 in
set_option maxRecDepth 100000 in
theorem ladder_Climb_lit_off (B : Nat) (A0 : Option Addr) (c0 : Nat) (ls : List (List Int)) (i : Int) (w : World) (h0 : 0 ≤ i) (hB : w.heap[B]? = some (.cells #[.slice A0 ls.length c0] 39 (0, 0))) (hC : Kd.C (Kd.slice 5 (Kd.int .u8)) w A0 ls.length ls) (hi : ¬ i < (ls.length : Int)) :
  Calls Try.prog 50 #[.int .i64 i, .pointer (some ⟨B, 0, none⟩)] w fun e w' => e = .returned (.tuple #[.slice none 0 0, .int .i64 30]) ∧ Below w.heap.size w w' := by
 have c1_ := bc_ hB 0
 have d1_ : decide (i ≥ (ls.length : Int)) = true := dt_ (by omega)
 have d2_ : decide ((ls.length : Int) ≤ i) = true := dt_ (by omega)
 clear hC hB
 go_enter Try.func50, Try.ntmps50
 go_wp2
 refine bodyPost_ret (results_list (rs := [.tmp 3, .tmp 4]) rfl (by simp) (.tmp (.tmp .nil))) rfl ?_
 exact ⟨rfl, Below.refl _ _⟩
theorem ladder_Climb_put6 {W : World} {g t : Nat} {o0 o1 o2 o3 o4 o5 : Value} (h : W.heap[g]? = some (.cells #[o0, o1, o2, o3, o4, o5] t (0, 0))) (v0 v1 v2 v3 v4 v5 : Value) :
  ((((((W.setCell ⟨g, 0, none⟩ v0).setCell ⟨g, 1, none⟩ v1).setCell ⟨g, 2, none⟩ v2).setCell ⟨g, 3, none⟩ v3).setCell ⟨g, 4, none⟩ v4).setCell ⟨g, 5, none⟩ v5).heap[g]? = some (.cells #[v0, v1, v2, v3, v4, v5] t (0, 0)) :=
 blk_put (cs := #[v0, v1, v2, v3, v4, o5]) (blk_put (cs := #[v0, v1, v2, v3, o4, o5]) (blk_put (cs := #[v0, v1, v2, o3, o4, o5]) (blk_put (cs := #[v0, v1, o2, o3, o4, o5]) (blk_put (cs := #[v0, o1, o2, o3, o4, o5]) (blk_put (cs := #[o0, o1, o2, o3, o4, o5]) h 0 v0 rfl) 1 v1 rfl) 2 v2 rfl) 3 v3 rfl) 4 v4 rfl) 5 v5 rfl
theorem ladder_Climb_R10 {W W' : World} {base g11 g4 : Nat} {v : Value} {xs : List Int} {c11 c4 : Array Value} (h : Kd.R (Kd.int .u8) 5 W base (fun _ => True) v xs) (h11 : W.heap[g11]? = some (.cells c11 26 (0, 0))) (h4 : W.heap[g4]? = some (.cells c4 42 (0, 0))) (_ : True) (hW : ∀ k, k ≠ g11 → k ≠ g4 → W'.heap[k]? = W.heap[k]?) : Kd.R (Kd.int .u8) 5 W' base (fun _ => True) v xs :=
 Kd.R_mono (Kd.R_move (Kd.R_bound h) (fun k hk => by
  obtain ⟨_, _, _, q, hq, cells, hc⟩ := hk
  obtain rfl : q = 5 := by simpa [Kd.int, Kd.scalar] using hq
  refine hW k ?_ ?_
  ·rintro rfl
   rw [h11] at hc
   cases hc
  ·rintro rfl
   rw [h4] at hc
   cases hc)) (fun _ _ => trivial)
theorem ladder_Climb_far10 {W : World} {g11 g4 k : Nat} (t0 t1 t2 t3 v0 v1 v2 v3 v4 v5 : Value) (h1 : k ≠ g11) (h2 : k ≠ g4) : ((((((((((W.setCell ⟨g11, 0, none⟩ t0).setCell ⟨g11, 1, none⟩ t1).setCell ⟨g11, 2, none⟩ t2).setCell ⟨g11, 3, none⟩ t3).setCell ⟨g4, 0, none⟩ v0).setCell ⟨g4, 1, none⟩ v1).setCell ⟨g4, 2, none⟩ v2).setCell ⟨g4, 3, none⟩ v3).setCell ⟨g4, 4, none⟩ v4).setCell ⟨g4, 5, none⟩ v5).heap[k]? = W.heap[k]? :=
 ((Below.heap_setCell _ _ _ k h2).trans ((Below.heap_setCell _ _ _ k h2).trans ((Below.heap_setCell _ _ _ k h2).trans ((Below.heap_setCell _ _ _ k h2).trans ((Below.heap_setCell _ _ _ k h2).trans ((Below.heap_setCell _ _ _ k h2).trans ((Below.heap_setCell _ _ _ k h1).trans ((Below.heap_setCell _ _ _ k h1).trans ((Below.heap_setCell _ _ _ k h1).trans (Below.heap_setCell W _ _ k h1))))))))))
theorem ladder_Climb_below6 {w W : World} {g : Nat} (h : Below w.heap.size w W) (hg : w.heap.size ≤ g) (v0 v1 v2 v3 v4 v5 : Value) :
  Below w.heap.size w ((((((W.setCell ⟨g, 0, none⟩ v0).setCell ⟨g, 1, none⟩ v1).setCell ⟨g, 2, none⟩ v2).setCell ⟨g, 3, none⟩ v3).setCell ⟨g, 4, none⟩ v4).setCell ⟨g, 5, none⟩ v5) :=
 below_set (below_set (below_set (below_set (below_set (below_set h hg) hg) hg) hg) hg) hg
set_option maxHeartbeats 4000000 in
set_option maxRecDepth 100000 in
theorem ladder_Climb_walk (k : Nat) (a0 a1 a2 a3 a4 a5 a6 : Int) (B : Nat) (A0 : Option Addr) (c0 : Nat) (ls : List (List Int)) (r1 : List Int) (r2 r3 r4 r5 r6 r7 r8 : Int) (w : World) (hB : w.heap[B]? = some (.cells #[.slice A0 ls.length c0] 39 (0, 0))) (hC : Kd.C (Kd.slice 5 (Kd.int .u8)) w A0 ls.length ls) (hchk : geom_Check.f a0 a1 a2 a3 a4 a5 a6 = some 0) (h : ladder_Climb.w0 k a0 a1 a2 a3 a4 a5 a6 ls 0 = some (r1, r2, r3, r4, r5, r6, r7, r8)) :
  Calls Try.prog 27 #[.agg #[.int .i64 a0, .int .i64 a1, .int .i64 a2, .int .i64 a3, .int .i64 a4, .int .i64 a5, .int .i64 a6], .func (.func 50) #[] #[.pointer (some ⟨B, 0, none⟩)]] w fun e w' => ∃ v0_ : Value, e = .returned (.tuple #[.agg #[v0_, .int .i64 r2, .int .i64 r3, .int .i64 r4, .int .i64 r5, .int .i64 r6], .int .i64 r7, .int .i64 r8]) ∧ Kd.R (Kd.int .u8) 5 w' w.heap.size (fun _ => True) v0_ r1 ∧ Below w.heap.size w w' := by
 have HB := br_ w
 have HCC := ak_ hC
 have HCB := ak_ hB
 have HCHK := ak_ hchk
 have H' := ak_ h
 clear hC hB hchk h
 go_enter Try.func27, Try.ntmps27
 go_wp2_with (first | ((with_reducible refine gate_dst (N := 2) rfl ?_); (try (refine gate_guard (by rfl) ?_; dsimp only)); refine box_event ?hg (N := 2) ?hd (cs := #[.int .i64 a0, .int .i64 a1, .int .i64 a2, .int .i64 a3, .int .i64 a4, .int .i64 a5, .int .i64 a6]) (t := 23) ?hr ?_; (case hd => rfl); (case hg => rfl); (case hr => (go_simp; done)); intro g2 hg w1 hbox hb; have n0_ := ak_ (below_step HB.out hb); have GE2 := ak_ ((by rw [hg]; exact (below_size HB.out)) : w.heap.size ≤ g2); clear HB; have HB := n0_; have BK2 := ak_ hbox; clear n0_ hb hbox hg) | ((with_reducible refine gate_dst (N := 4) rfl ?_); (try (refine gate_guard (by rfl) ?_; dsimp only)); refine box_event ?hg (N := 4) ?hd (cs := #[.slice none 0 0, .int .i64 0, .int .i64 0, .int .i64 0, .int .i64 0, .int .i64 0]) (t := 42) ?hr ?_; (case hd => rfl); (case hg => rfl); (case hr => (go_simp; done)); intro g4 hg w2 hbox hb; have n0_ := ak_ (below_step HB.out hb); have n1_ := ak_ (blk_below BK2.out hb); have GE4 := ak_ ((by rw [hg]; exact (below_size HB.out)) : w.heap.size ≤ g4); have NE24 := ak_ ((by rw [hg]; exact Nat.ne_of_lt (blk_lt BK2.out)) : g2 ≠ g4); clear HB BK2; have HB := n0_; have BK2 := n1_; have BK4 := ak_ hbox; clear n0_ n1_ hb hbox hg; have z0_ : w2.cell? ⟨g2, 0, none⟩ = some (.int .i64 a0) := (bc_ BK2.out 0).trans rfl; have z1_ : w2.cell? ⟨g2, 1, none⟩ = some (.int .i64 a1) := (bc_ BK2.out 1).trans rfl; have z2_ : w2.cell? ⟨g2, 2, none⟩ = some (.int .i64 a2) := (bc_ BK2.out 2).trans rfl; have z3_ : w2.cell? ⟨g2, 3, none⟩ = some (.int .i64 a3) := (bc_ BK2.out 3).trans rfl; have z4_ : w2.cell? ⟨g2, 4, none⟩ = some (.int .i64 a4) := (bc_ BK2.out 4).trans rfl; have z5_ : w2.cell? ⟨g2, 5, none⟩ = some (.int .i64 a5) := (bc_ BK2.out 5).trans rfl; have z6_ : w2.cell? ⟨g2, 6, none⟩ = some (.int .i64 a6) := (bc_ BK2.out 6).trans rfl) | ((with_reducible refine gate_callee (f := 35) rfl ?_); refine goesL_ (some 14) rfl rfl Try.func35 (by kernel_rfl) rfl #[.agg #[.int .i64 a0, .int .i64 a1, .int .i64 a2, .int .i64 a3, .int .i64 a4, .int .i64 a5, .int .i64 a6]] rfl (by (try simp only [List.map_toArray, List.map_cons, List.map_nil]); first | done | rfl) ?_; (with_reducible refine (geom_Check.calls a0 a1 a2 a3 a4 a5 a6 0 _ HCHK.out).mono ?_); rintro e w3 ⟨rfl, hb⟩; refine ⟨_, rfl, ?_⟩; have n0_ := ak_ (below_step HB.out hb); have n1_ := ak_ (blk_below BK2.out hb); have n2_ := ak_ (blk_below BK4.out hb); clear HB BK2 BK4 z0_ z1_ z2_ z3_ z4_ z5_ z6_; have HB := n0_; have BK2 := n1_; have BK4 := n2_; clear n0_ n1_ n2_ hb; have z5_ : w3.cell? ⟨g2, 5, none⟩ = some (.int .i64 a5) := (bc_ BK2.out 5).trans rfl))
 clear z5_
 go_loopg [19] k (fun kq v19 wr => ∃ i : Int, v19 = .int .i64 i ∧ Aside0 (0 ≤ i) ∧ Aside0 (ladder_Climb.w0 kq a0 a1 a2 a3 a4 a5 a6 ls i = some (r1, r2, r3, r4, r5, r6, r7, r8)) ∧ Aside0 (kq ≤ k) ∧ Aside0 (wr.heap[g2]? = some (.cells #[.int .i64 a0, .int .i64 a1, .int .i64 a2, .int .i64 a3, .int .i64 a4, .int .i64 a5, .int .i64 a6] 23 (0, 0))) ∧ Aside0 (wr.heap[g4]? = some (.cells #[.slice none 0 0, .int .i64 0, .int .i64 0, .int .i64 0, .int .i64 0, .int .i64 0] 42 (0, 0))) ∧ Aside0 (Below w.heap.size w wr))
 case atStart => exact ⟨0, rfl, ⟨Int.le_refl _⟩, H', ⟨Nat.le_refl _⟩, ⟨BK2.out⟩, ⟨BK4.out⟩, ⟨HB.out⟩⟩
 case round =>
  clear H'
  obtain ⟨i, rfl, HI0, HA, HK1, BK2, BK4, HB⟩ := hrel
  cases gk with
  | zero => exact absurd HA.out (by simp [ladder_Climb.w0])
  | succ k1 =>
   have H := HA.out
   clear HA
   simp only [ladder_Climb.w0] at H
   by_cases c1 : i < a5
   ·rw [if_pos c1] at H
    have c1_ : decide (i < a5) = true := dt_ c1
    by_cases c2 : i < (ls.length : Int)
    ·rw [if_pos c2] at H
     obtain ⟨⟨q1, q2, q3, q4, q5, q6, q7⟩, hdec, H2⟩ := Option.bind_eq_some_iff.1 H
     clear H
     dsimp only at H2
     obtain ⟨pc, hpc⟩ : ∃ pc, ls.getD i.toNat [] = pc := ⟨_, rfl⟩
     rw [hpc] at hdec
     have HDEC := ak_ hdec
     clear hdec
     by_cases e0 : q7 = 0
     ·rw [if_pos e0] at H2
      subst e0
      have HE := ak_ (si_ H2)
      clear H2
      go_wp2_with (first | (go_at_call 50; (with_reducible refine (ladder_Climb_lit B A0 c0 ls i _ HI0.out (blk_below HCB.out HB.out) (Kd.C_below HCC.out HB.out) c2 pc hpc).mono ?_); rintro e w4 ⟨Ar, cr, rfl, hlr, hCr, hb⟩; have n0_ := ak_ (below_step HB.out hb); have n1_ := ak_ (blk_below BK2.out hb); have n2_ := ak_ (blk_below BK4.out hb); clear HB BK2 BK4; have HB := n0_; have BK2 := n1_; have BK4 := n2_; clear n0_ n1_ n2_ hb; have HLR := ak_ hlr; have HCR := ak_ hCr; clear hlr hCr; have z0_ : w4.cell? ⟨g2, 0, none⟩ = some (.int .i64 a0) := (bc_ BK2.out 0).trans rfl; have z1_ : w4.cell? ⟨g2, 1, none⟩ = some (.int .i64 a1) := (bc_ BK2.out 1).trans rfl; have z2_ : w4.cell? ⟨g2, 2, none⟩ = some (.int .i64 a2) := (bc_ BK2.out 2).trans rfl; have z3_ : w4.cell? ⟨g2, 3, none⟩ = some (.int .i64 a3) := (bc_ BK2.out 3).trans rfl; have z4_ : w4.cell? ⟨g2, 4, none⟩ = some (.int .i64 a4) := (bc_ BK2.out 4).trans rfl; have z5_ : w4.cell? ⟨g2, 5, none⟩ = some (.int .i64 a5) := (bc_ BK2.out 5).trans rfl; have z6_ : w4.cell? ⟨g2, 6, none⟩ = some (.int .i64 a6) := (bc_ BK2.out 6).trans rfl) | (go_at_call 30; (with_reducible refine (page_Decode.calls k1 a0 a1 a2 a3 a4 a5 a6 Ar cr pc q1 q2 q3 q4 q5 q6 0 _ ?s1 HLR.out HDEC.out).mono ?_); (case s1 => (with_reducible repeat (first | apply Kd.C_alloc | apply Kd.C_drewN | apply Kd.C_drew)); exact HCR.out); rintro e w5 ⟨vd, rfl, hR, hb⟩; have n0_ := ak_ (below_step HB.out hb); have n1_ := ak_ (blk_below BK2.out hb); have n2_ := ak_ (blk_below BK4.out hb); have hsz_ := below_size HB.out; clear HB BK2 BK4; have HB := n0_; have BK2 := n1_; have BK4 := n2_; clear n0_ n1_ n2_ hb; obtain ⟨Ad, nd, cd, rfl⟩ : ∃ A n c, vd = .slice A n c := (by obtain ⟨A, c, h⟩ := Kd.R_slice hR; exact ⟨A, _, c, h⟩); have HRD := ak_ (Kd.R_lower hR hsz_); clear hR) | ((with_reducible refine gate_dst (N := 11) rfl ?_); (try (refine gate_guard (by rfl) ?_; dsimp only)); refine box_event ?hg (N := 11) ?hd (cs := #[.int .i64 0, .int .i64 0, .int .i64 0, .int .i64 0]) (t := 26) ?hr ?_; (case hd => rfl); (case hg => rfl); (case hr => (go_simp; done)); intro g11 hg w6 hbox hb; have GE11 := ak_ ((by rw [hg]; exact (below_size HB.out)) : w.heap.size ≤ g11); have NE2 := ak_ ((by rw [hg]; exact Nat.ne_of_lt (blk_lt BK2.out)) : g2 ≠ g11); have NE4 := ak_ ((by rw [hg]; exact Nat.ne_of_lt (blk_lt BK4.out)) : g4 ≠ g11); have HRT := ak_ (Kd.R_below (show Kd.R _ _ _ _ _ _ _ from HRD.out) hb); clear HRD; have n0_ := ak_ (below_step HB.out hb); have n1_ := ak_ (blk_below BK2.out hb); have n2_ := ak_ (blk_below BK4.out hb); clear HB BK2 BK4; have HB := n0_; have BK2 := n1_; have BK4 := n2_; clear n0_ n1_ n2_ hb; have BK11 := ak_ hbox; clear hbox hg; have y0_ := bc_ BK4.out 0; have yf0_ := bf_ BK4.out 0; have y1_ := bc_ BK4.out 1; have yf1_ := bf_ BK4.out 1; have y2_ := bc_ BK4.out 2; have yf2_ := bf_ BK4.out 2; have y3_ := bc_ BK4.out 3; have yf3_ := bf_ BK4.out 3; have y4_ := bc_ BK4.out 4; have yf4_ := bf_ BK4.out 4; have y5_ := bc_ BK4.out 5; have yf5_ := bf_ BK4.out 5; have x0_ := bc_ BK11.out 0; have xf0_ := bf_ BK11.out 0; have x1_ := bc_ BK11.out 1; have xf1_ := bf_ BK11.out 1; have x2_ := bc_ BK11.out 2; have xf2_ := bf_ BK11.out 2; have x3_ := bc_ BK11.out 3; have xf3_ := bf_ BK11.out 3; have ne2_ := NE2.out; have ne4_ := NE4.out; have ne2'_ := NE2.out.symm; have ne4'_ := NE4.out.symm; have HRD := HRT))
      obtain ⟨rfl, rfl, rfl, rfl, rfl, rfl, rfl, rfl⟩ : q1 = r1 ∧ q2 = r2 ∧ q3 = r3 ∧ q4 = r4 ∧ q5 = r5 ∧ q6 = r6 ∧ i = r7 ∧ 0 = r8 := by simpa using HE.out
      refine bodyPost_ret (results_list (rs := [.cell 4 42, .tmp 5, .tmp 6]) rfl (by simp) (.cell g4 42 #[.slice Ad nd cd, .int .i64 q2, .int .i64 q3, .int .i64 q4, .int .i64 q5, .int .i64 q6] (0, 0) _ rfl (ladder_Climb_put6 (blk_far (blk_far (blk_far (blk_far BK4.out NE4.out _) NE4.out _) NE4.out _) NE4.out _) _ _ _ _ _ _) Try.underlying42 rfl (by kernel_rfl) (.tmp (.tmp .nil)))) rfl ?_
      exact ⟨_, rfl, ladder_Climb_R10 HRD.out BK11.out BK4.out trivial (fun k h1 h2 => ladder_Climb_far10 _ _ _ _ _ _ _ _ _ _ h1 h2), ladder_Climb_below6 (below_set (below_set (below_set (below_set HB.out GE11.out) GE11.out) GE11.out) GE11.out) GE4.out _ _ _ _ _ _⟩
     ·rw [if_neg e0] at H2
      by_cases e2 : q7 = 2
      ·rw [if_pos e2] at H2
       subst e2
       have HE := ak_ (si_ H2)
       clear H2
       go_wp2_with (first | (go_at_call 50; (with_reducible refine (ladder_Climb_lit B A0 c0 ls i _ HI0.out (blk_below HCB.out HB.out) (Kd.C_below HCC.out HB.out) c2 pc hpc).mono ?_); rintro e w4 ⟨Ar, cr, rfl, hlr, hCr, hb⟩; have n0_ := ak_ (below_step HB.out hb); have n1_ := ak_ (blk_below BK2.out hb); have n2_ := ak_ (blk_below BK4.out hb); clear HB BK2 BK4; have HB := n0_; have BK2 := n1_; have BK4 := n2_; clear n0_ n1_ n2_ hb; have HLR := ak_ hlr; have HCR := ak_ hCr; clear hlr hCr; have z0_ : w4.cell? ⟨g2, 0, none⟩ = some (.int .i64 a0) := (bc_ BK2.out 0).trans rfl; have z1_ : w4.cell? ⟨g2, 1, none⟩ = some (.int .i64 a1) := (bc_ BK2.out 1).trans rfl; have z2_ : w4.cell? ⟨g2, 2, none⟩ = some (.int .i64 a2) := (bc_ BK2.out 2).trans rfl; have z3_ : w4.cell? ⟨g2, 3, none⟩ = some (.int .i64 a3) := (bc_ BK2.out 3).trans rfl; have z4_ : w4.cell? ⟨g2, 4, none⟩ = some (.int .i64 a4) := (bc_ BK2.out 4).trans rfl; have z5_ : w4.cell? ⟨g2, 5, none⟩ = some (.int .i64 a5) := (bc_ BK2.out 5).trans rfl; have z6_ : w4.cell? ⟨g2, 6, none⟩ = some (.int .i64 a6) := (bc_ BK2.out 6).trans rfl) | (go_at_call 30; (with_reducible refine (page_Decode.calls k1 a0 a1 a2 a3 a4 a5 a6 Ar cr pc q1 q2 q3 q4 q5 q6 2 _ ?s1 HLR.out HDEC.out).mono ?_); (case s1 => (with_reducible repeat (first | apply Kd.C_alloc | apply Kd.C_drewN | apply Kd.C_drew)); exact HCR.out); rintro e w5 ⟨vd, rfl, hR, hb⟩; have n0_ := ak_ (below_step HB.out hb); have n1_ := ak_ (blk_below BK2.out hb); have n2_ := ak_ (blk_below BK4.out hb); have hsz_ := below_size HB.out; clear HB BK2 BK4; have HB := n0_; have BK2 := n1_; have BK4 := n2_; clear n0_ n1_ n2_ hb; obtain ⟨Ad, nd, cd, rfl⟩ : ∃ A n c, vd = .slice A n c := (by obtain ⟨A, c, h⟩ := Kd.R_slice hR; exact ⟨A, _, c, h⟩); have HRD := ak_ (Kd.R_lower hR hsz_); clear hR) | ((with_reducible refine gate_dst (N := 11) rfl ?_); (try (refine gate_guard (by rfl) ?_; dsimp only)); refine box_event ?hg (N := 11) ?hd (cs := #[.int .i64 0, .int .i64 0, .int .i64 0, .int .i64 0]) (t := 26) ?hr ?_; (case hd => rfl); (case hg => rfl); (case hr => (go_simp; done)); intro g11 hg w6 hbox hb; have GE11 := ak_ ((by rw [hg]; exact (below_size HB.out)) : w.heap.size ≤ g11); have NE2 := ak_ ((by rw [hg]; exact Nat.ne_of_lt (blk_lt BK2.out)) : g2 ≠ g11); have NE4 := ak_ ((by rw [hg]; exact Nat.ne_of_lt (blk_lt BK4.out)) : g4 ≠ g11); have HRT := ak_ (Kd.R_below (show Kd.R _ _ _ _ _ _ _ from HRD.out) hb); clear HRD; have n0_ := ak_ (below_step HB.out hb); have n1_ := ak_ (blk_below BK2.out hb); have n2_ := ak_ (blk_below BK4.out hb); clear HB BK2 BK4; have HB := n0_; have BK2 := n1_; have BK4 := n2_; clear n0_ n1_ n2_ hb; have BK11 := ak_ hbox; clear hbox hg; have y0_ := bc_ BK4.out 0; have yf0_ := bf_ BK4.out 0; have y1_ := bc_ BK4.out 1; have yf1_ := bf_ BK4.out 1; have y2_ := bc_ BK4.out 2; have yf2_ := bf_ BK4.out 2; have y3_ := bc_ BK4.out 3; have yf3_ := bf_ BK4.out 3; have y4_ := bc_ BK4.out 4; have yf4_ := bf_ BK4.out 4; have y5_ := bc_ BK4.out 5; have yf5_ := bf_ BK4.out 5; have x0_ := bc_ BK11.out 0; have xf0_ := bf_ BK11.out 0; have x1_ := bc_ BK11.out 1; have xf1_ := bf_ BK11.out 1; have x2_ := bc_ BK11.out 2; have xf2_ := bf_ BK11.out 2; have x3_ := bc_ BK11.out 3; have xf3_ := bf_ BK11.out 3; have ne2_ := NE2.out; have ne4_ := NE4.out; have ne2'_ := NE2.out.symm; have ne4'_ := NE4.out.symm; have HRD := HRT))
       obtain ⟨rfl, rfl, rfl, rfl, rfl, rfl, rfl, rfl⟩ : [] = r1 ∧ 0 = r2 ∧ 0 = r3 ∧ 0 = r4 ∧ 0 = r5 ∧ 0 = r6 ∧ 0 = r7 ∧ 2 = r8 := by simpa using HE.out
       refine bodyPost_ret (results_list (rs := [.cell 4 42, .tmp 5, .tmp 6]) rfl (by simp) (.cell g4 42 #[.slice none 0 0, .int .i64 0, .int .i64 0, .int .i64 0, .int .i64 0, .int .i64 0] (0, 0) _ rfl (ladder_Climb_put6 (blk_far (blk_far (blk_far (blk_far BK4.out NE4.out _) NE4.out _) NE4.out _) NE4.out _) _ _ _ _ _ _) Try.underlying42 rfl (by kernel_rfl) (.tmp (.tmp .nil)))) rfl ?_
       exact ⟨_, rfl, Kd.R_nil _ _ _ _ _, ladder_Climb_below6 (below_set (below_set (below_set (below_set HB.out GE11.out) GE11.out) GE11.out) GE11.out) GE4.out _ _ _ _ _ _⟩
      ·rw [if_neg e2] at H2
       have HN := ak_ H2
       clear H2
       have f0_ : (q7 == 0) = false := beq_eq_false_iff_ne.2 e0
       have f2_ : (q7 == 2) = false := beq_eq_false_iff_ne.2 e2
       have hmax := HCC.out.2.1
       unfold maxLen at hmax
       have hw0 : 0 ≤ wrap64 (i + 1) := by
        have := HI0.out
        unfold wrap64
        omega
       have HW0 := ak_ hw0
       clear hmax hw0 e0 e2
       go_wp2_with (first | (go_at_call 50; (with_reducible refine (ladder_Climb_lit B A0 c0 ls i _ HI0.out (blk_below HCB.out HB.out) (Kd.C_below HCC.out HB.out) c2 pc hpc).mono ?_); rintro e w4 ⟨Ar, cr, rfl, hlr, hCr, hb⟩; have n0_ := ak_ (below_step HB.out hb); have n1_ := ak_ (blk_below BK2.out hb); have n2_ := ak_ (blk_below BK4.out hb); clear HB BK2 BK4; have HB := n0_; have BK2 := n1_; have BK4 := n2_; clear n0_ n1_ n2_ hb; have HLR := ak_ hlr; have HCR := ak_ hCr; clear hlr hCr; have z0_ : w4.cell? ⟨g2, 0, none⟩ = some (.int .i64 a0) := (bc_ BK2.out 0).trans rfl; have z1_ : w4.cell? ⟨g2, 1, none⟩ = some (.int .i64 a1) := (bc_ BK2.out 1).trans rfl; have z2_ : w4.cell? ⟨g2, 2, none⟩ = some (.int .i64 a2) := (bc_ BK2.out 2).trans rfl; have z3_ : w4.cell? ⟨g2, 3, none⟩ = some (.int .i64 a3) := (bc_ BK2.out 3).trans rfl; have z4_ : w4.cell? ⟨g2, 4, none⟩ = some (.int .i64 a4) := (bc_ BK2.out 4).trans rfl; have z5_ : w4.cell? ⟨g2, 5, none⟩ = some (.int .i64 a5) := (bc_ BK2.out 5).trans rfl; have z6_ : w4.cell? ⟨g2, 6, none⟩ = some (.int .i64 a6) := (bc_ BK2.out 6).trans rfl) | (go_at_call 30; (with_reducible refine (page_Decode.calls k1 a0 a1 a2 a3 a4 a5 a6 Ar cr pc q1 q2 q3 q4 q5 q6 q7 _ ?s1 HLR.out HDEC.out).mono ?_); (case s1 => (with_reducible repeat (first | apply Kd.C_alloc | apply Kd.C_drewN | apply Kd.C_drew)); exact HCR.out); rintro e w5 ⟨vd, rfl, hR, hb⟩; have n0_ := ak_ (below_step HB.out hb); have n1_ := ak_ (blk_below BK2.out hb); have n2_ := ak_ (blk_below BK4.out hb); have hsz_ := below_size HB.out; clear HB BK2 BK4; have HB := n0_; have BK2 := n1_; have BK4 := n2_; clear n0_ n1_ n2_ hb; obtain ⟨Ad, nd, cd, rfl⟩ : ∃ A n c, vd = .slice A n c := (by obtain ⟨A, c, h⟩ := Kd.R_slice hR; exact ⟨A, _, c, h⟩); have HRD := ak_ (Kd.R_lower hR hsz_); clear hR) | ((with_reducible refine gate_dst (N := 11) rfl ?_); (try (refine gate_guard (by rfl) ?_; dsimp only)); refine box_event ?hg (N := 11) ?hd (cs := #[.int .i64 0, .int .i64 0, .int .i64 0, .int .i64 0]) (t := 26) ?hr ?_; (case hd => rfl); (case hg => rfl); (case hr => (go_simp; done)); intro g11 hg w6 hbox hb; have GE11 := ak_ ((by rw [hg]; exact (below_size HB.out)) : w.heap.size ≤ g11); have NE2 := ak_ ((by rw [hg]; exact Nat.ne_of_lt (blk_lt BK2.out)) : g2 ≠ g11); have NE4 := ak_ ((by rw [hg]; exact Nat.ne_of_lt (blk_lt BK4.out)) : g4 ≠ g11); have HRT := ak_ (Kd.R_below (show Kd.R _ _ _ _ _ _ _ from HRD.out) hb); clear HRD; have n0_ := ak_ (below_step HB.out hb); have n1_ := ak_ (blk_below BK2.out hb); have n2_ := ak_ (blk_below BK4.out hb); clear HB BK2 BK4; have HB := n0_; have BK2 := n1_; have BK4 := n2_; clear n0_ n1_ n2_ hb; have BK11 := ak_ hbox; clear hbox hg; have y0_ := bc_ BK4.out 0; have yf0_ := bf_ BK4.out 0; have y1_ := bc_ BK4.out 1; have yf1_ := bf_ BK4.out 1; have y2_ := bc_ BK4.out 2; have yf2_ := bf_ BK4.out 2; have y3_ := bc_ BK4.out 3; have yf3_ := bf_ BK4.out 3; have y4_ := bc_ BK4.out 4; have yf4_ := bf_ BK4.out 4; have y5_ := bc_ BK4.out 5; have yf5_ := bf_ BK4.out 5; have x0_ := bc_ BK11.out 0; have xf0_ := bf_ BK11.out 0; have x1_ := bc_ BK11.out 1; have xf1_ := bf_ BK11.out 1; have x2_ := bc_ BK11.out 2; have xf2_ := bf_ BK11.out 2; have x3_ := bc_ BK11.out 3; have xf3_ := bf_ BK11.out 3; have ne2_ := NE2.out; have ne4_ := NE4.out; have ne2'_ := NE2.out.symm; have ne4'_ := NE4.out.symm; have HRD := HRT))
       go_roundg k1
       case measure => have := HK1.out; omega
       case rel => exact ⟨wrap64 (i + 1), rfl, HW0, HN, ⟨by have := HK1.out; omega⟩, ⟨(blk_far (blk_far (blk_far (blk_far BK2.out NE2.out _) NE2.out _) NE2.out _) NE2.out _)⟩, ⟨(blk_far (blk_far (blk_far (blk_far BK4.out NE4.out _) NE4.out _) NE4.out _) NE4.out _)⟩, ⟨(below_set (below_set (below_set (below_set HB.out GE11.out) GE11.out) GE11.out) GE11.out)⟩⟩
    ·rw [if_neg c2] at H
     have HE := ak_ (si_ H)
     clear H
     go_wp2_with (go_at_call 50; (with_reducible refine (ladder_Climb_lit_off B A0 c0 ls i _ HI0.out (blk_below HCB.out HB.out) (Kd.C_below HCC.out HB.out) c2).mono ?_); rintro e w4 ⟨rfl, hb⟩; have n0_ := ak_ (below_step HB.out hb); have n1_ := ak_ (blk_below BK2.out hb); have n2_ := ak_ (blk_below BK4.out hb); clear HB BK2 BK4; have HB := n0_; have BK2 := n1_; have BK4 := n2_; clear n0_ n1_ n2_ hb; have y0_ := bc_ BK4.out 0; have yf0_ := bf_ BK4.out 0; have y1_ := bc_ BK4.out 1; have yf1_ := bf_ BK4.out 1; have y2_ := bc_ BK4.out 2; have yf2_ := bf_ BK4.out 2; have y3_ := bc_ BK4.out 3; have yf3_ := bf_ BK4.out 3; have y4_ := bc_ BK4.out 4; have yf4_ := bf_ BK4.out 4; have y5_ := bc_ BK4.out 5; have yf5_ := bf_ BK4.out 5)
     obtain ⟨rfl, rfl, rfl, rfl, rfl, rfl, rfl, rfl⟩ : [] = r1 ∧ 0 = r2 ∧ 0 = r3 ∧ 0 = r4 ∧ 0 = r5 ∧ 0 = r6 ∧ 0 = r7 ∧ 30 = r8 := by simpa using HE.out
     refine bodyPost_ret (results_list (rs := [.cell 4 42, .tmp 5, .tmp 6]) rfl (by simp) (.cell g4 42 #[.slice none 0 0, .int .i64 0, .int .i64 0, .int .i64 0, .int .i64 0, .int .i64 0] (0, 0) _ rfl (ladder_Climb_put6 BK4.out _ _ _ _ _ _) Try.underlying42 rfl (by kernel_rfl) (.tmp (.tmp .nil)))) rfl ?_
     exact ⟨_, rfl, Kd.R_nil _ _ _ _ _, ladder_Climb_below6 HB.out GE4.out _ _ _ _ _ _⟩
   ·rw [if_neg c1] at H
    have c1_ : decide (i < a5) = false := df_ c1
    have HE := ak_ (si_ H)
    clear H
    have y0_ := bc_ BK4.out 0; have yf0_ := bf_ BK4.out 0; have y1_ := bc_ BK4.out 1; have yf1_ := bf_ BK4.out 1; have y2_ := bc_ BK4.out 2; have yf2_ := bf_ BK4.out 2; have y3_ := bc_ BK4.out 3; have yf3_ := bf_ BK4.out 3; have y4_ := bc_ BK4.out 4; have yf4_ := bf_ BK4.out 4; have y5_ := bc_ BK4.out 5; have yf5_ := bf_ BK4.out 5
    go_wp2
    obtain ⟨rfl, rfl, rfl, rfl, rfl, rfl, rfl, rfl⟩ : [] = r1 ∧ 0 = r2 ∧ 0 = r3 ∧ 0 = r4 ∧ 0 = r5 ∧ 0 = r6 ∧ 0 = r7 ∧ 30 = r8 := by simpa using HE.out
    refine bodyPost_ret (results_list (rs := [.cell 4 42, .tmp 5, .tmp 6]) rfl (by simp) (.cell g4 42 #[.slice none 0 0, .int .i64 0, .int .i64 0, .int .i64 0, .int .i64 0, .int .i64 0] (0, 0) _ rfl (ladder_Climb_put6 BK4.out _ _ _ _ _ _) Try.underlying42 rfl (by kernel_rfl) (.tmp (.tmp .nil)))) rfl ?_
    exact ⟨_, rfl, Kd.R_nil _ _ _ _ _, ladder_Climb_below6 HB.out GE4.out _ _ _ _ _ _⟩
theorem ladder_Climb_R6 {W : World} {base g4 : Nat} {v : Value} {xs : List Int} {c4 : Array Value} (h : Kd.R (Kd.int .u8) 5 W base (fun _ => True) v xs) (h4 : W.heap[g4]? = some (.cells c4 42 (0, 0))) (v0 v1 v2 v3 v4 v5 : Value) : Kd.R (Kd.int .u8) 5 ((((((W.setCell ⟨g4, 0, none⟩ v0).setCell ⟨g4, 1, none⟩ v1).setCell ⟨g4, 2, none⟩ v2).setCell ⟨g4, 3, none⟩ v3).setCell ⟨g4, 4, none⟩ v4).setCell ⟨g4, 5, none⟩ v5) base (fun _ => True) v xs :=
 Kd.R_mono (Kd.R_move (Kd.R_bound h) (fun k hk => by
  obtain ⟨_, _, _, q, hq, cells, hc⟩ := hk
  obtain rfl : q = 5 := by simpa [Kd.int, Kd.scalar] using hq
  have h2 : k ≠ g4 := by
   rintro rfl
   rw [h4] at hc
   cases hc
  exact ((Below.heap_setCell _ _ _ k h2).trans ((Below.heap_setCell _ _ _ k h2).trans ((Below.heap_setCell _ _ _ k h2).trans ((Below.heap_setCell _ _ _ k h2).trans ((Below.heap_setCell _ _ _ k h2).trans (Below.heap_setCell W _ _ k h2)))))))) (fun _ _ => trivial)
set_option maxHeartbeats 4000000 in
set_option maxRecDepth 100000 in
theorem ladder_Climb.calls (k : Nat) (a0_0 a0_1 a0_2 a0_3 a0_4 a0_5 a0_6 : Int) (A1 : Option Addr) (c1 : Nat) (l1 : List (List Int)) (r1 : List Int) (r2 r3 r4 r5 r6 r7 r8 : Int) (w : World) (hr1 : Kd.C (Kd.slice 5 (Kd.int .u8)) w A1 l1.length l1) (hc1 : l1.length ≤ c1) (h : ladder_Climb.f k a0_0 a0_1 a0_2 a0_3 a0_4 a0_5 a0_6 l1 = some (r1, r2, r3, r4, r5, r6, r7, r8)) :
  Calls Try.prog 24 #[.agg #[.int .i64 a0_0, .int .i64 a0_1, .int .i64 a0_2, .int .i64 a0_3, .int .i64 a0_4, .int .i64 a0_5, .int .i64 a0_6], .slice A1 l1.length c1] w fun e w' => ∃ v0_ : Value, e = .returned (.tuple #[.agg #[v0_, .int .i64 r2, .int .i64 r3, .int .i64 r4, .int .i64 r5, .int .i64 r6], .int .i64 r7, .int .i64 r8]) ∧ Kd.R (Kd.int .u8) 5 w' w.heap.size (fun _ => True) v0_ r1 ∧ Below w.heap.size w w' := by
 have HB := br_ w
 have HCC := ak_ hr1
 clear hr1 hc1
 unfold ladder_Climb.f at h
 obtain ⟨ec, hchk, h2⟩ := Option.bind_eq_some_iff.1 h
 clear h
 have HCHK := ak_ hchk
 clear hchk
 by_cases e0 : ec = 0
 ·rw [if_pos e0] at h2
  subst e0
  by_cases hn : l1.length = 0
  ·rw [if_pos hn] at h2
   have HE := ak_ (si_ h2)
   clear h2
   have n0_ : ((l1.length : Int) == 0) = true := beq_iff_eq.2 (by omega)
   have n1_ : (l1.length == 0) = true := beq_iff_eq.2 hn
   go_enter Try.func24, Try.ntmps24
   go_wp2_with (first | ((with_reducible refine gate_dst (N := 2) rfl ?_); (try (refine gate_guard (by rfl) ?_; dsimp only)); refine box_event ?hg (N := 2) ?hd (cs := #[.int .i64 a0_0, .int .i64 a0_1, .int .i64 a0_2, .int .i64 a0_3, .int .i64 a0_4, .int .i64 a0_5, .int .i64 a0_6]) (t := 23) ?hr ?_; (case hd => rfl); (case hg => rfl); (case hr => (go_simp; done)); intro g2 hg w1 hbox hb; have GE2 := ak_ ((by rw [hg]; exact (below_size HB.out)) : w.heap.size ≤ g2); have n0_ := ak_ (below_step HB.out hb); clear HB hb; have HB := n0_; clear n0_; have BK2 := ak_ hbox; clear hbox hg) | ((with_reducible refine gate_dst (N := 3) rfl ?_); (try (refine gate_guard (by rfl) ?_; dsimp only)); refine box_event ?hg (N := 3) ?hd (cs := #[.slice A1 l1.length c1]) (t := 39) ?hr ?_; (case hd => rfl); (case hg => rfl); (case hr => (go_simp; done)); intro g3 hg w2 hbox hb; have GE3 := ak_ ((by rw [hg]; exact (below_size HB.out)) : w.heap.size ≤ g3); have n0_ := ak_ (below_step HB.out hb); have n2_ := ak_ (blk_below BK2.out hb); clear HB BK2; have HB := n0_; have BK2 := n2_; clear n0_ n2_ hb; have BK3 := ak_ hbox; clear hbox hg) | ((with_reducible refine gate_dst (N := 4) rfl ?_); (try (refine gate_guard (by rfl) ?_; dsimp only)); refine box_event ?hg (N := 4) ?hd (cs := #[.slice none 0 0, .int .i64 0, .int .i64 0, .int .i64 0, .int .i64 0, .int .i64 0]) (t := 42) ?hr ?_; (case hd => rfl); (case hg => rfl); (case hr => (go_simp; done)); intro g4 hg w3 hbox hb; have GE4 := ak_ ((by rw [hg]; exact (below_size HB.out)) : w.heap.size ≤ g4); have n0_ := ak_ (below_step HB.out hb); have n2_ := ak_ (blk_below BK2.out hb); have n3_ := ak_ (blk_below BK3.out hb); clear HB BK2 BK3; have HB := n0_; have BK2 := n2_; have BK3 := n3_; clear n0_ n2_ n3_ hb; have BK4 := ak_ hbox; clear hbox hg; have z0_ : w3.cell? ⟨g2, 0, none⟩ = some (.int .i64 a0_0) := (bc_ BK2.out 0).trans rfl; have z1_ : w3.cell? ⟨g2, 1, none⟩ = some (.int .i64 a0_1) := (bc_ BK2.out 1).trans rfl; have z2_ : w3.cell? ⟨g2, 2, none⟩ = some (.int .i64 a0_2) := (bc_ BK2.out 2).trans rfl; have z3_ : w3.cell? ⟨g2, 3, none⟩ = some (.int .i64 a0_3) := (bc_ BK2.out 3).trans rfl; have z4_ : w3.cell? ⟨g2, 4, none⟩ = some (.int .i64 a0_4) := (bc_ BK2.out 4).trans rfl; have z5_ : w3.cell? ⟨g2, 5, none⟩ = some (.int .i64 a0_5) := (bc_ BK2.out 5).trans rfl; have z6_ : w3.cell? ⟨g2, 6, none⟩ = some (.int .i64 a0_6) := (bc_ BK2.out 6).trans rfl; have u0_ : w3.cell? ⟨g3, 0, none⟩ = some (.slice A1 l1.length c1) := (bc_ BK3.out 0).trans rfl) | ((with_reducible refine gate_callee (f := 35) rfl ?_); refine goesL_ (some 10) rfl rfl Try.func35 (by kernel_rfl) rfl #[.agg #[.int .i64 a0_0, .int .i64 a0_1, .int .i64 a0_2, .int .i64 a0_3, .int .i64 a0_4, .int .i64 a0_5, .int .i64 a0_6]] rfl (by (try simp only [List.map_toArray, List.map_cons, List.map_nil]); first | done | rfl) ?_; (with_reducible refine (geom_Check.calls a0_0 a0_1 a0_2 a0_3 a0_4 a0_5 a0_6 0 _ HCHK.out).mono ?_); rintro e w5 ⟨rfl, hb⟩; refine ⟨_, rfl, ?_⟩; clear z0_ z1_ z2_ z3_ z4_ z5_ z6_ u0_; have n0_ := ak_ (below_step HB.out hb); have n2_ := ak_ (blk_below BK2.out hb); have n3_ := ak_ (blk_below BK3.out hb); have n4_ := ak_ (blk_below BK4.out hb); clear HB BK2 BK3 BK4; have HB := n0_; have BK2 := n2_; have BK3 := n3_; have BK4 := n4_; clear n0_ n2_ n3_ n4_ hb; have z0_ : w5.cell? ⟨g2, 0, none⟩ = some (.int .i64 a0_0) := (bc_ BK2.out 0).trans rfl; have z1_ : w5.cell? ⟨g2, 1, none⟩ = some (.int .i64 a0_1) := (bc_ BK2.out 1).trans rfl; have z2_ : w5.cell? ⟨g2, 2, none⟩ = some (.int .i64 a0_2) := (bc_ BK2.out 2).trans rfl; have z3_ : w5.cell? ⟨g2, 3, none⟩ = some (.int .i64 a0_3) := (bc_ BK2.out 3).trans rfl; have z4_ : w5.cell? ⟨g2, 4, none⟩ = some (.int .i64 a0_4) := (bc_ BK2.out 4).trans rfl; have z5_ : w5.cell? ⟨g2, 5, none⟩ = some (.int .i64 a0_5) := (bc_ BK2.out 5).trans rfl; have z6_ : w5.cell? ⟨g2, 6, none⟩ = some (.int .i64 a0_6) := (bc_ BK2.out 6).trans rfl; have u0_ : w5.cell? ⟨g3, 0, none⟩ = some (.slice A1 l1.length c1) := (bc_ BK3.out 0).trans rfl; have y0_ := bc_ BK4.out 0; have yf0_ := bf_ BK4.out 0; have y1_ := bc_ BK4.out 1; have yf1_ := bf_ BK4.out 1; have y2_ := bc_ BK4.out 2; have yf2_ := bf_ BK4.out 2; have y3_ := bc_ BK4.out 3; have yf3_ := bf_ BK4.out 3; have y4_ := bc_ BK4.out 4; have yf4_ := bf_ BK4.out 4; have y5_ := bc_ BK4.out 5; have yf5_ := bf_ BK4.out 5) | (go_at_call 35; (with_reducible refine (geom_Check.calls a0_0 a0_1 a0_2 a0_3 a0_4 a0_5 a0_6 0 _ HCHK.out).mono ?_); rintro e w5 ⟨rfl, hb⟩; clear z0_ z1_ z2_ z3_ z4_ z5_ z6_ u0_; have n0_ := ak_ (below_step (by repeat (first | (with_reducible first | exact HB.out | apply below_alloc | apply pw_below_drewN | apply below_drew1) | exact HB.out)) hb); have n2_ := ak_ (blk_below (g := g2) (o := .cells #[.int .i64 a0_0, .int .i64 a0_1, .int .i64 a0_2, .int .i64 a0_3, .int .i64 a0_4, .int .i64 a0_5, .int .i64 a0_6] 23 (0, 0)) (by (with_reducible repeat (first | apply blk_drewN | apply blk_drew | apply blk_alloc)); exact BK2.out) hb); have n3_ := ak_ (blk_below (g := g3) (o := .cells #[.slice A1 l1.length c1] 39 (0, 0)) (by (with_reducible repeat (first | apply blk_drewN | apply blk_drew | apply blk_alloc)); exact BK3.out) hb); have n4_ := ak_ (blk_below (g := g4) (o := .cells #[.slice none 0 0, .int .i64 0, .int .i64 0, .int .i64 0, .int .i64 0, .int .i64 0] 42 (0, 0)) (by (with_reducible repeat (first | apply blk_drewN | apply blk_drew | apply blk_alloc)); exact BK4.out) hb); clear HB BK2 BK3 BK4; have HB := n0_; have BK2 := n2_; have BK3 := n3_; have BK4 := n4_; clear n0_ n2_ n3_ n4_ hb; have z0_ : w5.cell? ⟨g2, 0, none⟩ = some (.int .i64 a0_0) := (bc_ BK2.out 0).trans rfl; have z1_ : w5.cell? ⟨g2, 1, none⟩ = some (.int .i64 a0_1) := (bc_ BK2.out 1).trans rfl; have z2_ : w5.cell? ⟨g2, 2, none⟩ = some (.int .i64 a0_2) := (bc_ BK2.out 2).trans rfl; have z3_ : w5.cell? ⟨g2, 3, none⟩ = some (.int .i64 a0_3) := (bc_ BK2.out 3).trans rfl; have z4_ : w5.cell? ⟨g2, 4, none⟩ = some (.int .i64 a0_4) := (bc_ BK2.out 4).trans rfl; have z5_ : w5.cell? ⟨g2, 5, none⟩ = some (.int .i64 a0_5) := (bc_ BK2.out 5).trans rfl; have z6_ : w5.cell? ⟨g2, 6, none⟩ = some (.int .i64 a0_6) := (bc_ BK2.out 6).trans rfl; have u0_ : w5.cell? ⟨g3, 0, none⟩ = some (.slice A1 l1.length c1) := (bc_ BK3.out 0).trans rfl; have y0_ := bc_ BK4.out 0; have yf0_ := bf_ BK4.out 0; have y1_ := bc_ BK4.out 1; have yf1_ := bf_ BK4.out 1; have y2_ := bc_ BK4.out 2; have yf2_ := bf_ BK4.out 2; have y3_ := bc_ BK4.out 3; have yf3_ := bf_ BK4.out 3; have y4_ := bc_ BK4.out 4; have yf4_ := bf_ BK4.out 4; have y5_ := bc_ BK4.out 5; have yf5_ := bf_ BK4.out 5))
   obtain ⟨rfl, rfl, rfl, rfl, rfl, rfl, rfl, rfl⟩ : [] = r1 ∧ 0 = r2 ∧ 0 = r3 ∧ 0 = r4 ∧ 0 = r5 ∧ 0 = r6 ∧ 0 = r7 ∧ 2 = r8 := by simpa using HE.out
   refine bodyPost_ret (results_list (rs := [.cell 4 42, .tmp 5, .tmp 6]) rfl (by simp) (.cell g4 42 #[.slice none 0 0, .int .i64 0, .int .i64 0, .int .i64 0, .int .i64 0, .int .i64 0] (0, 0) _ rfl (ladder_Climb_put6 BK4.out _ _ _ _ _ _) Try.underlying42 rfl (by kernel_rfl) (.tmp (.tmp .nil)))) rfl ?_
   exact ⟨_, rfl, Kd.R_nil _ _ _ _ _, ladder_Climb_below6 HB.out GE4.out _ _ _ _ _ _⟩
  ·rw [if_neg hn] at h2
   obtain ⟨ad, rfl, _⟩ := HCC.out.2.2 (by omega)
   have n0_ : ((l1.length : Int) == 0) = false := beq_eq_false_iff_ne.2 (by omega)
   have n1_ : (l1.length == 0) = false := beq_eq_false_iff_ne.2 hn
   by_cases hg : (l1.length : Int) > a0_5
   ·rw [if_pos hg] at h2
    have HE := ak_ (si_ h2)
    clear h2
    have m0_ : decide ((l1.length : Int) > a0_5) = true := dt_ hg
    have m1_ : decide (a0_5 < (l1.length : Int)) = true := dt_ hg
    go_enter Try.func24, Try.ntmps24
    go_wp2_with (first | ((with_reducible refine gate_dst (N := 2) rfl ?_); (try (refine gate_guard (by rfl) ?_; dsimp only)); refine box_event ?hg (N := 2) ?hd (cs := #[.int .i64 a0_0, .int .i64 a0_1, .int .i64 a0_2, .int .i64 a0_3, .int .i64 a0_4, .int .i64 a0_5, .int .i64 a0_6]) (t := 23) ?hr ?_; (case hd => rfl); (case hg => rfl); (case hr => (go_simp; done)); intro g2 hg w1 hbox hb; have GE2 := ak_ ((by rw [hg]; exact (below_size HB.out)) : w.heap.size ≤ g2); have n0_ := ak_ (below_step HB.out hb); clear HB hb; have HB := n0_; clear n0_; have BK2 := ak_ hbox; clear hbox hg) | ((with_reducible refine gate_dst (N := 3) rfl ?_); (try (refine gate_guard (by rfl) ?_; dsimp only)); refine box_event ?hg (N := 3) ?hd (cs := #[.slice (some ad) l1.length c1]) (t := 39) ?hr ?_; (case hd => rfl); (case hg => rfl); (case hr => (go_simp; done)); intro g3 hg w2 hbox hb; have GE3 := ak_ ((by rw [hg]; exact (below_size HB.out)) : w.heap.size ≤ g3); have n0_ := ak_ (below_step HB.out hb); have n2_ := ak_ (blk_below BK2.out hb); clear HB BK2; have HB := n0_; have BK2 := n2_; clear n0_ n2_ hb; have BK3 := ak_ hbox; clear hbox hg) | ((with_reducible refine gate_dst (N := 4) rfl ?_); (try (refine gate_guard (by rfl) ?_; dsimp only)); refine box_event ?hg (N := 4) ?hd (cs := #[.slice none 0 0, .int .i64 0, .int .i64 0, .int .i64 0, .int .i64 0, .int .i64 0]) (t := 42) ?hr ?_; (case hd => rfl); (case hg => rfl); (case hr => (go_simp; done)); intro g4 hg w3 hbox hb; have GE4 := ak_ ((by rw [hg]; exact (below_size HB.out)) : w.heap.size ≤ g4); have n0_ := ak_ (below_step HB.out hb); have n2_ := ak_ (blk_below BK2.out hb); have n3_ := ak_ (blk_below BK3.out hb); clear HB BK2 BK3; have HB := n0_; have BK2 := n2_; have BK3 := n3_; clear n0_ n2_ n3_ hb; have BK4 := ak_ hbox; clear hbox hg; have z0_ : w3.cell? ⟨g2, 0, none⟩ = some (.int .i64 a0_0) := (bc_ BK2.out 0).trans rfl; have z1_ : w3.cell? ⟨g2, 1, none⟩ = some (.int .i64 a0_1) := (bc_ BK2.out 1).trans rfl; have z2_ : w3.cell? ⟨g2, 2, none⟩ = some (.int .i64 a0_2) := (bc_ BK2.out 2).trans rfl; have z3_ : w3.cell? ⟨g2, 3, none⟩ = some (.int .i64 a0_3) := (bc_ BK2.out 3).trans rfl; have z4_ : w3.cell? ⟨g2, 4, none⟩ = some (.int .i64 a0_4) := (bc_ BK2.out 4).trans rfl; have z5_ : w3.cell? ⟨g2, 5, none⟩ = some (.int .i64 a0_5) := (bc_ BK2.out 5).trans rfl; have z6_ : w3.cell? ⟨g2, 6, none⟩ = some (.int .i64 a0_6) := (bc_ BK2.out 6).trans rfl; have u0_ : w3.cell? ⟨g3, 0, none⟩ = some (.slice (some ad) l1.length c1) := (bc_ BK3.out 0).trans rfl) | ((with_reducible refine gate_callee (f := 35) rfl ?_); refine goesL_ (some 10) rfl rfl Try.func35 (by kernel_rfl) rfl #[.agg #[.int .i64 a0_0, .int .i64 a0_1, .int .i64 a0_2, .int .i64 a0_3, .int .i64 a0_4, .int .i64 a0_5, .int .i64 a0_6]] rfl (by (try simp only [List.map_toArray, List.map_cons, List.map_nil]); first | done | rfl) ?_; (with_reducible refine (geom_Check.calls a0_0 a0_1 a0_2 a0_3 a0_4 a0_5 a0_6 0 _ HCHK.out).mono ?_); rintro e w5 ⟨rfl, hb⟩; refine ⟨_, rfl, ?_⟩; clear z0_ z1_ z2_ z3_ z4_ z5_ z6_ u0_; have n0_ := ak_ (below_step HB.out hb); have n2_ := ak_ (blk_below BK2.out hb); have n3_ := ak_ (blk_below BK3.out hb); have n4_ := ak_ (blk_below BK4.out hb); clear HB BK2 BK3 BK4; have HB := n0_; have BK2 := n2_; have BK3 := n3_; have BK4 := n4_; clear n0_ n2_ n3_ n4_ hb; have z0_ : w5.cell? ⟨g2, 0, none⟩ = some (.int .i64 a0_0) := (bc_ BK2.out 0).trans rfl; have z1_ : w5.cell? ⟨g2, 1, none⟩ = some (.int .i64 a0_1) := (bc_ BK2.out 1).trans rfl; have z2_ : w5.cell? ⟨g2, 2, none⟩ = some (.int .i64 a0_2) := (bc_ BK2.out 2).trans rfl; have z3_ : w5.cell? ⟨g2, 3, none⟩ = some (.int .i64 a0_3) := (bc_ BK2.out 3).trans rfl; have z4_ : w5.cell? ⟨g2, 4, none⟩ = some (.int .i64 a0_4) := (bc_ BK2.out 4).trans rfl; have z5_ : w5.cell? ⟨g2, 5, none⟩ = some (.int .i64 a0_5) := (bc_ BK2.out 5).trans rfl; have z6_ : w5.cell? ⟨g2, 6, none⟩ = some (.int .i64 a0_6) := (bc_ BK2.out 6).trans rfl; have u0_ : w5.cell? ⟨g3, 0, none⟩ = some (.slice (some ad) l1.length c1) := (bc_ BK3.out 0).trans rfl; have y0_ := bc_ BK4.out 0; have yf0_ := bf_ BK4.out 0; have y1_ := bc_ BK4.out 1; have yf1_ := bf_ BK4.out 1; have y2_ := bc_ BK4.out 2; have yf2_ := bf_ BK4.out 2; have y3_ := bc_ BK4.out 3; have yf3_ := bf_ BK4.out 3; have y4_ := bc_ BK4.out 4; have yf4_ := bf_ BK4.out 4; have y5_ := bc_ BK4.out 5; have yf5_ := bf_ BK4.out 5) | (go_at_call 35; (with_reducible refine (geom_Check.calls a0_0 a0_1 a0_2 a0_3 a0_4 a0_5 a0_6 0 _ HCHK.out).mono ?_); rintro e w5 ⟨rfl, hb⟩; clear z0_ z1_ z2_ z3_ z4_ z5_ z6_ u0_; have n0_ := ak_ (below_step (by repeat (first | (with_reducible first | exact HB.out | apply below_alloc | apply pw_below_drewN | apply below_drew1) | exact HB.out)) hb); have n2_ := ak_ (blk_below (g := g2) (o := .cells #[.int .i64 a0_0, .int .i64 a0_1, .int .i64 a0_2, .int .i64 a0_3, .int .i64 a0_4, .int .i64 a0_5, .int .i64 a0_6] 23 (0, 0)) (by (with_reducible repeat (first | apply blk_drewN | apply blk_drew | apply blk_alloc)); exact BK2.out) hb); have n3_ := ak_ (blk_below (g := g3) (o := .cells #[.slice (some ad) l1.length c1] 39 (0, 0)) (by (with_reducible repeat (first | apply blk_drewN | apply blk_drew | apply blk_alloc)); exact BK3.out) hb); have n4_ := ak_ (blk_below (g := g4) (o := .cells #[.slice none 0 0, .int .i64 0, .int .i64 0, .int .i64 0, .int .i64 0, .int .i64 0] 42 (0, 0)) (by (with_reducible repeat (first | apply blk_drewN | apply blk_drew | apply blk_alloc)); exact BK4.out) hb); clear HB BK2 BK3 BK4; have HB := n0_; have BK2 := n2_; have BK3 := n3_; have BK4 := n4_; clear n0_ n2_ n3_ n4_ hb; have z0_ : w5.cell? ⟨g2, 0, none⟩ = some (.int .i64 a0_0) := (bc_ BK2.out 0).trans rfl; have z1_ : w5.cell? ⟨g2, 1, none⟩ = some (.int .i64 a0_1) := (bc_ BK2.out 1).trans rfl; have z2_ : w5.cell? ⟨g2, 2, none⟩ = some (.int .i64 a0_2) := (bc_ BK2.out 2).trans rfl; have z3_ : w5.cell? ⟨g2, 3, none⟩ = some (.int .i64 a0_3) := (bc_ BK2.out 3).trans rfl; have z4_ : w5.cell? ⟨g2, 4, none⟩ = some (.int .i64 a0_4) := (bc_ BK2.out 4).trans rfl; have z5_ : w5.cell? ⟨g2, 5, none⟩ = some (.int .i64 a0_5) := (bc_ BK2.out 5).trans rfl; have z6_ : w5.cell? ⟨g2, 6, none⟩ = some (.int .i64 a0_6) := (bc_ BK2.out 6).trans rfl; have u0_ : w5.cell? ⟨g3, 0, none⟩ = some (.slice (some ad) l1.length c1) := (bc_ BK3.out 0).trans rfl; have y0_ := bc_ BK4.out 0; have yf0_ := bf_ BK4.out 0; have y1_ := bc_ BK4.out 1; have yf1_ := bf_ BK4.out 1; have y2_ := bc_ BK4.out 2; have yf2_ := bf_ BK4.out 2; have y3_ := bc_ BK4.out 3; have yf3_ := bf_ BK4.out 3; have y4_ := bc_ BK4.out 4; have yf4_ := bf_ BK4.out 4; have y5_ := bc_ BK4.out 5; have yf5_ := bf_ BK4.out 5))
    obtain ⟨rfl, rfl, rfl, rfl, rfl, rfl, rfl, rfl⟩ : [] = r1 ∧ 0 = r2 ∧ 0 = r3 ∧ 0 = r4 ∧ 0 = r5 ∧ 0 = r6 ∧ 0 = r7 ∧ 2 = r8 := by simpa using HE.out
    refine bodyPost_ret (results_list (rs := [.cell 4 42, .tmp 5, .tmp 6]) rfl (by simp) (.cell g4 42 #[.slice none 0 0, .int .i64 0, .int .i64 0, .int .i64 0, .int .i64 0, .int .i64 0] (0, 0) _ rfl (ladder_Climb_put6 BK4.out _ _ _ _ _ _) Try.underlying42 rfl (by kernel_rfl) (.tmp (.tmp .nil)))) rfl ?_
    exact ⟨_, rfl, Kd.R_nil _ _ _ _ _, ladder_Climb_below6 HB.out GE4.out _ _ _ _ _ _⟩
   ·rw [if_neg hg] at h2
    have m0_ : decide ((l1.length : Int) > a0_5) = false := df_ hg
    have m1_ : decide (a0_5 < (l1.length : Int)) = false := df_ hg
    obtain ⟨q, hraw, h3⟩ := Option.bind_eq_some_iff.1 h2
    clear h2
    have HRAW := ak_ hraw
    have HE := ak_ h3
    clear hraw h3
    go_enter Try.func24, Try.ntmps24
    go_wp2_with (first | ((with_reducible refine gate_dst (N := 2) rfl ?_); (try (refine gate_guard (by rfl) ?_; dsimp only)); refine box_event ?hg (N := 2) ?hd (cs := #[.int .i64 a0_0, .int .i64 a0_1, .int .i64 a0_2, .int .i64 a0_3, .int .i64 a0_4, .int .i64 a0_5, .int .i64 a0_6]) (t := 23) ?hr ?_; (case hd => rfl); (case hg => rfl); (case hr => (go_simp; done)); intro g2 hg w1 hbox hb; have GE2 := ak_ ((by rw [hg]; exact (below_size HB.out)) : w.heap.size ≤ g2); have n0_ := ak_ (below_step HB.out hb); clear HB hb; have HB := n0_; clear n0_; have BK2 := ak_ hbox; clear hbox hg) | ((with_reducible refine gate_dst (N := 3) rfl ?_); (try (refine gate_guard (by rfl) ?_; dsimp only)); refine box_event ?hg (N := 3) ?hd (cs := #[.slice (some ad) l1.length c1]) (t := 39) ?hr ?_; (case hd => rfl); (case hg => rfl); (case hr => (go_simp; done)); intro g3 hg w2 hbox hb; have GE3 := ak_ ((by rw [hg]; exact (below_size HB.out)) : w.heap.size ≤ g3); have n0_ := ak_ (below_step HB.out hb); have n2_ := ak_ (blk_below BK2.out hb); clear HB BK2; have HB := n0_; have BK2 := n2_; clear n0_ n2_ hb; have BK3 := ak_ hbox; clear hbox hg) | ((with_reducible refine gate_dst (N := 4) rfl ?_); (try (refine gate_guard (by rfl) ?_; dsimp only)); refine box_event ?hg (N := 4) ?hd (cs := #[.slice none 0 0, .int .i64 0, .int .i64 0, .int .i64 0, .int .i64 0, .int .i64 0]) (t := 42) ?hr ?_; (case hd => rfl); (case hg => rfl); (case hr => (go_simp; done)); intro g4 hg w3 hbox hb; have GE4 := ak_ ((by rw [hg]; exact (below_size HB.out)) : w.heap.size ≤ g4); have n0_ := ak_ (below_step HB.out hb); have n2_ := ak_ (blk_below BK2.out hb); have n3_ := ak_ (blk_below BK3.out hb); clear HB BK2 BK3; have HB := n0_; have BK2 := n2_; have BK3 := n3_; clear n0_ n2_ n3_ hb; have BK4 := ak_ hbox; clear hbox hg; have z0_ : w3.cell? ⟨g2, 0, none⟩ = some (.int .i64 a0_0) := (bc_ BK2.out 0).trans rfl; have z1_ : w3.cell? ⟨g2, 1, none⟩ = some (.int .i64 a0_1) := (bc_ BK2.out 1).trans rfl; have z2_ : w3.cell? ⟨g2, 2, none⟩ = some (.int .i64 a0_2) := (bc_ BK2.out 2).trans rfl; have z3_ : w3.cell? ⟨g2, 3, none⟩ = some (.int .i64 a0_3) := (bc_ BK2.out 3).trans rfl; have z4_ : w3.cell? ⟨g2, 4, none⟩ = some (.int .i64 a0_4) := (bc_ BK2.out 4).trans rfl; have z5_ : w3.cell? ⟨g2, 5, none⟩ = some (.int .i64 a0_5) := (bc_ BK2.out 5).trans rfl; have z6_ : w3.cell? ⟨g2, 6, none⟩ = some (.int .i64 a0_6) := (bc_ BK2.out 6).trans rfl; have u0_ : w3.cell? ⟨g3, 0, none⟩ = some (.slice (some ad) l1.length c1) := (bc_ BK3.out 0).trans rfl) | ((with_reducible refine gate_callee (f := 35) rfl ?_); refine goesL_ (some 10) rfl rfl Try.func35 (by kernel_rfl) rfl #[.agg #[.int .i64 a0_0, .int .i64 a0_1, .int .i64 a0_2, .int .i64 a0_3, .int .i64 a0_4, .int .i64 a0_5, .int .i64 a0_6]] rfl (by (try simp only [List.map_toArray, List.map_cons, List.map_nil]); first | done | rfl) ?_; (with_reducible refine (geom_Check.calls a0_0 a0_1 a0_2 a0_3 a0_4 a0_5 a0_6 0 _ HCHK.out).mono ?_); rintro e w5 ⟨rfl, hb⟩; refine ⟨_, rfl, ?_⟩; clear z0_ z1_ z2_ z3_ z4_ z5_ z6_ u0_; have n0_ := ak_ (below_step HB.out hb); have n2_ := ak_ (blk_below BK2.out hb); have n3_ := ak_ (blk_below BK3.out hb); have n4_ := ak_ (blk_below BK4.out hb); clear HB BK2 BK3 BK4; have HB := n0_; have BK2 := n2_; have BK3 := n3_; have BK4 := n4_; clear n0_ n2_ n3_ n4_ hb; have z0_ : w5.cell? ⟨g2, 0, none⟩ = some (.int .i64 a0_0) := (bc_ BK2.out 0).trans rfl; have z1_ : w5.cell? ⟨g2, 1, none⟩ = some (.int .i64 a0_1) := (bc_ BK2.out 1).trans rfl; have z2_ : w5.cell? ⟨g2, 2, none⟩ = some (.int .i64 a0_2) := (bc_ BK2.out 2).trans rfl; have z3_ : w5.cell? ⟨g2, 3, none⟩ = some (.int .i64 a0_3) := (bc_ BK2.out 3).trans rfl; have z4_ : w5.cell? ⟨g2, 4, none⟩ = some (.int .i64 a0_4) := (bc_ BK2.out 4).trans rfl; have z5_ : w5.cell? ⟨g2, 5, none⟩ = some (.int .i64 a0_5) := (bc_ BK2.out 5).trans rfl; have z6_ : w5.cell? ⟨g2, 6, none⟩ = some (.int .i64 a0_6) := (bc_ BK2.out 6).trans rfl; have u0_ : w5.cell? ⟨g3, 0, none⟩ = some (.slice (some ad) l1.length c1) := (bc_ BK3.out 0).trans rfl; have y0_ := bc_ BK4.out 0; have yf0_ := bf_ BK4.out 0; have y1_ := bc_ BK4.out 1; have yf1_ := bf_ BK4.out 1; have y2_ := bc_ BK4.out 2; have yf2_ := bf_ BK4.out 2; have y3_ := bc_ BK4.out 3; have yf3_ := bf_ BK4.out 3; have y4_ := bc_ BK4.out 4; have yf4_ := bf_ BK4.out 4; have y5_ := bc_ BK4.out 5; have yf5_ := bf_ BK4.out 5) | (go_at_call 35; (with_reducible refine (geom_Check.calls a0_0 a0_1 a0_2 a0_3 a0_4 a0_5 a0_6 0 _ HCHK.out).mono ?_); rintro e w5 ⟨rfl, hb⟩; clear z0_ z1_ z2_ z3_ z4_ z5_ z6_ u0_; have n0_ := ak_ (below_step (by repeat (first | (with_reducible first | exact HB.out | apply below_alloc | apply pw_below_drewN | apply below_drew1) | exact HB.out)) hb); have n2_ := ak_ (blk_below (g := g2) (o := .cells #[.int .i64 a0_0, .int .i64 a0_1, .int .i64 a0_2, .int .i64 a0_3, .int .i64 a0_4, .int .i64 a0_5, .int .i64 a0_6] 23 (0, 0)) (by (with_reducible repeat (first | apply blk_drewN | apply blk_drew | apply blk_alloc)); exact BK2.out) hb); have n3_ := ak_ (blk_below (g := g3) (o := .cells #[.slice (some ad) l1.length c1] 39 (0, 0)) (by (with_reducible repeat (first | apply blk_drewN | apply blk_drew | apply blk_alloc)); exact BK3.out) hb); have n4_ := ak_ (blk_below (g := g4) (o := .cells #[.slice none 0 0, .int .i64 0, .int .i64 0, .int .i64 0, .int .i64 0, .int .i64 0] 42 (0, 0)) (by (with_reducible repeat (first | apply blk_drewN | apply blk_drew | apply blk_alloc)); exact BK4.out) hb); clear HB BK2 BK3 BK4; have HB := n0_; have BK2 := n2_; have BK3 := n3_; have BK4 := n4_; clear n0_ n2_ n3_ n4_ hb; have z0_ : w5.cell? ⟨g2, 0, none⟩ = some (.int .i64 a0_0) := (bc_ BK2.out 0).trans rfl; have z1_ : w5.cell? ⟨g2, 1, none⟩ = some (.int .i64 a0_1) := (bc_ BK2.out 1).trans rfl; have z2_ : w5.cell? ⟨g2, 2, none⟩ = some (.int .i64 a0_2) := (bc_ BK2.out 2).trans rfl; have z3_ : w5.cell? ⟨g2, 3, none⟩ = some (.int .i64 a0_3) := (bc_ BK2.out 3).trans rfl; have z4_ : w5.cell? ⟨g2, 4, none⟩ = some (.int .i64 a0_4) := (bc_ BK2.out 4).trans rfl; have z5_ : w5.cell? ⟨g2, 5, none⟩ = some (.int .i64 a0_5) := (bc_ BK2.out 5).trans rfl; have z6_ : w5.cell? ⟨g2, 6, none⟩ = some (.int .i64 a0_6) := (bc_ BK2.out 6).trans rfl; have u0_ : w5.cell? ⟨g3, 0, none⟩ = some (.slice (some ad) l1.length c1) := (bc_ BK3.out 0).trans rfl; have y0_ := bc_ BK4.out 0; have yf0_ := bf_ BK4.out 0; have y1_ := bc_ BK4.out 1; have yf1_ := bf_ BK4.out 1; have y2_ := bc_ BK4.out 2; have yf2_ := bf_ BK4.out 2; have y3_ := bc_ BK4.out 3; have yf3_ := bf_ BK4.out 3; have y4_ := bc_ BK4.out 4; have yf4_ := bf_ BK4.out 4; have y5_ := bc_ BK4.out 5; have yf5_ := bf_ BK4.out 5))
    clear n0_ n1_ m0_ m1_ hg y0_ y1_ y2_ y3_ y4_ y5_ yf0_ yf1_ yf2_ yf3_ yf4_ yf5_ z0_ z1_ z2_ z3_ z4_ z5_ z6_ u0_
    go_loopw [27] (fun v27 wr => ∃ n : Nat, v27 = .int .i64 (n : Int) ∧ n ≤ l1.length ∧ Aside0 (l1.all (fun l => decide ((l.length : Int) = q)) = (l1.drop n).all (fun l => decide ((l.length : Int) = q))) ∧ Aside0 (wr.heap[g2]? = some (.cells #[.int .i64 a0_0, .int .i64 a0_1, .int .i64 a0_2, .int .i64 a0_3, .int .i64 a0_4, .int .i64 a0_5, .int .i64 a0_6] 23 (0, 0))) ∧ Aside0 (wr.heap[g3]? = some (.cells #[.slice (some ad) l1.length c1] 39 (0, 0))) ∧ Aside0 (wr.heap[g4]? = some (.cells #[.slice none 0 0, .int .i64 0, .int .i64 0, .int .i64 0, .int .i64 0, .int .i64 0] 42 (0, 0))) ∧ Aside0 (Below w.heap.size w wr)) (fun v27 _ => match v27 with | .int _ n => l1.length - n.toNat | _ => 0)
    case atStart => exact ⟨0, rfl, Nat.zero_le _, ⟨rfl⟩, ⟨BK2.out⟩, ⟨BK3.out⟩, ⟨BK4.out⟩, ⟨HB.out⟩⟩
    case round =>
     clear BK2 BK3 BK4 HB
     obtain ⟨n, rfl, hnl, HALL, BK2, BK3, BK4, HB⟩ := hrel
     have hmax := HCC.out.2.1
     unfold maxLen at hmax
     have HMX := ak_ hmax
     clear hmax
     by_cases hlt : n < l1.length
     ·obtain ⟨ad', A', c', hA, hx, hl, hC⟩ := ladder_Climb_at HCC.out (n : Int) (by omega) (by omega)
      obtain rfl : ad = ad' := si_ hA
      have hgn : l1.getD n [] = l1[n] := by simp [hlt]
      rw [Int.toNat_natCast, hgn] at hx
      have hw : wrap64 ((n : Int) + 1) = ((n + 1 : Nat) : Int) := by
       have := HMX.out
       unfold wrap64
       omega
      have hdrop : ∀ P : List Int → Bool, (l1.drop n).all P = (P l1[n] && (l1.drop (n + 1)).all P) := fun P => by rw [List.drop_eq_getElem_cons hlt, List.all_cons]
      have HDROP := ak_ hdrop
      clear hA hl hC hdrop hgn
      obtain ⟨pc, hpc⟩ : ∃ pc, l1[n] = pc := ⟨_, rfl⟩
      rw [hpc] at hx HDROP
      have cx_ : wr.cell? (ad.add n) = some (.slice A' pc.length c') := (HB.out.cell (World.block_lt_of_cell? w _ hx)).trans hx
      clear hx hpc
      have d1_ : decide ((n : Int) < (l1.length : Int)) = true := dt_ (by omega)
      have d2_ : decide (n < l1.length) = true := dt_ hlt
      have d3_ : ((n : Int) < (l1.length : Int)) = True := eq_true (by omega)
      have d4_ : (n < l1.length) = True := eq_true hlt
      have z0_ : wr.cell? ⟨g2, 0, none⟩ = some (.int .i64 a0_0) := (bc_ BK2.out 0).trans rfl; have z1_ : wr.cell? ⟨g2, 1, none⟩ = some (.int .i64 a0_1) := (bc_ BK2.out 1).trans rfl; have z2_ : wr.cell? ⟨g2, 2, none⟩ = some (.int .i64 a0_2) := (bc_ BK2.out 2).trans rfl; have z3_ : wr.cell? ⟨g2, 3, none⟩ = some (.int .i64 a0_3) := (bc_ BK2.out 3).trans rfl; have z4_ : wr.cell? ⟨g2, 4, none⟩ = some (.int .i64 a0_4) := (bc_ BK2.out 4).trans rfl; have z5_ : wr.cell? ⟨g2, 5, none⟩ = some (.int .i64 a0_5) := (bc_ BK2.out 5).trans rfl; have z6_ : wr.cell? ⟨g2, 6, none⟩ = some (.int .i64 a0_6) := (bc_ BK2.out 6).trans rfl; have u0_ : wr.cell? ⟨g3, 0, none⟩ = some (.slice (some ad) l1.length c1) := (bc_ BK3.out 0).trans rfl; have y0_ := bc_ BK4.out 0; have yf0_ := bf_ BK4.out 0; have y1_ := bc_ BK4.out 1; have yf1_ := bf_ BK4.out 1; have y2_ := bc_ BK4.out 2; have yf2_ := bf_ BK4.out 2; have y3_ := bc_ BK4.out 3; have yf3_ := bf_ BK4.out 3; have y4_ := bc_ BK4.out 4; have yf4_ := bf_ BK4.out 4; have y5_ := bc_ BK4.out 5; have yf5_ := bf_ BK4.out 5
      by_cases hq : (pc.length : Int) = q
      ·have f0_ : ((pc.length : Int) != q) = false := bne_eq_false_iff_eq.2 hq
       have f1_ : ((pc.length : Int) == q) = true := beq_iff_eq.2 hq
       have HQ := ak_ hq
       clear hq
       go_wp2_with (first | ((with_reducible refine gate_callee (f := 16) rfl ?_); refine goesL_ (some 34) rfl rfl Try.func16 (by kernel_rfl) rfl #[.agg #[.int .i64 a0_0, .int .i64 a0_1, .int .i64 a0_2, .int .i64 a0_3, .int .i64 a0_4, .int .i64 a0_5, .int .i64 a0_6]] rfl (by (try simp only [List.map_toArray, List.map_cons, List.map_nil]); first | done | rfl) ?_; (with_reducible refine (geom_Raw.calls a0_0 a0_1 a0_2 a0_3 a0_4 a0_5 a0_6 q _ HRAW.out).mono ?_); rintro e w5 ⟨rfl, hb⟩; refine ⟨_, rfl, ?_⟩; clear z0_ z1_ z2_ z3_ z4_ z5_ z6_ u0_; have n0_ := ak_ (below_step HB.out hb); have n2_ := ak_ (blk_below BK2.out hb); have n3_ := ak_ (blk_below BK3.out hb); have n4_ := ak_ (blk_below BK4.out hb); clear HB BK2 BK3 BK4; have HB := n0_; have BK2 := n2_; have BK3 := n3_; have BK4 := n4_; clear n0_ n2_ n3_ n4_ hb; have y0_ := bc_ BK4.out 0; have yf0_ := bf_ BK4.out 0; have y1_ := bc_ BK4.out 1; have yf1_ := bf_ BK4.out 1; have y2_ := bc_ BK4.out 2; have yf2_ := bf_ BK4.out 2; have y3_ := bc_ BK4.out 3; have yf3_ := bf_ BK4.out 3; have y4_ := bc_ BK4.out 4; have yf4_ := bf_ BK4.out 4; have y5_ := bc_ BK4.out 5; have yf5_ := bf_ BK4.out 5) | (go_at_call 16; (with_reducible refine (geom_Raw.calls a0_0 a0_1 a0_2 a0_3 a0_4 a0_5 a0_6 q _ HRAW.out).mono ?_); rintro e w5 ⟨rfl, hb⟩; clear z0_ z1_ z2_ z3_ z4_ z5_ z6_ u0_; have n0_ := ak_ (below_step (by repeat (first | (with_reducible first | exact HB.out | apply below_alloc | apply pw_below_drewN | apply below_drew1) | exact HB.out)) hb); have n2_ := ak_ (blk_below (g := g2) (o := .cells #[.int .i64 a0_0, .int .i64 a0_1, .int .i64 a0_2, .int .i64 a0_3, .int .i64 a0_4, .int .i64 a0_5, .int .i64 a0_6] 23 (0, 0)) (by (with_reducible repeat (first | apply blk_drewN | apply blk_drew | apply blk_alloc)); exact BK2.out) hb); have n3_ := ak_ (blk_below (g := g3) (o := .cells #[.slice (some ad) l1.length c1] 39 (0, 0)) (by (with_reducible repeat (first | apply blk_drewN | apply blk_drew | apply blk_alloc)); exact BK3.out) hb); have n4_ := ak_ (blk_below (g := g4) (o := .cells #[.slice none 0 0, .int .i64 0, .int .i64 0, .int .i64 0, .int .i64 0, .int .i64 0] 42 (0, 0)) (by (with_reducible repeat (first | apply blk_drewN | apply blk_drew | apply blk_alloc)); exact BK4.out) hb); clear HB BK2 BK3 BK4; have HB := n0_; have BK2 := n2_; have BK3 := n3_; have BK4 := n4_; clear n0_ n2_ n3_ n4_ hb; have y0_ := bc_ BK4.out 0; have yf0_ := bf_ BK4.out 0; have y1_ := bc_ BK4.out 1; have yf1_ := bf_ BK4.out 1; have y2_ := bc_ BK4.out 2; have yf2_ := bf_ BK4.out 2; have y3_ := bc_ BK4.out 3; have yf3_ := bf_ BK4.out 3; have y4_ := bc_ BK4.out 4; have yf4_ := bf_ BK4.out 4; have y5_ := bc_ BK4.out 5; have yf5_ := bf_ BK4.out 5))
       go_roundw
       case rel => exact ⟨n + 1, (by first | rfl | rw [hw] | simp [hw]), hlt, ⟨HALL.out.trans ((HDROP.out _).trans (by rw [dt_ HQ.out, Bool.true_and]))⟩, ⟨BK2.out⟩, ⟨BK3.out⟩, ⟨BK4.out⟩, ⟨HB.out⟩⟩
       case measure => (show l1.length - (wrap64 ((n : Int) + 1)).toNat < l1.length - ((n : Int)).toNat; rw [hw]; omega)
      ·have f0_ : ((pc.length : Int) != q) = true := bne_iff_ne.2 hq
       have f1_ : ((pc.length : Int) == q) = false := beq_eq_false_iff_ne.2 hq
       have hall : (l1.all fun l => decide ((l.length : Int) = q)) = false := HALL.out.trans ((HDROP.out _).trans (by rw [df_ hq, Bool.false_and]))
       have HE2 := HE.out
       rw [hall, if_neg (by decide)] at HE2
       clear HE hq
       have HE := ak_ (si_ HE2)
       clear HE2 hall
       go_wp2_with (first | ((with_reducible refine gate_callee (f := 16) rfl ?_); refine goesL_ (some 34) rfl rfl Try.func16 (by kernel_rfl) rfl #[.agg #[.int .i64 a0_0, .int .i64 a0_1, .int .i64 a0_2, .int .i64 a0_3, .int .i64 a0_4, .int .i64 a0_5, .int .i64 a0_6]] rfl (by (try simp only [List.map_toArray, List.map_cons, List.map_nil]); first | done | rfl) ?_; (with_reducible refine (geom_Raw.calls a0_0 a0_1 a0_2 a0_3 a0_4 a0_5 a0_6 q _ HRAW.out).mono ?_); rintro e w5 ⟨rfl, hb⟩; refine ⟨_, rfl, ?_⟩; clear z0_ z1_ z2_ z3_ z4_ z5_ z6_ u0_; have n0_ := ak_ (below_step HB.out hb); have n2_ := ak_ (blk_below BK2.out hb); have n3_ := ak_ (blk_below BK3.out hb); have n4_ := ak_ (blk_below BK4.out hb); clear HB BK2 BK3 BK4; have HB := n0_; have BK2 := n2_; have BK3 := n3_; have BK4 := n4_; clear n0_ n2_ n3_ n4_ hb; have y0_ := bc_ BK4.out 0; have yf0_ := bf_ BK4.out 0; have y1_ := bc_ BK4.out 1; have yf1_ := bf_ BK4.out 1; have y2_ := bc_ BK4.out 2; have yf2_ := bf_ BK4.out 2; have y3_ := bc_ BK4.out 3; have yf3_ := bf_ BK4.out 3; have y4_ := bc_ BK4.out 4; have yf4_ := bf_ BK4.out 4; have y5_ := bc_ BK4.out 5; have yf5_ := bf_ BK4.out 5) | (go_at_call 16; (with_reducible refine (geom_Raw.calls a0_0 a0_1 a0_2 a0_3 a0_4 a0_5 a0_6 q _ HRAW.out).mono ?_); rintro e w5 ⟨rfl, hb⟩; clear z0_ z1_ z2_ z3_ z4_ z5_ z6_ u0_; have n0_ := ak_ (below_step (by repeat (first | (with_reducible first | exact HB.out | apply below_alloc | apply pw_below_drewN | apply below_drew1) | exact HB.out)) hb); have n2_ := ak_ (blk_below (g := g2) (o := .cells #[.int .i64 a0_0, .int .i64 a0_1, .int .i64 a0_2, .int .i64 a0_3, .int .i64 a0_4, .int .i64 a0_5, .int .i64 a0_6] 23 (0, 0)) (by (with_reducible repeat (first | apply blk_drewN | apply blk_drew | apply blk_alloc)); exact BK2.out) hb); have n3_ := ak_ (blk_below (g := g3) (o := .cells #[.slice (some ad) l1.length c1] 39 (0, 0)) (by (with_reducible repeat (first | apply blk_drewN | apply blk_drew | apply blk_alloc)); exact BK3.out) hb); have n4_ := ak_ (blk_below (g := g4) (o := .cells #[.slice none 0 0, .int .i64 0, .int .i64 0, .int .i64 0, .int .i64 0, .int .i64 0] 42 (0, 0)) (by (with_reducible repeat (first | apply blk_drewN | apply blk_drew | apply blk_alloc)); exact BK4.out) hb); clear HB BK2 BK3 BK4; have HB := n0_; have BK2 := n2_; have BK3 := n3_; have BK4 := n4_; clear n0_ n2_ n3_ n4_ hb; have y0_ := bc_ BK4.out 0; have yf0_ := bf_ BK4.out 0; have y1_ := bc_ BK4.out 1; have yf1_ := bf_ BK4.out 1; have y2_ := bc_ BK4.out 2; have yf2_ := bf_ BK4.out 2; have y3_ := bc_ BK4.out 3; have yf3_ := bf_ BK4.out 3; have y4_ := bc_ BK4.out 4; have yf4_ := bf_ BK4.out 4; have y5_ := bc_ BK4.out 5; have yf5_ := bf_ BK4.out 5))
       obtain ⟨rfl, rfl, rfl, rfl, rfl, rfl, rfl, rfl⟩ : [] = r1 ∧ 0 = r2 ∧ 0 = r3 ∧ 0 = r4 ∧ 0 = r5 ∧ 0 = r6 ∧ 0 = r7 ∧ 2 = r8 := by simpa using HE.out
       refine bodyPost_ret (results_list (rs := [.cell 4 42, .tmp 5, .tmp 6]) rfl (by simp) (.cell g4 42 #[.slice none 0 0, .int .i64 0, .int .i64 0, .int .i64 0, .int .i64 0, .int .i64 0] (0, 0) _ rfl (ladder_Climb_put6 BK4.out _ _ _ _ _ _) Try.underlying42 rfl (by kernel_rfl) (.tmp (.tmp .nil)))) rfl ?_
       exact ⟨_, rfl, Kd.R_nil _ _ _ _ _, ladder_Climb_below6 HB.out GE4.out _ _ _ _ _ _⟩
     ·obtain rfl : n = l1.length := by omega
      have hall : (l1.all fun l => decide ((l.length : Int) = q)) = true := HALL.out.trans (by rw [List.drop_length]; rfl)
      have HE2 := HE.out
      rw [hall, if_pos rfl] at HE2
      have HW := ak_ HE2
      clear HE HE2 hall
      have d1_ : decide ((l1.length : Int) < (l1.length : Int)) = false := df_ (by omega)
      have z0_ : wr.cell? ⟨g2, 0, none⟩ = some (.int .i64 a0_0) := (bc_ BK2.out 0).trans rfl; have z1_ : wr.cell? ⟨g2, 1, none⟩ = some (.int .i64 a0_1) := (bc_ BK2.out 1).trans rfl; have z2_ : wr.cell? ⟨g2, 2, none⟩ = some (.int .i64 a0_2) := (bc_ BK2.out 2).trans rfl; have z3_ : wr.cell? ⟨g2, 3, none⟩ = some (.int .i64 a0_3) := (bc_ BK2.out 3).trans rfl; have z4_ : wr.cell? ⟨g2, 4, none⟩ = some (.int .i64 a0_4) := (bc_ BK2.out 4).trans rfl; have z5_ : wr.cell? ⟨g2, 5, none⟩ = some (.int .i64 a0_5) := (bc_ BK2.out 5).trans rfl; have z6_ : wr.cell? ⟨g2, 6, none⟩ = some (.int .i64 a0_6) := (bc_ BK2.out 6).trans rfl; have u0_ : wr.cell? ⟨g3, 0, none⟩ = some (.slice (some ad) l1.length c1) := (bc_ BK3.out 0).trans rfl; have y0_ := bc_ BK4.out 0; have yf0_ := bf_ BK4.out 0; have y1_ := bc_ BK4.out 1; have yf1_ := bf_ BK4.out 1; have y2_ := bc_ BK4.out 2; have yf2_ := bf_ BK4.out 2; have y3_ := bc_ BK4.out 3; have yf3_ := bf_ BK4.out 3; have y4_ := bc_ BK4.out 4; have yf4_ := bf_ BK4.out 4; have y5_ := bc_ BK4.out 5; have yf5_ := bf_ BK4.out 5
      go_wp2_with (first | (go_at_call 27; (with_reducible refine (ladder_Climb_walk k a0_0 a0_1 a0_2 a0_3 a0_4 a0_5 a0_6 g3 (some ad) c1 l1 r1 r2 r3 r4 r5 r6 r7 r8 _ BK3.out (Kd.C_below HCC.out HB.out) HCHK.out HW.out).mono ?_); rintro e w6 ⟨vd, rfl, hR, hb⟩; clear z0_ z1_ z2_ z3_ z4_ z5_ z6_ u0_; have n0_ := ak_ (below_step HB.out hb); have n2_ := ak_ (blk_below BK2.out hb); have n3_ := ak_ (blk_below BK3.out hb); have n4_ := ak_ (blk_below BK4.out hb); have hsz_ := below_size HB.out; clear HB BK2 BK3 BK4; have HB := n0_; have BK2 := n2_; have BK3 := n3_; have BK4 := n4_; clear n0_ n2_ n3_ n4_ hb; obtain ⟨Ad, nd, cd, rfl⟩ : ∃ A n c, vd = .slice A n c := (by obtain ⟨A, c, h⟩ := Kd.R_slice hR; exact ⟨A, _, c, h⟩); have HRD := ak_ (Kd.R_lower hR hsz_); clear hR; have y0_ := bc_ BK4.out 0; have yf0_ := bf_ BK4.out 0; have y1_ := bc_ BK4.out 1; have yf1_ := bf_ BK4.out 1; have y2_ := bc_ BK4.out 2; have yf2_ := bf_ BK4.out 2; have y3_ := bc_ BK4.out 3; have yf3_ := bf_ BK4.out 3; have y4_ := bc_ BK4.out 4; have yf4_ := bf_ BK4.out 4; have y5_ := bc_ BK4.out 5; have yf5_ := bf_ BK4.out 5))
      refine bodyPost_ret (results_list (rs := [.cell 4 42, .tmp 5, .tmp 6]) rfl (by simp) (.cell g4 42 #[.slice Ad nd cd, .int .i64 r2, .int .i64 r3, .int .i64 r4, .int .i64 r5, .int .i64 r6] (0, 0) _ rfl (ladder_Climb_put6 (ladder_Climb_put6 BK4.out _ _ _ _ _ _) _ _ _ _ _ _) Try.underlying42 rfl (by kernel_rfl) (.tmp (.tmp .nil)))) rfl ?_
      exact ⟨_, rfl, ladder_Climb_R6 (ladder_Climb_R6 HRD.out BK4.out _ _ _ _ _ _) (ladder_Climb_put6 BK4.out _ _ _ _ _ _) _ _ _ _ _ _, ladder_Climb_below6 (ladder_Climb_below6 HB.out GE4.out _ _ _ _ _ _) GE4.out _ _ _ _ _ _⟩
 ·rw [if_neg e0] at h2
  have HE := ak_ (si_ h2)
  clear h2
  have f0_ : (ec == 0) = false := beq_eq_false_iff_ne.2 e0
  have f1_ : (ec != 0) = true := by rw [bne, f0_]; rfl
  go_enter Try.func24, Try.ntmps24
  go_wp2_with (first | ((with_reducible refine gate_dst (N := 2) rfl ?_); (try (refine gate_guard (by rfl) ?_; dsimp only)); refine box_event ?hg (N := 2) ?hd (cs := #[.int .i64 a0_0, .int .i64 a0_1, .int .i64 a0_2, .int .i64 a0_3, .int .i64 a0_4, .int .i64 a0_5, .int .i64 a0_6]) (t := 23) ?hr ?_; (case hd => rfl); (case hg => rfl); (case hr => (go_simp; done)); intro g2 hg w1 hbox hb; have GE2 := ak_ ((by rw [hg]; exact (below_size HB.out)) : w.heap.size ≤ g2); have n0_ := ak_ (below_step HB.out hb); clear HB hb; have HB := n0_; clear n0_; have BK2 := ak_ hbox; clear hbox hg) | ((with_reducible refine gate_dst (N := 3) rfl ?_); (try (refine gate_guard (by rfl) ?_; dsimp only)); refine box_event ?hg (N := 3) ?hd (cs := #[.slice A1 l1.length c1]) (t := 39) ?hr ?_; (case hd => rfl); (case hg => rfl); (case hr => (go_simp; done)); intro g3 hg w2 hbox hb; have GE3 := ak_ ((by rw [hg]; exact (below_size HB.out)) : w.heap.size ≤ g3); have n0_ := ak_ (below_step HB.out hb); have n2_ := ak_ (blk_below BK2.out hb); clear HB BK2; have HB := n0_; have BK2 := n2_; clear n0_ n2_ hb; have BK3 := ak_ hbox; clear hbox hg) | ((with_reducible refine gate_dst (N := 4) rfl ?_); (try (refine gate_guard (by rfl) ?_; dsimp only)); refine box_event ?hg (N := 4) ?hd (cs := #[.slice none 0 0, .int .i64 0, .int .i64 0, .int .i64 0, .int .i64 0, .int .i64 0]) (t := 42) ?hr ?_; (case hd => rfl); (case hg => rfl); (case hr => (go_simp; done)); intro g4 hg w3 hbox hb; have GE4 := ak_ ((by rw [hg]; exact (below_size HB.out)) : w.heap.size ≤ g4); have n0_ := ak_ (below_step HB.out hb); have n2_ := ak_ (blk_below BK2.out hb); have n3_ := ak_ (blk_below BK3.out hb); clear HB BK2 BK3; have HB := n0_; have BK2 := n2_; have BK3 := n3_; clear n0_ n2_ n3_ hb; have BK4 := ak_ hbox; clear hbox hg; have z0_ : w3.cell? ⟨g2, 0, none⟩ = some (.int .i64 a0_0) := (bc_ BK2.out 0).trans rfl; have z1_ : w3.cell? ⟨g2, 1, none⟩ = some (.int .i64 a0_1) := (bc_ BK2.out 1).trans rfl; have z2_ : w3.cell? ⟨g2, 2, none⟩ = some (.int .i64 a0_2) := (bc_ BK2.out 2).trans rfl; have z3_ : w3.cell? ⟨g2, 3, none⟩ = some (.int .i64 a0_3) := (bc_ BK2.out 3).trans rfl; have z4_ : w3.cell? ⟨g2, 4, none⟩ = some (.int .i64 a0_4) := (bc_ BK2.out 4).trans rfl; have z5_ : w3.cell? ⟨g2, 5, none⟩ = some (.int .i64 a0_5) := (bc_ BK2.out 5).trans rfl; have z6_ : w3.cell? ⟨g2, 6, none⟩ = some (.int .i64 a0_6) := (bc_ BK2.out 6).trans rfl; have u0_ : w3.cell? ⟨g3, 0, none⟩ = some (.slice A1 l1.length c1) := (bc_ BK3.out 0).trans rfl) | ((with_reducible refine gate_callee (f := 35) rfl ?_); refine goesL_ (some 10) rfl rfl Try.func35 (by kernel_rfl) rfl #[.agg #[.int .i64 a0_0, .int .i64 a0_1, .int .i64 a0_2, .int .i64 a0_3, .int .i64 a0_4, .int .i64 a0_5, .int .i64 a0_6]] rfl (by (try simp only [List.map_toArray, List.map_cons, List.map_nil]); first | done | rfl) ?_; (with_reducible refine (geom_Check.calls a0_0 a0_1 a0_2 a0_3 a0_4 a0_5 a0_6 ec _ HCHK.out).mono ?_); rintro e w5 ⟨rfl, hb⟩; refine ⟨_, rfl, ?_⟩; clear z0_ z1_ z2_ z3_ z4_ z5_ z6_ u0_; have n0_ := ak_ (below_step HB.out hb); have n2_ := ak_ (blk_below BK2.out hb); have n3_ := ak_ (blk_below BK3.out hb); have n4_ := ak_ (blk_below BK4.out hb); clear HB BK2 BK3 BK4; have HB := n0_; have BK2 := n2_; have BK3 := n3_; have BK4 := n4_; clear n0_ n2_ n3_ n4_ hb; have z0_ : w5.cell? ⟨g2, 0, none⟩ = some (.int .i64 a0_0) := (bc_ BK2.out 0).trans rfl; have z1_ : w5.cell? ⟨g2, 1, none⟩ = some (.int .i64 a0_1) := (bc_ BK2.out 1).trans rfl; have z2_ : w5.cell? ⟨g2, 2, none⟩ = some (.int .i64 a0_2) := (bc_ BK2.out 2).trans rfl; have z3_ : w5.cell? ⟨g2, 3, none⟩ = some (.int .i64 a0_3) := (bc_ BK2.out 3).trans rfl; have z4_ : w5.cell? ⟨g2, 4, none⟩ = some (.int .i64 a0_4) := (bc_ BK2.out 4).trans rfl; have z5_ : w5.cell? ⟨g2, 5, none⟩ = some (.int .i64 a0_5) := (bc_ BK2.out 5).trans rfl; have z6_ : w5.cell? ⟨g2, 6, none⟩ = some (.int .i64 a0_6) := (bc_ BK2.out 6).trans rfl; have u0_ : w5.cell? ⟨g3, 0, none⟩ = some (.slice A1 l1.length c1) := (bc_ BK3.out 0).trans rfl; have y0_ := bc_ BK4.out 0; have yf0_ := bf_ BK4.out 0; have y1_ := bc_ BK4.out 1; have yf1_ := bf_ BK4.out 1; have y2_ := bc_ BK4.out 2; have yf2_ := bf_ BK4.out 2; have y3_ := bc_ BK4.out 3; have yf3_ := bf_ BK4.out 3; have y4_ := bc_ BK4.out 4; have yf4_ := bf_ BK4.out 4; have y5_ := bc_ BK4.out 5; have yf5_ := bf_ BK4.out 5) | (go_at_call 35; (with_reducible refine (geom_Check.calls a0_0 a0_1 a0_2 a0_3 a0_4 a0_5 a0_6 ec _ HCHK.out).mono ?_); rintro e w5 ⟨rfl, hb⟩; clear z0_ z1_ z2_ z3_ z4_ z5_ z6_ u0_; have n0_ := ak_ (below_step (by repeat (first | (with_reducible first | exact HB.out | apply below_alloc | apply pw_below_drewN | apply below_drew1) | exact HB.out)) hb); have n2_ := ak_ (blk_below (g := g2) (o := .cells #[.int .i64 a0_0, .int .i64 a0_1, .int .i64 a0_2, .int .i64 a0_3, .int .i64 a0_4, .int .i64 a0_5, .int .i64 a0_6] 23 (0, 0)) (by (with_reducible repeat (first | apply blk_drewN | apply blk_drew | apply blk_alloc)); exact BK2.out) hb); have n3_ := ak_ (blk_below (g := g3) (o := .cells #[.slice A1 l1.length c1] 39 (0, 0)) (by (with_reducible repeat (first | apply blk_drewN | apply blk_drew | apply blk_alloc)); exact BK3.out) hb); have n4_ := ak_ (blk_below (g := g4) (o := .cells #[.slice none 0 0, .int .i64 0, .int .i64 0, .int .i64 0, .int .i64 0, .int .i64 0] 42 (0, 0)) (by (with_reducible repeat (first | apply blk_drewN | apply blk_drew | apply blk_alloc)); exact BK4.out) hb); clear HB BK2 BK3 BK4; have HB := n0_; have BK2 := n2_; have BK3 := n3_; have BK4 := n4_; clear n0_ n2_ n3_ n4_ hb; have z0_ : w5.cell? ⟨g2, 0, none⟩ = some (.int .i64 a0_0) := (bc_ BK2.out 0).trans rfl; have z1_ : w5.cell? ⟨g2, 1, none⟩ = some (.int .i64 a0_1) := (bc_ BK2.out 1).trans rfl; have z2_ : w5.cell? ⟨g2, 2, none⟩ = some (.int .i64 a0_2) := (bc_ BK2.out 2).trans rfl; have z3_ : w5.cell? ⟨g2, 3, none⟩ = some (.int .i64 a0_3) := (bc_ BK2.out 3).trans rfl; have z4_ : w5.cell? ⟨g2, 4, none⟩ = some (.int .i64 a0_4) := (bc_ BK2.out 4).trans rfl; have z5_ : w5.cell? ⟨g2, 5, none⟩ = some (.int .i64 a0_5) := (bc_ BK2.out 5).trans rfl; have z6_ : w5.cell? ⟨g2, 6, none⟩ = some (.int .i64 a0_6) := (bc_ BK2.out 6).trans rfl; have u0_ : w5.cell? ⟨g3, 0, none⟩ = some (.slice A1 l1.length c1) := (bc_ BK3.out 0).trans rfl; have y0_ := bc_ BK4.out 0; have yf0_ := bf_ BK4.out 0; have y1_ := bc_ BK4.out 1; have yf1_ := bf_ BK4.out 1; have y2_ := bc_ BK4.out 2; have yf2_ := bf_ BK4.out 2; have y3_ := bc_ BK4.out 3; have yf3_ := bf_ BK4.out 3; have y4_ := bc_ BK4.out 4; have yf4_ := bf_ BK4.out 4; have y5_ := bc_ BK4.out 5; have yf5_ := bf_ BK4.out 5))
  obtain ⟨rfl, rfl, rfl, rfl, rfl, rfl, rfl, rfl⟩ : [] = r1 ∧ 0 = r2 ∧ 0 = r3 ∧ 0 = r4 ∧ 0 = r5 ∧ 0 = r6 ∧ 0 = r7 ∧ 2 = r8 := by simpa using HE.out
  refine bodyPost_ret (results_list (rs := [.cell 4 42, .tmp 5, .tmp 6]) rfl (by simp) (.cell g4 42 #[.slice none 0 0, .int .i64 0, .int .i64 0, .int .i64 0, .int .i64 0, .int .i64 0] (0, 0) _ rfl (ladder_Climb_put6 BK4.out _ _ _ _ _ _) Try.underlying42 rfl (by kernel_rfl) (.tmp (.tmp .nil)))) rfl ?_
  exact ⟨_, rfl, Kd.R_nil _ _ _ _ _, ladder_Climb_below6 HB.out GE4.out _ _ _ _ _ _⟩
def l09_plain.f  : Option (Int × Int × Int × Int × Int × Int × Int) := some (1, 2, 4, 1, 4, 2, 1)
theorem l09_plain.calls  (r1 : Int) (r2 : Int) (r3 : Int) (r4 : Int) (r5 : Int) (r6 : Int) (r7 : Int) (w : World) (h : l09_plain.f  = some (r1, r2, r3, r4, r5, r6, r7)) :
  Calls Try.prog 49 #[] w fun e w' => e = .returned (.agg #[.int .i64 r1, .int .i64 r2, .int .i64 r3, .int .i64 r4, .int .i64 r5, .int .i64 r6, .int .i64 r7]) ∧ Below w.heap.size w w' := by
 have hu23 := Try.underlying23
 have HB := br_ w
 have H : (some (1, 2, 4, 1, 4, 2, 1)) = some (r1, r2, r3, r4, r5, r6, r7) := h
 clear h
 simp only [Option.some.injEq, Prod.mk.injEq] at H
 obtain ⟨rfl, rfl, rfl, rfl, rfl, rfl, rfl⟩ := H
 go_enter Try.func49, Try.ntmps49
 go_wp2_with (first | ((with_reducible refine gate_dst (N := 0) rfl ?_); refine box_event ?hg (N := 0) ?hd (cs := #[.int .i64 0, .int .i64 0, .int .i64 0, .int .i64 0, .int .i64 0, .int .i64 0, .int .i64 0]) (t := 23) ?hr ?_; (case hd => rfl); (case hg => rfl); (case hr => (go_simp; done)); intro gb278 hg w1 hbox hb; have BK278 := ak_ (hbox); have GW278 := ak_ ((by rw [hg]; exact (below_size HB.out) : w.heap.size ≤ gb278)); have GE278 := ak_ ((by rw [hg]; exact (below_size HB.out) : w.heap.size ≤ gb278)); replace HB := ak_ (below_step HB.out hb); clear hb hbox hg; have hcz2_0 : w1.cell? ⟨gb278, 0, none⟩ = some (.int .i64 0) := (bc_ BK278.out 0).trans rfl; have hcz2_1 : w1.cell? ⟨gb278, 1, none⟩ = some (.int .i64 0) := (bc_ BK278.out 1).trans rfl; have hcz2_2 : w1.cell? ⟨gb278, 2, none⟩ = some (.int .i64 0) := (bc_ BK278.out 2).trans rfl; have hcz2_3 : w1.cell? ⟨gb278, 3, none⟩ = some (.int .i64 0) := (bc_ BK278.out 3).trans rfl; have hcz2_4 : w1.cell? ⟨gb278, 4, none⟩ = some (.int .i64 0) := (bc_ BK278.out 4).trans rfl; have hcz2_5 : w1.cell? ⟨gb278, 5, none⟩ = some (.int .i64 0) := (bc_ BK278.out 5).trans rfl; have hcz2_6 : w1.cell? ⟨gb278, 6, none⟩ = some (.int .i64 0) := (bc_ BK278.out 6).trans rfl; have hfz2_0 := bf_ BK278.out 0; have hfz2_1 := bf_ BK278.out 1; have hfz2_2 := bf_ BK278.out 2; have hfz2_3 := bf_ BK278.out 3; have hfz2_4 := bf_ BK278.out 4; have hfz2_5 := bf_ BK278.out 5; have hfz2_6 := bf_ BK278.out 6))
 refine bodyPost_ret (results_cell_row rfl _ _ gb278 23 #[.int .i64 1, .int .i64 2, .int .i64 4, .int .i64 1, .int .i64 4, .int .i64 2, .int .i64 1] (0, 0) _ rfl (put7 BK278.out) Try.underlying23 rfl (by kernel_rfl)) rfl ?_
 exact ⟨by first | rfl | (simp [errW_none, errW_some] <;> rfl) | (simp [*, errW_none, errW_some] <;> rfl) | (have hz_ : ∀ z : Int, -9223372036854775808 ≤ z → z ≤ 9223372036854775807 → wrap64 z = z := (fun z h1_ h2_ => by unfold wrap64; omega); rw [hz_] <;> first | rfl | omega), by repeat (first | (with_reducible first | exact HB.out | apply below_alloc | apply pw_below_drewN | apply below_drew1 | refine below_set ?_ GE278.out) | exact HB.out)⟩
def l09_awake.f (k : Nat)  : Option (Bool) := (l09_plain.f).bind fun bt287 => ((l09_plain.f).bind fun bt294 => ((page_Erased.f k bt294.1 bt294.2.1 bt294.2.2.1 bt294.2.2.2.1 bt294.2.2.2.2.1 bt294.2.2.2.2.2.1 bt294.2.2.2.2.2.2).bind fun t301 => ((ladder_Climb.f k bt287.1 bt287.2.1 bt287.2.2.1 bt287.2.2.2.1 bt287.2.2.2.2.1 bt287.2.2.2.2.2.1 bt287.2.2.2.2.2.2 (([t301] : List (List Int)))).bind fun bt307 => (if bt307.2.2.2.2.2.2.2 = 0 then (if bt307.2.2.2.2.2.1 = 2 then (some (bt307.2.2.2.2.2.2.1 == 0)) else (some false)) else (some false)))))
theorem l09_awake.mono : ∀ k, LeO (l09_awake.f k ) (l09_awake.f (k + 1) ) := by
 intro  k
 unfold l09_awake.f
 repeat' first
  | (with_reducible exact ladder_Climb.mono _ _ _ _ _ _ _ _ _)
  | (with_reducible exact page_Erased.mono _ _ _ _ _ _ _ _)
  | (with_reducible exact LeO.refl _)
  | (with_reducible exact LeO.none _)
  | (with_reducible refine LeO.ite ?_ ?_)
  | (with_reducible refine LeO.bind ?_ (fun _ => ?_))
theorem l09_awake.calls (k : Nat)  (r : Bool) (w : World) (h : l09_awake.f k  = some r) :
  Calls Try.prog 22 #[] w fun e w' => e = .returned (.bool r) ∧ Below w.heap.size w w' := by
 have hu42 := Try.underlying42
 have HB := br_ w
 have H : ((l09_plain.f).bind fun bt279 => ((l09_plain.f).bind fun bt286 => ((page_Erased.f k bt286.1 bt286.2.1 bt286.2.2.1 bt286.2.2.2.1 bt286.2.2.2.2.1 bt286.2.2.2.2.2.1 bt286.2.2.2.2.2.2).bind fun t293 => ((ladder_Climb.f k bt279.1 bt279.2.1 bt279.2.2.1 bt279.2.2.2.1 bt279.2.2.2.2.1 bt279.2.2.2.2.2.1 bt279.2.2.2.2.2.2 (([t293] : List (List Int)))).bind fun bt299 => (if bt299.2.2.2.2.2.2.2 = 0 then (if bt299.2.2.2.2.2.1 = 2 then (some (bt299.2.2.2.2.2.2.1 == 0)) else (some false)) else (some false)))))) = some r := h
 clear h
 replace H := Option.bind_eq_some_iff.mp H
 obtain ⟨⟨t279, t280, t281, t282, t283, t284, t285⟩, A10, H⟩ := H
 replace H : ((l09_plain.f).bind fun bt286 => ((page_Erased.f k bt286.1 bt286.2.1 bt286.2.2.1 bt286.2.2.2.1 bt286.2.2.2.2.1 bt286.2.2.2.2.2.1 bt286.2.2.2.2.2.2).bind fun t293 => ((ladder_Climb.f k t279 t280 t281 t282 t283 t284 t285 (([t293] : List (List Int)))).bind fun bt299 => (if bt299.2.2.2.2.2.2.2 = 0 then (if bt299.2.2.2.2.2.1 = 2 then (some (bt299.2.2.2.2.2.2.1 == 0)) else (some false)) else (some false))))) = some r := H
 have A1 := ak_ A10
 clear A10
 replace H := Option.bind_eq_some_iff.mp H
 obtain ⟨⟨t286, t287, t288, t289, t290, t291, t292⟩, A20, H⟩ := H
 replace H : ((page_Erased.f k t286 t287 t288 t289 t290 t291 t292).bind fun t293 => ((ladder_Climb.f k t279 t280 t281 t282 t283 t284 t285 (([t293] : List (List Int)))).bind fun bt299 => (if bt299.2.2.2.2.2.2.2 = 0 then (if bt299.2.2.2.2.2.1 = 2 then (some (bt299.2.2.2.2.2.2.1 == 0)) else (some false)) else (some false)))) = some r := H
 have A2 := ak_ A20
 clear A20
 replace H := Option.bind_eq_some_iff.mp H
 obtain ⟨t293, A30, H⟩ := H
 replace H : ((ladder_Climb.f k t279 t280 t281 t282 t283 t284 t285 (([t293] : List (List Int)))).bind fun bt299 => (if bt299.2.2.2.2.2.2.2 = 0 then (if bt299.2.2.2.2.2.1 = 2 then (some (bt299.2.2.2.2.2.2.1 == 0)) else (some false)) else (some false))) = some r := H
 have A3 := ak_ A30
 clear A30
 obtain ⟨y296, hy296⟩ : ∃ y_ : List (List Int), y_ = (([t293] : List (List Int))) := ⟨_, rfl⟩
 replace H : ((ladder_Climb.f k t279 t280 t281 t282 t283 t284 t285 y296).bind fun bt299 => (if bt299.2.2.2.2.2.2.2 = 0 then (if bt299.2.2.2.2.2.1 = 2 then (some (bt299.2.2.2.2.2.2.1 == 0)) else (some false)) else (some false))) = some r := (by rw [hy296]; with_reducible exact H)
 have Ny296 := ak_ hy296
 clear hy296
 replace H := Option.bind_eq_some_iff.mp H
 obtain ⟨⟨t299, t302, t303, t304, t305, t306, t307, t308⟩, A40, H⟩ := H
 replace H : (if t308 = 0 then (if t306 = 2 then (some (t307 == 0)) else (some false)) else (some false)) = some r := H
 have A4 := ak_ A40
 clear A40
 by_cases c5 : t308 = 0
 ·rw [if_pos c5] at H
  have c5b0 : (t308 == 0) = true := beq_iff_eq.mpr c5
  have c5b1 : (t308 != 0) = false := bne_eq_false_iff_eq.mpr c5
  clear c5
  by_cases c6 : t306 = 2
  ·rw [if_pos c6] at H
   have c6b0 : (t306 == 2) = true := beq_iff_eq.mpr c6
   have c6b1 : (t306 != 2) = false := bne_eq_false_iff_eq.mpr c6
   clear c6
   obtain rfl := si_ H
   go_enter Try.func22, Try.ntmps22
   go_wp2_with (first | ((with_reducible refine gate_callee (f := 49) rfl ?_); refine goesL_ (some 5) rfl rfl Try.func49 (by kernel_rfl) rfl #[] rfl (by (try simp only [List.map_toArray, List.map_cons, List.map_nil]); done) ?_; (with_reducible refine (l09_plain.calls  t279 t280 t281 t282 t283 t284 t285 _ A1.out).mono ?_); rintro e w7 ⟨rfl, hb⟩; refine ⟨_, rfl, ?_⟩; replace HB := ak_ (below_step HB.out hb); (try clear hb); (try clear hb2); (try clear hk); (try clear hi)) | ((with_reducible refine gate_callee (f := 49) rfl ?_); refine goesL_ (some 6) rfl rfl Try.func49 (by kernel_rfl) rfl #[] rfl (by (try simp only [List.map_toArray, List.map_cons, List.map_nil]); done) ?_; (with_reducible refine (l09_plain.calls  t286 t287 t288 t289 t290 t291 t292 _ A2.out).mono ?_); rintro e w8 ⟨rfl, hb⟩; refine ⟨_, rfl, ?_⟩; replace HB := ak_ (below_step HB.out hb); (try clear hb); (try clear hb2); (try clear hk); (try clear hi)) | ((with_reducible refine gate_callee (f := 15) rfl ?_); refine goesL_ (some 7) rfl rfl Try.func15 (by kernel_rfl) rfl #[.agg #[.int .i64 t286, .int .i64 t287, .int .i64 t288, .int .i64 t289, .int .i64 t290, .int .i64 t291, .int .i64 t292]] rfl (by (try simp only [List.map_toArray, List.map_cons, List.map_nil]); first | done | rfl | (simp only [List.length_drop, List.length_take]; rfl)) ?_; (with_reducible refine (page_Erased.calls k t286 t287 t288 t289 t290 t291 t292 t293 _ A3.out).mono ?_); rintro e w9 ⟨v294, rfl, ho0, hb⟩; refine ⟨_, rfl, ?_⟩; have HO295 := ak_ (Kd.R_lower ho0 (below_size HB.out)); replace HB := ak_ (below_step HB.out hb); (try clear hb); (try clear hb2); (try clear hk); (try clear hi); (try clear ho0); obtain ⟨Ao10, co10, eo10⟩ := Kd.R_slice HO295.out; subst eo10) | ((with_reducible refine gate_dst (N := 8) rfl ?_); refine Kd.N_lit (Kd.slice 5 (Kd.int .u8)) _ 24 ?hg (N' := 8) ?hd (xs := ([t293] : List (List Int))) (inner := [.slice Ao10 t293.length co10]) (ok := (fun _ => True)) (okp := (fun _ => True)) ?hr ?hp (fun _ hk => hk) ((show ∀ k_, w9.heap.size ≤ k_ → (fun _ => True) k_ from fun k_ hk => trivial) _ (Nat.le_refl _)) (Below.refl _ _) (Nat.le_refl _) (by simp) ?_; (case hd => rfl); (case hg => rfl); (case hr => (go_simp; done)); (case hp => exact (Reps.one (show Kd.FK (Kd.slice 5 (Kd.int .u8)) _ _ t293 [.slice Ao10 t293.length co10] from (Kd.FK_slice_mk (Kd.R_reads' (Kd.R_mono (ok' := (fun _ => True)) (HO295.out) (fun k_ hk => trivial))).2.1 (Kd.R_F (Kd.R_mono (ok' := (fun _ => True)) (HO295.out) (fun k_ hk => trivial))))) (Reps.none _ _))); intro v297 w11 ho12 hb hg_ hnew_; clear hg_ hnew_; (rw [← Ny296.out] at ho12); have n0_ := ak_ (Kd.N_lower ho12 (below_size HB.out)); have n1_ := ak_ (below_step HB.out hb); clear HB; clear HO295; have HO298 := n0_; have HB := n1_; clear n0_ n1_; clear hb ho12; obtain ⟨Ao13, co13, eo13⟩ := Kd.N_slice HO298.out; subst eo13) | ((with_reducible refine gate_callee (f := 24) rfl ?_); refine goesL_ (some 9) rfl rfl Try.func24 (by kernel_rfl) rfl #[.agg #[.int .i64 t279, .int .i64 t280, .int .i64 t281, .int .i64 t282, .int .i64 t283, .int .i64 t284, .int .i64 t285], .slice Ao13 y296.length co13] rfl (by (try simp only [List.map_toArray, List.map_cons, List.map_nil]); first | done | rfl | (simp only [List.length_drop, List.length_take]; rfl)) ?_; (with_reducible refine (ladder_Climb.calls k t279 t280 t281 t282 t283 t284 t285 _ _ y296 t299 t302 t303 t304 t305 t306 t307 t308 _ ?side1 ?side2 A4.out).mono ?_); (case side1 => exact (Kd.N_reads' HO298.out).2.2); (case side2 => exact (Kd.N_reads' HO298.out).2.1); rintro e w14 ⟨v300, rfl, ho0, hb⟩; refine ⟨_, rfl, ?_⟩; replace HO298 := ak_ (Kd.N_elder' HO298.out (Kd.R_base ho0) hb); have HO301 := ak_ (Kd.R_lower ho0 (below_size HB.out)); replace HB := ak_ (below_step HB.out hb); (try clear hb); (try clear hb2); (try clear hk); (try clear hi); (try clear ho0)) | ((with_reducible refine gate_dst (N := 1) rfl ?_); refine box_event ?hg (N := 1) ?hd (cs := #[.slice none 0 0, .int .i64 0, .int .i64 0, .int .i64 0, .int .i64 0, .int .i64 0]) (t := 42) ?hr ?_; (case hd => rfl); (case hg => rfl); (case hr => (go_simp; done)); intro gb309 hg w15 hbox hb; replace HO298 := ak_ (Kd.N_below (Kd.N_elderB HO298.out gb309 (Nat.le_of_eq hg.symm)) hb); replace HO301 := ak_ (Kd.R_below HO301.out hb); have BK309 := ak_ (hbox); have GW309 := ak_ ((by rw [hg]; exact (below_size HB.out) : w.heap.size ≤ gb309)); have GE309 := ak_ ((by rw [hg]; exact (below_size HB.out) : w.heap.size ≤ gb309)); replace HB := ak_ (below_step HB.out hb); clear hb hbox hg; obtain ⟨Ao16, co16, eo16⟩ := Kd.R_slice HO301.out; subst eo16; have hcz17_0 : w15.cell? ⟨gb309, 0, none⟩ = some (.slice none 0 0) := (bc_ BK309.out 0).trans rfl; have hcz17_1 : w15.cell? ⟨gb309, 1, none⟩ = some (.int .i64 0) := (bc_ BK309.out 1).trans rfl; have hcz17_2 : w15.cell? ⟨gb309, 2, none⟩ = some (.int .i64 0) := (bc_ BK309.out 2).trans rfl; have hcz17_3 : w15.cell? ⟨gb309, 3, none⟩ = some (.int .i64 0) := (bc_ BK309.out 3).trans rfl; have hcz17_4 : w15.cell? ⟨gb309, 4, none⟩ = some (.int .i64 0) := (bc_ BK309.out 4).trans rfl; have hcz17_5 : w15.cell? ⟨gb309, 5, none⟩ = some (.int .i64 0) := (bc_ BK309.out 5).trans rfl; have hfz17_0 := bf_ BK309.out 0; have hfz17_1 := bf_ BK309.out 1; have hfz17_2 := bf_ BK309.out 2; have hfz17_3 := bf_ BK309.out 3; have hfz17_4 := bf_ BK309.out 4; have hfz17_5 := bf_ BK309.out 5))
   go_ret
   exact ⟨by first | rfl | (simp [errW_none, errW_some] <;> rfl) | (simp [*, errW_none, errW_some] <;> rfl) | (have hz_ : ∀ z : Int, -9223372036854775808 ≤ z → z ≤ 9223372036854775807 → wrap64 z = z := (fun z h1_ h2_ => by unfold wrap64; omega); rw [hz_] <;> first | rfl | omega), by repeat (first | (with_reducible first | exact HB.out | apply below_alloc | apply pw_below_drewN | apply below_drew1 | refine below_set ?_ GE309.out) | exact HB.out)⟩
  ·rw [if_neg c6] at H
   have c6b0 : (t306 == 2) = false := beq_eq_false_iff_ne.mpr c6
   have c6b1 : (t306 != 2) = true := bne_iff_ne.mpr c6
   obtain rfl := si_ H
   go_enter Try.func22, Try.ntmps22
   go_wp2_with (first | ((with_reducible refine gate_callee (f := 49) rfl ?_); refine goesL_ (some 5) rfl rfl Try.func49 (by kernel_rfl) rfl #[] rfl (by (try simp only [List.map_toArray, List.map_cons, List.map_nil]); done) ?_; (with_reducible refine (l09_plain.calls  t279 t280 t281 t282 t283 t284 t285 _ A1.out).mono ?_); rintro e w18 ⟨rfl, hb⟩; refine ⟨_, rfl, ?_⟩; replace HB := ak_ (below_step HB.out hb); (try clear hb); (try clear hb2); (try clear hk); (try clear hi)) | ((with_reducible refine gate_callee (f := 49) rfl ?_); refine goesL_ (some 6) rfl rfl Try.func49 (by kernel_rfl) rfl #[] rfl (by (try simp only [List.map_toArray, List.map_cons, List.map_nil]); done) ?_; (with_reducible refine (l09_plain.calls  t286 t287 t288 t289 t290 t291 t292 _ A2.out).mono ?_); rintro e w19 ⟨rfl, hb⟩; refine ⟨_, rfl, ?_⟩; replace HB := ak_ (below_step HB.out hb); (try clear hb); (try clear hb2); (try clear hk); (try clear hi)) | ((with_reducible refine gate_callee (f := 15) rfl ?_); refine goesL_ (some 7) rfl rfl Try.func15 (by kernel_rfl) rfl #[.agg #[.int .i64 t286, .int .i64 t287, .int .i64 t288, .int .i64 t289, .int .i64 t290, .int .i64 t291, .int .i64 t292]] rfl (by (try simp only [List.map_toArray, List.map_cons, List.map_nil]); first | done | rfl | (simp only [List.length_drop, List.length_take]; rfl)) ?_; (with_reducible refine (page_Erased.calls k t286 t287 t288 t289 t290 t291 t292 t293 _ A3.out).mono ?_); rintro e w20 ⟨v294, rfl, ho0, hb⟩; refine ⟨_, rfl, ?_⟩; have HO295 := ak_ (Kd.R_lower ho0 (below_size HB.out)); replace HB := ak_ (below_step HB.out hb); (try clear hb); (try clear hb2); (try clear hk); (try clear hi); (try clear ho0); obtain ⟨Ao21, co21, eo21⟩ := Kd.R_slice HO295.out; subst eo21) | ((with_reducible refine gate_dst (N := 8) rfl ?_); refine Kd.N_lit (Kd.slice 5 (Kd.int .u8)) _ 24 ?hg (N' := 8) ?hd (xs := ([t293] : List (List Int))) (inner := [.slice Ao21 t293.length co21]) (ok := (fun _ => True)) (okp := (fun _ => True)) ?hr ?hp (fun _ hk => hk) ((show ∀ k_, w20.heap.size ≤ k_ → (fun _ => True) k_ from fun k_ hk => trivial) _ (Nat.le_refl _)) (Below.refl _ _) (Nat.le_refl _) (by simp) ?_; (case hd => rfl); (case hg => rfl); (case hr => (go_simp; done)); (case hp => exact (Reps.one (show Kd.FK (Kd.slice 5 (Kd.int .u8)) _ _ t293 [.slice Ao21 t293.length co21] from (Kd.FK_slice_mk (Kd.R_reads' (Kd.R_mono (ok' := (fun _ => True)) (HO295.out) (fun k_ hk => trivial))).2.1 (Kd.R_F (Kd.R_mono (ok' := (fun _ => True)) (HO295.out) (fun k_ hk => trivial))))) (Reps.none _ _))); intro v297 w22 ho23 hb hg_ hnew_; clear hg_ hnew_; (rw [← Ny296.out] at ho23); have n0_ := ak_ (Kd.N_lower ho23 (below_size HB.out)); have n1_ := ak_ (below_step HB.out hb); clear HB; clear HO295; have HO298 := n0_; have HB := n1_; clear n0_ n1_; clear hb ho23; obtain ⟨Ao24, co24, eo24⟩ := Kd.N_slice HO298.out; subst eo24) | ((with_reducible refine gate_callee (f := 24) rfl ?_); refine goesL_ (some 9) rfl rfl Try.func24 (by kernel_rfl) rfl #[.agg #[.int .i64 t279, .int .i64 t280, .int .i64 t281, .int .i64 t282, .int .i64 t283, .int .i64 t284, .int .i64 t285], .slice Ao24 y296.length co24] rfl (by (try simp only [List.map_toArray, List.map_cons, List.map_nil]); first | done | rfl | (simp only [List.length_drop, List.length_take]; rfl)) ?_; (with_reducible refine (ladder_Climb.calls k t279 t280 t281 t282 t283 t284 t285 _ _ y296 t299 t302 t303 t304 t305 t306 t307 t308 _ ?side1 ?side2 A4.out).mono ?_); (case side1 => exact (Kd.N_reads' HO298.out).2.2); (case side2 => exact (Kd.N_reads' HO298.out).2.1); rintro e w25 ⟨v300, rfl, ho0, hb⟩; refine ⟨_, rfl, ?_⟩; replace HO298 := ak_ (Kd.N_elder' HO298.out (Kd.R_base ho0) hb); have HO301 := ak_ (Kd.R_lower ho0 (below_size HB.out)); replace HB := ak_ (below_step HB.out hb); (try clear hb); (try clear hb2); (try clear hk); (try clear hi); (try clear ho0)) | ((with_reducible refine gate_dst (N := 1) rfl ?_); refine box_event ?hg (N := 1) ?hd (cs := #[.slice none 0 0, .int .i64 0, .int .i64 0, .int .i64 0, .int .i64 0, .int .i64 0]) (t := 42) ?hr ?_; (case hd => rfl); (case hg => rfl); (case hr => (go_simp; done)); intro gb309 hg w26 hbox hb; replace HO298 := ak_ (Kd.N_below (Kd.N_elderB HO298.out gb309 (Nat.le_of_eq hg.symm)) hb); replace HO301 := ak_ (Kd.R_below HO301.out hb); have BK309 := ak_ (hbox); have GW309 := ak_ ((by rw [hg]; exact (below_size HB.out) : w.heap.size ≤ gb309)); have GE309 := ak_ ((by rw [hg]; exact (below_size HB.out) : w.heap.size ≤ gb309)); replace HB := ak_ (below_step HB.out hb); clear hb hbox hg; obtain ⟨Ao27, co27, eo27⟩ := Kd.R_slice HO301.out; subst eo27; have hcz28_0 : w26.cell? ⟨gb309, 0, none⟩ = some (.slice none 0 0) := (bc_ BK309.out 0).trans rfl; have hcz28_1 : w26.cell? ⟨gb309, 1, none⟩ = some (.int .i64 0) := (bc_ BK309.out 1).trans rfl; have hcz28_2 : w26.cell? ⟨gb309, 2, none⟩ = some (.int .i64 0) := (bc_ BK309.out 2).trans rfl; have hcz28_3 : w26.cell? ⟨gb309, 3, none⟩ = some (.int .i64 0) := (bc_ BK309.out 3).trans rfl; have hcz28_4 : w26.cell? ⟨gb309, 4, none⟩ = some (.int .i64 0) := (bc_ BK309.out 4).trans rfl; have hcz28_5 : w26.cell? ⟨gb309, 5, none⟩ = some (.int .i64 0) := (bc_ BK309.out 5).trans rfl; have hfz28_0 := bf_ BK309.out 0; have hfz28_1 := bf_ BK309.out 1; have hfz28_2 := bf_ BK309.out 2; have hfz28_3 := bf_ BK309.out 3; have hfz28_4 := bf_ BK309.out 4; have hfz28_5 := bf_ BK309.out 5))
   go_ret
   exact ⟨by first | rfl | (simp [errW_none, errW_some] <;> rfl) | (simp [*, errW_none, errW_some] <;> rfl) | (have hz_ : ∀ z : Int, -9223372036854775808 ≤ z → z ≤ 9223372036854775807 → wrap64 z = z := (fun z h1_ h2_ => by unfold wrap64; omega); rw [hz_] <;> first | rfl | omega), by repeat (first | (with_reducible first | exact HB.out | apply below_alloc | apply pw_below_drewN | apply below_drew1 | refine below_set ?_ GE309.out) | exact HB.out)⟩
 ·rw [if_neg c5] at H
  have c5b0 : (t308 == 0) = false := beq_eq_false_iff_ne.mpr c5
  have c5b1 : (t308 != 0) = true := bne_iff_ne.mpr c5
  obtain rfl := si_ H
  go_enter Try.func22, Try.ntmps22
  go_wp2_with (first | ((with_reducible refine gate_callee (f := 49) rfl ?_); refine goesL_ (some 5) rfl rfl Try.func49 (by kernel_rfl) rfl #[] rfl (by (try simp only [List.map_toArray, List.map_cons, List.map_nil]); done) ?_; (with_reducible refine (l09_plain.calls  t279 t280 t281 t282 t283 t284 t285 _ A1.out).mono ?_); rintro e w29 ⟨rfl, hb⟩; refine ⟨_, rfl, ?_⟩; replace HB := ak_ (below_step HB.out hb); (try clear hb); (try clear hb2); (try clear hk); (try clear hi)) | ((with_reducible refine gate_callee (f := 49) rfl ?_); refine goesL_ (some 6) rfl rfl Try.func49 (by kernel_rfl) rfl #[] rfl (by (try simp only [List.map_toArray, List.map_cons, List.map_nil]); done) ?_; (with_reducible refine (l09_plain.calls  t286 t287 t288 t289 t290 t291 t292 _ A2.out).mono ?_); rintro e w30 ⟨rfl, hb⟩; refine ⟨_, rfl, ?_⟩; replace HB := ak_ (below_step HB.out hb); (try clear hb); (try clear hb2); (try clear hk); (try clear hi)) | ((with_reducible refine gate_callee (f := 15) rfl ?_); refine goesL_ (some 7) rfl rfl Try.func15 (by kernel_rfl) rfl #[.agg #[.int .i64 t286, .int .i64 t287, .int .i64 t288, .int .i64 t289, .int .i64 t290, .int .i64 t291, .int .i64 t292]] rfl (by (try simp only [List.map_toArray, List.map_cons, List.map_nil]); first | done | rfl | (simp only [List.length_drop, List.length_take]; rfl)) ?_; (with_reducible refine (page_Erased.calls k t286 t287 t288 t289 t290 t291 t292 t293 _ A3.out).mono ?_); rintro e w31 ⟨v294, rfl, ho0, hb⟩; refine ⟨_, rfl, ?_⟩; have HO295 := ak_ (Kd.R_lower ho0 (below_size HB.out)); replace HB := ak_ (below_step HB.out hb); (try clear hb); (try clear hb2); (try clear hk); (try clear hi); (try clear ho0); obtain ⟨Ao32, co32, eo32⟩ := Kd.R_slice HO295.out; subst eo32) | ((with_reducible refine gate_dst (N := 8) rfl ?_); refine Kd.N_lit (Kd.slice 5 (Kd.int .u8)) _ 24 ?hg (N' := 8) ?hd (xs := ([t293] : List (List Int))) (inner := [.slice Ao32 t293.length co32]) (ok := (fun _ => True)) (okp := (fun _ => True)) ?hr ?hp (fun _ hk => hk) ((show ∀ k_, w31.heap.size ≤ k_ → (fun _ => True) k_ from fun k_ hk => trivial) _ (Nat.le_refl _)) (Below.refl _ _) (Nat.le_refl _) (by simp) ?_; (case hd => rfl); (case hg => rfl); (case hr => (go_simp; done)); (case hp => exact (Reps.one (show Kd.FK (Kd.slice 5 (Kd.int .u8)) _ _ t293 [.slice Ao32 t293.length co32] from (Kd.FK_slice_mk (Kd.R_reads' (Kd.R_mono (ok' := (fun _ => True)) (HO295.out) (fun k_ hk => trivial))).2.1 (Kd.R_F (Kd.R_mono (ok' := (fun _ => True)) (HO295.out) (fun k_ hk => trivial))))) (Reps.none _ _))); intro v297 w33 ho34 hb hg_ hnew_; clear hg_ hnew_; (rw [← Ny296.out] at ho34); have n0_ := ak_ (Kd.N_lower ho34 (below_size HB.out)); have n1_ := ak_ (below_step HB.out hb); clear HB; clear HO295; have HO298 := n0_; have HB := n1_; clear n0_ n1_; clear hb ho34; obtain ⟨Ao35, co35, eo35⟩ := Kd.N_slice HO298.out; subst eo35) | ((with_reducible refine gate_callee (f := 24) rfl ?_); refine goesL_ (some 9) rfl rfl Try.func24 (by kernel_rfl) rfl #[.agg #[.int .i64 t279, .int .i64 t280, .int .i64 t281, .int .i64 t282, .int .i64 t283, .int .i64 t284, .int .i64 t285], .slice Ao35 y296.length co35] rfl (by (try simp only [List.map_toArray, List.map_cons, List.map_nil]); first | done | rfl | (simp only [List.length_drop, List.length_take]; rfl)) ?_; (with_reducible refine (ladder_Climb.calls k t279 t280 t281 t282 t283 t284 t285 _ _ y296 t299 t302 t303 t304 t305 t306 t307 t308 _ ?side1 ?side2 A4.out).mono ?_); (case side1 => exact (Kd.N_reads' HO298.out).2.2); (case side2 => exact (Kd.N_reads' HO298.out).2.1); rintro e w36 ⟨v300, rfl, ho0, hb⟩; refine ⟨_, rfl, ?_⟩; replace HO298 := ak_ (Kd.N_elder' HO298.out (Kd.R_base ho0) hb); have HO301 := ak_ (Kd.R_lower ho0 (below_size HB.out)); replace HB := ak_ (below_step HB.out hb); (try clear hb); (try clear hb2); (try clear hk); (try clear hi); (try clear ho0)) | ((with_reducible refine gate_dst (N := 1) rfl ?_); refine box_event ?hg (N := 1) ?hd (cs := #[.slice none 0 0, .int .i64 0, .int .i64 0, .int .i64 0, .int .i64 0, .int .i64 0]) (t := 42) ?hr ?_; (case hd => rfl); (case hg => rfl); (case hr => (go_simp; done)); intro gb309 hg w37 hbox hb; replace HO298 := ak_ (Kd.N_below (Kd.N_elderB HO298.out gb309 (Nat.le_of_eq hg.symm)) hb); replace HO301 := ak_ (Kd.R_below HO301.out hb); have BK309 := ak_ (hbox); have GW309 := ak_ ((by rw [hg]; exact (below_size HB.out) : w.heap.size ≤ gb309)); have GE309 := ak_ ((by rw [hg]; exact (below_size HB.out) : w.heap.size ≤ gb309)); replace HB := ak_ (below_step HB.out hb); clear hb hbox hg; obtain ⟨Ao38, co38, eo38⟩ := Kd.R_slice HO301.out; subst eo38; have hcz39_0 : w37.cell? ⟨gb309, 0, none⟩ = some (.slice none 0 0) := (bc_ BK309.out 0).trans rfl; have hcz39_1 : w37.cell? ⟨gb309, 1, none⟩ = some (.int .i64 0) := (bc_ BK309.out 1).trans rfl; have hcz39_2 : w37.cell? ⟨gb309, 2, none⟩ = some (.int .i64 0) := (bc_ BK309.out 2).trans rfl; have hcz39_3 : w37.cell? ⟨gb309, 3, none⟩ = some (.int .i64 0) := (bc_ BK309.out 3).trans rfl; have hcz39_4 : w37.cell? ⟨gb309, 4, none⟩ = some (.int .i64 0) := (bc_ BK309.out 4).trans rfl; have hcz39_5 : w37.cell? ⟨gb309, 5, none⟩ = some (.int .i64 0) := (bc_ BK309.out 5).trans rfl; have hfz39_0 := bf_ BK309.out 0; have hfz39_1 := bf_ BK309.out 1; have hfz39_2 := bf_ BK309.out 2; have hfz39_3 := bf_ BK309.out 3; have hfz39_4 := bf_ BK309.out 4; have hfz39_5 := bf_ BK309.out 5))
  go_ret
  exact ⟨by first | rfl | (simp [errW_none, errW_some] <;> rfl) | (simp [*, errW_none, errW_some] <;> rfl) | (have hz_ : ∀ z : Int, -9223372036854775808 ≤ z → z ≤ 9223372036854775807 → wrap64 z = z := (fun z h1_ h2_ => by unfold wrap64; omega); rw [hz_] <;> first | rfl | omega), by repeat (first | (with_reducible first | exact HB.out | apply below_alloc | apply pw_below_drewN | apply below_drew1 | refine below_set ?_ GE309.out) | exact HB.out)⟩
def l08_Small.f (a0_0 : Int) (a0_1 : Int) (a0_2 : Int) (a0_3 : Int) (a0_4 : Int) (a0_5 : Int) (a0_6 : Int) : Option (Bool) := if a0_3 ≤ 4 then (if a0_4 ≤ 40 then (if a0_3 ≥ 0 then (some (decide (a0_4 ≥ 0))) else (some false)) else (some false)) else (some false)
theorem l08_Small.calls (a0_0 : Int) (a0_1 : Int) (a0_2 : Int) (a0_3 : Int) (a0_4 : Int) (a0_5 : Int) (a0_6 : Int) (r : Bool) (w : World) (h : l08_Small.f a0_0 a0_1 a0_2 a0_3 a0_4 a0_5 a0_6 = some r) :
  Calls Try.prog 13 #[.agg #[.int .i64 a0_0, .int .i64 a0_1, .int .i64 a0_2, .int .i64 a0_3, .int .i64 a0_4, .int .i64 a0_5, .int .i64 a0_6]] w fun e w' => e = .returned (.bool r) ∧ Below w.heap.size w w' := by
 have hu23 := Try.underlying23
 have HB := br_ w
 unfold l08_Small.f at h
 have H := h
 clear h
 by_cases c2 : a0_3 ≤ 4
 ·rw [if_pos c2] at H
  have c2b0 := dt_ c2
  clear c2
  by_cases c3 : a0_4 ≤ 40
  ·rw [if_pos c3] at H
   have c3b0 := dt_ c3
   clear c3
   by_cases c4 : a0_3 ≥ 0
   ·rw [if_pos c4] at H
    have c4b0 : decide (0 ≤ a0_3) = true := dt_ c4
    clear c4
    obtain rfl := si_ H
    go_enter Try.func13, Try.ntmps13
    go_wp2_with ((with_reducible refine gate_dst (N := 1) rfl ?_); refine box_event ?hg (N := 1) ?hd (cs := #[.int .i64 a0_0, .int .i64 a0_1, .int .i64 a0_2, .int .i64 a0_3, .int .i64 a0_4, .int .i64 a0_5, .int .i64 a0_6]) (t := 23) ?hr ?_; (case hd => rfl); (case hg => rfl); (case hr => (go_simp; done)); intro gb221 hg w5 hbox hb; have BK221 := ak_ (hbox); have GW221 := ak_ (gw_ hg (below_size HB.out)); have GE221 := ak_ (gw_ hg (below_size HB.out)); replace HB := ak_ (below_step HB.out hb); clear hb hbox hg; obtain ⟨hcz6_0, hcz6_1, hcz6_2, hcz6_3, hcz6_4, hcz6_5, hcz6_6⟩ := cells7 BK221.out; obtain ⟨hfz6_0, hfz6_1, hfz6_2, hfz6_3, hfz6_4, hfz6_5, hfz6_6⟩ := froz7 BK221.out)
    go_ret
    exact ⟨by rfl, HB.out⟩
   ·rw [if_neg c4] at H
    have c4b0 : decide (0 ≤ a0_3) = false := df_ c4
    clear c4
    obtain rfl := si_ H
    go_enter Try.func13, Try.ntmps13
    go_wp2_with ((with_reducible refine gate_dst (N := 1) rfl ?_); refine box_event ?hg (N := 1) ?hd (cs := #[.int .i64 a0_0, .int .i64 a0_1, .int .i64 a0_2, .int .i64 a0_3, .int .i64 a0_4, .int .i64 a0_5, .int .i64 a0_6]) (t := 23) ?hr ?_; (case hd => rfl); (case hg => rfl); (case hr => (go_simp; done)); intro gb221 hg w7 hbox hb; have BK221 := ak_ (hbox); have GW221 := ak_ (gw_ hg (below_size HB.out)); have GE221 := ak_ (gw_ hg (below_size HB.out)); replace HB := ak_ (below_step HB.out hb); clear hb hbox hg; obtain ⟨hcz8_0, hcz8_1, hcz8_2, hcz8_3, hcz8_4, hcz8_5, hcz8_6⟩ := cells7 BK221.out; obtain ⟨hfz8_0, hfz8_1, hfz8_2, hfz8_3, hfz8_4, hfz8_5, hfz8_6⟩ := froz7 BK221.out)
    go_ret
    exact ⟨by rfl, HB.out⟩
  ·rw [if_neg c3] at H
   have c3b0 := df_ c3
   clear c3
   obtain rfl := si_ H
   go_enter Try.func13, Try.ntmps13
   go_wp2_with ((with_reducible refine gate_dst (N := 1) rfl ?_); refine box_event ?hg (N := 1) ?hd (cs := #[.int .i64 a0_0, .int .i64 a0_1, .int .i64 a0_2, .int .i64 a0_3, .int .i64 a0_4, .int .i64 a0_5, .int .i64 a0_6]) (t := 23) ?hr ?_; (case hd => rfl); (case hg => rfl); (case hr => (go_simp; done)); intro gb221 hg w9 hbox hb; have BK221 := ak_ (hbox); have GW221 := ak_ (gw_ hg (below_size HB.out)); have GE221 := ak_ (gw_ hg (below_size HB.out)); replace HB := ak_ (below_step HB.out hb); clear hb hbox hg; obtain ⟨hcz10_0, hcz10_1, hcz10_2, hcz10_3, hcz10_4, hcz10_5, hcz10_6⟩ := cells7 BK221.out; obtain ⟨hfz10_0, hfz10_1, hfz10_2, hfz10_3, hfz10_4, hfz10_5, hfz10_6⟩ := froz7 BK221.out)
   go_ret
   exact ⟨by rfl, HB.out⟩
 ·rw [if_neg c2] at H
  have c2b0 := df_ c2
  clear c2
  obtain rfl := si_ H
  go_enter Try.func13, Try.ntmps13
  go_wp2_with ((with_reducible refine gate_dst (N := 1) rfl ?_); refine box_event ?hg (N := 1) ?hd (cs := #[.int .i64 a0_0, .int .i64 a0_1, .int .i64 a0_2, .int .i64 a0_3, .int .i64 a0_4, .int .i64 a0_5, .int .i64 a0_6]) (t := 23) ?hr ?_; (case hd => rfl); (case hg => rfl); (case hr => (go_simp; done)); intro gb221 hg w11 hbox hb; have BK221 := ak_ (hbox); have GW221 := ak_ (gw_ hg (below_size HB.out)); have GE221 := ak_ (gw_ hg (below_size HB.out)); replace HB := ak_ (below_step HB.out hb); clear hb hbox hg; obtain ⟨hcz12_0, hcz12_1, hcz12_2, hcz12_3, hcz12_4, hcz12_5, hcz12_6⟩ := cells7 BK221.out; obtain ⟨hfz12_0, hfz12_1, hfz12_2, hfz12_3, hfz12_4, hfz12_5, hfz12_6⟩ := froz7 BK221.out)
  go_ret
  exact ⟨by rfl, HB.out⟩
def l09_few.l0 : Nat → List (List Int) → List (List Int) → Int → Int → Int → Int → Int → Int → Int → Int → Int → Option (Bool)
 | 0, _, _, _, _, _, _, _, _, _, _, _ => none
 | k + 1, x1, x7, x8, x9, x320000, x320001, x320002, x320003, x320004, x320005, x320006 => if x9 < x8 then (if 0 ≤ x9 then (if x9 < (x7.length : Int) then (if ((rd_L3 x7 x9).length : Int) > 400 then (some false) else (l09_few.l0 k x1 x7 x8 (wrap64 (x9 + 1)) x320000 x320001 x320002 x320003 x320004 x320005 x320006)) else (none)) else (none)) else ((l08_Small.f x320000 x320001 x320002 x320003 x320004 x320005 x320006).bind fun t321 => (if t321 = true then (some (decide ((x1.length : Int) ≤ 12))) else (some false)))
def l09_few.f (k : Nat) (a0_0 : Int) (a0_1 : Int) (a0_2 : Int) (a0_3 : Int) (a0_4 : Int) (a0_5 : Int) (a0_6 : Int) (l1 : List (List Int)) : Option (Bool) := l09_few.l0 k l1 l1 (l1.length : Int) 0 a0_0 a0_1 a0_2 a0_3 a0_4 a0_5 a0_6
theorem l09_few.mono_l : ∀ k, (∀ y0 y1 y2 y3 y4 y5 y6 y7 y8 y9 y10, LeO (l09_few.l0 k y0 y1 y2 y3 y4 y5 y6 y7 y8 y9 y10) (l09_few.l0 (k + 1) y0 y1 y2 y3 y4 y5 y6 y7 y8 y9 y10))
 | 0 => fun _ _ _ _ _ _ _ _ _ _ _ r h => by simp [l09_few.l0] at h
 | k + 1 => by
  have ih0 := l09_few.mono_l k
  ·intro y0 y1 y2 y3 y4 y5 y6 y7 y8 y9 y10
   unfold l09_few.l0
   repeat' first
   | (with_reducible exact ih0 _ _ _ _ _ _ _ _ _ _ _)
   | (with_reducible exact LeO.refl _)
   | (with_reducible exact LeO.none _)
   | (with_reducible refine LeO.ite ?_ ?_)
   | (with_reducible refine LeO.bind ?_ (fun _ => ?_))
theorem l09_few.mono : ∀ a0 a1 a2 a3 a4 a5 a6 a7 k, LeO (l09_few.f k a0 a1 a2 a3 a4 a5 a6 a7) (l09_few.f (k + 1) a0 a1 a2 a3 a4 a5 a6 a7) := by
 intro a0 a1 a2 a3 a4 a5 a6 a7 k
 have ih0 := l09_few.mono_l k
 unfold l09_few.f
 repeat' first
  | (with_reducible exact ih0 _ _ _ _ _ _ _ _ _ _ _)
  | (with_reducible exact LeO.refl _)
  | (with_reducible exact LeO.none _)
  | (with_reducible refine LeO.ite ?_ ?_)
  | (with_reducible refine LeO.bind ?_ (fun _ => ?_))
theorem l09_few.calls (k : Nat) (a0_0 : Int) (a0_1 : Int) (a0_2 : Int) (a0_3 : Int) (a0_4 : Int) (a0_5 : Int) (a0_6 : Int) (A1 : Option Addr) (c1 : Nat) (l1 : List (List Int)) (r : Bool) (w : World) (hr1 : Kd.C (Kd.slice 5 (Kd.int .u8)) w A1 l1.length l1) (hc1 : l1.length ≤ c1) (h : l09_few.f k a0_0 a0_1 a0_2 a0_3 a0_4 a0_5 a0_6 l1 = some r) :
  Calls Try.prog 23 #[.agg #[.int .i64 a0_0, .int .i64 a0_1, .int .i64 a0_2, .int .i64 a0_3, .int .i64 a0_4, .int .i64 a0_5, .int .i64 a0_6], .slice A1 l1.length c1] w fun e w' => e = .returned (.bool r) ∧ Below w.heap.size w w' := by
 have hu23 := Try.underlying23
 have HR1 := ak_ hr1
 have HC1 := ak_ hc1
 clear hr1 hc1
 have HB := br_ w
 have H : (l09_few.l0 k l1 l1 (l1.length : Int) 0 a0_0 a0_1 a0_2 a0_3 a0_4 a0_5 a0_6) = some r := h
 clear h
 have H' := ak_ H
 clear H
 go_enter Try.func23, Try.ntmps23
 go_wp2_with (first | ((with_reducible refine gate_dst (N := 2) rfl ?_); (try (refine gate_guard (by rfl) ?_; dsimp only)); refine box_event ?hg (N := 2) ?hd (cs := #[.int .i64 a0_0, .int .i64 a0_1, .int .i64 a0_2, .int .i64 a0_3, .int .i64 a0_4, .int .i64 a0_5, .int .i64 a0_6]) (t := 23) ?hr ?_; (case hd => rfl); (case hg => rfl); (case hr => (go_simp; done)); intro gb311 hg w3 hbox hb; have BK311 := ak_ (hbox); have GW311 := ak_ ((by rw [hg]; exact (below_size HB.out) : w.heap.size ≤ gb311)); have GE311 := ak_ ((by rw [hg]; exact (below_size HB.out) : w.heap.size ≤ gb311)); replace HB := ak_ (below_step HB.out hb); clear hb hbox hg))
 go_loopg [9] k (fun kq v9 w' => ∃ (x9_1 : Int), v9 = .int .i64 x9_1 ∧ Aside0 (l09_few.l0 kq l1 l1 (l1.length : Int) x9_1 a0_0 a0_1 a0_2 a0_3 a0_4 a0_5 a0_6 = some r) ∧ Aside0 (kq ≤ k) ∧ Aside0 (w'.heap[gb311]? = some (.cells #[.int .i64 a0_0, .int .i64 a0_1, .int .i64 a0_2, .int .i64 a0_3, .int .i64 a0_4, .int .i64 a0_5, .int .i64 a0_6] 23 (0, 0))) ∧ Aside0 (Below w.heap.size w w'))
 case atStart => exact ⟨(0), (by rfl), H', ⟨Nat.le_refl _⟩, ⟨BK311.out⟩, ⟨by repeat (first | (with_reducible first | exact HB.out | apply below_alloc | apply pw_below_drewN | apply below_drew1 | refine below_set ?_ GE311.out) | exact HB.out)⟩⟩
 case round =>
  clear H'
  obtain ⟨x9_1, rfl, HA, HK1, BK311, HB⟩ := hrel
  cases gk with
  | zero => exact absurd HA.out (by simp [l09_few.l0])
  | succ k1 =>
   have H := HA.out
   clear HA
   simp only [l09_few.l0] at H
   by_cases c4 : x9_1 < (l1.length : Int)
   ·rw [if_pos c4] at H
    have c4b0 : decide (x9_1 < (l1.length : Int)) = true := dt_ c4
    clear c4
    by_cases c5 : 0 ≤ x9_1
    ·rw [if_pos c5] at H
     have c5b0 : decide (0 ≤ x9_1) = true := dt_ c5
     clear c5
     by_cases c6 : x9_1 < (l1.length : Int)
     ·rw [if_pos c6] at H
      have c6b0 : decide (x9_1 < (l1.length : Int)) = true := dt_ c6
      clear c6
      by_cases c7 : ((rd_L3 l1 x9_1).length : Int) > 400
      ·rw [if_pos c7] at H
       have c7b0 : decide (400 < ((rd_L3 l1 x9_1).length : Int)) = true := dt_ c7
       have c7b1 : decide (400 < (rd_L3 l1 x9_1).length) = true := dt_ (by omega)
       clear c7
       obtain rfl := si_ H
       have p312 : 0 ≤ (x9_1 : Int) := of_decide_eq_true (by with_reducible assumption)
       have q312 : x9_1 < (l1.length : Int) := of_decide_eq_true (by with_reducible assumption)
       obtain ⟨ad312, A312_0, c312_0, e312, hx312_0, hl312_0, hi312_0⟩ := at_L3 HR1.out x9_1 p312 q312
       cases e312
       replace hx312_0 := (HB.out.cell (World.block_lt_of_cell? w _ hx312_0)).trans hx312_0
       have HR312_0 := ak_ hi312_0
       have HC312_0 := ak_ hl312_0
       clear hi312_0 hl312_0
       replace p312 := eq_true p312
       replace q312 := eq_true q312
       go_wp2
       go_ret
       exact ⟨by first | rfl | (simp [errW_none, errW_some] <;> rfl) | (simp [*, errW_none, errW_some] <;> rfl) | (have hz_ : ∀ z : Int, -9223372036854775808 ≤ z → z ≤ 9223372036854775807 → wrap64 z = z := (fun z h1_ h2_ => by unfold wrap64; omega); rw [hz_] <;> first | rfl | omega), by repeat (first | (with_reducible first | exact HB.out | apply below_alloc | apply pw_below_drewN | apply below_drew1 | refine below_set ?_ GE311.out) | exact HB.out)⟩
      ·rw [if_neg c7] at H
       have c7b0 : decide (400 < ((rd_L3 l1 x9_1).length : Int)) = false := df_ c7
       have c7b1 : decide (400 < (rd_L3 l1 x9_1).length) = false := df_ (by omega)
       clear c7
       have H' := ak_ H
       clear H
       have p312 : 0 ≤ (x9_1 : Int) := of_decide_eq_true (by with_reducible assumption)
       have q312 : x9_1 < (l1.length : Int) := of_decide_eq_true (by with_reducible assumption)
       obtain ⟨ad312, A312_0, c312_0, e312, hx312_0, hl312_0, hi312_0⟩ := at_L3 HR1.out x9_1 p312 q312
       cases e312
       replace hx312_0 := (HB.out.cell (World.block_lt_of_cell? w _ hx312_0)).trans hx312_0
       have HR312_0 := ak_ hi312_0
       have HC312_0 := ak_ hl312_0
       clear hi312_0 hl312_0
       replace p312 := eq_true p312
       replace q312 := eq_true q312
       go_wp2
       go_roundg k1
       case measure => have := HK1.out; omega
       case rel => exact ⟨(wrap64 (x9_1 + 1)), (by rfl), H', ⟨by have := HK1.out; omega⟩, ⟨BK311.out⟩, ⟨by repeat (first | (with_reducible first | exact HB.out | apply below_alloc | apply pw_below_drewN | apply below_drew1 | refine below_set ?_ GE311.out) | exact HB.out)⟩⟩
     ·rw [if_neg c6] at H
      exact absurd H (by simp)
    ·rw [if_neg c5] at H
     exact absurd H (by simp)
   ·rw [if_neg c4] at H
    have c4b0 : decide (x9_1 < (l1.length : Int)) = false := df_ c4
    clear c4
    replace H := Option.bind_eq_some_iff.mp H
    obtain ⟨t313, A80, H⟩ := H
    replace H : (if t313 = true then (some (decide ((l1.length : Int) ≤ 12))) else (some false)) = some r := H
    have A8 := ak_ A80
    clear A80
    by_cases c9 : t313 = true
    ·subst c9
     have H1 : (some (decide ((l1.length : Int) ≤ 12))) = some r := by rw [if_pos rfl] at H; exact H
     clear H
     have H := H1
     clear H1
     obtain rfl := si_ H
     obtain ⟨hcz10_0, hcz10_1, hcz10_2, hcz10_3, hcz10_4, hcz10_5, hcz10_6⟩ := cells7 BK311.out
     obtain ⟨hfz10_0, hfz10_1, hfz10_2, hfz10_3, hfz10_4, hfz10_5, hfz10_6⟩ := froz7 BK311.out
     go_wp2_with (first | ((with_reducible refine gate_callee (f := 13) rfl ?_); refine goesL_ (some 18) rfl rfl Try.func13 (by kernel_rfl) rfl #[.agg #[.int .i64 a0_0, .int .i64 a0_1, .int .i64 a0_2, .int .i64 a0_3, .int .i64 a0_4, .int .i64 a0_5, .int .i64 a0_6]] rfl (by (try simp only [List.map_toArray, List.map_cons, List.map_nil]); first | done | rfl | (simp only [List.length_drop, List.length_take]; rfl)) ?_; (with_reducible refine (l08_Small.calls a0_0 a0_1 a0_2 a0_3 a0_4 a0_5 a0_6 true _ A8.out).mono ?_); rintro e w11 ⟨rfl, hb⟩; refine ⟨_, rfl, ?_⟩; replace BK311 := ak_ (blk_below BK311.out hb); replace HB := ak_ (below_step HB.out hb); (try clear hb); (try clear hb2); (try clear hk); (try clear hi)))
     go_ret
     exact ⟨by first | rfl | (simp [errW_none, errW_some] <;> rfl) | (simp [*, errW_none, errW_some] <;> rfl) | (have hz_ : ∀ z : Int, -9223372036854775808 ≤ z → z ≤ 9223372036854775807 → wrap64 z = z := (fun z h1_ h2_ => by unfold wrap64; omega); rw [hz_] <;> first | rfl | omega), by repeat (first | (with_reducible first | exact HB.out | apply below_alloc | apply pw_below_drewN | apply below_drew1 | refine below_set ?_ GE311.out) | exact HB.out)⟩
    ·replace c9 := Bool.eq_false_iff.mpr c9
     subst c9
     have H1 : (some false) = some r := by rw [if_neg (show ¬ (false = true) by decide)] at H; exact H
     clear H
     have H := H1
     clear H1
     obtain rfl := si_ H
     obtain ⟨hcz12_0, hcz12_1, hcz12_2, hcz12_3, hcz12_4, hcz12_5, hcz12_6⟩ := cells7 BK311.out
     obtain ⟨hfz12_0, hfz12_1, hfz12_2, hfz12_3, hfz12_4, hfz12_5, hfz12_6⟩ := froz7 BK311.out
     go_wp2_with (first | ((with_reducible refine gate_callee (f := 13) rfl ?_); refine goesL_ (some 18) rfl rfl Try.func13 (by kernel_rfl) rfl #[.agg #[.int .i64 a0_0, .int .i64 a0_1, .int .i64 a0_2, .int .i64 a0_3, .int .i64 a0_4, .int .i64 a0_5, .int .i64 a0_6]] rfl (by (try simp only [List.map_toArray, List.map_cons, List.map_nil]); first | done | rfl | (simp only [List.length_drop, List.length_take]; rfl)) ?_; (with_reducible refine (l08_Small.calls a0_0 a0_1 a0_2 a0_3 a0_4 a0_5 a0_6 false _ A8.out).mono ?_); rintro e w13 ⟨rfl, hb⟩; refine ⟨_, rfl, ?_⟩; replace BK311 := ak_ (blk_below BK311.out hb); replace HB := ak_ (below_step HB.out hb); (try clear hb); (try clear hb2); (try clear hk); (try clear hi)))
     go_ret
     exact ⟨by first | rfl | (simp [errW_none, errW_some] <;> rfl) | (simp [*, errW_none, errW_some] <;> rfl) | (have hz_ : ∀ z : Int, -9223372036854775808 ≤ z → z ≤ 9223372036854775807 → wrap64 z = z := (fun z h1_ h2_ => by unfold wrap64; omega); rw [hz_] <;> first | rfl | omega), by repeat (first | (with_reducible first | exact HB.out | apply below_alloc | apply pw_below_drewN | apply below_drew1 | refine below_set ?_ GE311.out) | exact HB.out)⟩
def r01_Same.l0 : Nat → List Int → List Int → Int → Option (Bool)
 | 0, _, _, _ => none
 | k + 1, x0, x1, x5 => if x5 < (x0.length : Int) then (if 0 ≤ x5 then (if x5 < (x1.length : Int) then (if (rd x0 x5) = (rd x1 x5) then (r01_Same.l0 k x0 x1 (wrap64 (x5 + 1))) else (some false)) else (none)) else (none)) else (some true)
def r01_Same.f (k : Nat) (l0 : List Int) (l1 : List Int) : Option (Bool) := if (l0.length : Int) = (l1.length : Int) then (r01_Same.l0 k l0 l1 0) else (some false)
theorem r01_Same.mono_l : ∀ k, (∀ y0 y1 y2, LeO (r01_Same.l0 k y0 y1 y2) (r01_Same.l0 (k + 1) y0 y1 y2))
 | 0 => fun _ _ _ r h => by simp [r01_Same.l0] at h
 | k + 1 => by
  have ih0 := r01_Same.mono_l k
  ·intro y0 y1 y2
   unfold r01_Same.l0
   repeat' first
   | (with_reducible exact ih0 _ _ _)
   | (with_reducible exact LeO.refl _)
   | (with_reducible exact LeO.none _)
   | (with_reducible refine LeO.ite ?_ ?_)
   | (with_reducible refine LeO.bind ?_ (fun _ => ?_))
theorem r01_Same.mono : ∀ a0 a1 k, LeO (r01_Same.f k a0 a1) (r01_Same.f (k + 1) a0 a1) := by
 intro a0 a1 k
 have ih0 := r01_Same.mono_l k
 unfold r01_Same.f
 repeat' with_reducible first
  | exact ih0 _ _ _
  | exact LeO.refl _
  | exact LeO.none _
  | refine LeO.ite ?_ ?_
  | refine LeO.bind ?_ (fun _ => ?_)
theorem r01_Same.calls (k : Nat) (A0 : Option Addr) (c0 : Nat) (l0 : List Int) (A1 : Option Addr) (c1 : Nat) (l1 : List Int) (r : Bool) (w : World) (hr0 : Kd.C (Kd.int .u8) w A0 l0.length l0) (hc0 : l0.length ≤ c0) (hr1 : Kd.C (Kd.int .u8) w A1 l1.length l1) (hc1 : l1.length ≤ c1) (h : r01_Same.f k l0 l1 = some r) :
  Calls Try.prog 20 #[.slice A0 l0.length c0, .slice A1 l1.length c1] w fun e w' => e = .returned (.bool r) ∧ Drawn0 w w' := by
 have HR0 := ak_ hr0
 have HC0 := ak_ hc0
 clear hr0 hc0
 have HR1 := ak_ hr1
 have HC1 := ak_ hc1
 clear hr1 hc1
 unfold r01_Same.f at h
 have H := h
 clear h
 by_cases c3 : (l0.length : Int) = (l1.length : Int)
 ·rw [if_pos c3] at H
  have c3b0 := beq_iff_eq.mpr c3
  have c3b1 := bne_eq_false_iff_eq.mpr c3
  have c3b2 : (l0.length == l1.length) = true := by first | simpa using c3 | (simp at c3 ⊢; omega)
  clear c3
  have H' := ak_ H
  clear H
  go_enter Try.func20, Try.ntmps20
  go_wp2
  repeat (go_quiet (fail); try go_wp2)
  go_loopg [5] k (fun kq v5 w' => ∃ (x5_1 : Int), v5 = .int .i64 x5_1 ∧ Aside0 (r01_Same.l0 kq l0 l1 x5_1 = some r) ∧ Aside0 (kq ≤ k) ∧ Drawn0 w w')
  case atStart => exact ⟨(0), (by rfl), H', ⟨Nat.le_refl _⟩, by repeat (first | exact Drawn0.refl _ | apply Drawn0.step)⟩
  case round =>
   clear H'
   clear c3b0 c3b1 c3b2
   obtain ⟨x5_1, rfl, HA, HK1, ⟨m1, rfl⟩⟩ := hrel
   cases gk with
   | zero => exact absurd HA.out (by simp [r01_Same.l0])
   | succ k1 =>
    have H := HA.out
    clear HA
    simp only [r01_Same.l0] at H
    by_cases c4 : x5_1 < (l0.length : Int)
    ·rw [if_pos c4] at H
     have c4b0 := dt_ c4
     clear c4
     by_cases c5 : 0 ≤ x5_1
     ·rw [if_pos c5] at H
      have c5b0 := dt_ c5
      clear c5
      by_cases c6 : x5_1 < (l1.length : Int)
      ·rw [if_pos c6] at H
       have c6b0 := dt_ c6
       clear c6
       by_cases c7 : (rd l0 x5_1) = (rd l1 x5_1)
       ·rw [if_pos c7] at H
        have c7b0 := beq_iff_eq.mpr c7
        have c7b1 := bne_eq_false_iff_eq.mpr c7
        clear c7
        have H' := ak_ H
        clear H
        have p322 : 0 ≤ (x5_1 : Int) := od_ ‹_›
        have q322 : x5_1 < (l0.length : Int) := od_ ‹_›
        obtain ⟨ad322, e322, hx322_0⟩ := Kd.at_int HR0.out x5_1 p322 q322
        cases e322
        replace p322 := eq_true p322
        replace q322 := eq_true q322
        have p323 : 0 ≤ (x5_1 : Int) := od_ ‹_›
        have q323 : x5_1 < (l1.length : Int) := od_ ‹_›
        obtain ⟨ad323, e323, hx323_0⟩ := Kd.at_int HR1.out x5_1 p323 q323
        cases e323
        replace p323 := eq_true p323
        replace q323 := eq_true q323
        go_wp2
        repeat (go_quiet (fail); try go_wp2)
        go_roundg k1
        case measure => have := HK1.out; omega
        case rel => exact ⟨(wrap64 (x5_1 + 1)), (by rfl), H', ⟨by have := HK1.out; omega⟩, by repeat (first | exact Drawn0.refl _ | apply Drawn0.step)⟩
       ·rw [if_neg c7] at H
        have c7b0 := beq_eq_false_iff_ne.mpr c7
        have c7b1 := bne_iff_ne.mpr c7
        obtain rfl := si_ H
        have p322 : 0 ≤ (x5_1 : Int) := od_ ‹_›
        have q322 : x5_1 < (l0.length : Int) := od_ ‹_›
        obtain ⟨ad322, e322, hx322_0⟩ := Kd.at_int HR0.out x5_1 p322 q322
        cases e322
        replace p322 := eq_true p322
        replace q322 := eq_true q322
        have p323 : 0 ≤ (x5_1 : Int) := od_ ‹_›
        have q323 : x5_1 < (l1.length : Int) := od_ ‹_›
        obtain ⟨ad323, e323, hx323_0⟩ := Kd.at_int HR1.out x5_1 p323 q323
        cases e323
        replace p323 := eq_true p323
        replace q323 := eq_true q323
        go_wp2
        repeat (go_quiet (fail); try go_wp2)
        go_ret
        exact ⟨by rfl, by repeat (first | exact Drawn0.refl _ | apply Drawn0.step)⟩
      ·rw [if_neg c6] at H
       exact absurd H (by simp)
     ·rw [if_neg c5] at H
      exact absurd H (by simp)
    ·rw [if_neg c4] at H
     have c4b0 := df_ c4
     clear c4
     obtain rfl := si_ H
     go_wp2
     repeat (go_quiet (fail); try go_wp2)
     go_ret
     exact ⟨by rfl, by repeat (first | exact Drawn0.refl _ | apply Drawn0.step)⟩
 ·rw [if_neg c3] at H
  have c3b0 := beq_eq_false_iff_ne.mpr c3
  have c3b1 := bne_iff_ne.mpr c3
  have c3b2 : (l0.length == l1.length) = false := by first | simpa using c3 | (simp at c3 ⊢; omega)
  obtain rfl := si_ H
  go_enter Try.func20, Try.ntmps20
  go_wp2
  repeat (go_quiet (fail); try go_wp2)
  go_ret
  exact ⟨by rfl, by repeat (first | exact Drawn0.refl _ | apply Drawn0.step)⟩
def l09_Same.f (k : Nat) (l0_0 : List Int) (a0_1 : Int) (a0_2 : Int) (a0_3 : Int) (a0_4 : Int) (a0_5 : Int) (l1_0 : List Int) (a1_1 : Int) (a1_2 : Int) (a1_3 : Int) (a1_4 : Int) (a1_5 : Int) : Option (Bool) := (r01_Same.f k l0_0 l1_0).bind fun t326 => (if t326 = true then (if (a0_1 == a1_1 && (a0_2 == a1_2 && (a0_3 == a1_3 && (a0_4 == a1_4)))) = true then (some (a0_5 == a1_5)) else (some false)) else (some false))
theorem l09_Same.mono : ∀ a0 a1 a2 a3 a4 a5 a6 a7 a8 a9 a10 a11 k, LeO (l09_Same.f k a0 a1 a2 a3 a4 a5 a6 a7 a8 a9 a10 a11) (l09_Same.f (k + 1) a0 a1 a2 a3 a4 a5 a6 a7 a8 a9 a10 a11) := by
 intro a0 a1 a2 a3 a4 a5 a6 a7 a8 a9 a10 a11 k
 unfold l09_Same.f
 repeat' first
  | (with_reducible exact r01_Same.mono _ _ _)
  | (with_reducible exact LeO.refl _)
  | (with_reducible exact LeO.none _)
  | (with_reducible refine LeO.ite ?_ ?_)
  | (with_reducible refine LeO.bind ?_ (fun _ => ?_))
theorem l09_Same.calls (k : Nat) (A0_0 : Option Addr) (c0_0 : Nat) (l0_0 : List Int) (a0_1 : Int) (a0_2 : Int) (a0_3 : Int) (a0_4 : Int) (a0_5 : Int) (A1_0 : Option Addr) (c1_0 : Nat) (l1_0 : List Int) (a1_1 : Int) (a1_2 : Int) (a1_3 : Int) (a1_4 : Int) (a1_5 : Int) (r : Bool) (w : World) (hr0_0 : Kd.C (Kd.int .u8) w A0_0 l0_0.length l0_0) (hc0_0 : l0_0.length ≤ c0_0) (hr1_0 : Kd.C (Kd.int .u8) w A1_0 l1_0.length l1_0) (hc1_0 : l1_0.length ≤ c1_0) (h : l09_Same.f k l0_0 a0_1 a0_2 a0_3 a0_4 a0_5 l1_0 a1_1 a1_2 a1_3 a1_4 a1_5 = some r) :
  Calls Try.prog 26 #[.agg #[.slice A0_0 l0_0.length c0_0, .int .i64 a0_1, .int .i64 a0_2, .int .i64 a0_3, .int .i64 a0_4, .int .i64 a0_5], .agg #[.slice A1_0 l1_0.length c1_0, .int .i64 a1_1, .int .i64 a1_2, .int .i64 a1_3, .int .i64 a1_4, .int .i64 a1_5]] w fun e w' => e = .returned (.bool r) ∧ Below w.heap.size w w' := by
 have hu42 := Try.underlying42
 have hu26 := Try.underlying26
 have HR0_0 := ak_ hr0_0
 have HC0_0 := ak_ hc0_0
 clear hr0_0 hc0_0
 have HR1_0 := ak_ hr1_0
 have HC1_0 := ak_ hc1_0
 clear hr1_0 hc1_0
 have HB := br_ w
 have H : ((r01_Same.f k l0_0 l1_0).bind fun t318 => (if t318 = true then (if (a0_1 == a1_1 && (a0_2 == a1_2 && (a0_3 == a1_3 && (a0_4 == a1_4)))) = true then (some (a0_5 == a1_5)) else (some false)) else (some false))) = some r := h
 clear h
 replace H := Option.bind_eq_some_iff.mp H
 obtain ⟨t318, A30, H⟩ := H
 replace H : (if t318 = true then (if (a0_1 == a1_1 && (a0_2 == a1_2 && (a0_3 == a1_3 && (a0_4 == a1_4)))) = true then (some (a0_5 == a1_5)) else (some false)) else (some false)) = some r := H
 have A3 := ak_ A30
 clear A30
 by_cases c4 : t318 = true
 ·subst c4
  have H1 : (if (a0_1 == a1_1 && (a0_2 == a1_2 && (a0_3 == a1_3 && (a0_4 == a1_4)))) = true then (some (a0_5 == a1_5)) else (some false)) = some r := by rw [if_pos rfl] at H; exact H
  clear H
  have H := H1
  clear H1
  by_cases c5 : (a0_1 == a1_1 && (a0_2 == a1_2 && (a0_3 == a1_3 && (a0_4 == a1_4)))) = true
  ·rw [if_pos c5] at H
   have c5b0 : (a0_1 == a1_1 && (a0_2 == a1_2 && (a0_3 == a1_3 && (a0_4 == a1_4)))) = true := c5
   (try (have c5b1 : decide (a0_1 = a1_1 && (a0_2 == a1_2 && (a0_3 == a1_3 && (a0_4 == a1_4)))) = true := by simpa using c5))
   (try (have c5b2 : (a0_1 == a1_1 && (a0_2 == a1_2 && (a0_3 == a1_3 && (a0_4 == a1_4)))) = true := by simpa using c5))
   clear c5
   obtain rfl := si_ H
   go_enter Try.func26, Try.ntmps26
   go_wp2_with (first | ((with_reducible refine gate_dst (N := 2) rfl ?_); refine box_event ?hg (N := 2) ?hd (cs := #[.slice A0_0 l0_0.length c0_0, .int .i64 a0_1, .int .i64 a0_2, .int .i64 a0_3, .int .i64 a0_4, .int .i64 a0_5]) (t := 42) ?hr ?_; (case hd => rfl); (case hg => rfl); (case hr => (go_simp; done)); intro gb316 hg w6 hbox hb; have BK316 := ak_ (hbox); have GW316 := ak_ ((by rw [hg]; exact (below_size HB.out) : w.heap.size ≤ gb316)); have GE316 := ak_ ((by rw [hg]; exact (below_size HB.out) : w.heap.size ≤ gb316)); replace HB := ak_ (below_step HB.out hb); clear hb hbox hg) | ((with_reducible refine gate_dst (N := 3) rfl ?_); refine box_event ?hg (N := 3) ?hd (cs := #[.slice A1_0 l1_0.length c1_0, .int .i64 a1_1, .int .i64 a1_2, .int .i64 a1_3, .int .i64 a1_4, .int .i64 a1_5]) (t := 42) ?hr ?_; (case hd => rfl); (case hg => rfl); (case hr => (go_simp; done)); intro gb317 hg w7 hbox hb; have BK317 := ak_ (hbox); have GW317 := ak_ ((by rw [hg]; exact (below_size HB.out) : w.heap.size ≤ gb317)); have GE317 := ak_ ((by rw [hg]; exact (below_size HB.out) : w.heap.size ≤ gb317)); replace HB := ak_ (below_step HB.out hb); have NB316_317 := ak_ ((by rw [hg]; exact Nat.ne_of_lt (blk_lt BK316.out) : gb316 ≠ gb317)); have NB317_316 := ak_ ((by rw [hg]; exact Nat.ne_of_gt (blk_lt BK316.out) : gb317 ≠ gb316)); replace BK316 := ak_ (blk_below BK316.out hb); clear hb hbox hg; have hnb8 := NB316_317.out; have hnc8 := NB317_316.out; have hcz9_0 : w7.cell? ⟨gb316, 0, none⟩ = some (.slice A0_0 l0_0.length c0_0) := (bc_ BK316.out 0).trans rfl; have hcz9_1 : w7.cell? ⟨gb316, 1, none⟩ = some (.int .i64 a0_1) := (bc_ BK316.out 1).trans rfl; have hcz9_2 : w7.cell? ⟨gb316, 2, none⟩ = some (.int .i64 a0_2) := (bc_ BK316.out 2).trans rfl; have hcz9_3 : w7.cell? ⟨gb316, 3, none⟩ = some (.int .i64 a0_3) := (bc_ BK316.out 3).trans rfl; have hcz9_4 : w7.cell? ⟨gb316, 4, none⟩ = some (.int .i64 a0_4) := (bc_ BK316.out 4).trans rfl; have hcz9_5 : w7.cell? ⟨gb316, 5, none⟩ = some (.int .i64 a0_5) := (bc_ BK316.out 5).trans rfl; have hfz9_0 := bf_ BK316.out 0; have hfz9_1 := bf_ BK316.out 1; have hfz9_2 := bf_ BK316.out 2; have hfz9_3 := bf_ BK316.out 3; have hfz9_4 := bf_ BK316.out 4; have hfz9_5 := bf_ BK316.out 5; have hcz10_0 : w7.cell? ⟨gb317, 0, none⟩ = some (.slice A1_0 l1_0.length c1_0) := (bc_ BK317.out 0).trans rfl; have hcz10_1 : w7.cell? ⟨gb317, 1, none⟩ = some (.int .i64 a1_1) := (bc_ BK317.out 1).trans rfl; have hcz10_2 : w7.cell? ⟨gb317, 2, none⟩ = some (.int .i64 a1_2) := (bc_ BK317.out 2).trans rfl; have hcz10_3 : w7.cell? ⟨gb317, 3, none⟩ = some (.int .i64 a1_3) := (bc_ BK317.out 3).trans rfl; have hcz10_4 : w7.cell? ⟨gb317, 4, none⟩ = some (.int .i64 a1_4) := (bc_ BK317.out 4).trans rfl; have hcz10_5 : w7.cell? ⟨gb317, 5, none⟩ = some (.int .i64 a1_5) := (bc_ BK317.out 5).trans rfl; have hfz10_0 := bf_ BK317.out 0; have hfz10_1 := bf_ BK317.out 1; have hfz10_2 := bf_ BK317.out 2; have hfz10_3 := bf_ BK317.out 3; have hfz10_4 := bf_ BK317.out 4; have hfz10_5 := bf_ BK317.out 5) | ((with_reducible refine gate_callee (f := 20) rfl ?_); refine goesL_ (some 9) rfl rfl Try.func20 (by kernel_rfl) rfl #[.slice A0_0 l0_0.length c0_0, .slice A1_0 l1_0.length c1_0] rfl (by (try simp only [List.map_toArray, List.map_cons, List.map_nil]); first | done | rfl | (simp only [List.length_drop, List.length_take]; rfl)) ?_; (with_reducible refine (r01_Same.calls k _ _ l0_0 _ _ l1_0 true _ ?side1 ?side2 ?side3 ?side4 A3.out).mono ?_); (case side1 => exact (Kd.C_below HR0_0.out HB.out)); (case side2 => exact HC0_0.out); (case side3 => exact (Kd.C_below HR1_0.out HB.out)); (case side4 => exact HC1_0.out); rintro e w' ⟨rfl, ⟨nd, rfl⟩⟩; refine ⟨_, rfl, ?_⟩))
   go_ret
   exact ⟨by first | rfl | (simp [errW_none, errW_some] <;> rfl) | (simp [*, errW_none, errW_some] <;> rfl) | (have hz_ : ∀ z : Int, -9223372036854775808 ≤ z → z ≤ 9223372036854775807 → wrap64 z = z := (fun z h1_ h2_ => by unfold wrap64; omega); rw [hz_] <;> first | rfl | omega), by repeat (first | (with_reducible first | exact HB.out | apply below_alloc | apply pw_below_drewN | apply below_drew1 | refine below_set ?_ GE316.out | refine below_set ?_ GE317.out) | exact HB.out)⟩
  ·rw [if_neg c5] at H
   have c5b0 : (a0_1 == a1_1 && (a0_2 == a1_2 && (a0_3 == a1_3 && (a0_4 == a1_4)))) = false := by simpa using c5
   (try (have c5b1 : decide (a0_1 = a1_1 && (a0_2 == a1_2 && (a0_3 == a1_3 && (a0_4 == a1_4)))) = false := by simpa using c5))
   (try (have c5b2 : (a0_1 == a1_1 && (a0_2 == a1_2 && (a0_3 == a1_3 && (a0_4 == a1_4)))) = false := by simpa using c5))
   (try (have c5b3 : ¬ (a0_1 = a1_1 && (a0_2 == a1_2 && (a0_3 == a1_3 && (a0_4 == a1_4)))) := by simpa using c5))
   clear c5
   obtain rfl := si_ H
   go_enter Try.func26, Try.ntmps26
   go_wp2_with (first | ((with_reducible refine gate_dst (N := 2) rfl ?_); refine box_event ?hg (N := 2) ?hd (cs := #[.slice A0_0 l0_0.length c0_0, .int .i64 a0_1, .int .i64 a0_2, .int .i64 a0_3, .int .i64 a0_4, .int .i64 a0_5]) (t := 42) ?hr ?_; (case hd => rfl); (case hg => rfl); (case hr => (go_simp; done)); intro gb316 hg w11 hbox hb; have BK316 := ak_ (hbox); have GW316 := ak_ ((by rw [hg]; exact (below_size HB.out) : w.heap.size ≤ gb316)); have GE316 := ak_ ((by rw [hg]; exact (below_size HB.out) : w.heap.size ≤ gb316)); replace HB := ak_ (below_step HB.out hb); clear hb hbox hg) | ((with_reducible refine gate_dst (N := 3) rfl ?_); refine box_event ?hg (N := 3) ?hd (cs := #[.slice A1_0 l1_0.length c1_0, .int .i64 a1_1, .int .i64 a1_2, .int .i64 a1_3, .int .i64 a1_4, .int .i64 a1_5]) (t := 42) ?hr ?_; (case hd => rfl); (case hg => rfl); (case hr => (go_simp; done)); intro gb317 hg w12 hbox hb; have BK317 := ak_ (hbox); have GW317 := ak_ ((by rw [hg]; exact (below_size HB.out) : w.heap.size ≤ gb317)); have GE317 := ak_ ((by rw [hg]; exact (below_size HB.out) : w.heap.size ≤ gb317)); replace HB := ak_ (below_step HB.out hb); have NB316_317 := ak_ ((by rw [hg]; exact Nat.ne_of_lt (blk_lt BK316.out) : gb316 ≠ gb317)); have NB317_316 := ak_ ((by rw [hg]; exact Nat.ne_of_gt (blk_lt BK316.out) : gb317 ≠ gb316)); replace BK316 := ak_ (blk_below BK316.out hb); clear hb hbox hg; have hnb13 := NB316_317.out; have hnc13 := NB317_316.out; have hcz14_0 : w12.cell? ⟨gb316, 0, none⟩ = some (.slice A0_0 l0_0.length c0_0) := (bc_ BK316.out 0).trans rfl; have hcz14_1 : w12.cell? ⟨gb316, 1, none⟩ = some (.int .i64 a0_1) := (bc_ BK316.out 1).trans rfl; have hcz14_2 : w12.cell? ⟨gb316, 2, none⟩ = some (.int .i64 a0_2) := (bc_ BK316.out 2).trans rfl; have hcz14_3 : w12.cell? ⟨gb316, 3, none⟩ = some (.int .i64 a0_3) := (bc_ BK316.out 3).trans rfl; have hcz14_4 : w12.cell? ⟨gb316, 4, none⟩ = some (.int .i64 a0_4) := (bc_ BK316.out 4).trans rfl; have hcz14_5 : w12.cell? ⟨gb316, 5, none⟩ = some (.int .i64 a0_5) := (bc_ BK316.out 5).trans rfl; have hfz14_0 := bf_ BK316.out 0; have hfz14_1 := bf_ BK316.out 1; have hfz14_2 := bf_ BK316.out 2; have hfz14_3 := bf_ BK316.out 3; have hfz14_4 := bf_ BK316.out 4; have hfz14_5 := bf_ BK316.out 5; have hcz15_0 : w12.cell? ⟨gb317, 0, none⟩ = some (.slice A1_0 l1_0.length c1_0) := (bc_ BK317.out 0).trans rfl; have hcz15_1 : w12.cell? ⟨gb317, 1, none⟩ = some (.int .i64 a1_1) := (bc_ BK317.out 1).trans rfl; have hcz15_2 : w12.cell? ⟨gb317, 2, none⟩ = some (.int .i64 a1_2) := (bc_ BK317.out 2).trans rfl; have hcz15_3 : w12.cell? ⟨gb317, 3, none⟩ = some (.int .i64 a1_3) := (bc_ BK317.out 3).trans rfl; have hcz15_4 : w12.cell? ⟨gb317, 4, none⟩ = some (.int .i64 a1_4) := (bc_ BK317.out 4).trans rfl; have hcz15_5 : w12.cell? ⟨gb317, 5, none⟩ = some (.int .i64 a1_5) := (bc_ BK317.out 5).trans rfl; have hfz15_0 := bf_ BK317.out 0; have hfz15_1 := bf_ BK317.out 1; have hfz15_2 := bf_ BK317.out 2; have hfz15_3 := bf_ BK317.out 3; have hfz15_4 := bf_ BK317.out 4; have hfz15_5 := bf_ BK317.out 5) | ((with_reducible refine gate_callee (f := 20) rfl ?_); refine goesL_ (some 9) rfl rfl Try.func20 (by kernel_rfl) rfl #[.slice A0_0 l0_0.length c0_0, .slice A1_0 l1_0.length c1_0] rfl (by (try simp only [List.map_toArray, List.map_cons, List.map_nil]); first | done | rfl | (simp only [List.length_drop, List.length_take]; rfl)) ?_; (with_reducible refine (r01_Same.calls k _ _ l0_0 _ _ l1_0 true _ ?side1 ?side2 ?side3 ?side4 A3.out).mono ?_); (case side1 => exact (Kd.C_below HR0_0.out HB.out)); (case side2 => exact HC0_0.out); (case side3 => exact (Kd.C_below HR1_0.out HB.out)); (case side4 => exact HC1_0.out); rintro e w' ⟨rfl, ⟨nd, rfl⟩⟩; refine ⟨_, rfl, ?_⟩))
   go_ret
   exact ⟨by first | rfl | (simp [errW_none, errW_some] <;> rfl) | (simp [*, errW_none, errW_some] <;> rfl) | (have hz_ : ∀ z : Int, -9223372036854775808 ≤ z → z ≤ 9223372036854775807 → wrap64 z = z := (fun z h1_ h2_ => by unfold wrap64; omega); rw [hz_] <;> first | rfl | omega), by repeat (first | (with_reducible first | exact HB.out | apply below_alloc | apply pw_below_drewN | apply below_drew1 | refine below_set ?_ GE316.out | refine below_set ?_ GE317.out) | exact HB.out)⟩
 ·replace c4 := Bool.eq_false_iff.mpr c4
  subst c4
  have H1 : (some false) = some r := by rw [if_neg (show ¬ (false = true) by decide)] at H; exact H
  clear H
  have H := H1
  clear H1
  obtain rfl := si_ H
  go_enter Try.func26, Try.ntmps26
  go_wp2_with (first | ((with_reducible refine gate_dst (N := 2) rfl ?_); refine box_event ?hg (N := 2) ?hd (cs := #[.slice A0_0 l0_0.length c0_0, .int .i64 a0_1, .int .i64 a0_2, .int .i64 a0_3, .int .i64 a0_4, .int .i64 a0_5]) (t := 42) ?hr ?_; (case hd => rfl); (case hg => rfl); (case hr => (go_simp; done)); intro gb316 hg w16 hbox hb; have BK316 := ak_ (hbox); have GW316 := ak_ ((by rw [hg]; exact (below_size HB.out) : w.heap.size ≤ gb316)); have GE316 := ak_ ((by rw [hg]; exact (below_size HB.out) : w.heap.size ≤ gb316)); replace HB := ak_ (below_step HB.out hb); clear hb hbox hg) | ((with_reducible refine gate_dst (N := 3) rfl ?_); refine box_event ?hg (N := 3) ?hd (cs := #[.slice A1_0 l1_0.length c1_0, .int .i64 a1_1, .int .i64 a1_2, .int .i64 a1_3, .int .i64 a1_4, .int .i64 a1_5]) (t := 42) ?hr ?_; (case hd => rfl); (case hg => rfl); (case hr => (go_simp; done)); intro gb317 hg w17 hbox hb; have BK317 := ak_ (hbox); have GW317 := ak_ ((by rw [hg]; exact (below_size HB.out) : w.heap.size ≤ gb317)); have GE317 := ak_ ((by rw [hg]; exact (below_size HB.out) : w.heap.size ≤ gb317)); replace HB := ak_ (below_step HB.out hb); have NB316_317 := ak_ ((by rw [hg]; exact Nat.ne_of_lt (blk_lt BK316.out) : gb316 ≠ gb317)); have NB317_316 := ak_ ((by rw [hg]; exact Nat.ne_of_gt (blk_lt BK316.out) : gb317 ≠ gb316)); replace BK316 := ak_ (blk_below BK316.out hb); clear hb hbox hg; have hnb18 := NB316_317.out; have hnc18 := NB317_316.out; have hcz19_0 : w17.cell? ⟨gb316, 0, none⟩ = some (.slice A0_0 l0_0.length c0_0) := (bc_ BK316.out 0).trans rfl; have hcz19_1 : w17.cell? ⟨gb316, 1, none⟩ = some (.int .i64 a0_1) := (bc_ BK316.out 1).trans rfl; have hcz19_2 : w17.cell? ⟨gb316, 2, none⟩ = some (.int .i64 a0_2) := (bc_ BK316.out 2).trans rfl; have hcz19_3 : w17.cell? ⟨gb316, 3, none⟩ = some (.int .i64 a0_3) := (bc_ BK316.out 3).trans rfl; have hcz19_4 : w17.cell? ⟨gb316, 4, none⟩ = some (.int .i64 a0_4) := (bc_ BK316.out 4).trans rfl; have hcz19_5 : w17.cell? ⟨gb316, 5, none⟩ = some (.int .i64 a0_5) := (bc_ BK316.out 5).trans rfl; have hfz19_0 := bf_ BK316.out 0; have hfz19_1 := bf_ BK316.out 1; have hfz19_2 := bf_ BK316.out 2; have hfz19_3 := bf_ BK316.out 3; have hfz19_4 := bf_ BK316.out 4; have hfz19_5 := bf_ BK316.out 5; have hcz20_0 : w17.cell? ⟨gb317, 0, none⟩ = some (.slice A1_0 l1_0.length c1_0) := (bc_ BK317.out 0).trans rfl; have hcz20_1 : w17.cell? ⟨gb317, 1, none⟩ = some (.int .i64 a1_1) := (bc_ BK317.out 1).trans rfl; have hcz20_2 : w17.cell? ⟨gb317, 2, none⟩ = some (.int .i64 a1_2) := (bc_ BK317.out 2).trans rfl; have hcz20_3 : w17.cell? ⟨gb317, 3, none⟩ = some (.int .i64 a1_3) := (bc_ BK317.out 3).trans rfl; have hcz20_4 : w17.cell? ⟨gb317, 4, none⟩ = some (.int .i64 a1_4) := (bc_ BK317.out 4).trans rfl; have hcz20_5 : w17.cell? ⟨gb317, 5, none⟩ = some (.int .i64 a1_5) := (bc_ BK317.out 5).trans rfl; have hfz20_0 := bf_ BK317.out 0; have hfz20_1 := bf_ BK317.out 1; have hfz20_2 := bf_ BK317.out 2; have hfz20_3 := bf_ BK317.out 3; have hfz20_4 := bf_ BK317.out 4; have hfz20_5 := bf_ BK317.out 5) | ((with_reducible refine gate_callee (f := 20) rfl ?_); refine goesL_ (some 9) rfl rfl Try.func20 (by kernel_rfl) rfl #[.slice A0_0 l0_0.length c0_0, .slice A1_0 l1_0.length c1_0] rfl (by (try simp only [List.map_toArray, List.map_cons, List.map_nil]); first | done | rfl | (simp only [List.length_drop, List.length_take]; rfl)) ?_; (with_reducible refine (r01_Same.calls k _ _ l0_0 _ _ l1_0 false _ ?side1 ?side2 ?side3 ?side4 A3.out).mono ?_); (case side1 => exact (Kd.C_below HR0_0.out HB.out)); (case side2 => exact HC0_0.out); (case side3 => exact (Kd.C_below HR1_0.out HB.out)); (case side4 => exact HC1_0.out); rintro e w' ⟨rfl, ⟨nd, rfl⟩⟩; refine ⟨_, rfl, ?_⟩))
  go_ret
  exact ⟨by first | rfl | (simp [errW_none, errW_some] <;> rfl) | (simp [*, errW_none, errW_some] <;> rfl) | (have hz_ : ∀ z : Int, -9223372036854775808 ≤ z → z ≤ 9223372036854775807 → wrap64 z = z := (fun z h1_ h2_ => by unfold wrap64; omega); rw [hz_] <;> first | rfl | omega), by repeat (first | (with_reducible first | exact HB.out | apply below_alloc | apply pw_below_drewN | apply below_drew1 | refine below_set ?_ GE316.out | refine below_set ?_ GE317.out) | exact HB.out)⟩
def r02_Bytes.f (a0 : Int) : Option (List Int) := some (([(Int.tmod a0 256) % 256, ((Int.tdiv a0 256) % 4294967296) % 256, ((Int.tdiv a0 65536) % 4294967296) % 256, ((Int.tdiv a0 16777216) % 4294967296) % 256] : List Int))
theorem r02_Bytes.calls (a0 : Int) (r : List Int) (w : World) (h : r02_Bytes.f a0 = some r) :
  Calls Try.prog 47 #[.int .u32 a0] w fun e w' => ∃ v0_ : Value, e = .returned (v0_) ∧ Kd.R (Kd.int .u8) 5 w' w.heap.size (fun _ => True) v0_ r ∧ Below w.heap.size w w' := by
 have HB := br_ w
 unfold r02_Bytes.f at h
 have H := h
 clear h
 obtain ⟨y324, hy324⟩ : ∃ y_ : List Int, y_ = (([(Int.tmod a0 256) % 256, ((Int.tdiv a0 256) % 4294967296) % 256, ((Int.tdiv a0 65536) % 4294967296) % 256, ((Int.tdiv a0 16777216) % 4294967296) % 256] : List Int)) := ⟨_, rfl⟩
 replace H : (some y324) = some r := (by rw [hy324]; with_reducible exact H)
 have Ny324 := ak_ hy324
 clear hy324
 obtain rfl := si_ H
 go_enter Try.func47, Try.ntmps47
 go_wp2_with ((with_reducible refine gate_dst (N := 17) rfl ?_); refine Kd.R_lit (Kd.int .u8) _ 5 ?hg (N := 17) ?hd (xs := ([(Int.tmod a0 256) % 256, ((Int.tdiv a0 256) % 4294967296) % 256, ((Int.tdiv a0 65536) % 4294967296) % 256, ((Int.tdiv a0 16777216) % 4294967296) % 256] : List Int)) (inner := [.int .u8 ((Int.tmod a0 256) % 256), .int .u8 (((Int.tdiv a0 256) % 4294967296) % 256), .int .u8 (((Int.tdiv a0 65536) % 4294967296) % 256), .int .u8 (((Int.tdiv a0 16777216) % 4294967296) % 256)]) (ok := fun _ => True) (okp := fun _ => True) ?hr ?hp (fun _ hk => hk) trivial (Below.refl _ _) (Nat.le_refl _) (by simp) ?_; (case hd => rfl); (case hg => rfl); (case hr => (go_simp; done)); (case hp => exact (Reps.one (show Kd.M (Kd.int .u8) _ _ _ ((Int.tmod a0 256) % 256) [.int .u8 ((Int.tmod a0 256) % 256)] from rfl) (Reps.one (show Kd.M (Kd.int .u8) _ _ _ (((Int.tdiv a0 256) % 4294967296) % 256) [.int .u8 (((Int.tdiv a0 256) % 4294967296) % 256)] from rfl) (Reps.one (show Kd.M (Kd.int .u8) _ _ _ (((Int.tdiv a0 65536) % 4294967296) % 256) [.int .u8 (((Int.tdiv a0 65536) % 4294967296) % 256)] from rfl) (Reps.one (show Kd.M (Kd.int .u8) _ _ _ (((Int.tdiv a0 16777216) % 4294967296) % 256) [.int .u8 (((Int.tdiv a0 16777216) % 4294967296) % 256)] from rfl) (Reps.none _ _)))))); intro v325 w2 ho3 hb hg_ hnew_; clear hg_ hnew_; (rw [← Ny324.out] at ho3); have HO326 := ak_ (Kd.R_lower ho3 (below_size HB.out)); replace HB := ak_ (below_step HB.out hb); clear hb ho3)
 go_ret
 exact ⟨_, by rfl, by (with_reducible repeat (first | apply Kd.R_alloc | apply Kd.R_drewN | apply Kd.R_drew)); exact HO326.out, HB.out⟩
end Go.Proofs.Ytmehbabchakkpaa.QLadderWalks
