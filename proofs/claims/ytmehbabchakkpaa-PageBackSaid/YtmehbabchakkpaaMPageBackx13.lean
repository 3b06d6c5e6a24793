import Derived.Test.YtmehbabchakkpaaMPageBackx8
namespace Go.Proofs.Ytmehbabchakkpaa.QPageBack
open Go.RowKit YtmehbabchakkpaaW.PrintWords YtmehbabchakkpaaW.PrintLast YtmehbabchakkpaaW.PrintMore Short
attribute [local go_sem] max2_int min2_int max_two min_two max_three min_three max_four min_four
set_option linter.unusedVariables false
set_option maxHeartbeats 8000000
set_option maxRecDepth 100000
set_option linter.unusedSimpArgs false
def page_Marked.f (k : Nat) (a0_0 : Int) (a0_1 : Int) (a0_2 : Int) (a0_3 : Int) (a0_4 : Int) (a0_5 : Int) (a0_6 : Int) (l1 : List Int) : Option (Bool) := (page_of.f a0_0 a0_1 a0_2 a0_3 a0_4 a0_5 a0_6).bind fun bt374 => (if bt374.2.2.2.2.2.2.2.2 = true then ((page_shape_size.f bt374.1 bt374.2.1 bt374.2.2.1 bt374.2.2.2.1 bt374.2.2.2.2.1 bt374.2.2.2.2.2.1 bt374.2.2.2.2.2.2.1 bt374.2.2.2.2.2.2.2.1).bind fun t384 => (if (l1.length : Int) = t384 then (if 0 ≤ (wrap64 ((l1.length : Int) - 1)) then (if (wrap64 ((l1.length : Int) - 1)) ≤ (l1.length : Int) then ((bits_Count.f k (l1.drop ((wrap64 ((l1.length : Int) - 1)) : Int).toNat)).bind fun t386 => (some (decide (t386 < 4)))) else (none)) else (none)) else (some false))) else (some false))
theorem page_Marked.mono : ∀ a0 a1 a2 a3 a4 a5 a6 a7 k, LeO (page_Marked.f k a0 a1 a2 a3 a4 a5 a6 a7) (page_Marked.f (k + 1) a0 a1 a2 a3 a4 a5 a6 a7) := by
 intro a0 a1 a2 a3 a4 a5 a6 a7 k
 unfold page_Marked.f
 repeat' with_reducible first
  | exact bits_Count.mono _ _
  | exact LeO.refl _
  | exact LeO.none _
  | refine LeO.ite ?_ ?_
  | refine LeO.bind ?_ (fun _ => ?_)
theorem page_Marked.calls (k : Nat) (a0_0 : Int) (a0_1 : Int) (a0_2 : Int) (a0_3 : Int) (a0_4 : Int) (a0_5 : Int) (a0_6 : Int) (A1 : Option Addr) (c1 : Nat) (l1 : List Int) (r : Bool) (w : World) (hr1 : Kd.C (Kd.int .u8) w A1 l1.length l1) (hc1 : l1.length ≤ c1) (h : page_Marked.f k a0_0 a0_1 a0_2 a0_3 a0_4 a0_5 a0_6 l1 = some r) :
  Calls Try.prog 31 #[.agg #[.int .i64 a0_0, .int .i64 a0_1, .int .i64 a0_2, .int .i64 a0_3, .int .i64 a0_4, .int .i64 a0_5, .int .i64 a0_6], .slice A1 l1.length c1] w fun e w' => e = .returned (.bool r) ∧ Below w.heap.size w w' := by
 have hu23 := Try.underlying23
 have hu70 := Try.underlying70
 have HR1 := ak_ hr1
 have HC1 := ak_ hc1
 clear hr1 hc1
 have HB := br_ w
 unfold page_Marked.f at h
 have H := h
 clear h
 obtain ⟨⟨t560, t561, t562, t563, t564, t565, t566, t567, t568⟩, A3, H⟩ := bs_ H
 try dsimp only at H
 by_cases c4 : t568 = true
 ·subst c4
  rw [if_pos rfl] at H
  obtain ⟨t570, A5, H⟩ := bs_ H
  by_cases c6 : (l1.length : Int) = t570
  ·rw [if_pos c6] at H
   have c6b0 := beq_iff_eq.mpr c6
   have c6b1 := bne_eq_false_iff_eq.mpr c6
   clear c6
   obtain ⟨ji7, hji7⟩ : ∃ j_ : Int, (wrap64 ((l1.length : Int) - 1)) = j_ := ⟨_, rfl⟩
   replace H : (if 0 ≤ (ji7) then (if (ji7) ≤ (l1.length : Int) then ((bits_Count.f k (l1.drop ((ji7) : Int).toNat)).bind fun t572 => (some (decide (t572 < 4)))) else (none)) else (none)) = some r := (by rw [hji7] at H; exact H)
   (try rw [hji7] at A3)
   (try rw [hji7] at A5)
   have hji7w : (IntKind.i64.wrap ((l1.length : Int) - 1)) = ji7 := (i64_w _).trans hji7
   by_cases c8 : 0 ≤ (ji7)
   ·rw [if_pos c8] at H
    have c8b0 := eq_true c8
    have c8b1 := dt_ c8
    clear c8
    by_cases c9 : (ji7) ≤ (l1.length : Int)
    ·rw [if_pos c9] at H
     have c9b0 := eq_true c9
     have c9b1 := dt_ c9
     clear c9
     obtain ⟨t572, A10, H⟩ := bs_ H
     obtain rfl := si_ H
     go_enter Try.func31, Try.ntmps31
     go_wp2_with (first | ((with_reducible refine gate_dst (N := 2) rfl ?_); (try (refine gate_guard (by rfl) ?_; dsimp only)); refine box_event ?hg (N := 2) ?hd (cs := #[.int .i64 a0_0, .int .i64 a0_1, .int .i64 a0_2, .int .i64 a0_3, .int .i64 a0_4, .int .i64 a0_5, .int .i64 a0_6]) (t := 23) ?hr ?_; (case hd => rfl); (case hg => rfl); (case hr => (go_simp; done)); intro gb559 hg w11 hbox hb; have BK559 := ak_ (hbox); have GW559 := ak_ (gw_ hg (below_size HB.out)); have GE559 := ak_ (gw_ hg (below_size HB.out)); replace HB := ak_ (below_step HB.out hb); clear hb hbox hg; obtain ⟨hcz12_0, hcz12_1, hcz12_2, hcz12_3, hcz12_4, hcz12_5, hcz12_6⟩ := cells7 BK559.out; obtain ⟨hfz12_0, hfz12_1, hfz12_2, hfz12_3, hfz12_4, hfz12_5, hfz12_6⟩ := froz7 BK559.out) | ((with_reducible refine gate_callee (f := 37) rfl ?_); refine goesL_ (some 9) rfl rfl Try.func37 (by kernel_rfl) rfl #[.agg #[.int .i64 a0_0, .int .i64 a0_1, .int .i64 a0_2, .int .i64 a0_3, .int .i64 a0_4, .int .i64 a0_5, .int .i64 a0_6]] rfl (by (try simp only [List.map_toArray, List.map_cons, List.map_nil]); first | done | rfl | (simp only [List.length_drop, List.length_take]; rfl)) ?_; (with_reducible refine (page_of.calls a0_0 a0_1 a0_2 a0_3 a0_4 a0_5 a0_6 t560 t561 t562 t563 t564 t565 t566 t567 true _ A3.out).mono ?_); rintro e w13 ⟨rfl, hb⟩; refine ⟨_, rfl, ?_⟩; replace BK559 := ak_ (blk_below BK559.out hb); replace HB := ak_ (below_step HB.out hb); (try clear hb)) | ((with_reducible refine gate_dst (N := 5) rfl ?_); (try (refine gate_guard (by rfl) ?_; dsimp only)); refine box_event ?hg (N := 5) ?hd (cs := #[.int .i64 0, .int .i64 0, .int .i64 0, .int .i64 0, .int .i64 0, .int .i64 0, .int .i64 0, .int .i64 0]) (t := 70) ?hr ?_; (case hd => rfl); (case hg => rfl); (case hr => (go_simp; done)); intro gb569 hg w14 hbox hb; have BK569 := ak_ (hbox); have GW569 := ak_ (gw_ hg (below_size HB.out)); have GE569 := ak_ (gw_ hg (below_size HB.out)); replace HB := ak_ (below_step HB.out hb); have NB559_569 := ak_ ((by rw [hg]; exact Nat.ne_of_lt (blk_lt BK559.out) : gb559 ≠ gb569)); have NB569_559 := ak_ ((by rw [hg]; exact Nat.ne_of_gt (blk_lt BK559.out) : gb569 ≠ gb559)); replace BK559 := ak_ (blk_below BK559.out hb); clear hb hbox hg; have hnb15 := NB569_559.out; have hnc15 := NB559_569.out; obtain ⟨hcz16_0, hcz16_1, hcz16_2, hcz16_3, hcz16_4, hcz16_5, hcz16_6, hcz16_7⟩ := cells8 BK569.out; obtain ⟨hfz16_0, hfz16_1, hfz16_2, hfz16_3, hfz16_4, hfz16_5, hfz16_6, hfz16_7⟩ := froz8 BK569.out) | (go_at_call 56; (with_reducible refine (page_shape_size.calls t560 t561 t562 t563 t564 t565 t566 t567 t570 _ A5.out).mono ?_); rintro e w17 ⟨rfl, hb⟩; replace BK559 := ak_ (blk_below (far8 BK559.out NB559_569.out) hb); replace BK569 := ak_ (blk_below (put8 BK569.out) hb); replace HB := ak_ (below_step (by repeat (first | (with_reducible first | exact HB.out | apply below_alloc | apply pw_below_drewN | apply below_drew1 | refine below_set ?_ GE559.out | refine below_set ?_ GE569.out) | exact HB.out)) hb); (try clear hb); obtain ⟨i018, hi018, _, hsz18, _⟩ := info_parts info5; obtain ⟨A18, hcut18, hA18, hC18⟩ := print_drop_of (P := Try.prog) (Value.int .u8) 0 24 5 .i64 Try.underlying24 hi018 hsz18 A1 c1 l1 (ji7) (od_ ‹_›) (od_ ‹_›) HC1.out; have HR571 := ak_ (Kd.C_of_reads (h1 := fun _ => rfl) (hA18 _ (Kd.reads_of_C HR1.out))); have HC571 := ak_ hC18; clear hA18 hC18 hi018 hsz18) | (go_at_call 36; (try rw [show l1.length - (ji7 : Int).toNat = (l1.drop ((ji7) : Int).toNat).length from List.length_drop.symm]); (with_reducible refine (bits_Count.calls k _ _ (l1.drop ((ji7) : Int).toNat) t572 _ ?side1 ?side2 A10.out).mono ?_); (case side1 => exact (Kd.C_below HR571.out HB.out)); (case side2 => exact HC571.out); rintro e w' ⟨rfl, ⟨nd, rfl⟩⟩))
     go_ret
     exact ⟨by rfl, by repeat (first | (with_reducible first | exact HB.out | apply below_alloc | apply pw_below_drewN | apply below_drew1 | refine below_set ?_ GE559.out | refine below_set ?_ GE569.out) | exact HB.out)⟩
    ·rw [if_neg c9] at H
     exact absurd H (by simp)
   ·rw [if_neg c8] at H
    exact absurd H (by simp)
  ·rw [if_neg c6] at H
   have c6b0 := beq_eq_false_iff_ne.mpr c6
   have c6b1 := bne_iff_ne.mpr c6
   obtain rfl := si_ H
   go_enter Try.func31, Try.ntmps31
   go_wp2_with (first | ((with_reducible refine gate_dst (N := 2) rfl ?_); (try (refine gate_guard (by rfl) ?_; dsimp only)); refine box_event ?hg (N := 2) ?hd (cs := #[.int .i64 a0_0, .int .i64 a0_1, .int .i64 a0_2, .int .i64 a0_3, .int .i64 a0_4, .int .i64 a0_5, .int .i64 a0_6]) (t := 23) ?hr ?_; (case hd => rfl); (case hg => rfl); (case hr => (go_simp; done)); intro gb559 hg w19 hbox hb; have BK559 := ak_ (hbox); have GW559 := ak_ (gw_ hg (below_size HB.out)); have GE559 := ak_ (gw_ hg (below_size HB.out)); replace HB := ak_ (below_step HB.out hb); clear hb hbox hg; obtain ⟨hcz20_0, hcz20_1, hcz20_2, hcz20_3, hcz20_4, hcz20_5, hcz20_6⟩ := cells7 BK559.out; obtain ⟨hfz20_0, hfz20_1, hfz20_2, hfz20_3, hfz20_4, hfz20_5, hfz20_6⟩ := froz7 BK559.out) | ((with_reducible refine gate_callee (f := 37) rfl ?_); refine goesL_ (some 9) rfl rfl Try.func37 (by kernel_rfl) rfl #[.agg #[.int .i64 a0_0, .int .i64 a0_1, .int .i64 a0_2, .int .i64 a0_3, .int .i64 a0_4, .int .i64 a0_5, .int .i64 a0_6]] rfl (by (try simp only [List.map_toArray, List.map_cons, List.map_nil]); first | done | rfl | (simp only [List.length_drop, List.length_take]; rfl)) ?_; (with_reducible refine (page_of.calls a0_0 a0_1 a0_2 a0_3 a0_4 a0_5 a0_6 t560 t561 t562 t563 t564 t565 t566 t567 true _ A3.out).mono ?_); rintro e w21 ⟨rfl, hb⟩; refine ⟨_, rfl, ?_⟩; replace BK559 := ak_ (blk_below BK559.out hb); replace HB := ak_ (below_step HB.out hb); (try clear hb)) | ((with_reducible refine gate_dst (N := 5) rfl ?_); (try (refine gate_guard (by rfl) ?_; dsimp only)); refine box_event ?hg (N := 5) ?hd (cs := #[.int .i64 0, .int .i64 0, .int .i64 0, .int .i64 0, .int .i64 0, .int .i64 0, .int .i64 0, .int .i64 0]) (t := 70) ?hr ?_; (case hd => rfl); (case hg => rfl); (case hr => (go_simp; done)); intro gb569 hg w22 hbox hb; have BK569 := ak_ (hbox); have GW569 := ak_ (gw_ hg (below_size HB.out)); have GE569 := ak_ (gw_ hg (below_size HB.out)); replace HB := ak_ (below_step HB.out hb); have NB559_569 := ak_ ((by rw [hg]; exact Nat.ne_of_lt (blk_lt BK559.out) : gb559 ≠ gb569)); have NB569_559 := ak_ ((by rw [hg]; exact Nat.ne_of_gt (blk_lt BK559.out) : gb569 ≠ gb559)); replace BK559 := ak_ (blk_below BK559.out hb); clear hb hbox hg; have hnb23 := NB569_559.out; have hnc23 := NB559_569.out; obtain ⟨hcz24_0, hcz24_1, hcz24_2, hcz24_3, hcz24_4, hcz24_5, hcz24_6, hcz24_7⟩ := cells8 BK569.out; obtain ⟨hfz24_0, hfz24_1, hfz24_2, hfz24_3, hfz24_4, hfz24_5, hfz24_6, hfz24_7⟩ := froz8 BK569.out) | (go_at_call 56; (with_reducible refine (page_shape_size.calls t560 t561 t562 t563 t564 t565 t566 t567 t570 _ A5.out).mono ?_); rintro e w25 ⟨rfl, hb⟩; replace BK559 := ak_ (blk_below (far8 BK559.out NB559_569.out) hb); replace BK569 := ak_ (blk_below (put8 BK569.out) hb); replace HB := ak_ (below_step (by repeat (first | (with_reducible first | exact HB.out | apply below_alloc | apply pw_below_drewN | apply below_drew1 | refine below_set ?_ GE559.out | refine below_set ?_ GE569.out) | exact HB.out)) hb); (try clear hb)))
   go_ret
   exact ⟨by rfl, HB.out⟩
 ·replace c4 := Bool.eq_false_iff.mpr c4
  subst c4
  rw [if_neg (show ¬ (false = true) by decide)] at H
  obtain rfl := si_ H
  go_enter Try.func31, Try.ntmps31
  go_wp2_with (first | ((with_reducible refine gate_dst (N := 2) rfl ?_); (try (refine gate_guard (by rfl) ?_; dsimp only)); refine box_event ?hg (N := 2) ?hd (cs := #[.int .i64 a0_0, .int .i64 a0_1, .int .i64 a0_2, .int .i64 a0_3, .int .i64 a0_4, .int .i64 a0_5, .int .i64 a0_6]) (t := 23) ?hr ?_; (case hd => rfl); (case hg => rfl); (case hr => (go_simp; done)); intro gb559 hg w26 hbox hb; have BK559 := ak_ (hbox); have GW559 := ak_ (gw_ hg (below_size HB.out)); have GE559 := ak_ (gw_ hg (below_size HB.out)); replace HB := ak_ (below_step HB.out hb); clear hb hbox hg; obtain ⟨hcz27_0, hcz27_1, hcz27_2, hcz27_3, hcz27_4, hcz27_5, hcz27_6⟩ := cells7 BK559.out; obtain ⟨hfz27_0, hfz27_1, hfz27_2, hfz27_3, hfz27_4, hfz27_5, hfz27_6⟩ := froz7 BK559.out) | ((with_reducible refine gate_callee (f := 37) rfl ?_); refine goesL_ (some 9) rfl rfl Try.func37 (by kernel_rfl) rfl #[.agg #[.int .i64 a0_0, .int .i64 a0_1, .int .i64 a0_2, .int .i64 a0_3, .int .i64 a0_4, .int .i64 a0_5, .int .i64 a0_6]] rfl (by (try simp only [List.map_toArray, List.map_cons, List.map_nil]); first | done | rfl | (simp only [List.length_drop, List.length_take]; rfl)) ?_; (with_reducible refine (page_of.calls a0_0 a0_1 a0_2 a0_3 a0_4 a0_5 a0_6 t560 t561 t562 t563 t564 t565 t566 t567 false _ A3.out).mono ?_); rintro e w28 ⟨rfl, hb⟩; refine ⟨_, rfl, ?_⟩; replace BK559 := ak_ (blk_below BK559.out hb); replace HB := ak_ (below_step HB.out hb); (try clear hb)) | ((with_reducible refine gate_dst (N := 5) rfl ?_); (try (refine gate_guard (by rfl) ?_; dsimp only)); refine box_event ?hg (N := 5) ?hd (cs := #[.int .i64 0, .int .i64 0, .int .i64 0, .int .i64 0, .int .i64 0, .int .i64 0, .int .i64 0, .int .i64 0]) (t := 70) ?hr ?_; (case hd => rfl); (case hg => rfl); (case hr => (go_simp; done)); intro gb569 hg w29 hbox hb; have BK569 := ak_ (hbox); have GW569 := ak_ (gw_ hg (below_size HB.out)); have GE569 := ak_ (gw_ hg (below_size HB.out)); replace HB := ak_ (below_step HB.out hb); have NB559_569 := ak_ ((by rw [hg]; exact Nat.ne_of_lt (blk_lt BK559.out) : gb559 ≠ gb569)); have NB569_559 := ak_ ((by rw [hg]; exact Nat.ne_of_gt (blk_lt BK559.out) : gb569 ≠ gb559)); replace BK559 := ak_ (blk_below BK559.out hb); clear hb hbox hg; have hnb30 := NB569_559.out; have hnc30 := NB559_569.out; obtain ⟨hcz31_0, hcz31_1, hcz31_2, hcz31_3, hcz31_4, hcz31_5, hcz31_6, hcz31_7⟩ := cells8 BK569.out; obtain ⟨hfz31_0, hfz31_1, hfz31_2, hfz31_3, hfz31_4, hfz31_5, hfz31_6, hfz31_7⟩ := froz8 BK569.out))
  go_ret
  exact ⟨by rfl, by repeat (first | (with_reducible first | exact HB.out | apply below_alloc | apply pw_below_drewN | apply below_drew1 | refine below_set ?_ GE559.out | refine below_set ?_ GE569.out) | exact HB.out)⟩
def l08_turn.l0 : Nat → List Int → List Int → Int → Int → Int → Int → Int → Int → Int → Int → Int → Option (List Int)
 | 0, _, _, _, _, _, _, _, _, _, _, _ => none
 | k + 1, x1, x10, x11, x12, x388000, x388001, x388002, x388003, x388004, x388005, x388006 => if x12 < x11 then (if 0 ≤ x12 then (if x12 < (x10.length : Int) then (if x12 = x388003 then (if x12 ≤ x388003 then (if (wrap64 (rd x10 x12)) < 238 then ((bits_Flip.f k x1 (([wrap64 ((wrap64 ((wrap64 (8 * x12)) * (wrap64 (x388004 + 2)))) + (wrap64 (rd x10 x12)))] : List Int))).bind fun t392 => (l08_turn.l0 k t392 x10 x11 (wrap64 (x12 + 1)) x388000 x388001 x388002 x388003 x388004 x388005 x388006)) else (l08_turn.l0 k x1 x10 x11 (wrap64 (x12 + 1)) x388000 x388001 x388002 x388003 x388004 x388005 x388006)) else (l08_turn.l0 k x1 x10 x11 (wrap64 (x12 + 1)) x388000 x388001 x388002 x388003 x388004 x388005 x388006)) else (if x12 ≤ x388003 then (if (wrap64 (rd x10 x12)) < (wrap64 ((wrap64 (8 * x388004)) + 14)) then ((bits_Flip.f k x1 (([wrap64 ((wrap64 ((wrap64 (8 * x12)) * (wrap64 (x388004 + 2)))) + (wrap64 (rd x10 x12)))] : List Int))).bind fun t398 => (l08_turn.l0 k t398 x10 x11 (wrap64 (x12 + 1)) x388000 x388001 x388002 x388003 x388004 x388005 x388006)) else (l08_turn.l0 k x1 x10 x11 (wrap64 (x12 + 1)) x388000 x388001 x388002 x388003 x388004 x388005 x388006)) else (l08_turn.l0 k x1 x10 x11 (wrap64 (x12 + 1)) x388000 x388001 x388002 x388003 x388004 x388005 x388006))) else (none)) else (none)) else (some x1)
def l08_turn.f (k : Nat) (a0_0 : Int) (a0_1 : Int) (a0_2 : Int) (a0_3 : Int) (a0_4 : Int) (a0_5 : Int) (a0_6 : Int) (l1 : List Int) (l2 : List Int) : Option (List Int) := l08_turn.l0 k l1 l2 (l2.length : Int) 0 a0_0 a0_1 a0_2 a0_3 a0_4 a0_5 a0_6
theorem l08_turn.mono_l : ∀ k, (∀ y0 y1 y2 y3 y4 y5 y6 y7 y8 y9 y10, LeO (l08_turn.l0 k y0 y1 y2 y3 y4 y5 y6 y7 y8 y9 y10) (l08_turn.l0 (k + 1) y0 y1 y2 y3 y4 y5 y6 y7 y8 y9 y10))
 | 0 => fun _ _ _ _ _ _ _ _ _ _ _ r h => by simp [l08_turn.l0] at h
 | k + 1 => by
  have ih0 := l08_turn.mono_l k
  ·intro y0 y1 y2 y3 y4 y5 y6 y7 y8 y9 y10
   unfold l08_turn.l0
   repeat' first
   | (with_reducible exact ih0 _ _ _ _ _ _ _ _ _ _ _)
   | (with_reducible exact bits_Flip.mono _ _ _)
   | (with_reducible exact LeO.refl _)
   | (with_reducible exact LeO.none _)
   | (with_reducible refine LeO.ite ?_ ?_)
   | (with_reducible refine LeO.bind ?_ (fun _ => ?_))
theorem l08_turn.mono : ∀ a0 a1 a2 a3 a4 a5 a6 a7 a8 k, LeO (l08_turn.f k a0 a1 a2 a3 a4 a5 a6 a7 a8) (l08_turn.f (k + 1) a0 a1 a2 a3 a4 a5 a6 a7 a8) := by
 intro a0 a1 a2 a3 a4 a5 a6 a7 a8 k
 have ih0 := l08_turn.mono_l k
 unfold l08_turn.f
 repeat' first
  | (with_reducible exact ih0 _ _ _ _ _ _ _ _ _ _ _)
  | (with_reducible exact bits_Flip.mono _ _ _)
  | (with_reducible exact LeO.refl _)
  | (with_reducible exact LeO.none _)
  | (with_reducible refine LeO.ite ?_ ?_)
  | (with_reducible refine LeO.bind ?_ (fun _ => ?_))
theorem l08_turn.calls (k : Nat) (a0_0 : Int) (a0_1 : Int) (a0_2 : Int) (a0_3 : Int) (a0_4 : Int) (a0_5 : Int) (a0_6 : Int) (P1_ : Nat → Prop) (A1 : Option Addr) (c1 : Nat) (l1 : List Int) (A2 : Option Addr) (c2 : Nat) (l2 : List Int) (r : List Int) (w : World) (hs1 : Kd.V (Kd.int .u8) 5 w w.heap.size (fun k_ => P1_ k_) (.slice A1 l1.length c1) l1) (hr2 : Kd.C (Kd.int .u16) w A2 l2.length l2) (hc2 : l2.length ≤ c2) (h : l08_turn.f k a0_0 a0_1 a0_2 a0_3 a0_4 a0_5 a0_6 l1 l2 = some r) :
  Calls Try.prog 33 #[.agg #[.int .i64 a0_0, .int .i64 a0_1, .int .i64 a0_2, .int .i64 a0_3, .int .i64 a0_4, .int .i64 a0_5, .int .i64 a0_6], .slice A1 l1.length c1, .slice A2 l2.length c2] w fun e w' => ∃ v0_ : Value, e = .returned (v0_) ∧ Kd.V (Kd.int .u8) 5 w' w.heap.size (fun k_ => (P1_ k_ ∨ w.heap.size ≤ k_)) v0_ r ∧ Below w.heap.size w w' := by
 have hu23 := Try.underlying23
 have HO1 := ak_ (show Kd.V (Kd.int .u8) 5 w w.heap.size (fun k_ => (P1_ k_ ∨ w.heap.size ≤ k_)) (.slice A1 l1.length c1) l1 from Kd.V_mono hs1 (fun k_ hk => .inl hk))
 have HR2 := ak_ hr2
 have HC2 := ak_ hc2
 clear hr2 hc2
 have HB := br_ w
 have H : (l08_turn.l0 k l1 l2 (l2.length : Int) 0 a0_0 a0_1 a0_2 a0_3 a0_4 a0_5 a0_6) = some r := h
 clear h
 have H' := ak_ H
 clear H
 go_enter Try.func33, Try.ntmps33
 go_wp2_with (first | ((with_reducible refine gate_dst (N := 3) rfl ?_); refine box_event ?hg (N := 3) ?hd (cs := #[.int .i64 a0_0, .int .i64 a0_1, .int .i64 a0_2, .int .i64 a0_3, .int .i64 a0_4, .int .i64 a0_5, .int .i64 a0_6]) (t := 23) ?hr ?_; (case hd => rfl); (case hg => rfl); (case hr => first | (go_simp; done) | (go_simp; rfl)); intro gb387 hg w4 hbox hb; have n0_ := ak_ (Kd.V_below (Kd.V_elderB (by (with_reducible repeat (first | apply Kd.V_alloc | apply Kd.V_drewN | apply Kd.V_drew)); exact HO1.out) gb387 (Nat.le_of_eq hg.symm)) hb); have n1_ := ak_ (below_step (by repeat (first | (with_reducible first | exact HB.out | apply below_alloc | apply pw_below_drewN | apply below_drew1) | exact HB.out)) hb); have n2_ := ak_ (hbox); have n3_ := ak_ ((by rw [hg]; exact (below_size (by repeat (first | (with_reducible first | exact HB.out | apply below_alloc | apply pw_below_drewN | apply below_drew1) | exact HB.out))) : w.heap.size ≤ gb387)); have n4_ := ak_ ((by rw [hg]; exact (below_size (by repeat (first | (with_reducible first | exact HB.out | apply below_alloc | apply pw_below_drewN | apply below_drew1) | exact HB.out))) : w.heap.size ≤ gb387)); clear HO1; clear HB; have HO1 := n0_; have HB := n1_; have BK387 := n2_; have GW387 := n3_; have GE387 := n4_; clear n0_ n1_ n2_ n3_ n4_; clear hb hbox hg))
 go_loopg [1, 12] k (fun kq v1 v12 w' => ∃ (x1_1 : List Int) (x12_1 : Int), v12 = .int .i64 x12_1 ∧ Aside0 (l08_turn.l0 kq x1_1 l2 (l2.length : Int) x12_1 a0_0 a0_1 a0_2 a0_3 a0_4 a0_5 a0_6 = some r) ∧ Aside0 (kq ≤ k) ∧ Aside0 (Kd.V (Kd.int .u8) 5 w' w.heap.size (fun k_ => (P1_ k_ ∨ w.heap.size ≤ k_) ∧ k_ ≠ gb387) v1 x1_1) ∧ Aside0 (w'.heap[gb387]? = some (.cells #[.int .i64 a0_0, .int .i64 a0_1, .int .i64 a0_2, .int .i64 a0_3, .int .i64 a0_4, .int .i64 a0_5, .int .i64 a0_6] 23 (0, 0))) ∧ Aside0 (Below w.heap.size w w'))
 case atStart => exact ⟨(l1), (0), (by first | rfl | (simp; done) | (simp [*]; done)), H', ⟨Nat.le_refl _⟩, ⟨by (with_reducible repeat (first | apply Kd.V_alloc | apply Kd.V_drewN | apply Kd.V_drew)); exact HO1.out⟩, ⟨by (with_reducible repeat (first | apply blk_drewN | apply blk_drew | apply blk_alloc)); exact BK387.out⟩, ⟨by repeat (first | (with_reducible first | exact HB.out | apply below_alloc | apply pw_below_drewN | apply below_drew1 | refine below_set ?_ GE387.out) | exact HB.out)⟩⟩
 case round =>
  clear H'
  try clear c1
  try clear c2
  try clear p2
  try clear c3
  obtain ⟨x1_1, x12_1, rfl, HA, HK1, HO_1, BK387, HB⟩ := hrel
  cases gk with
  | zero => exact absurd HA.out (by simp [l08_turn.l0])
  | succ k1 =>
   have H := HA.out
   clear HA
   simp only [l08_turn.l0] at H
   by_cases c5 : x12_1 < (l2.length : Int)
   ·rw [if_pos c5] at H
    have c5b0 : decide (x12_1 < (l2.length : Int)) = true := dt_ c5
    clear c5
    by_cases c6 : 0 ≤ x12_1
    ·rw [if_pos c6] at H
     have c6b0 : decide (0 ≤ x12_1) = true := dt_ c6
     clear c6
     by_cases c7 : x12_1 < (l2.length : Int)
     ·rw [if_pos c7] at H
      have c7b0 : decide (x12_1 < (l2.length : Int)) = true := dt_ c7
      clear c7
      by_cases c8 : x12_1 = a0_3
      ·rw [if_pos c8] at H
       have c8b0 : (x12_1 == a0_3) = true := beq_iff_eq.mpr c8
       have c8b1 : (x12_1 != a0_3) = false := bne_eq_false_iff_eq.mpr c8
       clear c8
       by_cases c9 : x12_1 ≤ a0_3
       ·rw [if_pos c9] at H
        have c9b0 : decide (x12_1 ≤ a0_3) = true := dt_ c9
        clear c9
        by_cases c10 : (wrap64 (rd l2 x12_1)) < 238
        ·rw [if_pos c10] at H
         have c10b0 : decide ((wrap64 (rd l2 x12_1)) < 238) = true := dt_ c10
         clear c10
         obtain ⟨y389, hy389⟩ : ∃ y_ : List Int, y_ = (([wrap64 ((wrap64 ((wrap64 (8 * x12_1)) * (wrap64 (a0_4 + 2)))) + (wrap64 (rd l2 x12_1)))] : List Int)) := ⟨_, rfl⟩
         replace H : ((bits_Flip.f k1 x1_1 y389).bind fun t392 => (l08_turn.l0 k1 t392 l2 (l2.length : Int) (wrap64 (x12_1 + 1)) a0_0 a0_1 a0_2 a0_3 a0_4 a0_5 a0_6)) = some r := by first | (rw [hy389]; with_reducible exact H) | (have H2_ := (Option.bind_some _ _).symm.trans H; rw [hy389]; with_reducible exact H2_) | (have H2_ := (Option.bind_some _ _).symm.trans H; with_reducible exact H2_) | with_reducible exact H | (rw [hy389]; exact H) | exact H
         have Ny389 := ak_ hy389
         clear hy389
         replace H := Option.bind_eq_some_iff.mp H
         obtain ⟨t392, A110, H⟩ := H
         replace H : (l08_turn.l0 k1 t392 l2 (l2.length : Int) (wrap64 (x12_1 + 1)) a0_0 a0_1 a0_2 a0_3 a0_4 a0_5 a0_6) = some r := H
         have A11 := ak_ A110
         clear A110
         have H' := ak_ H
         clear H
         have p388 : 0 ≤ (x12_1 : Int) := of_decide_eq_true (by first | (with_reducible assumption) | assumption)
         have q388 : x12_1 < (l2.length : Int) := of_decide_eq_true (by first | (with_reducible assumption) | assumption)
         obtain ⟨ad388, e388, hx388_0⟩ := Kd.at_int HR2.out x12_1 p388 q388
         cases e388
         replace hx388_0 := (HB.out.cell (World.block_lt_of_cell? w _ hx388_0)).trans hx388_0
         replace p388 := eq_true p388
         replace q388 := eq_true q388
         have hcz12_0 : wr.cell? ⟨gb387, 0, none⟩ = some (.int .i64 a0_0) := (bc_ BK387.out 0).trans rfl
         have hcz12_1 : wr.cell? ⟨gb387, 1, none⟩ = some (.int .i64 a0_1) := (bc_ BK387.out 1).trans rfl
         have hcz12_2 : wr.cell? ⟨gb387, 2, none⟩ = some (.int .i64 a0_2) := (bc_ BK387.out 2).trans rfl
         have hcz12_3 : wr.cell? ⟨gb387, 3, none⟩ = some (.int .i64 a0_3) := (bc_ BK387.out 3).trans rfl
         have hcz12_4 : wr.cell? ⟨gb387, 4, none⟩ = some (.int .i64 a0_4) := (bc_ BK387.out 4).trans rfl
         have hcz12_5 : wr.cell? ⟨gb387, 5, none⟩ = some (.int .i64 a0_5) := (bc_ BK387.out 5).trans rfl
         have hcz12_6 : wr.cell? ⟨gb387, 6, none⟩ = some (.int .i64 a0_6) := (bc_ BK387.out 6).trans rfl
         have hfz12_0 := bf_ BK387.out 0
         have hfz12_1 := bf_ BK387.out 1
         have hfz12_2 := bf_ BK387.out 2
         have hfz12_3 := bf_ BK387.out 3
         have hfz12_4 := bf_ BK387.out 4
         have hfz12_5 := bf_ BK387.out 5
         have hfz12_6 := bf_ BK387.out 6
         go_wp2_with (first | ((with_reducible refine gate_dst (N := 45) rfl ?_); refine Kd.R_lit (Kd.int .i64) _ 3 ?hg (N := 45) ?hd (xs := ([wrap64 ((wrap64 ((wrap64 (8 * x12_1)) * (wrap64 (a0_4 + 2)))) + (wrap64 (rd l2 x12_1)))] : List Int)) (inner := [.int .i64 (wrap64 ((wrap64 ((wrap64 (8 * x12_1)) * (wrap64 (a0_4 + 2)))) + (wrap64 (rd l2 x12_1))))]) (ok := fun _ => True) (okp := fun _ => True) ?hr ?hp (fun _ hk => hk) trivial (Below.refl _ _) (Nat.le_refl _) (by simp) ?_; (case hd => rfl); (case hg => rfl); (case hr => first | (go_simp; done) | (go_simp; rfl)); (case hp => exact (Reps.one (show Kd.M (Kd.int .i64) _ _ _ (wrap64 ((wrap64 ((wrap64 (8 * x12_1)) * (wrap64 (a0_4 + 2)))) + (wrap64 (rd l2 x12_1)))) [.int .i64 (wrap64 ((wrap64 ((wrap64 (8 * x12_1)) * (wrap64 (a0_4 + 2)))) + (wrap64 (rd l2 x12_1))))] from rfl) (Reps.none _ _))); intro v390 w13 ho14 hb hg_ hnew_; clear hg_ hnew_; (first | rw [← Ny389.out] at ho14 | (simp only [Int.reduceToNat] at ho14; rw [← Ny389.out] at ho14)); have n0_ := ak_ (Kd.V_elder' (by (with_reducible repeat (first | apply Kd.V_alloc | apply Kd.V_drewN | apply Kd.V_drew)); exact HO_1.out) (Kd.R_base ho14) hb); have n1_ := ak_ (Kd.R_lower (Kd.R_newM (M := fun k_ => (w.heap.size ≤ k_)) ho14 (below_size (by repeat (first | (with_reducible first | exact HB.out | apply below_alloc | apply pw_below_drewN | apply below_drew1 | refine below_set ?_ GE387.out) | exact HB.out))) (fun k_ h_ => h_)) (below_size (by repeat (first | (with_reducible first | exact HB.out | apply below_alloc | apply pw_below_drewN | apply below_drew1 | refine below_set ?_ GE387.out) | exact HB.out)))); have n2_ := ak_ (blk_below (g := gb387) (o := .cells #[.int .i64 a0_0, .int .i64 a0_1, .int .i64 a0_2, .int .i64 a0_3, .int .i64 a0_4, .int .i64 a0_5, .int .i64 a0_6] 23 (0, 0)) (by (with_reducible repeat (first | apply blk_drewN | apply blk_drew | apply blk_alloc)); exact BK387.out) hb); have n3_ := ak_ (below_step (by repeat (first | (with_reducible first | exact HB.out | apply below_alloc | apply pw_below_drewN | apply below_drew1 | refine below_set ?_ GE387.out) | exact HB.out)) hb); clear HO_1; clear BK387; clear HB; have HO_1 := n0_; have HO391 := n1_; have BK387 := n2_; have HB := n3_; clear n0_ n1_ n2_ n3_; clear hb ho14; obtain ⟨Ao15, co15, eo15⟩ := Kd.V_slice HO_1.out; subst eo15; obtain ⟨Ao16, co16, eo16⟩ := Kd.R_slice HO391.out; subst eo16) | ((with_reducible refine gate_callee (f := 34) rfl ?_); refine goesL_ (some 46) rfl rfl Try.func34 (by kernel_rfl) rfl #[.slice Ao15 x1_1.length co15, .slice Ao16 y389.length co16] rfl (by (try simp only [List.map_toArray, List.map_cons, List.map_nil]); first | done | rfl | (simp only [List.length_drop, List.length_take]; rfl)) ?_; (with_reducible refine (bits_Flip.calls k1 _ _ x1_1 _ _ y389 t392 _ ?side1 ?side2 ?side3 ?side4 A11.out).mono ?_); (case side1 => repeat (first | exact (Kd.V_reads' HO_1.out).2.2 | (with_reducible refine Kd.C_alloc ?_ _) | (with_reducible refine Kd.C_drewN ?_ _) | (with_reducible refine Kd.C_drew ?_))); (case side2 => exact (Kd.V_reads' HO_1.out).2.1); (case side3 => repeat (first | exact (Kd.R_reads' HO391.out).2.2 | (with_reducible refine Kd.C_alloc ?_ _) | (with_reducible refine Kd.C_drewN ?_ _) | (with_reducible refine Kd.C_drew ?_))); (case side4 => exact (Kd.R_reads' HO391.out).2.1); rintro e w17 ⟨v393, rfl, ho0, hb⟩; refine ⟨_, rfl, ?_⟩; have n0_ := ak_ (Kd.V_elder' (by (with_reducible repeat (first | apply Kd.V_alloc | apply Kd.V_drewN | apply Kd.V_drew)); exact HO_1.out) (Kd.R_base ho0) hb); have n1_ := ak_ (Kd.R_below (by (with_reducible repeat (first | apply Kd.R_alloc | apply Kd.R_drewN | apply Kd.R_drew)); exact HO391.out) hb); have n2_ := ak_ (Kd.R_lower (Kd.R_newM (M := fun k_ => (w.heap.size ≤ k_)) ho0 (below_size (by repeat (first | (with_reducible first | exact HB.out | apply below_alloc | apply pw_below_drewN | apply below_drew1 | refine below_set ?_ GE387.out) | exact HB.out))) (fun k_ h_ => h_)) (below_size (by repeat (first | (with_reducible first | exact HB.out | apply below_alloc | apply pw_below_drewN | apply below_drew1 | refine below_set ?_ GE387.out) | exact HB.out)))); have n3_ := ak_ (blk_below (g := gb387) (o := .cells #[.int .i64 a0_0, .int .i64 a0_1, .int .i64 a0_2, .int .i64 a0_3, .int .i64 a0_4, .int .i64 a0_5, .int .i64 a0_6] 23 (0, 0)) (by (with_reducible repeat (first | apply blk_drewN | apply blk_drew | apply blk_alloc)); exact BK387.out) hb); have n4_ := ak_ (below_step (by repeat (first | (with_reducible first | exact HB.out | apply below_alloc | apply pw_below_drewN | apply below_drew1 | refine below_set ?_ GE387.out) | exact HB.out)) hb); clear HO_1; clear HO391; clear BK387; clear HB; have HO_1 := n0_; have HO391 := n1_; have HO394 := n2_; have BK387 := n3_; have HB := n4_; clear n0_ n1_ n2_ n3_ n4_; (try clear hb); (try clear hb2); (try clear hk); (try clear hi); (try clear ho0)))
         go_roundg k1
         case measure => have := HK1.out; omega
         case rel => exact ⟨(t392), (wrap64 (x12_1 + 1)), (by first | rfl | (simp; done) | (simp [*]; done)), H', ⟨by have := HK1.out; omega⟩, ⟨Kd.V_mono (Kd.R_V (by (with_reducible repeat (first | apply Kd.R_alloc | apply Kd.R_drewN | apply Kd.R_drew)); exact Kd.R_mono (Kd.R_types HO394.out BK387.out (by decide)) (fun _ hk => And.intro hk.1.1 (hk.2)))) (fun k_ hk => by first | exact ⟨(.inr (hk.1)), hk.2⟩ | exact (.inr (hk)))⟩, ⟨by (with_reducible repeat (first | apply blk_drewN | apply blk_drew | apply blk_alloc)); exact BK387.out⟩, ⟨by repeat (first | (with_reducible first | exact HB.out | apply below_alloc | apply pw_below_drewN | apply below_drew1 | refine below_set ?_ GE387.out) | exact HB.out)⟩⟩
        ·rw [if_neg c10] at H
         have c10b0 : decide ((wrap64 (rd l2 x12_1)) < 238) = false := df_ c10
         clear c10
         have H' := ak_ H
         clear H
         have p388 : 0 ≤ (x12_1 : Int) := of_decide_eq_true (by first | (with_reducible assumption) | assumption)
         have q388 : x12_1 < (l2.length : Int) := of_decide_eq_true (by first | (with_reducible assumption) | assumption)
         obtain ⟨ad388, e388, hx388_0⟩ := Kd.at_int HR2.out x12_1 p388 q388
         cases e388
         replace hx388_0 := (HB.out.cell (World.block_lt_of_cell? w _ hx388_0)).trans hx388_0
         replace p388 := eq_true p388
         replace q388 := eq_true q388
         have hcz18_0 : wr.cell? ⟨gb387, 0, none⟩ = some (.int .i64 a0_0) := (bc_ BK387.out 0).trans rfl
         have hcz18_1 : wr.cell? ⟨gb387, 1, none⟩ = some (.int .i64 a0_1) := (bc_ BK387.out 1).trans rfl
         have hcz18_2 : wr.cell? ⟨gb387, 2, none⟩ = some (.int .i64 a0_2) := (bc_ BK387.out 2).trans rfl
         have hcz18_3 : wr.cell? ⟨gb387, 3, none⟩ = some (.int .i64 a0_3) := (bc_ BK387.out 3).trans rfl
         have hcz18_4 : wr.cell? ⟨gb387, 4, none⟩ = some (.int .i64 a0_4) := (bc_ BK387.out 4).trans rfl
         have hcz18_5 : wr.cell? ⟨gb387, 5, none⟩ = some (.int .i64 a0_5) := (bc_ BK387.out 5).trans rfl
         have hcz18_6 : wr.cell? ⟨gb387, 6, none⟩ = some (.int .i64 a0_6) := (bc_ BK387.out 6).trans rfl
         have hfz18_0 := bf_ BK387.out 0
         have hfz18_1 := bf_ BK387.out 1
         have hfz18_2 := bf_ BK387.out 2
         have hfz18_3 := bf_ BK387.out 3
         have hfz18_4 := bf_ BK387.out 4
         have hfz18_5 := bf_ BK387.out 5
         have hfz18_6 := bf_ BK387.out 6
         go_wp2
         go_roundg k1
         case measure => have := HK1.out; omega
         case rel => exact ⟨(x1_1), (wrap64 (x12_1 + 1)), (by first | rfl | (simp; done) | (simp [*]; done)), H', ⟨by have := HK1.out; omega⟩, ⟨by (with_reducible repeat (first | apply Kd.V_alloc | apply Kd.V_drewN | apply Kd.V_drew)); exact HO_1.out⟩, ⟨by (with_reducible repeat (first | apply blk_drewN | apply blk_drew | apply blk_alloc)); exact BK387.out⟩, ⟨by repeat (first | (with_reducible first | exact HB.out | apply below_alloc | apply pw_below_drewN | apply below_drew1 | refine below_set ?_ GE387.out) | exact HB.out)⟩⟩
       ·rw [if_neg c9] at H
        have c9b0 : decide (x12_1 ≤ a0_3) = false := df_ c9
        clear c9
        have H' := ak_ H
        clear H
        have p388 : 0 ≤ (x12_1 : Int) := of_decide_eq_true (by first | (with_reducible assumption) | assumption)
        have q388 : x12_1 < (l2.length : Int) := of_decide_eq_true (by first | (with_reducible assumption) | assumption)
        obtain ⟨ad388, e388, hx388_0⟩ := Kd.at_int HR2.out x12_1 p388 q388
        cases e388
        replace hx388_0 := (HB.out.cell (World.block_lt_of_cell? w _ hx388_0)).trans hx388_0
        replace p388 := eq_true p388
        replace q388 := eq_true q388
        have hcz19_0 : wr.cell? ⟨gb387, 0, none⟩ = some (.int .i64 a0_0) := (bc_ BK387.out 0).trans rfl
        have hcz19_1 : wr.cell? ⟨gb387, 1, none⟩ = some (.int .i64 a0_1) := (bc_ BK387.out 1).trans rfl
        have hcz19_2 : wr.cell? ⟨gb387, 2, none⟩ = some (.int .i64 a0_2) := (bc_ BK387.out 2).trans rfl
        have hcz19_3 : wr.cell? ⟨gb387, 3, none⟩ = some (.int .i64 a0_3) := (bc_ BK387.out 3).trans rfl
        have hcz19_4 : wr.cell? ⟨gb387, 4, none⟩ = some (.int .i64 a0_4) := (bc_ BK387.out 4).trans rfl
        have hcz19_5 : wr.cell? ⟨gb387, 5, none⟩ = some (.int .i64 a0_5) := (bc_ BK387.out 5).trans rfl
        have hcz19_6 : wr.cell? ⟨gb387, 6, none⟩ = some (.int .i64 a0_6) := (bc_ BK387.out 6).trans rfl
        have hfz19_0 := bf_ BK387.out 0
        have hfz19_1 := bf_ BK387.out 1
        have hfz19_2 := bf_ BK387.out 2
        have hfz19_3 := bf_ BK387.out 3
        have hfz19_4 := bf_ BK387.out 4
        have hfz19_5 := bf_ BK387.out 5
        have hfz19_6 := bf_ BK387.out 6
        go_wp2
        go_roundg k1
        case measure => have := HK1.out; omega
        case rel => exact ⟨(x1_1), (wrap64 (x12_1 + 1)), (by first | rfl | (simp; done) | (simp [*]; done)), H', ⟨by have := HK1.out; omega⟩, ⟨by (with_reducible repeat (first | apply Kd.V_alloc | apply Kd.V_drewN | apply Kd.V_drew)); exact HO_1.out⟩, ⟨by (with_reducible repeat (first | apply blk_drewN | apply blk_drew | apply blk_alloc)); exact BK387.out⟩, ⟨by repeat (first | (with_reducible first | exact HB.out | apply below_alloc | apply pw_below_drewN | apply below_drew1 | refine below_set ?_ GE387.out) | exact HB.out)⟩⟩
      ·rw [if_neg c8] at H
       have c8b0 : (x12_1 == a0_3) = false := beq_eq_false_iff_ne.mpr c8
       have c8b1 : (x12_1 != a0_3) = true := bne_iff_ne.mpr c8
       by_cases c20 : x12_1 ≤ a0_3
       ·rw [if_pos c20] at H
        have c20b0 : decide (x12_1 ≤ a0_3) = true := dt_ c20
        clear c20
        by_cases c21 : (wrap64 (rd l2 x12_1)) < (wrap64 ((wrap64 (8 * a0_4)) + 14))
        ·rw [if_pos c21] at H
         have c21b0 : decide ((wrap64 (rd l2 x12_1)) < (wrap64 ((wrap64 (8 * a0_4)) + 14))) = true := dt_ c21
         clear c21
         obtain ⟨y395, hy395⟩ : ∃ y_ : List Int, y_ = (([wrap64 ((wrap64 ((wrap64 (8 * x12_1)) * (wrap64 (a0_4 + 2)))) + (wrap64 (rd l2 x12_1)))] : List Int)) := ⟨_, rfl⟩
         replace H : ((bits_Flip.f k1 x1_1 y395).bind fun t398 => (l08_turn.l0 k1 t398 l2 (l2.length : Int) (wrap64 (x12_1 + 1)) a0_0 a0_1 a0_2 a0_3 a0_4 a0_5 a0_6)) = some r := by first | (rw [hy395]; with_reducible exact H) | (have H2_ := (Option.bind_some _ _).symm.trans H; rw [hy395]; with_reducible exact H2_) | (have H2_ := (Option.bind_some _ _).symm.trans H; with_reducible exact H2_) | with_reducible exact H | (rw [hy395]; exact H) | exact H
         have Ny395 := ak_ hy395
         clear hy395
         replace H := Option.bind_eq_some_iff.mp H
         obtain ⟨t398, A220, H⟩ := H
         replace H : (l08_turn.l0 k1 t398 l2 (l2.length : Int) (wrap64 (x12_1 + 1)) a0_0 a0_1 a0_2 a0_3 a0_4 a0_5 a0_6) = some r := H
         have A22 := ak_ A220
         clear A220
         have H' := ak_ H
         clear H
         have p388 : 0 ≤ (x12_1 : Int) := of_decide_eq_true (by first | (with_reducible assumption) | assumption)
         have q388 : x12_1 < (l2.length : Int) := of_decide_eq_true (by first | (with_reducible assumption) | assumption)
         obtain ⟨ad388, e388, hx388_0⟩ := Kd.at_int HR2.out x12_1 p388 q388
         cases e388
         replace hx388_0 := (HB.out.cell (World.block_lt_of_cell? w _ hx388_0)).trans hx388_0
         replace p388 := eq_true p388
         replace q388 := eq_true q388
         have hcz23_0 : wr.cell? ⟨gb387, 0, none⟩ = some (.int .i64 a0_0) := (bc_ BK387.out 0).trans rfl
         have hcz23_1 : wr.cell? ⟨gb387, 1, none⟩ = some (.int .i64 a0_1) := (bc_ BK387.out 1).trans rfl
         have hcz23_2 : wr.cell? ⟨gb387, 2, none⟩ = some (.int .i64 a0_2) := (bc_ BK387.out 2).trans rfl
         have hcz23_3 : wr.cell? ⟨gb387, 3, none⟩ = some (.int .i64 a0_3) := (bc_ BK387.out 3).trans rfl
         have hcz23_4 : wr.cell? ⟨gb387, 4, none⟩ = some (.int .i64 a0_4) := (bc_ BK387.out 4).trans rfl
         have hcz23_5 : wr.cell? ⟨gb387, 5, none⟩ = some (.int .i64 a0_5) := (bc_ BK387.out 5).trans rfl
         have hcz23_6 : wr.cell? ⟨gb387, 6, none⟩ = some (.int .i64 a0_6) := (bc_ BK387.out 6).trans rfl
         have hfz23_0 := bf_ BK387.out 0
         have hfz23_1 := bf_ BK387.out 1
         have hfz23_2 := bf_ BK387.out 2
         have hfz23_3 := bf_ BK387.out 3
         have hfz23_4 := bf_ BK387.out 4
         have hfz23_5 := bf_ BK387.out 5
         have hfz23_6 := bf_ BK387.out 6
         go_wp2_with (first | ((with_reducible refine gate_dst (N := 45) rfl ?_); refine Kd.R_lit (Kd.int .i64) _ 3 ?hg (N := 45) ?hd (xs := ([wrap64 ((wrap64 ((wrap64 (8 * x12_1)) * (wrap64 (a0_4 + 2)))) + (wrap64 (rd l2 x12_1)))] : List Int)) (inner := [.int .i64 (wrap64 ((wrap64 ((wrap64 (8 * x12_1)) * (wrap64 (a0_4 + 2)))) + (wrap64 (rd l2 x12_1))))]) (ok := fun _ => True) (okp := fun _ => True) ?hr ?hp (fun _ hk => hk) trivial (Below.refl _ _) (Nat.le_refl _) (by simp) ?_; (case hd => rfl); (case hg => rfl); (case hr => first | (go_simp; done) | (go_simp; rfl)); (case hp => exact (Reps.one (show Kd.M (Kd.int .i64) _ _ _ (wrap64 ((wrap64 ((wrap64 (8 * x12_1)) * (wrap64 (a0_4 + 2)))) + (wrap64 (rd l2 x12_1)))) [.int .i64 (wrap64 ((wrap64 ((wrap64 (8 * x12_1)) * (wrap64 (a0_4 + 2)))) + (wrap64 (rd l2 x12_1))))] from rfl) (Reps.none _ _))); intro v396 w24 ho25 hb hg_ hnew_; clear hg_ hnew_; (first | rw [← Ny395.out] at ho25 | (simp only [Int.reduceToNat] at ho25; rw [← Ny395.out] at ho25)); have n0_ := ak_ (Kd.V_elder' (by (with_reducible repeat (first | apply Kd.V_alloc | apply Kd.V_drewN | apply Kd.V_drew)); exact HO_1.out) (Kd.R_base ho25) hb); have n1_ := ak_ (Kd.R_lower (Kd.R_newM (M := fun k_ => (w.heap.size ≤ k_)) ho25 (below_size (by repeat (first | (with_reducible first | exact HB.out | apply below_alloc | apply pw_below_drewN | apply below_drew1 | refine below_set ?_ GE387.out) | exact HB.out))) (fun k_ h_ => h_)) (below_size (by repeat (first | (with_reducible first | exact HB.out | apply below_alloc | apply pw_below_drewN | apply below_drew1 | refine below_set ?_ GE387.out) | exact HB.out)))); have n2_ := ak_ (blk_below (g := gb387) (o := .cells #[.int .i64 a0_0, .int .i64 a0_1, .int .i64 a0_2, .int .i64 a0_3, .int .i64 a0_4, .int .i64 a0_5, .int .i64 a0_6] 23 (0, 0)) (by (with_reducible repeat (first | apply blk_drewN | apply blk_drew | apply blk_alloc)); exact BK387.out) hb); have n3_ := ak_ (below_step (by repeat (first | (with_reducible first | exact HB.out | apply below_alloc | apply pw_below_drewN | apply below_drew1 | refine below_set ?_ GE387.out) | exact HB.out)) hb); clear HO_1; clear BK387; clear HB; have HO_1 := n0_; have HO397 := n1_; have BK387 := n2_; have HB := n3_; clear n0_ n1_ n2_ n3_; clear hb ho25; obtain ⟨Ao26, co26, eo26⟩ := Kd.V_slice HO_1.out; subst eo26; obtain ⟨Ao27, co27, eo27⟩ := Kd.R_slice HO397.out; subst eo27) | ((with_reducible refine gate_callee (f := 34) rfl ?_); refine goesL_ (some 46) rfl rfl Try.func34 (by kernel_rfl) rfl #[.slice Ao26 x1_1.length co26, .slice Ao27 y395.length co27] rfl (by (try simp only [List.map_toArray, List.map_cons, List.map_nil]); first | done | rfl | (simp only [List.length_drop, List.length_take]; rfl)) ?_; (with_reducible refine (bits_Flip.calls k1 _ _ x1_1 _ _ y395 t398 _ ?side1 ?side2 ?side3 ?side4 A22.out).mono ?_); (case side1 => repeat (first | exact (Kd.V_reads' HO_1.out).2.2 | (with_reducible refine Kd.C_alloc ?_ _) | (with_reducible refine Kd.C_drewN ?_ _) | (with_reducible refine Kd.C_drew ?_))); (case side2 => exact (Kd.V_reads' HO_1.out).2.1); (case side3 => repeat (first | exact (Kd.R_reads' HO397.out).2.2 | (with_reducible refine Kd.C_alloc ?_ _) | (with_reducible refine Kd.C_drewN ?_ _) | (with_reducible refine Kd.C_drew ?_))); (case side4 => exact (Kd.R_reads' HO397.out).2.1); rintro e w28 ⟨v399, rfl, ho0, hb⟩; refine ⟨_, rfl, ?_⟩; have n0_ := ak_ (Kd.V_elder' (by (with_reducible repeat (first | apply Kd.V_alloc | apply Kd.V_drewN | apply Kd.V_drew)); exact HO_1.out) (Kd.R_base ho0) hb); have n1_ := ak_ (Kd.R_below (by (with_reducible repeat (first | apply Kd.R_alloc | apply Kd.R_drewN | apply Kd.R_drew)); exact HO397.out) hb); have n2_ := ak_ (Kd.R_lower (Kd.R_newM (M := fun k_ => (w.heap.size ≤ k_)) ho0 (below_size (by repeat (first | (with_reducible first | exact HB.out | apply below_alloc | apply pw_below_drewN | apply below_drew1 | refine below_set ?_ GE387.out) | exact HB.out))) (fun k_ h_ => h_)) (below_size (by repeat (first | (with_reducible first | exact HB.out | apply below_alloc | apply pw_below_drewN | apply below_drew1 | refine below_set ?_ GE387.out) | exact HB.out)))); have n3_ := ak_ (blk_below (g := gb387) (o := .cells #[.int .i64 a0_0, .int .i64 a0_1, .int .i64 a0_2, .int .i64 a0_3, .int .i64 a0_4, .int .i64 a0_5, .int .i64 a0_6] 23 (0, 0)) (by (with_reducible repeat (first | apply blk_drewN | apply blk_drew | apply blk_alloc)); exact BK387.out) hb); have n4_ := ak_ (below_step (by repeat (first | (with_reducible first | exact HB.out | apply below_alloc | apply pw_below_drewN | apply below_drew1 | refine below_set ?_ GE387.out) | exact HB.out)) hb); clear HO_1; clear HO397; clear BK387; clear HB; have HO_1 := n0_; have HO397 := n1_; have HO400 := n2_; have BK387 := n3_; have HB := n4_; clear n0_ n1_ n2_ n3_ n4_; (try clear hb); (try clear hb2); (try clear hk); (try clear hi); (try clear ho0)))
         go_roundg k1
         case measure => have := HK1.out; omega
         case rel => exact ⟨(t398), (wrap64 (x12_1 + 1)), (by first | rfl | (simp; done) | (simp [*]; done)), H', ⟨by have := HK1.out; omega⟩, ⟨Kd.V_mono (Kd.R_V (by (with_reducible repeat (first | apply Kd.R_alloc | apply Kd.R_drewN | apply Kd.R_drew)); exact Kd.R_mono (Kd.R_types HO400.out BK387.out (by decide)) (fun _ hk => And.intro hk.1.1 (hk.2)))) (fun k_ hk => by first | exact ⟨(.inr (hk.1)), hk.2⟩ | exact (.inr (hk)))⟩, ⟨by (with_reducible repeat (first | apply blk_drewN | apply blk_drew | apply blk_alloc)); exact BK387.out⟩, ⟨by repeat (first | (with_reducible first | exact HB.out | apply below_alloc | apply pw_below_drewN | apply below_drew1 | refine below_set ?_ GE387.out) | exact HB.out)⟩⟩
        ·rw [if_neg c21] at H
         have c21b0 : decide ((wrap64 (rd l2 x12_1)) < (wrap64 ((wrap64 (8 * a0_4)) + 14))) = false := df_ c21
         clear c21
         have H' := ak_ H
         clear H
         have p388 : 0 ≤ (x12_1 : Int) := of_decide_eq_true (by first | (with_reducible assumption) | assumption)
         have q388 : x12_1 < (l2.length : Int) := of_decide_eq_true (by first | (with_reducible assumption) | assumption)
         obtain ⟨ad388, e388, hx388_0⟩ := Kd.at_int HR2.out x12_1 p388 q388
         cases e388
         replace hx388_0 := (HB.out.cell (World.block_lt_of_cell? w _ hx388_0)).trans hx388_0
         replace p388 := eq_true p388
         replace q388 := eq_true q388
         have hcz29_0 : wr.cell? ⟨gb387, 0, none⟩ = some (.int .i64 a0_0) := (bc_ BK387.out 0).trans rfl
         have hcz29_1 : wr.cell? ⟨gb387, 1, none⟩ = some (.int .i64 a0_1) := (bc_ BK387.out 1).trans rfl
         have hcz29_2 : wr.cell? ⟨gb387, 2, none⟩ = some (.int .i64 a0_2) := (bc_ BK387.out 2).trans rfl
         have hcz29_3 : wr.cell? ⟨gb387, 3, none⟩ = some (.int .i64 a0_3) := (bc_ BK387.out 3).trans rfl
         have hcz29_4 : wr.cell? ⟨gb387, 4, none⟩ = some (.int .i64 a0_4) := (bc_ BK387.out 4).trans rfl
         have hcz29_5 : wr.cell? ⟨gb387, 5, none⟩ = some (.int .i64 a0_5) := (bc_ BK387.out 5).trans rfl
         have hcz29_6 : wr.cell? ⟨gb387, 6, none⟩ = some (.int .i64 a0_6) := (bc_ BK387.out 6).trans rfl
         have hfz29_0 := bf_ BK387.out 0
         have hfz29_1 := bf_ BK387.out 1
         have hfz29_2 := bf_ BK387.out 2
         have hfz29_3 := bf_ BK387.out 3
         have hfz29_4 := bf_ BK387.out 4
         have hfz29_5 := bf_ BK387.out 5
         have hfz29_6 := bf_ BK387.out 6
         go_wp2
         go_roundg k1
         case measure => have := HK1.out; omega
         case rel => exact ⟨(x1_1), (wrap64 (x12_1 + 1)), (by first | rfl | (simp; done) | (simp [*]; done)), H', ⟨by have := HK1.out; omega⟩, ⟨by (with_reducible repeat (first | apply Kd.V_alloc | apply Kd.V_drewN | apply Kd.V_drew)); exact HO_1.out⟩, ⟨by (with_reducible repeat (first | apply blk_drewN | apply blk_drew | apply blk_alloc)); exact BK387.out⟩, ⟨by repeat (first | (with_reducible first | exact HB.out | apply below_alloc | apply pw_below_drewN | apply below_drew1 | refine below_set ?_ GE387.out) | exact HB.out)⟩⟩
       ·rw [if_neg c20] at H
        have c20b0 : decide (x12_1 ≤ a0_3) = false := df_ c20
        clear c20
        have H' := ak_ H
        clear H
        have p388 : 0 ≤ (x12_1 : Int) := of_decide_eq_true (by first | (with_reducible assumption) | assumption)
        have q388 : x12_1 < (l2.length : Int) := of_decide_eq_true (by first | (with_reducible assumption) | assumption)
        obtain ⟨ad388, e388, hx388_0⟩ := Kd.at_int HR2.out x12_1 p388 q388
        cases e388
        replace hx388_0 := (HB.out.cell (World.block_lt_of_cell? w _ hx388_0)).trans hx388_0
        replace p388 := eq_true p388
        replace q388 := eq_true q388
        have hcz30_0 : wr.cell? ⟨gb387, 0, none⟩ = some (.int .i64 a0_0) := (bc_ BK387.out 0).trans rfl
        have hcz30_1 : wr.cell? ⟨gb387, 1, none⟩ = some (.int .i64 a0_1) := (bc_ BK387.out 1).trans rfl
        have hcz30_2 : wr.cell? ⟨gb387, 2, none⟩ = some (.int .i64 a0_2) := (bc_ BK387.out 2).trans rfl
        have hcz30_3 : wr.cell? ⟨gb387, 3, none⟩ = some (.int .i64 a0_3) := (bc_ BK387.out 3).trans rfl
        have hcz30_4 : wr.cell? ⟨gb387, 4, none⟩ = some (.int .i64 a0_4) := (bc_ BK387.out 4).trans rfl
        have hcz30_5 : wr.cell? ⟨gb387, 5, none⟩ = some (.int .i64 a0_5) := (bc_ BK387.out 5).trans rfl
        have hcz30_6 : wr.cell? ⟨gb387, 6, none⟩ = some (.int .i64 a0_6) := (bc_ BK387.out 6).trans rfl
        have hfz30_0 := bf_ BK387.out 0
        have hfz30_1 := bf_ BK387.out 1
        have hfz30_2 := bf_ BK387.out 2
        have hfz30_3 := bf_ BK387.out 3
        have hfz30_4 := bf_ BK387.out 4
        have hfz30_5 := bf_ BK387.out 5
        have hfz30_6 := bf_ BK387.out 6
        go_wp2
        go_roundg k1
        case measure => have := HK1.out; omega
        case rel => exact ⟨(x1_1), (wrap64 (x12_1 + 1)), (by first | rfl | (simp; done) | (simp [*]; done)), H', ⟨by have := HK1.out; omega⟩, ⟨by (with_reducible repeat (first | apply Kd.V_alloc | apply Kd.V_drewN | apply Kd.V_drew)); exact HO_1.out⟩, ⟨by (with_reducible repeat (first | apply blk_drewN | apply blk_drew | apply blk_alloc)); exact BK387.out⟩, ⟨by repeat (first | (with_reducible first | exact HB.out | apply below_alloc | apply pw_below_drewN | apply below_drew1 | refine below_set ?_ GE387.out) | exact HB.out)⟩⟩
     ·rw [if_neg c7] at H
      exact absurd H (by simp)
    ·rw [if_neg c6] at H
     exact absurd H (by simp)
   ·rw [if_neg c5] at H
    have c5b0 : decide (x12_1 < (l2.length : Int)) = false := df_ c5
    clear c5
    obtain rfl := si_ H
    go_wp2
    go_ret
    exact ⟨_, by first | rfl | (simp [errW_none, errW_some] <;> rfl) | (simp [*, errW_none, errW_some] <;> rfl), by (with_reducible repeat (first | apply Kd.V_alloc | apply Kd.V_drewN | apply Kd.V_drew)); exact Kd.V_mono HO_1.out (fun _ hk => hk.1), by repeat (first | (with_reducible first | exact HB.out | apply below_alloc | apply pw_below_drewN | apply below_drew1 | refine below_set ?_ GE387.out) | exact HB.out)⟩
end Go.Proofs.Ytmehbabchakkpaa.QPageBack
