import Derived.Test.YtmehbabchakkpaaMPageEmptyx8
namespace Go.Proofs.Ytmehbabchakkpaa.QPageEmpty
open Go.RowKit YtmehbabchakkpaaW.PrintWords YtmehbabchakkpaaW.PrintLast YtmehbabchakkpaaW.PrintMore Short
attribute [local go_sem] max2_int min2_int max_two min_two max_three min_three max_four min_four
set_option linter.unusedVariables false
set_option maxHeartbeats 8000000
set_option maxRecDepth 100000
set_option linter.unusedSimpArgs false
def page_Marked.f (k : Nat) (a0_0 : Int) (a0_1 : Int) (a0_2 : Int) (a0_3 : Int) (a0_4 : Int) (a0_5 : Int) (a0_6 : Int) (l1 : List Int) : Option (Bool) := (page_of.f a0_0 a0_1 a0_2 a0_3 a0_4 a0_5 a0_6).bind fun bt378 => (if bt378.2.2.2.2.2.2.2.2 = true then ((page_shape_size.f bt378.1 bt378.2.1 bt378.2.2.1 bt378.2.2.2.1 bt378.2.2.2.2.1 bt378.2.2.2.2.2.1 bt378.2.2.2.2.2.2.1 bt378.2.2.2.2.2.2.2.1).bind fun t388 => (if (l1.length : Int) = t388 then (if 0 ≤ (wrap64 ((l1.length : Int) - 1)) then (if (wrap64 ((l1.length : Int) - 1)) ≤ (l1.length : Int) then ((bits_Count.f k (l1.drop ((wrap64 ((l1.length : Int) - 1)) : Int).toNat)).bind fun t390 => (some (decide (t390 < 4)))) else (none)) else (none)) else (some false))) else (some false))
theorem page_Marked.mono : ∀ a0 a1 a2 a3 a4 a5 a6 a7 k, LeO (page_Marked.f k a0 a1 a2 a3 a4 a5 a6 a7) (page_Marked.f (k + 1) a0 a1 a2 a3 a4 a5 a6 a7) := by
 intro a0 a1 a2 a3 a4 a5 a6 a7 k
 unfold page_Marked.f
 repeat' with_reducible first
  | exact bits_Count.mono _ _
  | exact LeO.refl _
  | exact LeO.none _
  | refine LeO.ite ?_ ?_
  | refine LeO.bind ?_ (fun _ => ?_)
theorem page_Marked.calls (k : Nat) (a0_0 : Int) (a0_1 : Int) (a0_2 : Int) (a0_3 : Int) (a0_4 : Int) (a0_5 : Int) (a0_6 : Int) (A1 : Option Addr) (c1 : Nat) (l1 : List Int) (r : Bool) (w : World) (hr1 : Kd.C (Kd.int .u8) w A1 l1.length l1) (hc1 : l1.length ≤ c1) (h : page_Marked.f k a0_0 a0_1 a0_2 a0_3 a0_4 a0_5 a0_6 l1 = some r) :
  Calls Try.prog 31 #[.agg #[.int .i64 a0_0, .int .i64 a0_1, .int .i64 a0_2, .int .i64 a0_3, .int .i64 a0_4, .int .i64 a0_5, .int .i64 a0_6], .slice A1 l1.length c1] w fun e w' => e = .returned (.bool r) ∧ Below w.heap.size w w' := by
 have hu23 := Try.underlying23
 have hu70 := Try.underlying70
 have HR1 := ak_ hr1
 have HC1 := ak_ hc1
 clear hr1 hc1
 have HB := br_ w
 unfold page_Marked.f at h
 have H := h
 clear h
 obtain ⟨⟨t560, t561, t562, t563, t564, t565, t566, t567, t568⟩, A3, H⟩ := bs_ H
 try dsimp only at H
 by_cases c4 : t568 = true
 ·subst c4
  rw [if_pos rfl] at H
  obtain ⟨t570, A5, H⟩ := bs_ H
  by_cases c6 : (l1.length : Int) = t570
  ·rw [if_pos c6] at H
   have c6b0 := beq_iff_eq.mpr c6
   have c6b1 := bne_eq_false_iff_eq.mpr c6
   clear c6
   obtain ⟨ji7, hji7⟩ : ∃ j_ : Int, (wrap64 ((l1.length : Int) - 1)) = j_ := ⟨_, rfl⟩
   replace H : (if 0 ≤ (ji7) then (if (ji7) ≤ (l1.length : Int) then ((bits_Count.f k (l1.drop ((ji7) : Int).toNat)).bind fun t572 => (some (decide (t572 < 4)))) else (none)) else (none)) = some r := (by rw [hji7] at H; exact H)
   (try rw [hji7] at A3)
   (try rw [hji7] at A5)
   have hji7w : (IntKind.i64.wrap ((l1.length : Int) - 1)) = ji7 := (i64_w _).trans hji7
   by_cases c8 : 0 ≤ (ji7)
   ·rw [if_pos c8] at H
    have c8b0 := eq_true c8
    have c8b1 := dt_ c8
    clear c8
    by_cases c9 : (ji7) ≤ (l1.length : Int)
    ·rw [if_pos c9] at H
     have c9b0 := eq_true c9
     have c9b1 := dt_ c9
     clear c9
     obtain ⟨t572, A10, H⟩ := bs_ H
     obtain rfl := si_ H
     go_enter Try.func31, Try.ntmps31
     go_wp2_with (first | ((with_reducible refine gate_dst (N := 2) rfl ?_); (try (refine gate_guard (by rfl) ?_; dsimp only)); refine box_event ?hg (N := 2) ?hd (cs := #[.int .i64 a0_0, .int .i64 a0_1, .int .i64 a0_2, .int .i64 a0_3, .int .i64 a0_4, .int .i64 a0_5, .int .i64 a0_6]) (t := 23) ?hr ?_; (case hd => rfl); (case hg => rfl); (case hr => (go_simp; done)); intro gb559 hg w11 hbox hb; have BK559 := ak_ (hbox); have GW559 := ak_ (gw_ hg (below_size HB.out)); have GE559 := ak_ (gw_ hg (below_size HB.out)); replace HB := ak_ (below_step HB.out hb); clear hb hbox hg; obtain ⟨hcz12_0, hcz12_1, hcz12_2, hcz12_3, hcz12_4, hcz12_5, hcz12_6⟩ := cells7 BK559.out; obtain ⟨hfz12_0, hfz12_1, hfz12_2, hfz12_3, hfz12_4, hfz12_5, hfz12_6⟩ := froz7 BK559.out) | ((with_reducible refine gate_callee (f := 37) rfl ?_); refine goesL_ (some 9) rfl rfl Try.func37 (by kernel_rfl) rfl #[.agg #[.int .i64 a0_0, .int .i64 a0_1, .int .i64 a0_2, .int .i64 a0_3, .int .i64 a0_4, .int .i64 a0_5, .int .i64 a0_6]] rfl (by (try simp only [List.map_toArray, List.map_cons, List.map_nil]); first | done | rfl | (simp only [List.length_drop, List.length_take]; rfl)) ?_; (with_reducible refine (page_of.calls a0_0 a0_1 a0_2 a0_3 a0_4 a0_5 a0_6 t560 t561 t562 t563 t564 t565 t566 t567 true _ A3.out).mono ?_); rintro e w13 ⟨rfl, hb⟩; refine ⟨_, rfl, ?_⟩; replace BK559 := ak_ (blk_below BK559.out hb); replace HB := ak_ (below_step HB.out hb); (try clear hb)) | ((with_reducible refine gate_dst (N := 5) rfl ?_); (try (refine gate_guard (by rfl) ?_; dsimp only)); refine box_event ?hg (N := 5) ?hd (cs := #[.int .i64 0, .int .i64 0, .int .i64 0, .int .i64 0, .int .i64 0, .int .i64 0, .int .i64 0, .int .i64 0]) (t := 70) ?hr ?_; (case hd => rfl); (case hg => rfl); (case hr => (go_simp; done)); intro gb569 hg w14 hbox hb; have BK569 := ak_ (hbox); have GW569 := ak_ (gw_ hg (below_size HB.out)); have GE569 := ak_ (gw_ hg (below_size HB.out)); replace HB := ak_ (below_step HB.out hb); have NB559_569 := ak_ ((by rw [hg]; exact Nat.ne_of_lt (blk_lt BK559.out) : gb559 ≠ gb569)); have NB569_559 := ak_ ((by rw [hg]; exact Nat.ne_of_gt (blk_lt BK559.out) : gb569 ≠ gb559)); replace BK559 := ak_ (blk_below BK559.out hb); clear hb hbox hg; have hnb15 := NB569_559.out; have hnc15 := NB559_569.out; obtain ⟨hcz16_0, hcz16_1, hcz16_2, hcz16_3, hcz16_4, hcz16_5, hcz16_6, hcz16_7⟩ := cells8 BK569.out; obtain ⟨hfz16_0, hfz16_1, hfz16_2, hfz16_3, hfz16_4, hfz16_5, hfz16_6, hfz16_7⟩ := froz8 BK569.out) | (go_at_call 56; (with_reducible refine (page_shape_size.calls t560 t561 t562 t563 t564 t565 t566 t567 t570 _ A5.out).mono ?_); rintro e w17 ⟨rfl, hb⟩; replace BK559 := ak_ (blk_below (far8 BK559.out NB559_569.out) hb); replace BK569 := ak_ (blk_below (put8 BK569.out) hb); replace HB := ak_ (below_step (by repeat (first | (with_reducible first | exact HB.out | apply below_alloc | apply pw_below_drewN | apply below_drew1 | refine below_set ?_ GE559.out | refine below_set ?_ GE569.out) | exact HB.out)) hb); (try clear hb); obtain ⟨i018, hi018, _, hsz18, _⟩ := info_parts info5; obtain ⟨A18, hcut18, hA18, hC18⟩ := print_drop_of (P := Try.prog) (Value.int .u8) 0 24 5 .i64 Try.underlying24 hi018 hsz18 A1 c1 l1 (ji7) (od_ ‹_›) (od_ ‹_›) HC1.out; have HR571 := ak_ (Kd.C_of_reads (h1 := fun _ => rfl) (hA18 _ (Kd.reads_of_C HR1.out))); have HC571 := ak_ hC18; clear hA18 hC18 hi018 hsz18) | (go_at_call 36; (try rw [show l1.length - (ji7 : Int).toNat = (l1.drop ((ji7) : Int).toNat).length from List.length_drop.symm]); (with_reducible refine (bits_Count.calls k _ _ (l1.drop ((ji7) : Int).toNat) t572 _ ?side1 ?side2 A10.out).mono ?_); (case side1 => exact (Kd.C_below HR571.out HB.out)); (case side2 => exact HC571.out); rintro e w' ⟨rfl, ⟨nd, rfl⟩⟩))
     go_ret
     exact ⟨by rfl, by repeat (first | (with_reducible first | exact HB.out | apply below_alloc | apply pw_below_drewN | apply below_drew1 | refine below_set ?_ GE559.out | refine below_set ?_ GE569.out) | exact HB.out)⟩
    ·rw [if_neg c9] at H
     exact absurd H (by simp)
   ·rw [if_neg c8] at H
    exact absurd H (by simp)
  ·rw [if_neg c6] at H
   have c6b0 := beq_eq_false_iff_ne.mpr c6
   have c6b1 := bne_iff_ne.mpr c6
   obtain rfl := si_ H
   go_enter Try.func31, Try.ntmps31
   go_wp2_with (first | ((with_reducible refine gate_dst (N := 2) rfl ?_); (try (refine gate_guard (by rfl) ?_; dsimp only)); refine box_event ?hg (N := 2) ?hd (cs := #[.int .i64 a0_0, .int .i64 a0_1, .int .i64 a0_2, .int .i64 a0_3, .int .i64 a0_4, .int .i64 a0_5, .int .i64 a0_6]) (t := 23) ?hr ?_; (case hd => rfl); (case hg => rfl); (case hr => (go_simp; done)); intro gb559 hg w19 hbox hb; have BK559 := ak_ (hbox); have GW559 := ak_ (gw_ hg (below_size HB.out)); have GE559 := ak_ (gw_ hg (below_size HB.out)); replace HB := ak_ (below_step HB.out hb); clear hb hbox hg; obtain ⟨hcz20_0, hcz20_1, hcz20_2, hcz20_3, hcz20_4, hcz20_5, hcz20_6⟩ := cells7 BK559.out; obtain ⟨hfz20_0, hfz20_1, hfz20_2, hfz20_3, hfz20_4, hfz20_5, hfz20_6⟩ := froz7 BK559.out) | ((with_reducible refine gate_callee (f := 37) rfl ?_); refine goesL_ (some 9) rfl rfl Try.func37 (by kernel_rfl) rfl #[.agg #[.int .i64 a0_0, .int .i64 a0_1, .int .i64 a0_2, .int .i64 a0_3, .int .i64 a0_4, .int .i64 a0_5, .int .i64 a0_6]] rfl (by (try simp only [List.map_toArray, List.map_cons, List.map_nil]); first | done | rfl | (simp only [List.length_drop, List.length_take]; rfl)) ?_; (with_reducible refine (page_of.calls a0_0 a0_1 a0_2 a0_3 a0_4 a0_5 a0_6 t560 t561 t562 t563 t564 t565 t566 t567 true _ A3.out).mono ?_); rintro e w21 ⟨rfl, hb⟩; refine ⟨_, rfl, ?_⟩; replace BK559 := ak_ (blk_below BK559.out hb); replace HB := ak_ (below_step HB.out hb); (try clear hb)) | ((with_reducible refine gate_dst (N := 5) rfl ?_); (try (refine gate_guard (by rfl) ?_; dsimp only)); refine box_event ?hg (N := 5) ?hd (cs := #[.int .i64 0, .int .i64 0, .int .i64 0, .int .i64 0, .int .i64 0, .int .i64 0, .int .i64 0, .int .i64 0]) (t := 70) ?hr ?_; (case hd => rfl); (case hg => rfl); (case hr => (go_simp; done)); intro gb569 hg w22 hbox hb; have BK569 := ak_ (hbox); have GW569 := ak_ (gw_ hg (below_size HB.out)); have GE569 := ak_ (gw_ hg (below_size HB.out)); replace HB := ak_ (below_step HB.out hb); have NB559_569 := ak_ ((by rw [hg]; exact Nat.ne_of_lt (blk_lt BK559.out) : gb559 ≠ gb569)); have NB569_559 := ak_ ((by rw [hg]; exact Nat.ne_of_gt (blk_lt BK559.out) : gb569 ≠ gb559)); replace BK559 := ak_ (blk_below BK559.out hb); clear hb hbox hg; have hnb23 := NB569_559.out; have hnc23 := NB559_569.out; obtain ⟨hcz24_0, hcz24_1, hcz24_2, hcz24_3, hcz24_4, hcz24_5, hcz24_6, hcz24_7⟩ := cells8 BK569.out; obtain ⟨hfz24_0, hfz24_1, hfz24_2, hfz24_3, hfz24_4, hfz24_5, hfz24_6, hfz24_7⟩ := froz8 BK569.out) | (go_at_call 56; (with_reducible refine (page_shape_size.calls t560 t561 t562 t563 t564 t565 t566 t567 t570 _ A5.out).mono ?_); rintro e w25 ⟨rfl, hb⟩; replace BK559 := ak_ (blk_below (far8 BK559.out NB559_569.out) hb); replace BK569 := ak_ (blk_below (put8 BK569.out) hb); replace HB := ak_ (below_step (by repeat (first | (with_reducible first | exact HB.out | apply below_alloc | apply pw_below_drewN | apply below_drew1 | refine below_set ?_ GE559.out | refine below_set ?_ GE569.out) | exact HB.out)) hb); (try clear hb)))
   go_ret
   exact ⟨by rfl, HB.out⟩
 ·replace c4 := Bool.eq_false_iff.mpr c4
  subst c4
  rw [if_neg (show ¬ (false = true) by decide)] at H
  obtain rfl := si_ H
  go_enter Try.func31, Try.ntmps31
  go_wp2_with (first | ((with_reducible refine gate_dst (N := 2) rfl ?_); (try (refine gate_guard (by rfl) ?_; dsimp only)); refine box_event ?hg (N := 2) ?hd (cs := #[.int .i64 a0_0, .int .i64 a0_1, .int .i64 a0_2, .int .i64 a0_3, .int .i64 a0_4, .int .i64 a0_5, .int .i64 a0_6]) (t := 23) ?hr ?_; (case hd => rfl); (case hg => rfl); (case hr => (go_simp; done)); intro gb559 hg w26 hbox hb; have BK559 := ak_ (hbox); have GW559 := ak_ (gw_ hg (below_size HB.out)); have GE559 := ak_ (gw_ hg (below_size HB.out)); replace HB := ak_ (below_step HB.out hb); clear hb hbox hg; obtain ⟨hcz27_0, hcz27_1, hcz27_2, hcz27_3, hcz27_4, hcz27_5, hcz27_6⟩ := cells7 BK559.out; obtain ⟨hfz27_0, hfz27_1, hfz27_2, hfz27_3, hfz27_4, hfz27_5, hfz27_6⟩ := froz7 BK559.out) | ((with_reducible refine gate_callee (f := 37) rfl ?_); refine goesL_ (some 9) rfl rfl Try.func37 (by kernel_rfl) rfl #[.agg #[.int .i64 a0_0, .int .i64 a0_1, .int .i64 a0_2, .int .i64 a0_3, .int .i64 a0_4, .int .i64 a0_5, .int .i64 a0_6]] rfl (by (try simp only [List.map_toArray, List.map_cons, List.map_nil]); first | done | rfl | (simp only [List.length_drop, List.length_take]; rfl)) ?_; (with_reducible refine (page_of.calls a0_0 a0_1 a0_2 a0_3 a0_4 a0_5 a0_6 t560 t561 t562 t563 t564 t565 t566 t567 false _ A3.out).mono ?_); rintro e w28 ⟨rfl, hb⟩; refine ⟨_, rfl, ?_⟩; replace BK559 := ak_ (blk_below BK559.out hb); replace HB := ak_ (below_step HB.out hb); (try clear hb)) | ((with_reducible refine gate_dst (N := 5) rfl ?_); (try (refine gate_guard (by rfl) ?_; dsimp only)); refine box_event ?hg (N := 5) ?hd (cs := #[.int .i64 0, .int .i64 0, .int .i64 0, .int .i64 0, .int .i64 0, .int .i64 0, .int .i64 0, .int .i64 0]) (t := 70) ?hr ?_; (case hd => rfl); (case hg => rfl); (case hr => (go_simp; done)); intro gb569 hg w29 hbox hb; have BK569 := ak_ (hbox); have GW569 := ak_ (gw_ hg (below_size HB.out)); have GE569 := ak_ (gw_ hg (below_size HB.out)); replace HB := ak_ (below_step HB.out hb); have NB559_569 := ak_ ((by rw [hg]; exact Nat.ne_of_lt (blk_lt BK559.out) : gb559 ≠ gb569)); have NB569_559 := ak_ ((by rw [hg]; exact Nat.ne_of_gt (blk_lt BK559.out) : gb569 ≠ gb559)); replace BK559 := ak_ (blk_below BK559.out hb); clear hb hbox hg; have hnb30 := NB569_559.out; have hnc30 := NB559_569.out; obtain ⟨hcz31_0, hcz31_1, hcz31_2, hcz31_3, hcz31_4, hcz31_5, hcz31_6, hcz31_7⟩ := cells8 BK569.out; obtain ⟨hfz31_0, hfz31_1, hfz31_2, hfz31_3, hfz31_4, hfz31_5, hfz31_6, hfz31_7⟩ := froz8 BK569.out))
  go_ret
  exact ⟨by rfl, by repeat (first | (with_reducible first | exact HB.out | apply below_alloc | apply pw_below_drewN | apply below_drew1 | refine below_set ?_ GE559.out | refine below_set ?_ GE569.out) | exact HB.out)⟩
end Go.Proofs.Ytmehbabchakkpaa.QPageEmpty
