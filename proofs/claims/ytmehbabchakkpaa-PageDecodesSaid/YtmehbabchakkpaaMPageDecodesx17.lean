import Derived.Test.YtmehbabchakkpaaMPageDecodesx7
import Derived.Test.YtmehbabchakkpaaMPageDecodesx12
import Derived.Test.YtmehbabchakkpaaMPageDecodesx16
import Derived.Deep.Slices
import Derived.OpenShut
import Derived.SizedLaws
namespace Go.Proofs.Ytmehbabchakkpaa.QPageDecodes
open Go.RowKit Go.Proofs.YtmehbabchakkpaaW.PrintWords Go.Proofs.YtmehbabchakkpaaW.PrintLast Go.Proofs.YtmehbabchakkpaaW.PrintMore Go.Proofs.Ytmehbabchakkpaa.Short
attribute [local go_sem] max2_int min2_int max_two min_two max_three min_three max_four min_four
set_option linter.unusedVariables false
set_option maxHeartbeats 8000000
set_option maxRecDepth 100000
set_option linter.unusedSimpArgs false
def page_Marked.f (k : Nat) (a0_0 : Int) (a0_1 : Int) (a0_2 : Int) (a0_3 : Int) (a0_4 : Int) (a0_5 : Int) (a0_6 : Int) (l1 : List Int) : Option (Bool) := (page_of.f a0_0 a0_1 a0_2 a0_3 a0_4 a0_5 a0_6).bind fun bt560 => (if bt560.2.2.2.2.2.2.2.2 = true then ((page_shape_size.f bt560.1 bt560.2.1 bt560.2.2.1 bt560.2.2.2.1 bt560.2.2.2.2.1 bt560.2.2.2.2.2.1 bt560.2.2.2.2.2.2.1 bt560.2.2.2.2.2.2.2.1).bind fun t570 => (if (l1.length : Int) = t570 then (if 0 ≤ (wrap64 ((l1.length : Int) - 1)) then (if (wrap64 ((l1.length : Int) - 1)) ≤ (l1.length : Int) then ((bits_Count.f k (l1.drop ((wrap64 ((l1.length : Int) - 1)) : Int).toNat)).bind fun t572 => (some (decide (t572 < 4)))) else (none)) else (none)) else (some false))) else (some false))
theorem page_Marked.mono : ∀ a0 a1 a2 a3 a4 a5 a6 a7 k, LeO (page_Marked.f k a0 a1 a2 a3 a4 a5 a6 a7) (page_Marked.f (k + 1) a0 a1 a2 a3 a4 a5 a6 a7) := by
 intro a0 a1 a2 a3 a4 a5 a6 a7 k
 unfold page_Marked.f
 repeat' with_reducible first
  | exact bits_Count.mono _ _
  | exact LeO.refl _
  | exact LeO.none _
  | refine LeO.ite ?_ ?_
  | refine LeO.bind ?_ (fun _ => ?_)
theorem page_Marked.calls (k : Nat) (a0_0 : Int) (a0_1 : Int) (a0_2 : Int) (a0_3 : Int) (a0_4 : Int) (a0_5 : Int) (a0_6 : Int) (A1 : Option Addr) (c1 : Nat) (l1 : List Int) (r : Bool) (w : World) (hr1 : Kd.C (Kd.int .u8) w A1 l1.length l1) (hc1 : l1.length ≤ c1) (h : page_Marked.f k a0_0 a0_1 a0_2 a0_3 a0_4 a0_5 a0_6 l1 = some r) :
  Calls Try.prog 31 #[.agg #[.int .i64 a0_0, .int .i64 a0_1, .int .i64 a0_2, .int .i64 a0_3, .int .i64 a0_4, .int .i64 a0_5, .int .i64 a0_6], .slice A1 l1.length c1] w fun e w' => e = .returned (.bool r) ∧ Below w.heap.size w w' := by
 have hu23 := Try.underlying23
 have hu70 := Try.underlying70
 have HR1 := ak_ hr1
 have HC1 := ak_ hc1
 clear hr1 hc1
 have HB := ak_ (Below.refl w.heap.size w)
 unfold page_Marked.f at h
 have H := h
 clear h
 obtain ⟨⟨t560, t561, t562, t563, t564, t565, t566, t567, t568⟩, A3, H⟩ := bs_ H
 try dsimp only at H
 by_cases c4 : t568 = true
 ·subst c4
  rw [if_pos rfl] at H
  obtain ⟨t570, A5, H⟩ := bs_ H
  by_cases c6 : (l1.length : Int) = t570
  ·rw [if_pos c6] at H
   have c6b0 := beq_iff_eq.mpr c6
   have c6b1 := bne_eq_false_iff_eq.mpr c6
   clear c6
   obtain ⟨ji7, hji7⟩ : ∃ j_ : Int, (wrap64 ((l1.length : Int) - 1)) = j_ := ⟨_, rfl⟩
   replace H : (if 0 ≤ (ji7) then (if (ji7) ≤ (l1.length : Int) then ((bits_Count.f k (l1.drop ((ji7) : Int).toNat)).bind fun t572 => (some (decide (t572 < 4)))) else (none)) else (none)) = some r := (by rw [hji7] at H; exact H)
   (try rw [hji7] at A3)
   (try rw [hji7] at A5)
   have hji7w : (IntKind.i64.wrap ((l1.length : Int) - 1)) = ji7 := (i64_w _).trans hji7
   by_cases c8 : 0 ≤ (ji7)
   ·rw [if_pos c8] at H
    have c8b0 := eq_true c8
    have c8b1 := decide_eq_true c8
    clear c8
    by_cases c9 : (ji7) ≤ (l1.length : Int)
    ·rw [if_pos c9] at H
     have c9b0 := eq_true c9
     have c9b1 := decide_eq_true c9
     clear c9
     obtain ⟨t572, A10, H⟩ := bs_ H
     obtain rfl := Option.some.inj H
     go_enter Try.func31, Try.ntmps31
     go_wp2_with (first | ((with_reducible refine gate_dst (N := 2) rfl ?_); (try (refine gate_guard (by rfl) ?_; dsimp only)); refine box_event ?hg (N := 2) ?hd (cs := #[.int .i64 a0_0, .int .i64 a0_1, .int .i64 a0_2, .int .i64 a0_3, .int .i64 a0_4, .int .i64 a0_5, .int .i64 a0_6]) (t := 23) ?hr ?_; (case hd => rfl); (case hg => rfl); (case hr => (go_simp; done)); intro gb559 hg w11 hbox hb; have BK559 := ak_ (hbox); have GW559 := ak_ (gw_ hg (below_size HB.out)); have GE559 := ak_ (gw_ hg (below_size HB.out)); replace HB := ak_ (below_step HB.out hb); clear hb hbox hg; obtain ⟨hcz12_0, hcz12_1, hcz12_2, hcz12_3, hcz12_4, hcz12_5, hcz12_6⟩ := cells7 BK559.out; obtain ⟨hfz12_0, hfz12_1, hfz12_2, hfz12_3, hfz12_4, hfz12_5, hfz12_6⟩ := froz7 BK559.out) | ((with_reducible refine gate_callee (f := 37) rfl ?_); refine goesL_ (some 9) rfl rfl Try.func37 (by kernel_rfl) rfl #[.agg #[.int .i64 a0_0, .int .i64 a0_1, .int .i64 a0_2, .int .i64 a0_3, .int .i64 a0_4, .int .i64 a0_5, .int .i64 a0_6]] rfl (by (try simp only [List.map_toArray, List.map_cons, List.map_nil]); first | done | rfl | (simp only [List.length_drop, List.length_take]; rfl)) ?_; (with_reducible refine (page_of.calls a0_0 a0_1 a0_2 a0_3 a0_4 a0_5 a0_6 t560 t561 t562 t563 t564 t565 t566 t567 true _ A3.out).mono ?_); rintro e w13 ⟨rfl, hb⟩; refine ⟨_, rfl, ?_⟩; replace BK559 := ak_ (blk_below BK559.out hb); replace HB := ak_ (below_step HB.out hb); (try clear hb)) | ((with_reducible refine gate_dst (N := 5) rfl ?_); (try (refine gate_guard (by rfl) ?_; dsimp only)); refine box_event ?hg (N := 5) ?hd (cs := #[.int .i64 0, .int .i64 0, .int .i64 0, .int .i64 0, .int .i64 0, .int .i64 0, .int .i64 0, .int .i64 0]) (t := 70) ?hr ?_; (case hd => rfl); (case hg => rfl); (case hr => (go_simp; done)); intro gb569 hg w14 hbox hb; have BK569 := ak_ (hbox); have GW569 := ak_ (gw_ hg (below_size HB.out)); have GE569 := ak_ (gw_ hg (below_size HB.out)); replace HB := ak_ (below_step HB.out hb); have NB559_569 := ak_ ((by rw [hg]; exact Nat.ne_of_lt (blk_lt BK559.out) : gb559 ≠ gb569)); have NB569_559 := ak_ ((by rw [hg]; exact Nat.ne_of_gt (blk_lt BK559.out) : gb569 ≠ gb559)); replace BK559 := ak_ (blk_below BK559.out hb); clear hb hbox hg; have hnb15 := NB569_559.out; have hnc15 := NB559_569.out; obtain ⟨hcz16_0, hcz16_1, hcz16_2, hcz16_3, hcz16_4, hcz16_5, hcz16_6, hcz16_7⟩ := cells8 BK569.out; obtain ⟨hfz16_0, hfz16_1, hfz16_2, hfz16_3, hfz16_4, hfz16_5, hfz16_6, hfz16_7⟩ := froz8 BK569.out) | (go_at_call 56; (with_reducible refine (page_shape_size.calls t560 t561 t562 t563 t564 t565 t566 t567 t570 _ A5.out).mono ?_); rintro e w17 ⟨rfl, hb⟩; replace BK559 := ak_ (blk_below (far8 BK559.out NB559_569.out) hb); replace BK569 := ak_ (blk_below (put8 BK569.out) hb); replace HB := ak_ (below_step (by repeat (first | (with_reducible first | exact HB.out | apply below_alloc | apply pw_below_drewN | apply below_drew1 | refine below_set ?_ GE559.out | refine below_set ?_ GE569.out) | exact HB.out)) hb); (try clear hb); obtain ⟨i018, hi018, _, hsz18, _⟩ := info_parts info5; obtain ⟨A18, hcut18, hA18, hC18⟩ := print_drop_of (P := Try.prog) (Value.int .u8) 0 24 5 .i64 Try.underlying24 hi018 hsz18 A1 c1 l1 (ji7) (od_ ‹_›) (od_ ‹_›) HC1.out; have HR571 := ak_ (Kd.C_of_reads (h1 := fun _ => rfl) (hA18 _ (Kd.reads_of_C HR1.out))); have HC571 := ak_ hC18; clear hA18 hC18 hi018 hsz18) | (go_at_call 36; (try rw [show l1.length - (ji7 : Int).toNat = (l1.drop ((ji7) : Int).toNat).length from List.length_drop.symm]); (with_reducible refine (bits_Count.calls k _ _ (l1.drop ((ji7) : Int).toNat) t572 _ ?side1 ?side2 A10.out).mono ?_); (case side1 => exact (Kd.C_below HR571.out HB.out)); (case side2 => exact HC571.out); rintro e w' ⟨rfl, ⟨nd, rfl⟩⟩))
     go_ret
     exact ⟨by rfl, by repeat (first | (with_reducible first | exact HB.out | apply below_alloc | apply pw_below_drewN | apply below_drew1 | refine below_set ?_ GE559.out | refine below_set ?_ GE569.out) | exact HB.out)⟩
    ·rw [if_neg c9] at H
     exact absurd H (by simp)
   ·rw [if_neg c8] at H
    exact absurd H (by simp)
  ·rw [if_neg c6] at H
   have c6b0 := beq_eq_false_iff_ne.mpr c6
   have c6b1 := bne_iff_ne.mpr c6
   obtain rfl := Option.some.inj H
   go_enter Try.func31, Try.ntmps31
   go_wp2_with (first | ((with_reducible refine gate_dst (N := 2) rfl ?_); (try (refine gate_guard (by rfl) ?_; dsimp only)); refine box_event ?hg (N := 2) ?hd (cs := #[.int .i64 a0_0, .int .i64 a0_1, .int .i64 a0_2, .int .i64 a0_3, .int .i64 a0_4, .int .i64 a0_5, .int .i64 a0_6]) (t := 23) ?hr ?_; (case hd => rfl); (case hg => rfl); (case hr => (go_simp; done)); intro gb559 hg w19 hbox hb; have BK559 := ak_ (hbox); have GW559 := ak_ (gw_ hg (below_size HB.out)); have GE559 := ak_ (gw_ hg (below_size HB.out)); replace HB := ak_ (below_step HB.out hb); clear hb hbox hg; obtain ⟨hcz20_0, hcz20_1, hcz20_2, hcz20_3, hcz20_4, hcz20_5, hcz20_6⟩ := cells7 BK559.out; obtain ⟨hfz20_0, hfz20_1, hfz20_2, hfz20_3, hfz20_4, hfz20_5, hfz20_6⟩ := froz7 BK559.out) | ((with_reducible refine gate_callee (f := 37) rfl ?_); refine goesL_ (some 9) rfl rfl Try.func37 (by kernel_rfl) rfl #[.agg #[.int .i64 a0_0, .int .i64 a0_1, .int .i64 a0_2, .int .i64 a0_3, .int .i64 a0_4, .int .i64 a0_5, .int .i64 a0_6]] rfl (by (try simp only [List.map_toArray, List.map_cons, List.map_nil]); first | done | rfl | (simp only [List.length_drop, List.length_take]; rfl)) ?_; (with_reducible refine (page_of.calls a0_0 a0_1 a0_2 a0_3 a0_4 a0_5 a0_6 t560 t561 t562 t563 t564 t565 t566 t567 true _ A3.out).mono ?_); rintro e w21 ⟨rfl, hb⟩; refine ⟨_, rfl, ?_⟩; replace BK559 := ak_ (blk_below BK559.out hb); replace HB := ak_ (below_step HB.out hb); (try clear hb)) | ((with_reducible refine gate_dst (N := 5) rfl ?_); (try (refine gate_guard (by rfl) ?_; dsimp only)); refine box_event ?hg (N := 5) ?hd (cs := #[.int .i64 0, .int .i64 0, .int .i64 0, .int .i64 0, .int .i64 0, .int .i64 0, .int .i64 0, .int .i64 0]) (t := 70) ?hr ?_; (case hd => rfl); (case hg => rfl); (case hr => (go_simp; done)); intro gb569 hg w22 hbox hb; have BK569 := ak_ (hbox); have GW569 := ak_ (gw_ hg (below_size HB.out)); have GE569 := ak_ (gw_ hg (below_size HB.out)); replace HB := ak_ (below_step HB.out hb); have NB559_569 := ak_ ((by rw [hg]; exact Nat.ne_of_lt (blk_lt BK559.out) : gb559 ≠ gb569)); have NB569_559 := ak_ ((by rw [hg]; exact Nat.ne_of_gt (blk_lt BK559.out) : gb569 ≠ gb559)); replace BK559 := ak_ (blk_below BK559.out hb); clear hb hbox hg; have hnb23 := NB569_559.out; have hnc23 := NB559_569.out; obtain ⟨hcz24_0, hcz24_1, hcz24_2, hcz24_3, hcz24_4, hcz24_5, hcz24_6, hcz24_7⟩ := cells8 BK569.out; obtain ⟨hfz24_0, hfz24_1, hfz24_2, hfz24_3, hfz24_4, hfz24_5, hfz24_6, hfz24_7⟩ := froz8 BK569.out) | (go_at_call 56; (with_reducible refine (page_shape_size.calls t560 t561 t562 t563 t564 t565 t566 t567 t570 _ A5.out).mono ?_); rintro e w25 ⟨rfl, hb⟩; replace BK559 := ak_ (blk_below (far8 BK559.out NB559_569.out) hb); replace BK569 := ak_ (blk_below (put8 BK569.out) hb); replace HB := ak_ (below_step (by repeat (first | (with_reducible first | exact HB.out | apply below_alloc | apply pw_below_drewN | apply below_drew1 | refine below_set ?_ GE559.out | refine below_set ?_ GE569.out) | exact HB.out)) hb); (try clear hb)))
   go_ret
   exact ⟨by rfl, HB.out⟩
 ·replace c4 := Bool.eq_false_iff.mpr c4
  subst c4
  rw [if_neg (show ¬ (false = true) by decide)] at H
  obtain rfl := Option.some.inj H
  go_enter Try.func31, Try.ntmps31
  go_wp2_with (first | ((with_reducible refine gate_dst (N := 2) rfl ?_); (try (refine gate_guard (by rfl) ?_; dsimp only)); refine box_event ?hg (N := 2) ?hd (cs := #[.int .i64 a0_0, .int .i64 a0_1, .int .i64 a0_2, .int .i64 a0_3, .int .i64 a0_4, .int .i64 a0_5, .int .i64 a0_6]) (t := 23) ?hr ?_; (case hd => rfl); (case hg => rfl); (case hr => (go_simp; done)); intro gb559 hg w26 hbox hb; have BK559 := ak_ (hbox); have GW559 := ak_ (gw_ hg (below_size HB.out)); have GE559 := ak_ (gw_ hg (below_size HB.out)); replace HB := ak_ (below_step HB.out hb); clear hb hbox hg; obtain ⟨hcz27_0, hcz27_1, hcz27_2, hcz27_3, hcz27_4, hcz27_5, hcz27_6⟩ := cells7 BK559.out; obtain ⟨hfz27_0, hfz27_1, hfz27_2, hfz27_3, hfz27_4, hfz27_5, hfz27_6⟩ := froz7 BK559.out) | ((with_reducible refine gate_callee (f := 37) rfl ?_); refine goesL_ (some 9) rfl rfl Try.func37 (by kernel_rfl) rfl #[.agg #[.int .i64 a0_0, .int .i64 a0_1, .int .i64 a0_2, .int .i64 a0_3, .int .i64 a0_4, .int .i64 a0_5, .int .i64 a0_6]] rfl (by (try simp only [List.map_toArray, List.map_cons, List.map_nil]); first | done | rfl | (simp only [List.length_drop, List.length_take]; rfl)) ?_; (with_reducible refine (page_of.calls a0_0 a0_1 a0_2 a0_3 a0_4 a0_5 a0_6 t560 t561 t562 t563 t564 t565 t566 t567 false _ A3.out).mono ?_); rintro e w28 ⟨rfl, hb⟩; refine ⟨_, rfl, ?_⟩; replace BK559 := ak_ (blk_below BK559.out hb); replace HB := ak_ (below_step HB.out hb); (try clear hb)) | ((with_reducible refine gate_dst (N := 5) rfl ?_); (try (refine gate_guard (by rfl) ?_; dsimp only)); refine box_event ?hg (N := 5) ?hd (cs := #[.int .i64 0, .int .i64 0, .int .i64 0, .int .i64 0, .int .i64 0, .int .i64 0, .int .i64 0, .int .i64 0]) (t := 70) ?hr ?_; (case hd => rfl); (case hg => rfl); (case hr => (go_simp; done)); intro gb569 hg w29 hbox hb; have BK569 := ak_ (hbox); have GW569 := ak_ (gw_ hg (below_size HB.out)); have GE569 := ak_ (gw_ hg (below_size HB.out)); replace HB := ak_ (below_step HB.out hb); have NB559_569 := ak_ ((by rw [hg]; exact Nat.ne_of_lt (blk_lt BK559.out) : gb559 ≠ gb569)); have NB569_559 := ak_ ((by rw [hg]; exact Nat.ne_of_gt (blk_lt BK559.out) : gb569 ≠ gb559)); replace BK559 := ak_ (blk_below BK559.out hb); clear hb hbox hg; have hnb30 := NB569_559.out; have hnc30 := NB559_569.out; obtain ⟨hcz31_0, hcz31_1, hcz31_2, hcz31_3, hcz31_4, hcz31_5, hcz31_6, hcz31_7⟩ := cells8 BK569.out; obtain ⟨hfz31_0, hfz31_1, hfz31_2, hfz31_3, hfz31_4, hfz31_5, hfz31_6, hfz31_7⟩ := froz8 BK569.out))
  go_ret
  exact ⟨by rfl, by repeat (first | (with_reducible first | exact HB.out | apply below_alloc | apply pw_below_drewN | apply below_drew1 | refine below_set ?_ GE559.out | refine below_set ?_ GE569.out) | exact HB.out)⟩
def incunableref08_Marked.f (k : Nat) (a0_0 : Int) (a0_1 : Int) (a0_2 : Int) (a0_3 : Int) (a0_4 : Int) (a0_5 : Int) (a0_6 : Int) (l1 : List Int) : Option (Bool) := (incunableref04_Right.f a0_0 a0_1 a0_2 a0_3 a0_4 a0_5 a0_6).bind fun t574 => (if t574 = true then ((incunableref04_Raw.f a0_0 a0_1 a0_2 a0_3 a0_4 a0_5 a0_6).bind fun t575 => (if (l1.length : Int) = t575 then (if 0 ≤ (wrap64 ((l1.length : Int) - 1)) then (if (wrap64 ((l1.length : Int) - 1)) ≤ (l1.length : Int) then ((incunableref01_Zeros.f k (l1.drop ((wrap64 ((l1.length : Int) - 1)) : Int).toNat)).bind fun t577 => (some (decide (t577 > 4)))) else (none)) else (none)) else (some false))) else (some false))
theorem incunableref08_Marked.mono : ∀ a0 a1 a2 a3 a4 a5 a6 a7 k, LeO (incunableref08_Marked.f k a0 a1 a2 a3 a4 a5 a6 a7) (incunableref08_Marked.f (k + 1) a0 a1 a2 a3 a4 a5 a6 a7) := by
 intro a0 a1 a2 a3 a4 a5 a6 a7 k
 unfold incunableref08_Marked.f
 repeat' with_reducible first
  | exact incunableref01_Zeros.mono _ _
  | exact LeO.refl _
  | exact LeO.none _
  | refine LeO.ite ?_ ?_
  | refine LeO.bind ?_ (fun _ => ?_)
theorem incunableref08_Marked.calls (k : Nat) (a0_0 : Int) (a0_1 : Int) (a0_2 : Int) (a0_3 : Int) (a0_4 : Int) (a0_5 : Int) (a0_6 : Int) (A1 : Option Addr) (c1 : Nat) (l1 : List Int) (r : Bool) (w : World) (hr1 : Kd.C (Kd.int .u8) w A1 l1.length l1) (hc1 : l1.length ≤ c1) (h : incunableref08_Marked.f k a0_0 a0_1 a0_2 a0_3 a0_4 a0_5 a0_6 l1 = some r) :
  Calls Try.prog 32 #[.agg #[.int .i64 a0_0, .int .i64 a0_1, .int .i64 a0_2, .int .i64 a0_3, .int .i64 a0_4, .int .i64 a0_5, .int .i64 a0_6], .slice A1 l1.length c1] w fun e w' => e = .returned (.bool r) ∧ Below w.heap.size w w' := by
 have hu23 := Try.underlying23
 have HR1 := ak_ hr1
 have HC1 := ak_ hc1
 clear hr1 hc1
 have HB := ak_ (Below.refl w.heap.size w)
 unfold incunableref08_Marked.f at h
 have H := h
 clear h
 obtain ⟨t574, A3, H⟩ := bs_ H
 by_cases c4 : t574 = true
 ·subst c4
  rw [if_pos rfl] at H
  obtain ⟨t575, A5, H⟩ := bs_ H
  by_cases c6 : (l1.length : Int) = t575
  ·rw [if_pos c6] at H
   have c6b0 := beq_iff_eq.mpr c6
   have c6b1 := bne_eq_false_iff_eq.mpr c6
   clear c6
   obtain ⟨ji7, hji7⟩ : ∃ j_ : Int, (wrap64 ((l1.length : Int) - 1)) = j_ := ⟨_, rfl⟩
   replace H : (if 0 ≤ (ji7) then (if (ji7) ≤ (l1.length : Int) then ((incunableref01_Zeros.f k (l1.drop ((ji7) : Int).toNat)).bind fun t577 => (some (decide (t577 > 4)))) else (none)) else (none)) = some r := (by rw [hji7] at H; exact H)
   (try rw [hji7] at A3)
   (try rw [hji7] at A5)
   have hji7w : (IntKind.i64.wrap ((l1.length : Int) - 1)) = ji7 := (i64_w _).trans hji7
   by_cases c8 : 0 ≤ (ji7)
   ·rw [if_pos c8] at H
    have c8b0 := eq_true c8
    have c8b1 := decide_eq_true c8
    clear c8
    by_cases c9 : (ji7) ≤ (l1.length : Int)
    ·rw [if_pos c9] at H
     have c9b0 := eq_true c9
     have c9b1 := decide_eq_true c9
     clear c9
     obtain ⟨t577, A10, H⟩ := bs_ H
     obtain rfl := Option.some.inj H
     go_enter Try.func32, Try.ntmps32
     go_wp2_with (first | ((with_reducible refine gate_dst (N := 2) rfl ?_); (try (refine gate_guard (by rfl) ?_; dsimp only)); refine box_event ?hg (N := 2) ?hd (cs := #[.int .i64 a0_0, .int .i64 a0_1, .int .i64 a0_2, .int .i64 a0_3, .int .i64 a0_4, .int .i64 a0_5, .int .i64 a0_6]) (t := 23) ?hr ?_; (case hd => rfl); (case hg => rfl); (case hr => (go_simp; done)); intro gb573 hg w11 hbox hb; have BK573 := ak_ (hbox); have GW573 := ak_ (gw_ hg (below_size HB.out)); have GE573 := ak_ (gw_ hg (below_size HB.out)); replace HB := ak_ (below_step HB.out hb); clear hb hbox hg; obtain ⟨hcz12_0, hcz12_1, hcz12_2, hcz12_3, hcz12_4, hcz12_5, hcz12_6⟩ := cells7 BK573.out; obtain ⟨hfz12_0, hfz12_1, hfz12_2, hfz12_3, hfz12_4, hfz12_5, hfz12_6⟩ := froz7 BK573.out) | ((with_reducible refine gate_callee (f := 18) rfl ?_); refine goesL_ (some 6) rfl rfl Try.func18 (by kernel_rfl) rfl #[.agg #[.int .i64 a0_0, .int .i64 a0_1, .int .i64 a0_2, .int .i64 a0_3, .int .i64 a0_4, .int .i64 a0_5, .int .i64 a0_6]] rfl (by (try simp only [List.map_toArray, List.map_cons, List.map_nil]); first | done | rfl | (simp only [List.length_drop, List.length_take]; rfl)) ?_; (with_reducible refine (incunableref04_Right.calls a0_0 a0_1 a0_2 a0_3 a0_4 a0_5 a0_6 true _ A3.out).mono ?_); rintro e w13 ⟨rfl, hb⟩; refine ⟨_, rfl, ?_⟩; replace BK573 := ak_ (blk_below BK573.out hb); replace HB := ak_ (below_step HB.out hb); (try clear hb); obtain ⟨hcz14_0, hcz14_1, hcz14_2, hcz14_3, hcz14_4, hcz14_5, hcz14_6⟩ := cells7 BK573.out; obtain ⟨hfz14_0, hfz14_1, hfz14_2, hfz14_3, hfz14_4, hfz14_5, hfz14_6⟩ := froz7 BK573.out) | (go_at_call 51; (with_reducible refine (incunableref04_Raw.calls a0_0 a0_1 a0_2 a0_3 a0_4 a0_5 a0_6 t575 _ A5.out).mono ?_); rintro e w15 ⟨rfl, hb⟩; replace BK573 := ak_ (blk_below BK573.out hb); replace HB := ak_ (below_step HB.out hb); (try clear hb); obtain ⟨i016, hi016, _, hsz16, _⟩ := info_parts info5; obtain ⟨A16, hcut16, hA16, hC16⟩ := print_drop_of (P := Try.prog) (Value.int .u8) 0 24 5 .i64 Try.underlying24 hi016 hsz16 A1 c1 l1 (ji7) (od_ ‹_›) (od_ ‹_›) HC1.out; have HR576 := ak_ (Kd.C_of_reads (h1 := fun _ => rfl) (hA16 _ (Kd.reads_of_C HR1.out))); have HC576 := ak_ hC16; clear hA16 hC16 hi016 hsz16) | (go_at_call 52; (try rw [show l1.length - (ji7 : Int).toNat = (l1.drop ((ji7) : Int).toNat).length from List.length_drop.symm]); (with_reducible refine (incunableref01_Zeros.calls k _ _ (l1.drop ((ji7) : Int).toNat) t577 _ ?side1 ?side2 A10.out).mono ?_); (case side1 => exact (Kd.C_below HR576.out HB.out)); (case side2 => exact HC576.out); rintro e w17 ⟨rfl, hb⟩; replace BK573 := ak_ (blk_below BK573.out hb); replace HB := ak_ (below_step HB.out hb); (try clear hb)))
     go_ret
     exact ⟨by rfl, HB.out⟩
    ·rw [if_neg c9] at H
     exact absurd H (by simp)
   ·rw [if_neg c8] at H
    exact absurd H (by simp)
  ·rw [if_neg c6] at H
   have c6b0 := beq_eq_false_iff_ne.mpr c6
   have c6b1 := bne_iff_ne.mpr c6
   obtain rfl := Option.some.inj H
   go_enter Try.func32, Try.ntmps32
   go_wp2_with (first | ((with_reducible refine gate_dst (N := 2) rfl ?_); (try (refine gate_guard (by rfl) ?_; dsimp only)); refine box_event ?hg (N := 2) ?hd (cs := #[.int .i64 a0_0, .int .i64 a0_1, .int .i64 a0_2, .int .i64 a0_3, .int .i64 a0_4, .int .i64 a0_5, .int .i64 a0_6]) (t := 23) ?hr ?_; (case hd => rfl); (case hg => rfl); (case hr => (go_simp; done)); intro gb573 hg w18 hbox hb; have BK573 := ak_ (hbox); have GW573 := ak_ (gw_ hg (below_size HB.out)); have GE573 := ak_ (gw_ hg (below_size HB.out)); replace HB := ak_ (below_step HB.out hb); clear hb hbox hg; obtain ⟨hcz19_0, hcz19_1, hcz19_2, hcz19_3, hcz19_4, hcz19_5, hcz19_6⟩ := cells7 BK573.out; obtain ⟨hfz19_0, hfz19_1, hfz19_2, hfz19_3, hfz19_4, hfz19_5, hfz19_6⟩ := froz7 BK573.out) | ((with_reducible refine gate_callee (f := 18) rfl ?_); refine goesL_ (some 6) rfl rfl Try.func18 (by kernel_rfl) rfl #[.agg #[.int .i64 a0_0, .int .i64 a0_1, .int .i64 a0_2, .int .i64 a0_3, .int .i64 a0_4, .int .i64 a0_5, .int .i64 a0_6]] rfl (by (try simp only [List.map_toArray, List.map_cons, List.map_nil]); first | done | rfl | (simp only [List.length_drop, List.length_take]; rfl)) ?_; (with_reducible refine (incunableref04_Right.calls a0_0 a0_1 a0_2 a0_3 a0_4 a0_5 a0_6 true _ A3.out).mono ?_); rintro e w20 ⟨rfl, hb⟩; refine ⟨_, rfl, ?_⟩; replace BK573 := ak_ (blk_below BK573.out hb); replace HB := ak_ (below_step HB.out hb); (try clear hb); obtain ⟨hcz21_0, hcz21_1, hcz21_2, hcz21_3, hcz21_4, hcz21_5, hcz21_6⟩ := cells7 BK573.out; obtain ⟨hfz21_0, hfz21_1, hfz21_2, hfz21_3, hfz21_4, hfz21_5, hfz21_6⟩ := froz7 BK573.out) | (go_at_call 51; (with_reducible refine (incunableref04_Raw.calls a0_0 a0_1 a0_2 a0_3 a0_4 a0_5 a0_6 t575 _ A5.out).mono ?_); rintro e w22 ⟨rfl, hb⟩; replace BK573 := ak_ (blk_below BK573.out hb); replace HB := ak_ (below_step HB.out hb); (try clear hb)))
   go_ret
   exact ⟨by rfl, HB.out⟩
 ·replace c4 := Bool.eq_false_iff.mpr c4
  subst c4
  rw [if_neg (show ¬ (false = true) by decide)] at H
  obtain rfl := Option.some.inj H
  go_enter Try.func32, Try.ntmps32
  go_wp2_with (first | ((with_reducible refine gate_dst (N := 2) rfl ?_); (try (refine gate_guard (by rfl) ?_; dsimp only)); refine box_event ?hg (N := 2) ?hd (cs := #[.int .i64 a0_0, .int .i64 a0_1, .int .i64 a0_2, .int .i64 a0_3, .int .i64 a0_4, .int .i64 a0_5, .int .i64 a0_6]) (t := 23) ?hr ?_; (case hd => rfl); (case hg => rfl); (case hr => (go_simp; done)); intro gb573 hg w23 hbox hb; have BK573 := ak_ (hbox); have GW573 := ak_ (gw_ hg (below_size HB.out)); have GE573 := ak_ (gw_ hg (below_size HB.out)); replace HB := ak_ (below_step HB.out hb); clear hb hbox hg; obtain ⟨hcz24_0, hcz24_1, hcz24_2, hcz24_3, hcz24_4, hcz24_5, hcz24_6⟩ := cells7 BK573.out; obtain ⟨hfz24_0, hfz24_1, hfz24_2, hfz24_3, hfz24_4, hfz24_5, hfz24_6⟩ := froz7 BK573.out) | ((with_reducible refine gate_callee (f := 18) rfl ?_); refine goesL_ (some 6) rfl rfl Try.func18 (by kernel_rfl) rfl #[.agg #[.int .i64 a0_0, .int .i64 a0_1, .int .i64 a0_2, .int .i64 a0_3, .int .i64 a0_4, .int .i64 a0_5, .int .i64 a0_6]] rfl (by (try simp only [List.map_toArray, List.map_cons, List.map_nil]); first | done | rfl | (simp only [List.length_drop, List.length_take]; rfl)) ?_; (with_reducible refine (incunableref04_Right.calls a0_0 a0_1 a0_2 a0_3 a0_4 a0_5 a0_6 false _ A3.out).mono ?_); rintro e w25 ⟨rfl, hb⟩; refine ⟨_, rfl, ?_⟩; replace BK573 := ak_ (blk_below BK573.out hb); replace HB := ak_ (below_step HB.out hb); (try clear hb)))
  go_ret
  exact ⟨by rfl, HB.out⟩
end Go.Proofs.Ytmehbabchakkpaa.QPageDecodes
namespace Go.Proofs.Ytmehbabchakkpaa.QPageDecodes
open Go.RowKit Go.Proofs.YtmehbabchakkpaaW.PrintWords Go.Proofs.YtmehbabchakkpaaW.PrintLast Go.Proofs.YtmehbabchakkpaaW.PrintMore Go.Proofs.Ytmehbabchakkpaa.Short
attribute [local go_sem] max2_int min2_int max_two min_two max_three min_three max_four min_four
set_option linter.unusedVariables false
set_option maxHeartbeats 8000000
set_option maxRecDepth 100000
set_option linter.unusedSimpArgs false
attribute [local go_sem high] eqA26
mutual
def incunablelaw08_PageDecodes.j0 : Nat → List Int → Int → Int → Int → Int → Int → Int → Int → Option (Bool)
 | 0, _, _, _, _, _, _, _, _ => none
 | k + 1, x1, x579000, x579001, x579002, x579003, x579004, x579005, x579006 => (incunablelaw08_Small.f x579000 x579001 x579002 x579003 x579004 x579005 x579006).bind fun t580 => (if t580 = true then (incunablelaw08_PageDecodes.j1 k x1 (decide ((x1.length : Int) > 400)) x579000 x579001 x579002 x579003 x579004 x579005 x579006) else (incunablelaw08_PageDecodes.j1 k x1 true x579000 x579001 x579002 x579003 x579004 x579005 x579006))
def incunablelaw08_PageDecodes.j1 : Nat → List Int → Bool → Int → Int → Int → Int → Int → Int → Int → Option (Bool)
 | 0, _, _, _, _, _, _, _, _, _ => none
 | k + 1, x1, x22, x579000, x579001, x579002, x579003, x579004, x579005, x579006 => if x22 = true then (some true) else (incunablelaw08_PageDecodes.j2 k x1 x579000 x579001 x579002 x579003 x579004 x579005 x579006)
def incunablelaw08_PageDecodes.j2 : Nat → List Int → Int → Int → Int → Int → Int → Int → Int → Option (Bool)
 | 0, _, _, _, _, _, _, _, _ => none
 | k + 1, x1, x579000, x579001, x579002, x579003, x579004, x579005, x579006 => (page_Decode.f k x579000 x579001 x579002 x579003 x579004 x579005 x579006 x1).bind fun bt581 => ((incunableref08_Decode.f k x579000 x579001 x579002 x579003 x579004 x579005 x579006 x1).bind fun bt591 => ((incunableref01_Same.f k bt581.1 bt591.1).bind fun t601 => (if t601 = true then (if (bt581.2.1 == bt591.2.1 && (bt581.2.2.1 == bt591.2.2.1 && (bt581.2.2.2.1 == bt591.2.2.2.1 && (bt581.2.2.2.2.1 == bt591.2.2.2.2.1)))) = true then (if bt581.2.2.2.2.2.1 = bt591.2.2.2.2.2.1 then (if bt581.2.2.2.2.2.2 = bt591.2.2.2.2.2.2 then ((page_Marked.f k x579000 x579001 x579002 x579003 x579004 x579005 x579006 x1).bind fun t602 => ((incunableref08_Marked.f k x579000 x579001 x579002 x579003 x579004 x579005 x579006 x1).bind fun t603 => (some (t602 == t603)))) else (none)) else (none)) else (none)) else (none))))
end
def incunablelaw08_PageDecodes.f (k : Nat) (a0_0 : Int) (a0_1 : Int) (a0_2 : Int) (a0_3 : Int) (a0_4 : Int) (a0_5 : Int) (a0_6 : Int) (l1 : List Int) : Option (Bool) := (incunablelaw08_awake.f k).bind fun t579 => (if t579 = true then (incunablelaw08_PageDecodes.j0 k l1 a0_0 a0_1 a0_2 a0_3 a0_4 a0_5 a0_6) else (none))
theorem incunablelaw08_PageDecodes.mono_l : ∀ k, (∀ y0 y1 y2 y3 y4 y5 y6 y7, LeO (incunablelaw08_PageDecodes.j0 k y0 y1 y2 y3 y4 y5 y6 y7) (incunablelaw08_PageDecodes.j0 (k + 1) y0 y1 y2 y3 y4 y5 y6 y7)) ∧ (∀ y0 y1 y2 y3 y4 y5 y6 y7 y8, LeO (incunablelaw08_PageDecodes.j1 k y0 y1 y2 y3 y4 y5 y6 y7 y8) (incunablelaw08_PageDecodes.j1 (k + 1) y0 y1 y2 y3 y4 y5 y6 y7 y8)) ∧ (∀ y0 y1 y2 y3 y4 y5 y6 y7, LeO (incunablelaw08_PageDecodes.j2 k y0 y1 y2 y3 y4 y5 y6 y7) (incunablelaw08_PageDecodes.j2 (k + 1) y0 y1 y2 y3 y4 y5 y6 y7))
 | 0 => ⟨fun _ _ _ _ _ _ _ _ r h => by simp [incunablelaw08_PageDecodes.j0] at h, fun _ _ _ _ _ _ _ _ _ r h => by simp [incunablelaw08_PageDecodes.j1] at h, fun _ _ _ _ _ _ _ _ r h => by simp [incunablelaw08_PageDecodes.j2] at h⟩
 | k + 1 => by
  obtain ⟨ih0, ih1, ih2⟩ := incunablelaw08_PageDecodes.mono_l k
  refine ⟨?_, ?_, ?_⟩
  ·intro y0 y1 y2 y3 y4 y5 y6 y7
   unfold incunablelaw08_PageDecodes.j0
   repeat' with_reducible first
   | exact ih0 _ _ _ _ _ _ _ _
   | exact ih1 _ _ _ _ _ _ _ _ _
   | exact ih2 _ _ _ _ _ _ _ _
   | exact incunablelaw08_awake.mono _
   | exact incunableref01_Same.mono _ _ _
   | exact incunableref08_Decode.mono _ _ _ _ _ _ _ _ _
   | exact incunableref08_Marked.mono _ _ _ _ _ _ _ _ _
   | exact page_Decode.mono _ _ _ _ _ _ _ _ _
   | exact page_Marked.mono _ _ _ _ _ _ _ _ _
   | exact LeO.refl _
   | exact LeO.none _
   | refine LeO.ite ?_ ?_
   | refine LeO.bind ?_ (fun _ => ?_)
  ·intro y0 y1 y2 y3 y4 y5 y6 y7 y8
   unfold incunablelaw08_PageDecodes.j1
   repeat' with_reducible first
   | exact ih0 _ _ _ _ _ _ _ _
   | exact ih1 _ _ _ _ _ _ _ _ _
   | exact ih2 _ _ _ _ _ _ _ _
   | exact incunablelaw08_awake.mono _
   | exact incunableref01_Same.mono _ _ _
   | exact incunableref08_Decode.mono _ _ _ _ _ _ _ _ _
   | exact incunableref08_Marked.mono _ _ _ _ _ _ _ _ _
   | exact page_Decode.mono _ _ _ _ _ _ _ _ _
   | exact page_Marked.mono _ _ _ _ _ _ _ _ _
   | exact LeO.refl _
   | exact LeO.none _
   | refine LeO.ite ?_ ?_
   | refine LeO.bind ?_ (fun _ => ?_)
  ·intro y0 y1 y2 y3 y4 y5 y6 y7
   unfold incunablelaw08_PageDecodes.j2
   repeat' with_reducible first
   | exact ih0 _ _ _ _ _ _ _ _
   | exact ih1 _ _ _ _ _ _ _ _ _
   | exact ih2 _ _ _ _ _ _ _ _
   | exact incunablelaw08_awake.mono _
   | exact incunableref01_Same.mono _ _ _
   | exact incunableref08_Decode.mono _ _ _ _ _ _ _ _ _
   | exact incunableref08_Marked.mono _ _ _ _ _ _ _ _ _
   | exact page_Decode.mono _ _ _ _ _ _ _ _ _
   | exact page_Marked.mono _ _ _ _ _ _ _ _ _
   | exact LeO.refl _
   | exact LeO.none _
   | refine LeO.ite ?_ ?_
   | refine LeO.bind ?_ (fun _ => ?_)
theorem incunablelaw08_PageDecodes.mono : ∀ a0 a1 a2 a3 a4 a5 a6 a7 k, LeO (incunablelaw08_PageDecodes.f k a0 a1 a2 a3 a4 a5 a6 a7) (incunablelaw08_PageDecodes.f (k + 1) a0 a1 a2 a3 a4 a5 a6 a7) := by
 intro a0 a1 a2 a3 a4 a5 a6 a7 k
 obtain ⟨ih0, ih1, ih2⟩ := incunablelaw08_PageDecodes.mono_l k
 unfold incunablelaw08_PageDecodes.f
 repeat' with_reducible first
  | exact ih0 _ _ _ _ _ _ _ _
  | exact ih1 _ _ _ _ _ _ _ _ _
  | exact ih2 _ _ _ _ _ _ _ _
  | exact incunablelaw08_awake.mono _
  | exact incunableref01_Same.mono _ _ _
  | exact incunableref08_Decode.mono _ _ _ _ _ _ _ _ _
  | exact incunableref08_Marked.mono _ _ _ _ _ _ _ _ _
  | exact page_Decode.mono _ _ _ _ _ _ _ _ _
  | exact page_Marked.mono _ _ _ _ _ _ _ _ _
  | exact LeO.refl _
  | exact LeO.none _
  | refine LeO.ite ?_ ?_
  | refine LeO.bind ?_ (fun _ => ?_)
def incunablelaw08_PageDecodes.T7 : Bool × List (List Nat × List Nat) := (true, [([], []), ([], []), ([0, 1], [0, 1]), ([2, 2], [2]), ([3], [3]), ([3], [3]), ([4, 5, 3], [3, 4, 5]), ([3, 6], [3, 6]), ([7, 3], [7]), ([8], [8]), ([8], [8]), ([9, 10, 8], [8, 9, 10]), ([8, 11], [8, 11]), ([12, 8], [12]), ([13], [13]), ([13], [13]), ([14, 15, 13], [13, 14, 15]), ([13, 16], [13, 16]), ([17, 13], [17]), ([18], [18]), ([18], [18]), ([19, 20, 18, 18], [18, 19, 20]), ([18], [18]), ([18], [18]), ([22, 23, 21, 18], [18, 22, 23]), ([21, 24, 18], [18, 21, 24]), ([18, 25], [18, 25]), ([26, 24, 0, 1, 2, 3, 4, 5, 6, 7, 8, 9, 10, 11, 12, 13, 14, 15, 16, 17, 18, 19, 20, 21, 22, 23, 24, 25, 26], [26])])
def incunablelaw08_PageDecodes.B7 : List Nat := [0, 0, 3, 7, 15, 15, 63, 127, 255, 511, 511, 2047, 4095, 8191, 16383, 16383, 65535, 131071, 262143, 524287, 524287, 2097151, 524287, 524287, 16777215, 33554431, 67108863, 134217727]
theorem incunablelaw08_PageDecodes.tab7 : rtab .any (opsOf Try.f8 7) = incunablelaw08_PageDecodes.T7 := by kernel_rfl
theorem incunablelaw08_PageDecodes.bits7 : waitsOk incunablelaw08_PageDecodes.T7.2 incunablelaw08_PageDecodes.B7 = true := by kernel_rfl
theorem incunablelaw08_PageDecodes.calls (k : Nat) (a0_0 : Int) (a0_1 : Int) (a0_2 : Int) (a0_3 : Int) (a0_4 : Int) (a0_5 : Int) (a0_6 : Int) (A1 : Option Addr) (c1 : Nat) (l1 : List Int) (r : Bool) (w : World) (hr1 : Kd.C (Kd.int .u8) w A1 l1.length l1) (hc1 : l1.length ≤ c1) (h : incunablelaw08_PageDecodes.f k a0_0 a0_1 a0_2 a0_3 a0_4 a0_5 a0_6 l1 = some r) :
  Calls Try.prog 8 #[.agg #[.int .i64 a0_0, .int .i64 a0_1, .int .i64 a0_2, .int .i64 a0_3, .int .i64 a0_4, .int .i64 a0_5, .int .i64 a0_6], .slice A1 l1.length c1] w fun e w' => e = .returned (.bool r) ∧ Below w.heap.size w w' := by
 have hu23 := Try.underlying23
 have hu26 := Try.underlying26
 have HR1 := ak_ hr1
 have HC1 := ak_ hc1
 clear hr1 hc1
 have HB := ak_ (Below.refl w.heap.size w)
 unfold incunablelaw08_PageDecodes.f at h
 have H := h
 clear h
 obtain ⟨t579, A3, H⟩ := bs_ H
 have HC4 := ak_ H
 clear H
 go_enter Try.func8, Try.ntmps8
 go_upto_if 14 with (first | ((with_reducible refine gate_dst (N := 2) rfl ?_); (try (refine gate_guard (by rfl) ?_; dsimp only)); refine box_event ?hg (N := 2) ?hd (cs := #[.int .i64 a0_0, .int .i64 a0_1, .int .i64 a0_2, .int .i64 a0_3, .int .i64 a0_4, .int .i64 a0_5, .int .i64 a0_6]) (t := 23) ?hr ?_; (case hd => rfl); (case hg => rfl); (case hr => (go_simp; done)); intro gb578 hg w5 hbox hb; have BK578 := ak_ (hbox); have GW578 := ak_ (gw_ hg (below_size HB.out)); have GE578 := ak_ (gw_ hg (below_size HB.out)); replace HB := ak_ (below_step HB.out hb); clear hb hbox hg) | ((with_reducible refine gate_callee (f := 12) rfl ?_); refine goesL_ (some 13) rfl rfl Try.func12 (by kernel_rfl) rfl #[] rfl (by (try simp only [List.map_toArray, List.map_cons, List.map_nil]); done) ?_; (with_reducible refine (incunablelaw08_awake.calls k  t579 _ A3.out).mono ?_); rintro e w6 ⟨rfl, hb⟩; refine ⟨_, rfl, ?_⟩; replace BK578 := ak_ (blk_below BK578.out hb); replace HB := ak_ (below_step HB.out hb); (try clear hb)))
 go_cut [] (fun wc => ∃ (kq : Nat), Aside0 (incunablelaw08_PageDecodes.j0 kq l1 a0_0 a0_1 a0_2 a0_3 a0_4 a0_5 a0_6 = some r) ∧ Aside0 (kq ≤ k) ∧ Aside0 (wc.heap[gb578]? = some (.cells #[.int .i64 a0_0, .int .i64 a0_1, .int .i64 a0_2, .int .i64 a0_3, .int .i64 a0_4, .int .i64 a0_5, .int .i64 a0_6] 23 (0, 0))) ∧ Aside0 (Below w.heap.size w wc))
 case first =>
  have H := HC4.out
  clear HC4
  by_cases c7 : t579 = true
  ·subst c7
   rw [if_pos rfl] at H
   have H' := ak_ H
   clear H
   go_wp2
   go_meet
   case rel => exact ⟨_, H', ⟨by omega⟩, ⟨BK578.out⟩, ⟨HB.out⟩⟩
  ·replace c7 := Bool.eq_false_iff.mpr c7
   subst c7
   rw [if_neg (show ¬ (false = true) by decide)] at H
   exact absurd H (by simp)
 case rest =>
  clear HC4
  obtain ⟨kq, HA, HJ3, BK578, HB⟩ := hcut
  cases kq with
  | zero => exact absurd HA.out (by simp [incunablelaw08_PageDecodes.j0])
  | succ kj3 =>
   have H := HA.out
   clear HA
   simp only [incunablelaw08_PageDecodes.j0] at H
   have HC8 := ak_ H
   clear H
   go_upto_region 3 with (fail)
   go_cut [22] (fun v22 wc => ∃ (kq : Nat) (x22_7 : Bool), v22 = .bool x22_7 ∧ Aside0 (incunablelaw08_PageDecodes.j1 kq l1 x22_7 a0_0 a0_1 a0_2 a0_3 a0_4 a0_5 a0_6 = some r) ∧ Aside0 (kq ≤ kj3) ∧ Aside0 (wc.heap[gb578]? = some (.cells #[.int .i64 a0_0, .int .i64 a0_1, .int .i64 a0_2, .int .i64 a0_3, .int .i64 a0_4, .int .i64 a0_5, .int .i64 a0_6] 23 (0, 0))) ∧ Aside0 (Below w.heap.size w wc))
   case first =>
    have H := HC8.out
    clear HC8
    obtain ⟨t580, A9, H⟩ := bs_ H
    by_cases c10 : t580 = true
    ·subst c10
     rw [if_pos rfl] at H
     have H' := ak_ H
     clear H
     obtain ⟨hcz11_0, hcz11_1, hcz11_2, hcz11_3, hcz11_4, hcz11_5, hcz11_6⟩ := cells7 BK578.out
     obtain ⟨hfz11_0, hfz11_1, hfz11_2, hfz11_3, hfz11_4, hfz11_5, hfz11_6⟩ := froz7 BK578.out
     go_wp2_with ((with_reducible refine gate_callee (f := 13) rfl ?_); refine goesL_ (some 16) rfl rfl Try.func13 (by kernel_rfl) rfl #[.agg #[.int .i64 a0_0, .int .i64 a0_1, .int .i64 a0_2, .int .i64 a0_3, .int .i64 a0_4, .int .i64 a0_5, .int .i64 a0_6]] rfl (by (try simp only [List.map_toArray, List.map_cons, List.map_nil]); first | done | rfl | (simp only [List.length_drop, List.length_take]; rfl)) ?_; (with_reducible refine (incunablelaw08_Small.calls a0_0 a0_1 a0_2 a0_3 a0_4 a0_5 a0_6 true _ A9.out).mono ?_); rintro e w12 ⟨rfl, hb⟩; refine ⟨_, rfl, ?_⟩; replace BK578 := ak_ (blk_below BK578.out hb); replace HB := ak_ (below_step HB.out hb); (try clear hb))
     go_meet
     case rel => exact ⟨_, (decide ((l1.length : Int) > 400)), (by rfl), H', ⟨by have := HJ3.out; omega⟩, ⟨BK578.out⟩, ⟨HB.out⟩⟩
    ·replace c10 := Bool.eq_false_iff.mpr c10
     subst c10
     rw [if_neg (show ¬ (false = true) by decide)] at H
     have H' := ak_ H
     clear H
     obtain ⟨hcz13_0, hcz13_1, hcz13_2, hcz13_3, hcz13_4, hcz13_5, hcz13_6⟩ := cells7 BK578.out
     obtain ⟨hfz13_0, hfz13_1, hfz13_2, hfz13_3, hfz13_4, hfz13_5, hfz13_6⟩ := froz7 BK578.out
     go_wp2_with ((with_reducible refine gate_callee (f := 13) rfl ?_); refine goesL_ (some 16) rfl rfl Try.func13 (by kernel_rfl) rfl #[.agg #[.int .i64 a0_0, .int .i64 a0_1, .int .i64 a0_2, .int .i64 a0_3, .int .i64 a0_4, .int .i64 a0_5, .int .i64 a0_6]] rfl (by (try simp only [List.map_toArray, List.map_cons, List.map_nil]); first | done | rfl | (simp only [List.length_drop, List.length_take]; rfl)) ?_; (with_reducible refine (incunablelaw08_Small.calls a0_0 a0_1 a0_2 a0_3 a0_4 a0_5 a0_6 false _ A9.out).mono ?_); rintro e w14 ⟨rfl, hb⟩; refine ⟨_, rfl, ?_⟩; replace BK578 := ak_ (blk_below BK578.out hb); replace HB := ak_ (below_step HB.out hb); (try clear hb))
     go_meet
     case rel => exact ⟨_, (true), (by rfl), H', ⟨by have := HJ3.out; omega⟩, ⟨BK578.out⟩, ⟨HB.out⟩⟩
   case rest =>
    clear HC8
    obtain ⟨kq, x22_7, rfl, HA, HJ7, BK578, HB⟩ := hcut
    cases kq with
    | zero => exact absurd HA.out (by simp [incunablelaw08_PageDecodes.j1])
    | succ kj7 =>
     have H := HA.out
     clear HA
     simp only [incunablelaw08_PageDecodes.j1] at H
     have HC15 := ak_ H
     clear H
     go_upto_if 22 with (fail)
     go_cut [] (fun wc => ∃ (kq : Nat), Aside0 (incunablelaw08_PageDecodes.j2 kq l1 a0_0 a0_1 a0_2 a0_3 a0_4 a0_5 a0_6 = some r) ∧ Aside0 (kq ≤ kj7) ∧ Aside0 (wc.heap[gb578]? = some (.cells #[.int .i64 a0_0, .int .i64 a0_1, .int .i64 a0_2, .int .i64 a0_3, .int .i64 a0_4, .int .i64 a0_5, .int .i64 a0_6] 23 (0, 0))) ∧ Aside0 (Below w.heap.size w wc))
     case first =>
      have H := HC15.out
      clear HC15
      by_cases c16 : x22_7 = true
      ·subst c16
       rw [if_pos rfl] at H
       obtain rfl := Option.some.inj H
       go_wp2
       go_ret
       exact ⟨by rfl, HB.out⟩
      ·replace c16 := Bool.eq_false_iff.mpr c16
       subst c16
       rw [if_neg (show ¬ (false = true) by decide)] at H
       have H' := ak_ H
       clear H
       go_wp2
       go_meet
       case rel => exact ⟨_, H', ⟨by have := HJ3.out; have := HJ7.out; omega⟩, ⟨BK578.out⟩, ⟨HB.out⟩⟩
     case rest =>
      clear HC15
      obtain ⟨kq, HA, HJ14, BK578, HB⟩ := hcut
      cases kq with
      | zero => exact absurd HA.out (by simp [incunablelaw08_PageDecodes.j2])
      | succ kj14 =>
       have H := HA.out
       clear HA
       simp only [incunablelaw08_PageDecodes.j2] at H
       obtain ⟨⟨t581, t584, t585, t586, t587, t588, t589⟩, A17, H⟩ := bs_ H
       try dsimp only at H
       obtain ⟨⟨t591, t594, t595, t596, t597, t598, t599⟩, A18, H⟩ := bs_ H
       try dsimp only at H
       obtain ⟨t601, A19, H⟩ := bs_ H
       by_cases c20 : t601 = true
       ·subst c20
        rw [if_pos rfl] at H
        by_cases c21 : (t584 == t594 && (t585 == t595 && (t586 == t596 && (t587 == t597)))) = true
        ·rw [if_pos c21] at H
         have c21b0 : (t584 == t594 && (t585 == t595 && (t586 == t596 && (t587 == t597)))) = true := c21
         (try (have c21b1 : decide (t584 = t594 && (t585 == t595 && (t586 == t596 && (t587 == t597)))) = true := by simpa using c21))
         (try (have c21b2 : (t584 == t594 && (t585 == t595 && (t586 == t596 && (t587 == t597)))) = true := by simpa using c21))
         clear c21
         by_cases c22 : t588 = t598
         ·rw [if_pos c22] at H
          have c22b0 := beq_iff_eq.mpr c22
          have c22b1 := bne_eq_false_iff_eq.mpr c22
          clear c22
          by_cases c23 : t589 = t599
          ·rw [if_pos c23] at H
           have c23b0 := beq_iff_eq.mpr c23
           have c23b1 := bne_eq_false_iff_eq.mpr c23
           clear c23
           obtain ⟨t602, A24, H⟩ := bs_ H
           obtain ⟨t603, A25, H⟩ := bs_ H
           obtain rfl := Option.some.inj H
           obtain ⟨hcz26_0, hcz26_1, hcz26_2, hcz26_3, hcz26_4, hcz26_5, hcz26_6⟩ := cells7 BK578.out
           obtain ⟨hfz26_0, hfz26_1, hfz26_2, hfz26_3, hfz26_4, hfz26_5, hfz26_6⟩ := froz7 BK578.out
           try go_wp2_with (first | ((with_reducible refine gate_callee (f := 30) rfl ?_); refine goesL_ (some 26) rfl rfl Try.func30 (by kernel_rfl) rfl #[.agg #[.int .i64 a0_0, .int .i64 a0_1, .int .i64 a0_2, .int .i64 a0_3, .int .i64 a0_4, .int .i64 a0_5, .int .i64 a0_6], .slice A1 l1.length c1] rfl (by (try simp only [List.map_toArray, List.map_cons, List.map_nil]); first | done | rfl | (simp only [List.length_drop, List.length_take]; rfl)) ?_; (with_reducible refine (page_Decode.calls kj14 a0_0 a0_1 a0_2 a0_3 a0_4 a0_5 a0_6 _ _ l1 t581 t584 t585 t586 t587 t588 t589 _ ?side1 ?side2 A17.out).mono ?_); (case side1 => exact (Kd.C_below HR1.out HB.out)); (case side2 => exact HC1.out); rintro e w27 ⟨v582, rfl, ho0, hb⟩; refine ⟨_, rfl, ?_⟩; have HO583 := ak_ (Kd.R_lower ho0 (below_size HB.out)); replace BK578 := ak_ (blk_below BK578.out hb); replace HB := ak_ (below_step HB.out hb); (try clear hb); (try clear ho0)) | ((with_reducible refine gate_dst (N := 6) rfl ?_); (try (refine gate_guard (by rfl) ?_; dsimp only)); refine box_event ?hg (N := 6) ?hd (cs := #[.int .i64 0, .int .i64 0, .int .i64 0, .int .i64 0]) (t := 26) ?hr ?_; (case hd => rfl); (case hg => rfl); (case hr => (go_simp; done)); intro gb590 hg w28 hbox hb; replace HO583 := ak_ (Kd.R_below HO583.out hb); have BK590 := ak_ (hbox); have GW590 := ak_ (gw_ hg (below_size HB.out)); have GE590 := ak_ (gw_ hg (below_size HB.out)); replace HB := ak_ (below_step HB.out hb); have NB578_590 := ak_ ((by rw [hg]; exact Nat.ne_of_lt (blk_lt BK578.out) : gb578 ≠ gb590)); have NB590_578 := ak_ ((by rw [hg]; exact Nat.ne_of_gt (blk_lt BK578.out) : gb590 ≠ gb578)); replace BK578 := ak_ (blk_below BK578.out hb); clear hb hbox hg; have hnb29 := NB590_578.out; have hnc29 := NB578_590.out; obtain ⟨hcz30_0, hcz30_1, hcz30_2, hcz30_3⟩ := cells4 BK590.out; obtain ⟨hfz30_0, hfz30_1, hfz30_2, hfz30_3⟩ := froz4 BK590.out; obtain ⟨hcz31_0, hcz31_1, hcz31_2, hcz31_3, hcz31_4, hcz31_5, hcz31_6⟩ := cells7 BK578.out; obtain ⟨hfz31_0, hfz31_1, hfz31_2, hfz31_3, hfz31_4, hfz31_5, hfz31_6⟩ := froz7 BK578.out) | ((with_reducible refine gate_callee (f := 29) rfl ?_); refine goesL_ (some 34) rfl rfl Try.func29 (by kernel_rfl) rfl #[.agg #[.int .i64 a0_0, .int .i64 a0_1, .int .i64 a0_2, .int .i64 a0_3, .int .i64 a0_4, .int .i64 a0_5, .int .i64 a0_6], .slice A1 l1.length c1] rfl (by (try simp only [List.map_toArray, List.map_cons, List.map_nil]); first | done | rfl | (simp only [List.length_drop, List.length_take]; rfl)) ?_; (with_reducible refine (incunableref08_Decode.calls kj14 a0_0 a0_1 a0_2 a0_3 a0_4 a0_5 a0_6 _ _ l1 t591 t594 t595 t596 t597 t598 t599 _ ?side1 ?side2 A18.out).mono ?_); (case side1 => exact Kd.C_below HR1.out (by repeat (first | (with_reducible first | exact HB.out | apply below_alloc | apply pw_below_drewN | apply below_drew1 | refine below_set ?_ GE578.out | refine below_set ?_ GE590.out) | exact HB.out))); (case side2 => exact HC1.out); rintro e w32 ⟨v592, rfl, ho0, hb⟩; refine ⟨_, rfl, ?_⟩; have HO593 := ak_ (Kd.R_lower (Kd.R_new' ho0 (Kd.R_lt (Kd.R_mono (Kd.R_far (p := ⟨gb590, 3, none⟩) (Kd.R_far (p := ⟨gb590, 2, none⟩) (Kd.R_far (p := ⟨gb590, 1, none⟩) (Kd.R_far (p := ⟨gb590, 0, none⟩) (Kd.R_types HO583.out BK590.out (by decide)) (fun _ hk => hk.2) (.int .i64 t584)) (fun _ hk => hk.2) (.int .i64 t585)) (fun _ hk => hk.2) (.int .i64 t586)) (fun _ hk => hk.2) (.int .i64 t587)) (fun _ h_ => h_.1)))) (below_size (by repeat (first | (with_reducible first | exact HB.out | apply below_alloc | apply pw_below_drewN | apply below_drew1 | refine below_set ?_ GE578.out | refine below_set ?_ GE590.out) | exact HB.out)))); replace HO583 := ak_ (Kd.R_elder' (Kd.R_mono (Kd.R_far (p := ⟨gb590, 3, none⟩) (Kd.R_far (p := ⟨gb590, 2, none⟩) (Kd.R_far (p := ⟨gb590, 1, none⟩) (Kd.R_far (p := ⟨gb590, 0, none⟩) (Kd.R_types HO583.out BK590.out (by decide)) (fun _ hk => hk.2) (.int .i64 t584)) (fun _ hk => hk.2) (.int .i64 t585)) (fun _ hk => hk.2) (.int .i64 t586)) (fun _ hk => hk.2) (.int .i64 t587)) (fun _ h_ => h_.1)) (Kd.R_base ho0) hb); replace BK578 := ak_ (blk_below (far4 BK578.out NB578_590.out) hb); replace BK590 := ak_ (blk_below (put4 BK590.out) hb); replace HB := ak_ (below_step (by repeat (first | (with_reducible first | exact HB.out | apply below_alloc | apply pw_below_drewN | apply below_drew1 | refine below_set ?_ GE578.out | refine below_set ?_ GE590.out) | exact HB.out)) hb); (try clear hb); (try clear ho0)) | ((with_reducible refine gate_dst (N := 10) rfl ?_); (try (refine gate_guard (by rfl) ?_; dsimp only)); refine box_event ?hg (N := 10) ?hd (cs := #[.int .i64 0, .int .i64 0, .int .i64 0, .int .i64 0]) (t := 26) ?hr ?_; (case hd => rfl); (case hg => rfl); (case hr => (go_simp; done)); intro gb600 hg w33 hbox hb; replace HO583 := ak_ (Kd.R_below HO583.out hb); replace HO593 := ak_ (Kd.R_below HO593.out hb); have BK600 := ak_ (hbox); have GW600 := ak_ (gw_ hg (below_size HB.out)); have GE600 := ak_ (gw_ hg (below_size HB.out)); replace HB := ak_ (below_step HB.out hb); have NB578_600 := ak_ ((by rw [hg]; exact Nat.ne_of_lt (blk_lt BK578.out) : gb578 ≠ gb600)); have NB600_578 := ak_ ((by rw [hg]; exact Nat.ne_of_gt (blk_lt BK578.out) : gb600 ≠ gb578)); replace BK578 := ak_ (blk_below BK578.out hb); have NB590_600 := ak_ ((by rw [hg]; exact Nat.ne_of_lt (blk_lt BK590.out) : gb590 ≠ gb600)); have NB600_590 := ak_ ((by rw [hg]; exact Nat.ne_of_gt (blk_lt BK590.out) : gb600 ≠ gb590)); replace BK590 := ak_ (blk_below BK590.out hb); clear hb hbox hg; have hnb34 := NB600_578.out; have hnc34 := NB578_600.out; have hnb35 := NB600_590.out; have hnc35 := NB590_600.out; obtain ⟨hcz36_0, hcz36_1, hcz36_2, hcz36_3⟩ := cells4 BK600.out; obtain ⟨hfz36_0, hfz36_1, hfz36_2, hfz36_3⟩ := froz4 BK600.out))
           have n0_ : Aside0 (Kd.R (Kd.int .u8) 5 ((((w33.setCell ⟨gb600, 0, none⟩ (.int .i64 t594)).setCell ⟨gb600, 1, none⟩ (.int .i64 t595)).setCell ⟨gb600, 2, none⟩ (.int .i64 t596)).setCell ⟨gb600, 3, none⟩ (.int .i64 t597)) w.heap.size (fun k_ => some k_ ≠ (v592 : Value).ownBlock) v582 t581) := ⟨(Kd.R_mono (Kd.R_far (p := ⟨gb600, 3, none⟩) (Kd.R_far (p := ⟨gb600, 2, none⟩) (Kd.R_far (p := ⟨gb600, 1, none⟩) (Kd.R_far (p := ⟨gb600, 0, none⟩) (Kd.R_types HO583.out BK600.out (by decide)) (fun _ hk => hk.2) (.int .i64 t594)) (fun _ hk => hk.2) (.int .i64 t595)) (fun _ hk => hk.2) (.int .i64 t596)) (fun _ hk => hk.2) (.int .i64 t597)) (fun _ hk => hk.1.2))⟩
           have n1_ : Aside0 (Kd.R (Kd.int .u8) 5 ((((w33.setCell ⟨gb600, 0, none⟩ (.int .i64 t594)).setCell ⟨gb600, 1, none⟩ (.int .i64 t595)).setCell ⟨gb600, 2, none⟩ (.int .i64 t596)).setCell ⟨gb600, 3, none⟩ (.int .i64 t597)) w.heap.size (fun k_ => some k_ ≠ (v582 : Value).ownBlock) v592 t591) := ⟨(Kd.R_mono (Kd.R_far (p := ⟨gb600, 3, none⟩) (Kd.R_far (p := ⟨gb600, 2, none⟩) (Kd.R_far (p := ⟨gb600, 1, none⟩) (Kd.R_far (p := ⟨gb600, 0, none⟩) (Kd.R_types HO593.out BK600.out (by decide)) (fun _ hk => hk.2) (.int .i64 t594)) (fun _ hk => hk.2) (.int .i64 t595)) (fun _ hk => hk.2) (.int .i64 t596)) (fun _ hk => hk.2) (.int .i64 t597)) (fun _ hk => hk.1.2))⟩
           have n2_ : Aside0 (((((w33.setCell ⟨gb600, 0, none⟩ (.int .i64 t594)).setCell ⟨gb600, 1, none⟩ (.int .i64 t595)).setCell ⟨gb600, 2, none⟩ (.int .i64 t596)).setCell ⟨gb600, 3, none⟩ (.int .i64 t597)).heap[gb578]? = some (.cells #[.int .i64 a0_0, .int .i64 a0_1, .int .i64 a0_2, .int .i64 a0_3, .int .i64 a0_4, .int .i64 a0_5, .int .i64 a0_6] 23 (0, 0))) := ⟨(far4 BK578.out NB578_600.out)⟩
           have n3_ : Aside0 (((((w33.setCell ⟨gb600, 0, none⟩ (.int .i64 t594)).setCell ⟨gb600, 1, none⟩ (.int .i64 t595)).setCell ⟨gb600, 2, none⟩ (.int .i64 t596)).setCell ⟨gb600, 3, none⟩ (.int .i64 t597)).heap[gb590]? = some (.cells #[.int .i64 t584, .int .i64 t585, .int .i64 t586, .int .i64 t587] 26 (0, 0))) := ⟨(far4 BK590.out NB590_600.out)⟩
           have n4_ : Aside0 (((((w33.setCell ⟨gb600, 0, none⟩ (.int .i64 t594)).setCell ⟨gb600, 1, none⟩ (.int .i64 t595)).setCell ⟨gb600, 2, none⟩ (.int .i64 t596)).setCell ⟨gb600, 3, none⟩ (.int .i64 t597)).heap[gb600]? = some (.cells #[.int .i64 t594, .int .i64 t595, .int .i64 t596, .int .i64 t597] 26 (0, 0))) := ⟨(put4 BK600.out)⟩
           have n5_ : Aside0 (Below w.heap.size w ((((w33.setCell ⟨gb600, 0, none⟩ (.int .i64 t594)).setCell ⟨gb600, 1, none⟩ (.int .i64 t595)).setCell ⟨gb600, 2, none⟩ (.int .i64 t596)).setCell ⟨gb600, 3, none⟩ (.int .i64 t597))) := ⟨by repeat (first | (with_reducible first | exact HB.out | apply below_alloc | apply pw_below_drewN | apply below_drew1 | refine below_set ?_ GE578.out | refine below_set ?_ GE590.out | refine below_set ?_ GE600.out) | exact HB.out)⟩
           (try clear HO583)
           (try clear HO593)
           (try clear BK578)
           (try clear BK590)
           (try clear BK600)
           (try clear HB)
           generalize ((((w33.setCell ⟨gb600, 0, none⟩ (.int .i64 t594)).setCell ⟨gb600, 1, none⟩ (.int .i64 t595)).setCell ⟨gb600, 2, none⟩ (.int .i64 t596)).setCell ⟨gb600, 3, none⟩ (.int .i64 t597)) = w37 at n0_ n1_ n2_ n3_ n4_ n5_ ⊢
           have HO583 := n0_
           have HO593 := n1_
           have BK578 := n2_
           have BK590 := n3_
           have BK600 := n4_
           have HB := n5_
           clear n0_ n1_ n2_ n3_ n4_ n5_
           replace HO583 := ak_ (Kd.R_drew HO583.out)
           replace HO593 := ak_ (Kd.R_drew HO593.out)
           replace BK578 := ak_ (blk_drew BK578.out)
           replace BK590 := ak_ (blk_drew BK590.out)
           replace BK600 := ak_ (blk_drew BK600.out)
           replace HB := ak_ (below_drew1 HB.out)
           obtain ⟨Ao39, co39, eo39⟩ := Kd.R_slice HO583.out
           (subst eo39)
           obtain ⟨Ao40, co40, eo40⟩ := Kd.R_slice HO593.out
           (subst eo40)
           refine start_ (n := 28) (S := fun w' => w'.cell? ⟨gb590, 0, none⟩ = some (.int .i64 t584) ∧ w'.cell? ⟨gb590, 1, none⟩ = some (.int .i64 t585) ∧ w'.cell? ⟨gb590, 2, none⟩ = some (.int .i64 t586) ∧ w'.cell? ⟨gb590, 3, none⟩ = some (.int .i64 t587) ∧ w'.cell? ⟨gb600, 0, none⟩ = some (.int .i64 t594) ∧ w'.cell? ⟨gb600, 1, none⟩ = some (.int .i64 t595) ∧ w'.cell? ⟨gb600, 2, none⟩ = some (.int .i64 t596) ∧ w'.cell? ⟨gb600, 3, none⟩ = some (.int .i64 t597) ∧ w'.cell? ⟨gb578, 0, none⟩ = some (.int .i64 a0_0) ∧ w'.cell? ⟨gb578, 1, none⟩ = some (.int .i64 a0_1) ∧ w'.cell? ⟨gb578, 2, none⟩ = some (.int .i64 a0_2) ∧ w'.cell? ⟨gb578, 3, none⟩ = some (.int .i64 a0_3) ∧ w'.cell? ⟨gb578, 4, none⟩ = some (.int .i64 a0_4) ∧ w'.cell? ⟨gb578, 5, none⟩ = some (.int .i64 a0_5) ∧ w'.cell? ⟨gb578, 6, none⟩ = some (.int .i64 a0_6)) (ds := []) #[false, false, false, false, false, false, false, false, false, false, false, false, false, false, false, false, false, false, false, false, false, false, false, false, false, false, false, false] (by kernel_rfl) rfl rfl ⟨(blk_cell BK590.out 0).trans rfl, (blk_cell BK590.out 1).trans rfl, (blk_cell BK590.out 2).trans rfl, (blk_cell BK590.out 3).trans rfl, (blk_cell BK600.out 0).trans rfl, (blk_cell BK600.out 1).trans rfl, (blk_cell BK600.out 2).trans rfl, (blk_cell BK600.out 3).trans rfl, (blk_cell BK578.out 0).trans rfl, (blk_cell BK578.out 1).trans rfl, (blk_cell BK578.out 2).trans rfl, (blk_cell BK578.out 3).trans rfl, (blk_cell BK578.out 4).trans rfl, (blk_cell BK578.out 5).trans rfl, (blk_cell BK578.out 6).trans rfl⟩ (fun hHeld => ?_); refine with_tabW incunablelaw08_PageDecodes.tab7 incunablelaw08_PageDecodes.bits7 (fun HT_ HW_ => ?_)
           generalize w37.drew = w38 at HO583 HO593 BK578 BK590 BK600 HB hHeld ⊢
           refine pu 0 (some 39) #[true, false, false, false, false, false, false, false, false, false, false, false, false, false, false, false, false, false, false, false, false, false, false, false, false, false, false, false] HT_.out rfl rfl ?_
           refine pu 1 (some 40) #[true, true, false, false, false, false, false, false, false, false, false, false, false, false, false, false, false, false, false, false, false, false, false, false, false, false, false, false] HT_.out rfl rfl ?_
           refine one_ (i := 2) (N := some 41) #[true, true, true, false, false, false, false, false, false, false, false, false, false, false, false, false, false, false, false, false, false, false, false, false, false, false, false, false] rfl rfl (one_of HT_.out (by kernel_rfl)) (by decide) (fun K hK => ?_)
           refine goes_ Try.func20 (by kernel_rfl) rfl #[.slice Ao39 t581.length co39, .slice Ao40 t591.length co40] (by rfl) rfl rfl (by (try simp only [List.map_toArray, List.map_cons, List.map_nil]); first | done | rfl | (simp only [List.length_drop, List.length_take]; rfl)) ?_
           with_reducible refine (incunableref01_Same.calls kj14 _ _ t581 _ _ t591 true _ ?side1 ?side2 ?side3 ?side4 A19.out).mono ?_
           (case side1 => exact (Kd.R_reads' HO583.out).2.2)
           (case side2 => exact (Kd.R_reads' HO583.out).2.1)
           (case side3 => exact (Kd.R_reads' HO593.out).2.2)
           (case side4 => exact (Kd.R_reads' HO593.out).2.1)
           rintro e w' ⟨rfl, ⟨nd, rfl⟩⟩
           refine ⟨_, rfl, ?_⟩
           refine hK.out _ _ ⟨(blk_cell BK590.out 0).trans rfl, (blk_cell BK590.out 1).trans rfl, (blk_cell BK590.out 2).trans rfl, (blk_cell BK590.out 3).trans rfl, (blk_cell BK600.out 0).trans rfl, (blk_cell BK600.out 1).trans rfl, (blk_cell BK600.out 2).trans rfl, (blk_cell BK600.out 3).trans rfl, (blk_cell BK578.out 0).trans rfl, (blk_cell BK578.out 1).trans rfl, (blk_cell BK578.out 2).trans rfl, (blk_cell BK578.out 3).trans rfl, (blk_cell BK578.out 4).trans rfl, (blk_cell BK578.out 5).trans rfl, (blk_cell BK578.out 6).trans rfl⟩ (fun hHeld => ?_)
           clear hK K
           refine norm_ (a' := ?_) ?_ ?_
           rotate_left
           ·show Act.put _ (some 41) _ = _
            simp only [Act.put, List.setIfInBounds_toArray, List.set_cons_zero, List.set_cons_succ, i64_w, i32_w]
            rfl
           refine pu 3 (some 42) #[true, true, true, true, false, false, false, false, false, false, false, false, false, false, false, false, false, false, false, false, false, false, false, false, false, false, false, false] HT_.out rfl rfl ?_
           refine take_ (i := 4) (N := some 43) (v := ?_) (a' := ?_) #[true, true, true, true, true, false, false, false, false, false, false, false, false, false, false, false, false, false, false, false, false, false, false, false, false, false, false, false] rfl rfl (take_ofW HT_.out HW_.out (by kernel_rfl)) (fun _ _ _ h => h) (Or.inl ⟨by rfl, ?_⟩) hHeld ?_ ?_
           rotate_left
           ·rintro w' ⟨s0, s1, s2, s3, s4, s5, s6, s7, s8, s9, s10, s11, s12, s13, s14⟩
            go_simp
            with_reducible rfl
           rotate_left
           ·simp only [Act.put, List.setIfInBounds_toArray, List.set_cons_zero, List.set_cons_succ, i64_w, i32_w]
            rfl
           refine take_ (i := 5) (N := some 44) (v := ?_) (a' := ?_) #[true, true, true, true, true, true, false, false, false, false, false, false, false, false, false, false, false, false, false, false, false, false, false, false, false, false, false, false] rfl rfl (take_ofW HT_.out HW_.out (by kernel_rfl)) (fun _ _ _ h => h) (Or.inl ⟨by rfl, ?_⟩) hHeld ?_ ?_
           rotate_left
           ·rintro w' ⟨s0, s1, s2, s3, s4, s5, s6, s7, s8, s9, s10, s11, s12, s13, s14⟩
            go_simp
            with_reducible rfl
           rotate_left
           ·simp only [Act.put, List.setIfInBounds_toArray, List.set_cons_zero, List.set_cons_succ, i64_w, i32_w]
            rfl
           refine pu 6 (some 45) #[true, true, true, true, true, true, true, false, false, false, false, false, false, false, false, false, false, false, false, false, false, false, false, false, false, false, false, false] HT_.out rfl rfl ?_
           refine pu 7 (some 46) #[true, true, true, true, true, true, true, true, false, false, false, false, false, false, false, false, false, false, false, false, false, false, false, false, false, false, false, false] HT_.out rfl rfl ?_
           refine pu 8 (some 47) #[true, true, true, true, true, true, true, true, true, false, false, false, false, false, false, false, false, false, false, false, false, false, false, false, false, false, false, false] HT_.out rfl rfl ?_
           refine pu 9 (some 48) #[true, true, true, true, true, true, true, true, true, true, false, false, false, false, false, false, false, false, false, false, false, false, false, false, false, false, false, false] HT_.out rfl rfl ?_
           refine pu 10 (some 49) #[true, true, true, true, true, true, true, true, true, true, true, false, false, false, false, false, false, false, false, false, false, false, false, false, false, false, false, false] HT_.out rfl rfl ?_
           refine pu 11 (some 50) #[true, true, true, true, true, true, true, true, true, true, true, true, false, false, false, false, false, false, false, false, false, false, false, false, false, false, false, false] HT_.out rfl rfl ?_
           refine pu 12 (some 51) #[true, true, true, true, true, true, true, true, true, true, true, true, true, false, false, false, false, false, false, false, false, false, false, false, false, false, false, false] HT_.out rfl rfl ?_
           refine pu 13 (some 52) #[true, true, true, true, true, true, true, true, true, true, true, true, true, true, false, false, false, false, false, false, false, false, false, false, false, false, false, false] HT_.out rfl rfl ?_
           refine pu 14 (some 53) #[true, true, true, true, true, true, true, true, true, true, true, true, true, true, true, false, false, false, false, false, false, false, false, false, false, false, false, false] HT_.out rfl rfl ?_
           refine pu 15 (some 54) #[true, true, true, true, true, true, true, true, true, true, true, true, true, true, true, true, false, false, false, false, false, false, false, false, false, false, false, false] HT_.out rfl rfl ?_
           refine pu 16 (some 55) #[true, true, true, true, true, true, true, true, true, true, true, true, true, true, true, true, true, false, false, false, false, false, false, false, false, false, false, false] HT_.out rfl rfl ?_
           refine pu 17 (some 56) #[true, true, true, true, true, true, true, true, true, true, true, true, true, true, true, true, true, true, false, false, false, false, false, false, false, false, false, false] HT_.out rfl rfl ?_
           refine pu 18 (some 57) #[true, true, true, true, true, true, true, true, true, true, true, true, true, true, true, true, true, true, true, false, false, false, false, false, false, false, false, false] HT_.out rfl rfl ?_
           refine pu 20 (some 59) #[true, true, true, true, true, true, true, true, true, true, true, true, true, true, true, true, true, true, true, false, true, false, false, false, false, false, false, false] HT_.out rfl rfl ?_
           refine pu 23 (some 62) #[true, true, true, true, true, true, true, true, true, true, true, true, true, true, true, true, true, true, true, false, true, false, false, true, false, false, false, false] HT_.out rfl rfl ?_
           refine take_ (i := 19) (N := some 58) (v := ?_) (a' := ?_) #[true, true, true, true, true, true, true, true, true, true, true, true, true, true, true, true, true, true, true, true, true, false, false, true, false, false, false, false] rfl rfl (take_ofW HT_.out HW_.out (by kernel_rfl)) (fun _ _ _ h => h) (Or.inl ⟨by rfl, ?_⟩) hHeld ?_ ?_
           rotate_left
           ·rintro w' ⟨s0, s1, s2, s3, s4, s5, s6, s7, s8, s9, s10, s11, s12, s13, s14⟩
            go_simp
            with_reducible rfl
           rotate_left
           ·simp only [Act.put, List.setIfInBounds_toArray, List.set_cons_zero, List.set_cons_succ, i64_w, i32_w]
            rfl
           refine take_ (i := 22) (N := some 61) (v := ?_) (a' := ?_) #[true, true, true, true, true, true, true, true, true, true, true, true, true, true, true, true, true, true, true, true, true, false, true, true, false, false, false, false] rfl rfl (take_ofW HT_.out HW_.out (by kernel_rfl)) (fun _ _ _ h => h) (Or.inl ⟨by rfl, ?_⟩) hHeld ?_ ?_
           rotate_left
           ·rintro w' ⟨s0, s1, s2, s3, s4, s5, s6, s7, s8, s9, s10, s11, s12, s13, s14⟩
            go_simp
            with_reducible rfl
           rotate_left
           ·simp only [Act.put, List.setIfInBounds_toArray, List.set_cons_zero, List.set_cons_succ, i64_w, i32_w]
            rfl
           refine one_ (i := 21) (N := some 60) #[true, true, true, true, true, true, true, true, true, true, true, true, true, true, true, true, true, true, true, true, true, true, true, true, false, false, false, false] rfl rfl (one_of HT_.out (by kernel_rfl)) (by decide) (fun K hK => ?_)
           refine goes_ Try.func31 (by kernel_rfl) rfl #[.agg #[.int .i64 a0_0, .int .i64 a0_1, .int .i64 a0_2, .int .i64 a0_3, .int .i64 a0_4, .int .i64 a0_5, .int .i64 a0_6], .slice A1 l1.length c1] (by rfl) rfl rfl (by (try simp only [List.map_toArray, List.map_cons, List.map_nil]); first | done | rfl | (simp only [List.length_drop, List.length_take]; rfl)) ?_
           with_reducible refine (page_Marked.calls kj14 a0_0 a0_1 a0_2 a0_3 a0_4 a0_5 a0_6 _ _ l1 t602 _ ?side1 ?side2 A24.out).mono ?_
           (case side1 => exact (Kd.C_below HR1.out (by repeat (first | (with_reducible first | exact HB.out | apply below_alloc | apply pw_below_drewN | apply below_drew1 | refine below_set ?_ GE578.out | refine below_set ?_ GE590.out | refine below_set ?_ GE600.out) | exact HB.out))))
           (case side2 => exact HC1.out)
           rintro e w41 ⟨rfl, hb⟩
           refine ⟨_, rfl, ?_⟩
           replace HO583 := ak_ (Kd.R_below (by (with_reducible repeat (first | apply Kd.R_alloc | apply Kd.R_drewN | apply Kd.R_drew)); exact HO583.out) hb)
           replace HO593 := ak_ (Kd.R_below (by (with_reducible repeat (first | apply Kd.R_alloc | apply Kd.R_drewN | apply Kd.R_drew)); exact HO593.out) hb)
           replace BK578 := ak_ (blk_below (g := gb578) (o := .cells #[.int .i64 a0_0, .int .i64 a0_1, .int .i64 a0_2, .int .i64 a0_3, .int .i64 a0_4, .int .i64 a0_5, .int .i64 a0_6] 23 (0, 0)) (by (with_reducible repeat (first | apply blk_drewN | apply blk_drew | apply blk_alloc)); exact BK578.out) hb)
           replace BK590 := ak_ (blk_below (g := gb590) (o := .cells #[.int .i64 t584, .int .i64 t585, .int .i64 t586, .int .i64 t587] 26 (0, 0)) (by (with_reducible repeat (first | apply blk_drewN | apply blk_drew | apply blk_alloc)); exact BK590.out) hb)
           replace BK600 := ak_ (blk_below (g := gb600) (o := .cells #[.int .i64 t594, .int .i64 t595, .int .i64 t596, .int .i64 t597] 26 (0, 0)) (by (with_reducible repeat (first | apply blk_drewN | apply blk_drew | apply blk_alloc)); exact BK600.out) hb)
           replace HB := ak_ (below_step (by repeat (first | (with_reducible first | exact HB.out | apply below_alloc | apply pw_below_drewN | apply below_drew1 | refine below_set ?_ GE578.out | refine below_set ?_ GE590.out | refine below_set ?_ GE600.out) | exact HB.out)) hb)
           (try clear hb)
           refine hK.out _ _ ⟨(blk_cell BK590.out 0).trans rfl, (blk_cell BK590.out 1).trans rfl, (blk_cell BK590.out 2).trans rfl, (blk_cell BK590.out 3).trans rfl, (blk_cell BK600.out 0).trans rfl, (blk_cell BK600.out 1).trans rfl, (blk_cell BK600.out 2).trans rfl, (blk_cell BK600.out 3).trans rfl, (blk_cell BK578.out 0).trans rfl, (blk_cell BK578.out 1).trans rfl, (blk_cell BK578.out 2).trans rfl, (blk_cell BK578.out 3).trans rfl, (blk_cell BK578.out 4).trans rfl, (blk_cell BK578.out 5).trans rfl, (blk_cell BK578.out 6).trans rfl⟩ (fun hHeld => ?_)
           clear hK K
           refine norm_ (a' := ?_) ?_ ?_
           rotate_left
           ·show Act.put _ (some 60) _ = _
            simp only [Act.put, List.setIfInBounds_toArray, List.set_cons_zero, List.set_cons_succ, i64_w, i32_w]
            rfl
           refine one_ (i := 24) (N := some 63) #[true, true, true, true, true, true, true, true, true, true, true, true, true, true, true, true, true, true, true, true, true, true, true, true, true, false, false, false] rfl rfl (one_of HT_.out (by kernel_rfl)) (by decide) (fun K hK => ?_)
           refine goes_ Try.func32 (by kernel_rfl) rfl #[.agg #[.int .i64 a0_0, .int .i64 a0_1, .int .i64 a0_2, .int .i64 a0_3, .int .i64 a0_4, .int .i64 a0_5, .int .i64 a0_6], .slice A1 l1.length c1] (by rfl) rfl rfl (by (try simp only [List.map_toArray, List.map_cons, List.map_nil]); first | done | rfl | (simp only [List.length_drop, List.length_take]; rfl)) ?_
           with_reducible refine (incunableref08_Marked.calls kj14 a0_0 a0_1 a0_2 a0_3 a0_4 a0_5 a0_6 _ _ l1 t603 _ ?side1 ?side2 A25.out).mono ?_
           (case side1 => exact (Kd.C_below HR1.out HB.out))
           (case side2 => exact HC1.out)
           rintro e w42 ⟨rfl, hb⟩
           refine ⟨_, rfl, ?_⟩
           replace HO583 := ak_ (Kd.R_below HO583.out hb)
           replace HO593 := ak_ (Kd.R_below HO593.out hb)
           replace BK578 := ak_ (blk_below BK578.out hb)
           replace BK590 := ak_ (blk_below BK590.out hb)
           replace BK600 := ak_ (blk_below BK600.out hb)
           replace HB := ak_ (below_step HB.out hb)
           (try clear hb)
           refine hK.out _ _ ⟨(blk_cell BK590.out 0).trans rfl, (blk_cell BK590.out 1).trans rfl, (blk_cell BK590.out 2).trans rfl, (blk_cell BK590.out 3).trans rfl, (blk_cell BK600.out 0).trans rfl, (blk_cell BK600.out 1).trans rfl, (blk_cell BK600.out 2).trans rfl, (blk_cell BK600.out 3).trans rfl, (blk_cell BK578.out 0).trans rfl, (blk_cell BK578.out 1).trans rfl, (blk_cell BK578.out 2).trans rfl, (blk_cell BK578.out 3).trans rfl, (blk_cell BK578.out 4).trans rfl, (blk_cell BK578.out 5).trans rfl, (blk_cell BK578.out 6).trans rfl⟩ (fun hHeld => ?_)
           clear hK K
           refine norm_ (a' := ?_) ?_ ?_
           rotate_left
           ·show Act.put _ (some 63) _ = _
            simp only [Act.put, List.setIfInBounds_toArray, List.set_cons_zero, List.set_cons_succ, i64_w, i32_w]
            rfl
           refine pu 25 (some 64) #[true, true, true, true, true, true, true, true, true, true, true, true, true, true, true, true, true, true, true, true, true, true, true, true, true, true, false, false] HT_.out rfl rfl ?_
           refine pu 26 (some 65) #[true, true, true, true, true, true, true, true, true, true, true, true, true, true, true, true, true, true, true, true, true, true, true, true, true, true, true, false] HT_.out rfl rfl ?_
           refine pu 27 (some 4) #[true, true, true, true, true, true, true, true, true, true, true, true, true, true, true, true, true, true, true, true, true, true, true, true, true, true, true, true] HT_.out rfl rfl ?_
           refine done_ (done_of HT_.out (by kernel_rfl)) ?_
           try go_wp2
           go_ret
           exact ⟨by rfl, HB.out⟩
          ·rw [if_neg c23] at H
           exact absurd H (by simp)
         ·rw [if_neg c22] at H
          exact absurd H (by simp)
        ·rw [if_neg c21] at H
         exact absurd H (by simp)
       ·replace c20 := Bool.eq_false_iff.mpr c20
        subst c20
        rw [if_neg (show ¬ (false = true) by decide)] at H
        exact absurd H (by simp)
end Go.Proofs.Ytmehbabchakkpaa.QPageDecodes
namespace Go.Proofs.Ytmehbabchakkpaa.OpenKit
open Go.RowKit Go.Proofs.YtmehbabchakkpaaW.PrintWords Go.ChangeShapes Go.WideShapes
def Opens {α : Type} (P : Program) (t : TypeId) (d : Kd α) (wf : α → Prop) : Prop :=
 ∀ {H : Type} (enc : TypeId × Value → H) (W : World) (spare : Nat → Bool) (held : Bool) (fuel : Nat) (cs : List Value) (x : DataW H × List MemPlace),
  DataW.trod enc P W 0 spare held fuel t cs = some x → ∃ a, d.K W a cs ∧ wf a
section
variable {P : Program} {t e : TypeId}
theorem opens_int {k : IntKind} (ht : P.underlying t = some (.int k)) : Opens P t (Kd.int k) (fun a => (Lit.int k a).wf = true) := by
 intro H enc W spare held fuel cs x h
 obtain ⟨n, rfl, _, hw⟩ := DataW.trod_int ht h
 exact ⟨n, rfl, hw⟩
theorem cells_some {W : World} {a : Addr} {n : Nat} {cs : List Value} (h : W.cells? 0 a n = some cs) : cs.length = n ∧ ∀ i u, cs[i]? = some u → W.cell? (a.add i) = some u := by
 unfold World.cells? at h
 rw [if_pos (Nat.zero_le _)] at h
 have hl := mapM_some_length h
 rw [List.length_range] at hl
 refine ⟨hl, fun i u hu => ?_⟩
 have hi : i < n := by
  rw [← hl]
  exact (List.getElem?_eq_some_iff.1 hu).1
 have := mapM_some_get h i i (by simp [hi])
 rw [this, hu]
theorem opens_slice {α : Type} [Inhabited α] {d : Kd α} {wf : α → Prop} (ht : P.underlying t = some (.slice e)) (he : Opens P e d wf) (hsz : P.cellsOf e = d.sz) :
  Opens P t (Kd.slice e d) (fun xs => xs.length ≤ maxLen ∧ ∀ x ∈ xs, wf x) := by
 intro H enc W spare held fuel cs x h
 rcases Go.Deep.open_slice ht h with ⟨rfl, _⟩ | ⟨a, len, cap, m, n, D, Pl, rfl, _, hl, hm, hmm, _, hel⟩
 ·exact ⟨[], ⟨none, 0, rfl, Nat.le_refl _, ⟨rfl, Nat.zero_le _, fun h => absurd h (Nat.lt_irrefl 0)⟩⟩, Nat.zero_le _, by simp⟩
 have hlm : len ≤ m := by rw [hmm]; split <;> omega
 have hx : ∀ i, i < len → ∃ y : α, ∃ c : List Value, c.length = d.sz ∧ d.K W y c ∧ wf y ∧ ∀ j u, c[j]? = some u → W.cell? ((a.add (i * d.sz)).add j) = some u := by
  intro i hi
  obtain ⟨c, hc, hr⟩ := hel i (by omega)
  obtain ⟨y, hy, hw⟩ := he enc W spare held n c _ hr
  rw [hsz] at hc
  obtain ⟨h1, h2⟩ := cells_some hc
  exact ⟨y, c, h1, hy, hw, h2⟩
 obtain ⟨f, hf⟩ := Go.Deep.choose_lt hx
 have hlen : ((List.range len).map f).length = len := by simp
 have hmax : len ≤ maxLen := Nat.le_trans hl hm
 refine ⟨(List.range len).map f, ⟨some a, cap, by rw [hlen], by rw [hlen]; exact hl, ?_⟩, by rw [hlen]; exact hmax, ?_⟩
 ·refine ⟨rfl, by rw [hlen]; exact hmax, fun _ => ⟨a, rfl, fun j p hj => ?_⟩⟩
  have hj' : j < len := by
   have := (List.getElem?_eq_some_iff.1 hj).1
   rwa [hlen] at this
  have e1 : f j = p := by simpa [hj'] using hj
  subst e1
  obtain ⟨c, h1, h2, _, h3⟩ := hf j hj'
  exact ⟨c, h1, h2, fun i u hu => by rw [← Go.Deep.add_add]; exact h3 i u hu⟩
 ·intro y hy
  obtain ⟨i, hi, rfl⟩ := List.mem_map.1 hy
  obtain ⟨_, _, _, hw, _⟩ := hf i (List.mem_range.1 hi)
  exact hw
def OpensF {α : Type} (P : Program) (o : Nat) (fs : List Field) (d : Kd α) (wf : α → Prop) : Prop :=
 ∀ {H : Type} (enc : TypeId × Value → H) (W : World) (spare : Nat → Bool) (held : Bool) (n : Nat) (cs : List Value),
  (∀ f, f ∈ fs → ∃ x, DataW.trod enc P W 0 spare held n f.type ((cs.drop f.offset).take (P.cellsOf f.type)) = some x) → ∃ a, d.K W a ((cs.drop o).take d.sz) ∧ wf a
theorem opensF_one {α : Type} {d : Kd α} {wf : α → Prop} {f : Field} {o : Nat} (ho : f.offset = o) (he : Opens P f.type d wf) (hsz : P.cellsOf f.type = d.sz) : OpensF P o [f] d wf := by
 intro H enc W spare held n cs h
 obtain ⟨x, hx⟩ := h f (by simp)
 rw [ho, hsz] at hx
 exact he enc W spare held n _ _ hx
theorem opensF_cons {α β : Type} {d : Kd α} {d' : Kd β} {wf : α → Prop} {wf' : β → Prop} {f : Field} {fs : List Field} {o : Nat} (ho : f.offset = o) (he : Opens P f.type d wf) (hsz : P.cellsOf f.type = d.sz)
  (hr : OpensF P (o + d.sz) fs d' wf') : OpensF P o (f :: fs) (Kd.pair d d') (fun x => wf x.1 ∧ wf' x.2) := by
 intro H enc W spare held n cs h
 obtain ⟨x, hx⟩ := h f (by simp)
 rw [ho, hsz] at hx
 obtain ⟨a, ha, hwa⟩ := he enc W spare held n _ _ hx
 obtain ⟨b, hb, hwb⟩ := hr enc W spare held n cs fun g hg => h g (by simp [hg])
 refine ⟨(a, b), ⟨_, _, ?_, ha, hb⟩, hwa, hwb⟩
 show (cs.drop o).take (d.sz + d'.sz) = _
 rw [List.take_add, List.drop_drop]
theorem opens_struct {α β : Type} {d : Kd α} {wf : α → Prop} {fs : Array Field} (ht : P.underlying t = some (.struct fs)) (hf : OpensF P 0 fs.toList d wf) (hsz : P.cellsOf t = d.sz) (g : β → α) (mk : α → β) (hg : ∀ x, g (mk x) = x) :
  Opens P t (Kd.iso d g) (fun y => wf (g y)) := by
 intro H enc W spare held fuel cs x h
 obtain ⟨xs, n, _, _, hl, hn, hfs⟩ := DataW.trod_struct ht h
 obtain ⟨a, ha, hw⟩ := hf enc W spare held n cs (by
  intro f hf
  obtain ⟨i, hi, e⟩ := List.getElem_of_mem hf
  have e' : fs[i]? = some f := by
   rw [← Array.getElem?_toList]
   rw [List.getElem?_eq_getElem hi, e]
  have hlt : i < xs.length := by rw [hn]; simpa using hi
  exact ⟨xs[i], by rw [hfs i f e', List.getElem?_eq_getElem hlt]⟩)
 refine ⟨mk a, ?_, ?_⟩
 ·show d.K W (g (mk a)) cs
  rw [hg]
  rwa [List.drop_zero, List.take_of_length_le (by omega)] at ha
 ·show wf (g (mk a))
  rw [hg]
  exact hw
theorem sized_any {H : Type} {enc : TypeId × Value → H} {W : World} {base : Nat} {spare : Nat → Bool} {held : Bool} {a : Option Addr} {len cap : Nat} {d : DataW H} {ps : List MemPlace} {ts : List TypeId} {ds : List (DataW H)} {j : Nat}
  (hsz : (DataW.weightsEach P ts ds).all (· ≤ reachBytes) = true) (ht : ts[j]? = some t) (hd : ds[j]? = some d) (hu : P.underlying t = some (.slice e)) {B : Nat} (hB : P.bytesOf e = B)
  (h : DataW.Trod enc P W base spare held t (.slice a len cap) d ps) : len * B ≤ 140737488351232 := by
 obtain ⟨fuel, hf⟩ := h
 rcases Go.Deep.open_slice hu hf with ⟨hcs, _⟩ | ⟨x, l, c, m, n, D, Pl, hcs, _, hl, _, _, hx, _⟩
 ·simp [Value.cells] at hcs
  obtain ⟨rfl, rfl, rfl⟩ := hcs
  simp
 ·simp [Value.cells] at hcs
  obtain ⟨rfl, rfl, rfl⟩ := hcs
  obtain ⟨hx, _⟩ := Prod.mk.inj hx
  subst hx
  have z := sized_slice hsz ht hd hu
  rw [hB] at z
  refine Nat.le_trans (Nat.mul_le_mul_right _ ?_) z
  simp
end
end Go.Proofs.Ytmehbabchakkpaa.OpenKit
namespace Go.Proofs.Ytmehbabchakkpaa.Pure
open Go.RowKit Go.Proofs.Ytmehbabchakkpaa.QPageDecodes Go.Proofs.YtmehbabchakkpaaW.PrintWords
def StmPageDecodes : Prop := ∀ (x0 : S23) (l1 : List Int), ((fun y : S23 => (fun a : Int => (Lit.int .i64 a).wf = true) y.f0 ∧ (fun a : Int => (Lit.int .i64 a).wf = true) y.f1 ∧ (fun a : Int => (Lit.int .i64 a).wf = true) y.f2 ∧ (fun a : Int => (Lit.int .i64 a).wf = true) y.f3 ∧ (fun a : Int => (Lit.int .i64 a).wf = true) y.f4 ∧ (fun a : Int => (Lit.int .i64 a).wf = true) y.f5 ∧ (fun a : Int => (Lit.int .i64 a).wf = true) y.f6) x0) → (l1.length * 1 ≤ 140737488351232) → ((fun xs : List Int => xs.length ≤ maxLen ∧ ∀ x ∈ xs, (fun a : Int => (Lit.int .u8 a).wf = true) x) l1) → ∃ k, incunablelaw08_PageDecodes.f k x0.f0 x0.f1 x0.f2 x0.f3 x0.f4 x0.f5 x0.f6 l1 = some true
end Go.Proofs.Ytmehbabchakkpaa.Pure
namespace Go.Proofs.Ytmehbabchakkpaa.EvKit
open Go.RowKit Go.Proofs.YtmehbabchakkpaaW.PrintWords
theorem Ev.pos {α : Type} {c : Prop} [Decidable c] {f g : Nat → Option α} {r : α} (h : c) (k : Ev f r) : Ev (fun n => if c then f n else g n) r := by
 obtain ⟨K, k⟩ := k
 exact ⟨K, fun n hn => by simp only [if_pos h]; exact k n hn⟩
theorem Ev.neg {α : Type} {c : Prop} [Decidable c] {f g : Nat → Option α} {r : α} (h : ¬ c) (k : Ev g r) : Ev (fun n => if c then f n else g n) r := by
 obtain ⟨K, k⟩ := k
 exact ⟨K, fun n hn => by simp only [if_neg h]; exact k n hn⟩
theorem Ev.ite {α : Type} {c : Prop} [Decidable c] {f g : Nat → Option α} {r : α} (h : c → Ev f r) (k : ¬ c → Ev g r) : Ev (fun n => if c then f n else g n) r := by
 by_cases hc : c
 ·exact Ev.pos hc (h hc)
 ·exact Ev.neg hc (k hc)
theorem Ev.eq {α : Type} {f : Nat → Option α} {r r' : α} (k : Ev f r) (h : r = r') : Ev f r' := h ▸ k
theorem Ev.ret {α : Type} {r r' : α} (h : r = r') : Ev (fun _ => some r) r' := h ▸ Ev.now r
theorem Ev.bindv {α β : Type} {o : Option α} {f : Nat → α → Option β} {a : α} {r : β} (h : o = some a) (k : Ev (fun n => f n a) r) : Ev (fun n => o.bind (f n)) r := by
 subst h
 exact k
theorem rd_nat {l : List Int} {i : Nat} (h : i < l.length) : rd l (i : Int) = l[i] := by
 simp [rd, h]
theorem rd_mem {l : List Int} {i : Int} (h0 : 0 ≤ i) (h : i < (l.length : Int)) : rd l i ∈ l := by
 obtain ⟨n, rfl⟩ := Int.eq_ofNat_of_zero_le h0
 have h' : n < l.length := by exact_mod_cast h
 rw [rd_nat h']
 exact List.getElem_mem h'
theorem drop_rd {l : List Int} {i : Nat} (h : i < l.length) : l.drop i = rd l (i : Int) :: l.drop (i + 1) := by
 rw [rd_nat h]
 exact List.drop_eq_getElem_cons h
theorem w64_id {x : Int} (h0 : -9223372036854775808 ≤ x) (h : x ≤ 9223372036854775807) : wrap64 x = x := by
 unfold wrap64
 omega
theorem w64_succ {i : Nat} (h : i < 9000000000000000000) : wrap64 ((i : Int) + 1) = ((i + 1 : Nat) : Int) := by
 unfold wrap64
 omega
theorem w_u64 (n : Int) (h₀ : 0 ≤ n) (h₁ : n < 18446744073709551616) : IntKind.u64.wrap n = n := by
 simp [IntKind.wrap, IntKind.bits, IntKind.signed]
 omega
theorem w_u32 (n : Int) (h₀ : 0 ≤ n) (h₁ : n < 4294967296) : IntKind.u32.wrap n = n := by
 simp [IntKind.wrap, IntKind.bits, IntKind.signed]
 omega
theorem w_u16 (n : Int) (h₀ : 0 ≤ n) (h₁ : n < 65536) : IntKind.u16.wrap n = n := by
 simp [IntKind.wrap, IntKind.bits, IntKind.signed]
 omega
theorem w_u8 (n : Int) (h₀ : 0 ≤ n) (h₁ : n < 256) : IntKind.u8.wrap n = n := by
 simp [IntKind.wrap, IntKind.bits, IntKind.signed]
 omega
theorem wf_u8 {x : Int} (h : (Lit.int .u8 x).wf = true) : 0 ≤ x ∧ x < 256 := by
 have h1 : IntKind.u8.min = 0 := by decide
 have h2 : IntKind.u8.max = 255 := by decide
 simp only [Lit.wf, h1, h2, Bool.and_eq_true, decide_eq_true_eq] at h
 omega
end Go.Proofs.Ytmehbabchakkpaa.EvKit
namespace Go.Proofs.Ytmehbabchakkpaa.QPageDecodes
open Go.RowKit Go.Proofs.YtmehbabchakkpaaW.PrintWords Go.Proofs.YtmehbabchakkpaaW.PrintLast Go.Proofs.YtmehbabchakkpaaW.PrintMore
attribute [local go_sem] max2_int min2_int max_two min_two max_three min_three max_four min_four
set_option linter.unusedVariables false
set_option linter.unusedSimpArgs false
end Go.Proofs.Ytmehbabchakkpaa.QPageDecodes
namespace Go.Proofs.Ytmehbabchakkpaa.PurePageDecodes
open Go.RowKit Go.Proofs.Ytmehbabchakkpaa.QPageDecodes Go.Proofs.YtmehbabchakkpaaW.PrintWords Go.Proofs.YtmehbabchakkpaaW.PrintLast Go.Proofs.YtmehbabchakkpaaW.PrintMore Go.Proofs.Ytmehbabchakkpaa.EvKit
def okG (a0 a1 a2 a3 a4 a5 a6 : Int) : Prop := (geom_Check_rows a0 a1 a2 a3 a4 a5 a6).all geom_Check_in = true ∧ Int.tmod a1 a0 = 0 ∧ Int.tmod a2 2 = 0
instance (a0 a1 a2 a3 a4 a5 a6 : Int) : Decidable (okG a0 a1 a2 a3 a4 a5 a6) := inferInstanceAs (Decidable (_ ∧ _))
section
variable {a0 a1 a2 a3 a4 a5 a6 : Int}
theorem check_eq : geom_Check.f a0 a1 a2 a3 a4 a5 a6 = some (if okG a0 a1 a2 a3 a4 a5 a6 then 0 else 2) := rfl
theorem in_iff (x lo hi : Int) : geom_Check_in (x, lo, hi) = true ↔ lo ≤ x ∧ x ≤ hi := by
 show (decide (lo ≤ x) && decide (x ≤ hi)) = true ↔ _
 rw [Bool.and_eq_true, decide_eq_true_eq, decide_eq_true_eq]
theorem rows_iff : (geom_Check_rows a0 a1 a2 a3 a4 a5 a6).all geom_Check_in = true ↔ (1 ≤ a0 ∧ a0 ≤ 4) ∧ (2 ≤ a1 ∧ a1 ≤ 256) ∧ (4 ≤ a2 ∧ a2 ≤ 64) ∧ (1 ≤ a3 ∧ a3 ≤ 16) ∧ (4 ≤ a4 ∧ a4 ≤ 512) ∧ (1 ≤ a5 ∧ a5 ≤ 8) ∧ (1 ≤ a6 ∧ a6 ≤ 8) := by
 unfold geom_Check_rows
 simp only [List.all_cons, List.all_nil, Bool.and_true, Bool.and_eq_true, in_iff]
theorem okG_bounds (h : okG a0 a1 a2 a3 a4 a5 a6) : (1 ≤ a3 ∧ a3 ≤ 16) ∧ (4 ≤ a4 ∧ a4 ≤ 512) := by
 obtain ⟨_, _, _, h3, h4, _⟩ := rows_iff.1 h.1
 exact ⟨h3, h4⟩
theorem mul_bound {x y : Int} (hx : 1 ≤ x ∧ x ≤ 16) (hy : 4 ≤ y ∧ y ≤ 600) : 4 ≤ x * y ∧ x * y ≤ 9600 := by
 have h1 := Int.mul_le_mul hx.2 hy.2 (by omega) (by decide)
 have h2 := Int.mul_le_mul hx.1 hy.1 (by decide) (by omega)
 omega
theorem data_eq (h : okG a0 a1 a2 a3 a4 a5 a6) : geom_Data.f a0 a1 a2 a3 a4 a5 a6 = some (a3 * a4) := by
 obtain ⟨h3, h4⟩ := okG_bounds h
 have := mul_bound h3 ⟨h4.1, by omega⟩
 unfold geom_Data.f
 rw [check_eq, if_pos h]
 show (if (0 : Int) = 0 then some (wrap64 (a3 * a4)) else some 0) = _
 rw [if_pos rfl, w64_id (by omega) (by omega)]
theorem raw_eq : geom_Raw.f a0 a1 a2 a3 a4 a5 a6 = some (if okG a0 a1 a2 a3 a4 a5 a6 then a3 * (a4 + 2) + 31 else 0) := by
 unfold geom_Raw.f
 rw [check_eq]
 by_cases h : okG a0 a1 a2 a3 a4 a5 a6
 ·rw [if_pos h, if_pos h]
  obtain ⟨h3, h4⟩ := okG_bounds h
  have := mul_bound h3 (y := a4 + 2) ⟨by omega, by omega⟩
  show (if (0 : Int) = 0 then some (wrap64 (wrap64 (wrap64 (wrap64 (a3 * wrap64 (a4 + 2)) + 28) + 2) + 1)) else some 0) = _
  rw [if_pos rfl, w64_id (x := a4 + 2) (by omega) (by omega), w64_id (x := a3 * (a4 + 2)) (by omega) (by omega), w64_id (x := a3 * (a4 + 2) + 28) (by omega) (by omega), w64_id (x := a3 * (a4 + 2) + 28 + 2) (by omega) (by omega), w64_id (by omega) (by omega)]
  congr 1
  omega
 ·rw [if_neg h, if_neg h]
  rfl
theorem of_eq : page_of.f a0 a1 a2 a3 a4 a5 a6 = some (a0, a1, a2, a3, a4, a5, a6, wrap64 (a3 * wrap64 (a4 + 2)), decide (okG a0 a1 a2 a3 a4 a5 a6)) := by
 unfold page_of.f
 rw [check_eq]
 by_cases h : okG a0 a1 a2 a3 a4 a5 a6
 ·rw [if_pos h, decide_eq_true h]
  rfl
 ·rw [if_neg h, decide_eq_false h]
  rfl
theorem from4_eq (n low high : Int) : incunableref04_from.f n low high = some (decide (low ≤ n ∧ n ≤ high)) := by
 unfold incunableref04_from.f
 by_cases h : n ≥ low
 ·rw [if_pos h]
  by_cases h2 : n ≤ high
  ·rw [decide_eq_true h2, decide_eq_true ⟨h, h2⟩]
  ·rw [decide_eq_false h2, decide_eq_false fun e => h2 e.2]
 ·rw [if_neg h, decide_eq_false fun e => h e.1]
theorem right_eq : incunableref04_Right.f a0 a1 a2 a3 a4 a5 a6 = some (decide (okG a0 a1 a2 a3 a4 a5 a6)) := by
 unfold incunableref04_Right.f
 simp only [from4_eq, Option.bind_some, decide_eq_true_eq]
 have key := rows_iff (a0 := a0) (a1 := a1) (a2 := a2) (a3 := a3) (a4 := a4) (a5 := a5) (a6 := a6)
 have no : ¬ (geom_Check_rows a0 a1 a2 a3 a4 a5 a6).all geom_Check_in = true → some false = some (decide (okG a0 a1 a2 a3 a4 a5 a6)) := fun h => by
  rw [decide_eq_false fun e => h e.1]
 by_cases h0 : 1 ≤ a0 ∧ a0 ≤ 4
 ·rw [if_pos h0]
  by_cases h1 : 2 ≤ a1 ∧ a1 ≤ 256
  ·rw [if_pos h1]
   by_cases h2 : 4 ≤ a2 ∧ a2 ≤ 64
   ·rw [if_pos h2]
    by_cases h3 : 1 ≤ a3 ∧ a3 ≤ 16
    ·rw [if_pos h3]
     by_cases h4 : 4 ≤ a4 ∧ a4 ≤ 512
     ·rw [if_pos h4]
      by_cases h5 : 1 ≤ a5 ∧ a5 ≤ 8
      ·rw [if_pos h5]
       by_cases h6 : 1 ≤ a6 ∧ a6 ≤ 8
       ·rw [if_pos h6, if_neg (by omega)]
        have hr := key.2 ⟨h0, h1, h2, h3, h4, h5, h6⟩
        rw [Int.tdiv_eq_ediv_of_nonneg (by omega), Int.tdiv_eq_ediv_of_nonneg (by omega)]
        have d1 := Int.ediv_mul_le a1 (b := a0) (by omega)
        have d1' := Int.emod_add_mul_ediv a1 a0
        have d1n := Int.emod_nonneg a1 (b := a0) (by omega)
        have hq0 := Int.ediv_nonneg (a := a1) (b := a0) (by omega) (by omega)
        have hq1 := Int.ediv_le_self (a := a1) a0 (by omega)
        rw [Int.mul_comm a0 (a1 / a0)] at d1'
        rw [w64_id (x := a1 / a0) (by omega) (by omega), w64_id (x := a2 / 2) (by omega) (by omega), w64_id (x := a2 / 2 * 2) (by omega) (by omega)]
        have t1 : Int.tmod a1 a0 = a1 % a0 := Int.tmod_eq_emod_of_nonneg (by omega)
        have t2 : Int.tmod a2 2 = a2 % 2 := Int.tmod_eq_emod_of_nonneg (by omega)
        have hqp : 0 ≤ a1 / a0 * a0 := Int.mul_nonneg hq0 (by omega)
        rw [w64_id (x := a1 / a0 * a0) (by omega) (by omega)]
        generalize a1 / a0 * a0 = q at d1 d1' hqp
        by_cases g : q = a1
        ·rw [if_pos g]
         by_cases g2 : a2 / 2 * 2 = a2
         ·rw [decide_eq_true ⟨hr, by rw [t1]; omega, by rw [t2]; omega⟩]
          exact congrArg some (beq_iff_eq.2 g2)
         ·rw [decide_eq_false fun e => g2 (by have := e.2.2; rw [t2] at this; omega)]
          exact congrArg some (beq_eq_false_iff_ne.2 g2)
        ·rw [if_neg g, decide_eq_false fun e => g (by have := e.2.1; rw [t1] at this; omega)]
       ·rw [if_neg h6]
        exact no fun e => h6 (key.1 e).2.2.2.2.2.2
      ·rw [if_neg h5]
       exact no fun e => h5 (key.1 e).2.2.2.2.2.1
     ·rw [if_neg h4]
      exact no fun e => h4 (key.1 e).2.2.2.2.1
    ·rw [if_neg h3]
     exact no fun e => h3 (key.1 e).2.2.2.1
   ·rw [if_neg h2]
    exact no fun e => h2 (key.1 e).2.2.1
  ·rw [if_neg h1]
   exact no fun e => h1 (key.1 e).2.1
 ·rw [if_neg h0]
  exact no fun e => h0 (key.1 e).1
end
end Go.Proofs.Ytmehbabchakkpaa.PurePageDecodes
