import Derived.Test.YtmehbabchakkpaaMLadderClimbsx2
namespace Go.Proofs.Ytmehbabchakkpaa.QLadderClimbs
open Go.RowKit YtmehbabchakkpaaW.PrintWords YtmehbabchakkpaaW.PrintLast YtmehbabchakkpaaW.PrintMore Short
attribute [local go_sem] max2_int min2_int max_two min_two max_three min_three max_four min_four
set_option linter.unusedVariables false
set_option maxHeartbeats 8000000
set_option maxRecDepth 100000
set_option linter.unusedSimpArgs false
def geom_Check_rows (a0 a1 a2 a3 a4 a5 a6 : Int) : List (Int × Int × Int) := [(a0, 1, 4), (a1, 2, 256), (a2, 4, 64), (a3, 1, 16), (a4, 4, 512), (a5, 1, 8), (a6, 1, 8)]
def geom_Check_in (t : Int × Int × Int) : Bool := decide (t.2.1 ≤ t.1) && decide (t.1 ≤ t.2.2)
def geom_Check.f (a0_0 : Int) (a0_1 : Int) (a0_2 : Int) (a0_3 : Int) (a0_4 : Int) (a0_5 : Int) (a0_6 : Int) : Option Int := some (if (geom_Check_rows a0_0 a0_1 a0_2 a0_3 a0_4 a0_5 a0_6).all geom_Check_in = true ∧ Int.tmod a0_1 a0_0 = 0 ∧ Int.tmod a0_2 2 = 0 then 0 else 2)
set_option maxRecDepth 100000 in
theorem geom_Check_index {a0 a1 a2 a3 a4 a5 a6 x lo hi : Int} {k : Nat} (h : k < 7) (e : (geom_Check_rows a0 a1 a2 a3 a4 a5 a6)[k]? = some (x, lo, hi)) (w : World) :
  (Instr.index 97 (.agg #[.int .i64 a0, .int .i64 1, .int .i64 4, .int .i64 a1, .int .i64 2, .int .i64 256, .int .i64 a2, .int .i64 4, .int .i64 64, .int .i64 a3, .int .i64 1, .int .i64 16, .int .i64 a4, .int .i64 4, .int .i64 512, .int .i64 a5, .int .i64 1, .int .i64 8, .int .i64 a6, .int .i64 1, .int .i64 8]) (.int .i64 (k : Int))).run Try.prog w = .ok (.agg #[.int .i64 x, .int .i64 lo, .int .i64 hi]) w := by
 have key : ∀ vs : Array Value, vs.size = 21 → ∀ v, .agg (vs.extract (k * 3) (k * 3 + 3)) = v → (Instr.index 97 (.agg vs) (.int .i64 (k : Int))).run Try.prog w = .ok v w := by
  intro vs hsz v hv
  simp [Instr.index, run_underlying (P := Try.prog) Try.underlying97, asIntOf, go_sem, hsz, h]
  exact hv
 refine key _ rfl _ ?_
 match k, h, e with
 | 0, _, e => cases e; rfl
 | 1, _, e => cases e; rfl
 | 2, _, e => cases e; rfl
 | 3, _, e => cases e; rfl
 | 4, _, e => cases e; rfl
 | 5, _, e => cases e; rfl
 | 6, _, e => cases e; rfl
theorem geom_Check_take {l : List (Int × Int × Int)} {k : Nat} {t : Int × Int × Int} (h : l[k]? = some t) : l.take (k + 1) = l.take k ++ [t] := by
 rw [List.take_add_one, h]
 rfl
theorem geom_Check_bad {l : List (Int × Int × Int)} {t : Int × Int × Int} {P : Prop} (h : t ∈ l) (e : geom_Check_in t = false) : ¬ (l.all geom_Check_in = true ∧ P) := fun a => by
 have := List.all_eq_true.1 a.1 t h
 rw [e] at this
 cases this
theorem geom_Check_meas {n k : Nat} (h : k < n) : n - (intOf (.int .i64 ((k : Int) + 1))).toNat < n - (intOf (.int .i64 (k : Int))).toNat := by
 simp only [intOf]
 omega
theorem geom_Check_info : (Try.prog.info? 96).map (fun i => (i.zero, i.size, i.bytes)) = some (some (.agg #[.int .i64 0, .int .i64 0, .int .i64 0]), 3, 24) := by kernel_rfl
theorem geom_Check.calls (a0_0 : Int) (a0_1 : Int) (a0_2 : Int) (a0_3 : Int) (a0_4 : Int) (a0_5 : Int) (a0_6 : Int) (r : Int) (w : World) (h : geom_Check.f a0_0 a0_1 a0_2 a0_3 a0_4 a0_5 a0_6 = some r) :
  Calls Try.prog 35 #[.agg #[.int .i64 a0_0, .int .i64 a0_1, .int .i64 a0_2, .int .i64 a0_3, .int .i64 a0_4, .int .i64 a0_5, .int .i64 a0_6]] w fun e w' => e = .returned (.int .i64 r) ∧ Below w.heap.size w w' := by
 have hu := Try.underlying23
 have hu96 := Try.underlying96
 have hu97 := Try.underlying97
 obtain ⟨i96, hi96, hz96, hs96, hb96⟩ := info_parts geom_Check_info
 have HH := ak_ (si_ h)
 clear h
 have HB := ak_ (below_alloc (Below.refl w.heap.size w) (.cells #[.int .i64 a0_0, .int .i64 a0_1, .int .i64 a0_2, .int .i64 a0_3, .int .i64 a0_4, .int .i64 a0_5, .int .i64 a0_6] 23))
 have BK := ak_ (blk_new w (.cells #[.int .i64 a0_0, .int .i64 a0_1, .int .i64 a0_2, .int .i64 a0_3, .int .i64 a0_4, .int .i64 a0_5, .int .i64 a0_6] 23))
 have hc0 := bc_ BK.out 0
 have hc1 := bc_ BK.out 1
 have hc2 := bc_ BK.out 2
 have hc3 := bc_ BK.out 3
 have hc4 := bc_ BK.out 4
 have hc5 := bc_ BK.out 5
 have hc6 := bc_ BK.out 6
 go_enter Try.func35, Try.ntmps35
 go_wp2
 clear hc0 hc1 hc2 hc3 hc4 hc5 hc6
 go_loopw [27] (fun v27 wr => ∃ k : Nat, k ≤ 7 ∧ v27 = .int .i64 (k : Int) ∧ Aside0 (((geom_Check_rows a0_0 a0_1 a0_2 a0_3 a0_4 a0_5 a0_6).take k).all geom_Check_in = true) ∧ Aside0 (wr.heap[w.heap.size]? = some (.cells #[.int .i64 a0_0, .int .i64 a0_1, .int .i64 a0_2, .int .i64 a0_3, .int .i64 a0_4, .int .i64 a0_5, .int .i64 a0_6] 23 (0, 0))) ∧ Aside0 (Below w.heap.size w wr)) (fun v27 _ => 7 - (intOf v27).toNat)
 case atStart => exact ⟨0, Nat.zero_le _, rfl, ⟨rfl⟩, BK, HB⟩
 case round =>
  clear BK HB
  obtain ⟨k, hk, rfl, HA, BK, HB⟩ := hrel
  by_cases hlt : k < 7
  ·obtain ⟨x, lo, hi, hrow⟩ : ∃ x lo hi : Int, (geom_Check_rows a0_0 a0_1 a0_2 a0_3 a0_4 a0_5 a0_6)[k]? = some (x, lo, hi) := ⟨_, _, _, List.getElem?_eq_getElem (l := geom_Check_rows a0_0 a0_1 a0_2 a0_3 a0_4 a0_5 a0_6) hlt⟩
   have hix : ∀ w, (Instr.index 97 (.agg #[.int .i64 a0_0, .int .i64 1, .int .i64 4, .int .i64 a0_1, .int .i64 2, .int .i64 256, .int .i64 a0_2, .int .i64 4, .int .i64 64, .int .i64 a0_3, .int .i64 1, .int .i64 16, .int .i64 a0_4, .int .i64 4, .int .i64 512, .int .i64 a0_5, .int .i64 1, .int .i64 8, .int .i64 a0_6, .int .i64 1, .int .i64 8]) (.int .i64 (k : Int))).run Try.prog w = .ok (.agg #[.int .i64 x, .int .i64 lo, .int .i64 hi]) w :=
    fun w => geom_Check_index hlt hrow w
   have HT := ak_ (geom_Check_take hrow)
   have c1 : decide ((k : Int) < 7) = true := dt_ (by omega)
   have c1b : decide (k < 7) = true := dt_ hlt
   have hw : wrap64 ((k : Int) + 1) = (k : Int) + 1 := by unfold wrap64; omega
   have HL := ak_ hlt
   have HM := ak_ (List.mem_of_getElem? hrow)
   clear hrow hk hlt
   by_cases g1 : x < lo
   ·have d1 : decide (x < lo) = true := dt_ g1
    have E := ak_ (geom_Check_bad (P := Int.tmod a0_1 a0_0 = 0 ∧ Int.tmod a0_2 2 = 0) HM.out (show geom_Check_in (x, lo, hi) = false from by
     unfold geom_Check_in
     rw [Bool.and_eq_false_iff]
     exact Or.inl (df_ (by show ¬ lo ≤ x; omega))))
    clear g1 HM
    have H := HH.out
    rw [if_neg E.out] at H
    subst H
    clear E HH
    go_wp2
    go_ret
    exact ⟨rfl, below_alloc HB.out _⟩
   ·have d1 : decide (x < lo) = false := df_ g1
    by_cases g2 : hi < x
    ·have d2 : decide (hi < x) = true := dt_ g2
     have E := ak_ (geom_Check_bad (P := Int.tmod a0_1 a0_0 = 0 ∧ Int.tmod a0_2 2 = 0) HM.out (show geom_Check_in (x, lo, hi) = false from by
      unfold geom_Check_in
      rw [Bool.and_eq_false_iff]
      exact Or.inr (df_ (by show ¬ x ≤ hi; omega))))
     clear g1 g2 HM
     have H := HH.out
     rw [if_neg E.out] at H
     subst H
     clear E HH
     go_wp2
     go_ret
     exact ⟨rfl, below_alloc HB.out _⟩
    ·have d2 : decide (hi < x) = false := df_ g2
     have E := ak_ (show geom_Check_in (x, lo, hi) = true from by
      unfold geom_Check_in
      rw [Bool.and_eq_true]
      exact ⟨dt_ (by show lo ≤ x; omega), dt_ (by show x ≤ hi; omega)⟩)
     clear g1 g2 HM
     go_wp2
     go_roundw
     case rel => exact ⟨k + 1, HL.out, by go_num, ⟨by rw [HT.out, List.all_append, HA.out, List.all_cons, E.out]; rfl⟩, ⟨blk_alloc BK.out _⟩, ⟨below_alloc HB.out _⟩⟩
     case measure => rw [hw]; exact geom_Check_meas HL.out
  ·obtain rfl : k = 7 := by omega
   have A := HA.out
   rw [List.take_of_length_le (by exact Nat.le_refl 7)] at A
   have hm : 1 ≤ a0_0 := by
    have := List.all_eq_true.1 A (a0_0, 1, 4) (List.Mem.head _)
    unfold geom_Check_in at this
    rw [Bool.and_eq_true, decide_eq_true_eq] at this
    exact this.1
   have AA := ak_ A
   clear A HA hk hlt
   have z0 : decide (a0_0 = 0) = false := df_ (by omega)
   have z0' : (a0_0 = 0) = False := eq_false (by omega)
   have HP := ak_ hm
   clear hm
   have hc0 := bc_ BK.out 0
   have hc1 := bc_ BK.out 1
   have hc2 := bc_ BK.out 2
   clear BK
   have H := HH.out
   by_cases g1 : Int.tmod a0_1 a0_0 = 0
   ·have d1 : (Int.tmod a0_1 a0_0 == 0) = true := beq_iff_eq.2 g1
    by_cases g2 : Int.tmod a0_2 2 = 0
    ·have d2 : (Int.tmod a0_2 2 == 0) = true := beq_iff_eq.2 g2
     rw [if_pos ⟨AA.out, g1, g2⟩] at H
     subst H
     clear HH AA
     go_wp2
     go_ret
     exact ⟨rfl, HB.out⟩
    ·have d2 : (Int.tmod a0_2 2 == 0) = false := beq_eq_false_iff_ne.2 g2
     rw [if_neg (fun e => g2 e.2.2)] at H
     subst H
     clear HH AA
     go_wp2
     go_ret
     exact ⟨rfl, HB.out⟩
   ·have d1 : (Int.tmod a0_1 a0_0 == 0) = false := beq_eq_false_iff_ne.2 g1
    rw [if_neg (fun e => g1 e.2.1)] at H
    subst H
    clear HH AA
    go_wp2
    go_ret
    exact ⟨rfl, HB.out⟩
def geom_Raw.f (a0_0 : Int) (a0_1 : Int) (a0_2 : Int) (a0_3 : Int) (a0_4 : Int) (a0_5 : Int) (a0_6 : Int) : Option (Int) := (geom_Check.f a0_0 a0_1 a0_2 a0_3 a0_4 a0_5 a0_6).bind fun t102 => (if t102 = 0 then (some (wrap64 ((wrap64 ((wrap64 ((wrap64 (a0_3 * (wrap64 (a0_4 + 2)))) + 28)) + 2)) + 1))) else (some 0))
theorem geom_Raw.calls (a0_0 : Int) (a0_1 : Int) (a0_2 : Int) (a0_3 : Int) (a0_4 : Int) (a0_5 : Int) (a0_6 : Int) (r : Int) (w : World) (h : geom_Raw.f a0_0 a0_1 a0_2 a0_3 a0_4 a0_5 a0_6 = some r) :
  Calls Try.prog 16 #[.agg #[.int .i64 a0_0, .int .i64 a0_1, .int .i64 a0_2, .int .i64 a0_3, .int .i64 a0_4, .int .i64 a0_5, .int .i64 a0_6]] w fun e w' => e = .returned (.int .i64 r) ∧ Below w.heap.size w w' := by
 have hu23 := Try.underlying23
 have HB := br_ w
 unfold geom_Raw.f at h
 have H := h
 clear h
 obtain ⟨t102, A2, H⟩ := bs_ H
 by_cases c3 : t102 = 0
 ·rw [if_pos c3] at H
  have c3b0 := beq_iff_eq.mpr c3
  have c3b1 := bne_eq_false_iff_eq.mpr c3
  clear c3
  obtain rfl := si_ H
  go_enter Try.func16, Try.ntmps16
  go_wp2_with (first | ((with_reducible refine gate_dst (N := 1) rfl ?_); refine box_event ?hg (N := 1) ?hd (cs := #[.int .i64 a0_0, .int .i64 a0_1, .int .i64 a0_2, .int .i64 a0_3, .int .i64 a0_4, .int .i64 a0_5, .int .i64 a0_6]) (t := 23) ?hr ?_; (case hd => rfl); (case hg => rfl); (case hr => (go_simp; done)); intro gb101 hg w4 hbox hb; have BK101 := ak_ (hbox); have GW101 := ak_ (gw_ hg (below_size HB.out)); have GE101 := ak_ (gw_ hg (below_size HB.out)); replace HB := ak_ (below_step HB.out hb); clear hb hbox hg; have hcz5_0 : w4.cell? ⟨gb101, 0, none⟩ = some (.int .i64 a0_0) := (bc_ BK101.out 0).trans rfl; have hcz5_1 : w4.cell? ⟨gb101, 1, none⟩ = some (.int .i64 a0_1) := (bc_ BK101.out 1).trans rfl; have hcz5_2 : w4.cell? ⟨gb101, 2, none⟩ = some (.int .i64 a0_2) := (bc_ BK101.out 2).trans rfl; have hcz5_3 : w4.cell? ⟨gb101, 3, none⟩ = some (.int .i64 a0_3) := (bc_ BK101.out 3).trans rfl; have hcz5_4 : w4.cell? ⟨gb101, 4, none⟩ = some (.int .i64 a0_4) := (bc_ BK101.out 4).trans rfl; have hcz5_5 : w4.cell? ⟨gb101, 5, none⟩ = some (.int .i64 a0_5) := (bc_ BK101.out 5).trans rfl; have hcz5_6 : w4.cell? ⟨gb101, 6, none⟩ = some (.int .i64 a0_6) := (bc_ BK101.out 6).trans rfl; have hfz5_0 := bf_ BK101.out 0; have hfz5_1 := bf_ BK101.out 1; have hfz5_2 := bf_ BK101.out 2; have hfz5_3 := bf_ BK101.out 3; have hfz5_4 := bf_ BK101.out 4; have hfz5_5 := bf_ BK101.out 5; have hfz5_6 := bf_ BK101.out 6) | ((with_reducible refine gate_callee (f := 35) rfl ?_); refine goesL_ (some 4) rfl rfl Try.func35 (by kernel_rfl) rfl #[.agg #[.int .i64 a0_0, .int .i64 a0_1, .int .i64 a0_2, .int .i64 a0_3, .int .i64 a0_4, .int .i64 a0_5, .int .i64 a0_6]] rfl (by (try simp only [List.map_toArray, List.map_cons, List.map_nil]); first | done | rfl | (simp only [List.length_drop, List.length_take]; rfl)) ?_; (with_reducible refine (geom_Check.calls a0_0 a0_1 a0_2 a0_3 a0_4 a0_5 a0_6 t102 _ A2.out).mono ?_); rintro e w6 ⟨rfl, hb⟩; refine ⟨_, rfl, ?_⟩; replace BK101 := ak_ (blk_below BK101.out hb); replace HB := ak_ (below_step HB.out hb); (try clear hb); have hcz7_0 : w6.cell? ⟨gb101, 0, none⟩ = some (.int .i64 a0_0) := (bc_ BK101.out 0).trans rfl; have hcz7_1 : w6.cell? ⟨gb101, 1, none⟩ = some (.int .i64 a0_1) := (bc_ BK101.out 1).trans rfl; have hcz7_2 : w6.cell? ⟨gb101, 2, none⟩ = some (.int .i64 a0_2) := (bc_ BK101.out 2).trans rfl; have hcz7_3 : w6.cell? ⟨gb101, 3, none⟩ = some (.int .i64 a0_3) := (bc_ BK101.out 3).trans rfl; have hcz7_4 : w6.cell? ⟨gb101, 4, none⟩ = some (.int .i64 a0_4) := (bc_ BK101.out 4).trans rfl; have hcz7_5 : w6.cell? ⟨gb101, 5, none⟩ = some (.int .i64 a0_5) := (bc_ BK101.out 5).trans rfl; have hcz7_6 : w6.cell? ⟨gb101, 6, none⟩ = some (.int .i64 a0_6) := (bc_ BK101.out 6).trans rfl; have hfz7_0 := bf_ BK101.out 0; have hfz7_1 := bf_ BK101.out 1; have hfz7_2 := bf_ BK101.out 2; have hfz7_3 := bf_ BK101.out 3; have hfz7_4 := bf_ BK101.out 4; have hfz7_5 := bf_ BK101.out 5; have hfz7_6 := bf_ BK101.out 6))
  go_ret
  exact ⟨by rfl, HB.out⟩
 ·rw [if_neg c3] at H
  have c3b0 := beq_eq_false_iff_ne.mpr c3
  have c3b1 := bne_iff_ne.mpr c3
  obtain rfl := si_ H
  go_enter Try.func16, Try.ntmps16
  go_wp2_with (first | ((with_reducible refine gate_dst (N := 1) rfl ?_); refine box_event ?hg (N := 1) ?hd (cs := #[.int .i64 a0_0, .int .i64 a0_1, .int .i64 a0_2, .int .i64 a0_3, .int .i64 a0_4, .int .i64 a0_5, .int .i64 a0_6]) (t := 23) ?hr ?_; (case hd => rfl); (case hg => rfl); (case hr => (go_simp; done)); intro gb101 hg w8 hbox hb; have BK101 := ak_ (hbox); have GW101 := ak_ (gw_ hg (below_size HB.out)); have GE101 := ak_ (gw_ hg (below_size HB.out)); replace HB := ak_ (below_step HB.out hb); clear hb hbox hg; have hcz9_0 : w8.cell? ⟨gb101, 0, none⟩ = some (.int .i64 a0_0) := (bc_ BK101.out 0).trans rfl; have hcz9_1 : w8.cell? ⟨gb101, 1, none⟩ = some (.int .i64 a0_1) := (bc_ BK101.out 1).trans rfl; have hcz9_2 : w8.cell? ⟨gb101, 2, none⟩ = some (.int .i64 a0_2) := (bc_ BK101.out 2).trans rfl; have hcz9_3 : w8.cell? ⟨gb101, 3, none⟩ = some (.int .i64 a0_3) := (bc_ BK101.out 3).trans rfl; have hcz9_4 : w8.cell? ⟨gb101, 4, none⟩ = some (.int .i64 a0_4) := (bc_ BK101.out 4).trans rfl; have hcz9_5 : w8.cell? ⟨gb101, 5, none⟩ = some (.int .i64 a0_5) := (bc_ BK101.out 5).trans rfl; have hcz9_6 : w8.cell? ⟨gb101, 6, none⟩ = some (.int .i64 a0_6) := (bc_ BK101.out 6).trans rfl; have hfz9_0 := bf_ BK101.out 0; have hfz9_1 := bf_ BK101.out 1; have hfz9_2 := bf_ BK101.out 2; have hfz9_3 := bf_ BK101.out 3; have hfz9_4 := bf_ BK101.out 4; have hfz9_5 := bf_ BK101.out 5; have hfz9_6 := bf_ BK101.out 6) | ((with_reducible refine gate_callee (f := 35) rfl ?_); refine goesL_ (some 4) rfl rfl Try.func35 (by kernel_rfl) rfl #[.agg #[.int .i64 a0_0, .int .i64 a0_1, .int .i64 a0_2, .int .i64 a0_3, .int .i64 a0_4, .int .i64 a0_5, .int .i64 a0_6]] rfl (by (try simp only [List.map_toArray, List.map_cons, List.map_nil]); first | done | rfl | (simp only [List.length_drop, List.length_take]; rfl)) ?_; (with_reducible refine (geom_Check.calls a0_0 a0_1 a0_2 a0_3 a0_4 a0_5 a0_6 t102 _ A2.out).mono ?_); rintro e w10 ⟨rfl, hb⟩; refine ⟨_, rfl, ?_⟩; replace BK101 := ak_ (blk_below BK101.out hb); replace HB := ak_ (below_step HB.out hb); (try clear hb)))
  go_ret
  exact ⟨by rfl, HB.out⟩
def page_Erased.l0 : Nat → List Int → Int → Int → Option (List Int)
 | 0, _, _, _ => none
 | k + 1, x3, x9, x10 => if x10 < x9 then (if 0 ≤ x10 then (if x10 < (x3.length : Int) then (page_Erased.l0 k (x3.set (x10 : Int).toNat 255) x9 (wrap64 (x10 + 1))) else (none)) else (none)) else (some x3)
def page_Erased.f (k : Nat) (a0_0 : Int) (a0_1 : Int) (a0_2 : Int) (a0_3 : Int) (a0_4 : Int) (a0_5 : Int) (a0_6 : Int) : Option (List Int) := (geom_Raw.f a0_0 a0_1 a0_2 a0_3 a0_4 a0_5 a0_6).bind fun t104 => (if 0 ≤ t104 then (if (t104 : Int).toNat ≤ 281474976710656 then ((some (List.replicate (t104 : Int).toNat 0 : List Int)).bind fun y105 => (page_Erased.l0 k y105 (y105.length : Int) 0)) else (none)) else (none))
theorem page_Erased.mono_l : ∀ k, (∀ y0 y1 y2, LeO (page_Erased.l0 k y0 y1 y2) (page_Erased.l0 (k + 1) y0 y1 y2))
 | 0 => fun _ _ _ r h => by simp [page_Erased.l0] at h
 | k + 1 => by
  have ih0 := page_Erased.mono_l k
  ·intro y0 y1 y2
   unfold page_Erased.l0
   repeat' with_reducible first
   | exact ih0 _ _ _
   | exact LeO.refl _
   | exact LeO.none _
   | refine LeO.ite ?_ ?_
   | refine LeO.bind ?_ (fun _ => ?_)
theorem page_Erased.mono : ∀ a0 a1 a2 a3 a4 a5 a6 k, LeO (page_Erased.f k a0 a1 a2 a3 a4 a5 a6) (page_Erased.f (k + 1) a0 a1 a2 a3 a4 a5 a6) := by
 intro a0 a1 a2 a3 a4 a5 a6 k
 have ih0 := page_Erased.mono_l k
 unfold page_Erased.f
 repeat' with_reducible first
  | exact ih0 _ _ _
  | exact LeO.refl _
  | exact LeO.none _
  | refine LeO.ite ?_ ?_
  | refine LeO.bind ?_ (fun _ => ?_)
theorem page_Erased.calls (k : Nat) (a0_0 : Int) (a0_1 : Int) (a0_2 : Int) (a0_3 : Int) (a0_4 : Int) (a0_5 : Int) (a0_6 : Int) (r : List Int) (w : World) (h : page_Erased.f k a0_0 a0_1 a0_2 a0_3 a0_4 a0_5 a0_6 = some r) :
  Calls Try.prog 15 #[.agg #[.int .i64 a0_0, .int .i64 a0_1, .int .i64 a0_2, .int .i64 a0_3, .int .i64 a0_4, .int .i64 a0_5, .int .i64 a0_6]] w fun e w' => ∃ v0_ : Value, e = .returned (v0_) ∧ Kd.R (Kd.int .u8) 5 w' w.heap.size (fun _ => True) v0_ r ∧ Below w.heap.size w w' := by
 have hu23 := Try.underlying23
 have HB := br_ w
 unfold page_Erased.f at h
 have H := h
 clear h
 obtain ⟨t104, A2, H⟩ := bs_ H
 by_cases c3 : 0 ≤ t104
 ·rw [if_pos c3] at H
  have c3b0 := eq_true c3
  have c3b1 := dt_ c3
  clear c3
  by_cases c4 : (t104 : Int).toNat ≤ 281474976710656
  ·rw [if_pos c4] at H
   have c4b0 := eq_true c4
   have c4b1 := dt_ c4
   clear c4
   obtain ⟨y105, hy105⟩ : ∃ y_ : List Int, y_ = (List.replicate (t104 : Int).toNat 0) := ⟨_, rfl⟩
   replace H : (page_Erased.l0 k y105 (y105.length : Int) 0) = some r := by first | (rw [hy105]; with_reducible exact H) | (have H2_ := (Option.bind_some _ _).symm.trans H; rw [hy105]; with_reducible exact H2_) | (have H2_ := (Option.bind_some _ _).symm.trans H; with_reducible exact H2_) | with_reducible exact H | (rw [hy105]; exact H) | exact H
   have Ny105 := ak_ hy105
   clear hy105
   have H' := ak_ H
   clear H
   go_enter Try.func15, Try.ntmps15
   go_wp2_with (first | ((with_reducible refine gate_dst (N := 1) rfl ?_); refine box_event ?hg (N := 1) ?hd (cs := #[.int .i64 a0_0, .int .i64 a0_1, .int .i64 a0_2, .int .i64 a0_3, .int .i64 a0_4, .int .i64 a0_5, .int .i64 a0_6]) (t := 23) ?hr ?_; (case hd => rfl); (case hg => rfl); (case hr => (go_simp; done)); intro gb103 hg w5 hbox hb; have BK103 := ak_ (hbox); have GW103 := ak_ (gw_ hg (below_size HB.out)); have GE103 := ak_ (gw_ hg (below_size HB.out)); replace HB := ak_ (below_step HB.out hb); clear hb hbox hg; have hcz6_0 : w5.cell? ⟨gb103, 0, none⟩ = some (.int .i64 a0_0) := (bc_ BK103.out 0).trans rfl; have hcz6_1 : w5.cell? ⟨gb103, 1, none⟩ = some (.int .i64 a0_1) := (bc_ BK103.out 1).trans rfl; have hcz6_2 : w5.cell? ⟨gb103, 2, none⟩ = some (.int .i64 a0_2) := (bc_ BK103.out 2).trans rfl; have hcz6_3 : w5.cell? ⟨gb103, 3, none⟩ = some (.int .i64 a0_3) := (bc_ BK103.out 3).trans rfl; have hcz6_4 : w5.cell? ⟨gb103, 4, none⟩ = some (.int .i64 a0_4) := (bc_ BK103.out 4).trans rfl; have hcz6_5 : w5.cell? ⟨gb103, 5, none⟩ = some (.int .i64 a0_5) := (bc_ BK103.out 5).trans rfl; have hcz6_6 : w5.cell? ⟨gb103, 6, none⟩ = some (.int .i64 a0_6) := (bc_ BK103.out 6).trans rfl; have hfz6_0 := bf_ BK103.out 0; have hfz6_1 := bf_ BK103.out 1; have hfz6_2 := bf_ BK103.out 2; have hfz6_3 := bf_ BK103.out 3; have hfz6_4 := bf_ BK103.out 4; have hfz6_5 := bf_ BK103.out 5; have hfz6_6 := bf_ BK103.out 6) | ((with_reducible refine gate_callee (f := 16) rfl ?_); refine goesL_ (some 6) rfl rfl Try.func16 (by kernel_rfl) rfl #[.agg #[.int .i64 a0_0, .int .i64 a0_1, .int .i64 a0_2, .int .i64 a0_3, .int .i64 a0_4, .int .i64 a0_5, .int .i64 a0_6]] rfl (by (try simp only [List.map_toArray, List.map_cons, List.map_nil]); first | done | rfl | (simp only [List.length_drop, List.length_take]; rfl)) ?_; (with_reducible refine (geom_Raw.calls a0_0 a0_1 a0_2 a0_3 a0_4 a0_5 a0_6 t104 _ A2.out).mono ?_); rintro e w7 ⟨rfl, hb⟩; refine ⟨_, rfl, ?_⟩; replace BK103 := ak_ (blk_below BK103.out hb); replace HB := ak_ (below_step HB.out hb); (try clear hb)) | ((with_reducible refine gate_dst (N := 7) rfl ?_); refine Kd.R_make (Kd.int .u8) _ 5 rfl (N := 7) rfl 24 _ _ rfl t104 rfl rfl Try.underlying24 (.int .u8 0) 1 info5 rfl (by decide) (by omega) 0 (ok := fun _ => True) (okp := fun _ => True) rfl (fun _ hk => hk) trivial (od_ ‹_›) (Nat.le_trans (Nat.mul_le_mul_right _ (od_ ‹_› : t104.toNat ≤ 281474976710656)) (by omega)) (Below.refl _ _) (Nat.le_refl _) ?_; intro v106 w8 ho9 hb hg_ hnew_; clear hg_ hnew_; (rw [← Ny105.out] at ho9); have HO107 := ak_ (Kd.R_lower ho9 (below_size HB.out)); replace BK103 := ak_ (blk_below BK103.out hb); replace HB := ak_ (below_step HB.out hb); clear hb ho9; obtain ⟨Ao10, co10, eo10⟩ := Kd.R_slice HO107.out; subst eo10))
   go_loopg [10] k (fun kq v10 w' => ∃ (x3_1 : List Int) (x10_1 : Int), v10 = .int .i64 x10_1 ∧ Aside0 (page_Erased.l0 kq x3_1 (y105.length : Int) x10_1 = some r) ∧ Aside0 (kq ≤ k) ∧ Aside0 (Kd.R (Kd.int .u8) 5 w' w.heap.size (fun _ => True) (.slice Ao10 y105.length co10) x3_1) ∧ Aside0 (w'.heap[gb103]? = some (.cells #[.int .i64 a0_0, .int .i64 a0_1, .int .i64 a0_2, .int .i64 a0_3, .int .i64 a0_4, .int .i64 a0_5, .int .i64 a0_6] 23 (0, 0))) ∧ Aside0 (Below w.heap.size w w'))
   case atStart => exact ⟨(y105), (0), (by rfl), H', ⟨Nat.le_refl _⟩, ⟨HO107.out⟩, ⟨BK103.out⟩, ⟨HB.out⟩⟩
   case round =>
    clear H'
    clear c3b0 c3b1 c4b0 c4b1 hcz6_0 hcz6_1 hcz6_2 hcz6_3 hcz6_4 hcz6_5 hcz6_6 hfz6_0 hfz6_1 hfz6_2 hfz6_3 hfz6_4 hfz6_5 hfz6_6
    obtain ⟨x3_1, x10_1, rfl, HA, HK1, HO_3, BK103, HB⟩ := hrel
    have hl3_1 := (Kd.R_reads' HO_3.out).1
    rw [hl3_1] at HO_3
    (try simp only [hl3_1])
    cases gk with
    | zero => exact absurd HA.out (by simp [page_Erased.l0])
    | succ k1 =>
     have H := HA.out
     clear HA
     simp only [page_Erased.l0] at H
     by_cases c11 : x10_1 < (y105.length : Int)
     ·rw [if_pos c11] at H
      have c11b0 := dt_ c11
      (try (have c11b0h := c11b0; simp only [hl3_1] at c11b0h))
      clear c11
      by_cases c12 : 0 ≤ x10_1
      ·rw [if_pos c12] at H
       have c12b0 := dt_ c12
       clear c12
       by_cases c13 : x10_1 < (x3_1.length : Int)
       ·rw [if_pos c13] at H
        have c13b0 := dt_ c13
        (try (have c13b0h := c13b0; simp only [hl3_1] at c13b0h))
        clear c13
        obtain ⟨y108, hy108⟩ : ∃ y_ : List Int, y_ = (x3_1.set (x10_1 : Int).toNat 255) := ⟨_, rfl⟩
        replace H : (page_Erased.l0 k1 y108 (y105.length : Int) (wrap64 (x10_1 + 1))) = some r := (by rw [hy108]; with_reducible exact H)
        have Ny108 := ak_ hy108
        clear hy108
        have H' := ak_ H
        clear H
        have p14 : 0 ≤ (x10_1 : Int) := od_ ‹_›
        have q14 : (x10_1 : Int) < ((x3_1.length : Int) : Int) := od_ ‹_›
        obtain ⟨go14, co14, eo14, gb14, gl14, cl14, HG14⟩ := Kd.R_form HO_3.out (by omega)
        (first | cases eo14 | (injection eo14 with ea_ en_ ec_; (fail); subst ec_; clear en_))
        have GB14 := ak_ gb14
        have GG14 := ak_ HG14
        clear gb14 gl14 HG14
        obtain ⟨hx14_0, hf14_0⟩ := Kd.R_celln 0 HO_3.out (x10_1 : Int) p14 q14
        replace p14 := eq_true p14
        replace q14 := eq_true q14
        have HP15 := Kd.R_putg HO_3.out (x10_1 : Int) 255
        go_wp2_with ((with_reducible refine gate_store (t := 5) (p := 15) rfl ?_); refine store_event (t := 5) (p := 15) (v := ?vo_w16) (w1 := (wr.setCell ⟨go14, (x10_1 : Int).toNat, none⟩ (.int .u8 255))) ?hg ?ho ?hn ?hr ?_; (case ho => rfl); (case hg => rfl); (case hn => rfl); (case hr => (go_simp; done)); intro w16 hw; have hg : wr.grownBy w16 (some go14) := (by rw [hw]; exact HP15.2); have hp_ : Kd.R (Kd.int .u8) 5 w16 w.heap.size (fun _ => True) (.slice (some ⟨go14, 0, none⟩) x3_1.length co10) y108 := (by rw [hw, Ny108.out]; exact HP15.1); clear HP15; replace BK103 := ak_ (blk_grown BK103.out hg (Kd.R_ne HO_3.out BK103.out (by decide))); replace HO_3 := ak_ (hp_); replace HB := ak_ ((by rw [hw]; exact below_set (HB.out) GB14.out : Below w.heap.size w w16)); clear hg hw hp_)
        (try simp only [← hl3_1])
        go_roundg k1
        case measure => have := HK1.out; omega
        case rel => exact ⟨(y108), (wrap64 (x10_1 + 1)), (by rfl), H', ⟨by have := HK1.out; omega⟩, ⟨by (try simp only [hl3_1]); (with_reducible repeat (first | apply Kd.R_alloc | apply Kd.R_drewN | apply Kd.R_drew)); exact HO_3.out⟩, ⟨by (with_reducible repeat (first | apply blk_drewN | apply blk_drew | apply blk_alloc)); exact BK103.out⟩, ⟨HB.out⟩⟩
       ·rw [if_neg c13] at H
        exact absurd H (by simp)
      ·rw [if_neg c12] at H
       exact absurd H (by simp)
     ·rw [if_neg c11] at H
      have c11b0 := df_ c11
      (try (have c11b0h := c11b0; simp only [hl3_1] at c11b0h))
      clear c11
      obtain rfl := si_ H
      go_wp2
      go_ret
      exact ⟨_, by rfl, by (with_reducible repeat (first | apply Kd.R_alloc | apply Kd.R_drewN | apply Kd.R_drew)); exact HO_3.out, HB.out⟩
  ·rw [if_neg c4] at H
   exact absurd H (by simp)
 ·rw [if_neg c3] at H
  exact absurd H (by simp)
def bits_OnesCount8.f (a0 : Int) : Option (Int) := if 0 ≤ a0 then (if a0 < 256 then (some (wrap64 (bt (⟨#[0, 1, 1, 2, 1, 2, 2, 3, 1, 2, 2, 3, 2, 3, 3, 4, 1, 2, 2, 3, 2, 3, 3, 4, 2, 3, 3, 4, 3, 4, 4, 5, 1, 2, 2, 3, 2, 3, 3, 4, 2, 3, 3, 4, 3, 4, 4, 5, 2, 3, 3, 4, 3, 4, 4, 5, 3, 4, 4, 5, 4, 5, 5, 6, 1, 2, 2, 3, 2, 3, 3, 4, 2, 3, 3, 4, 3, 4, 4, 5, 2, 3, 3, 4, 3, 4, 4, 5, 3, 4, 4, 5, 4, 5, 5, 6, 2, 3, 3, 4, 3, 4, 4, 5, 3, 4, 4, 5, 4, 5, 5, 6, 3, 4, 4, 5, 4, 5, 5, 6, 4, 5, 5, 6, 5, 6, 6, 7, 1, 2, 2, 3, 2, 3, 3, 4, 2, 3, 3, 4, 3, 4, 4, 5, 2, 3, 3, 4, 3, 4, 4, 5, 3, 4, 4, 5, 4, 5, 5, 6, 2, 3, 3, 4, 3, 4, 4, 5, 3, 4, 4, 5, 4, 5, 5, 6, 3, 4, 4, 5, 4, 5, 5, 6, 4, 5, 5, 6, 5, 6, 6, 7, 2, 3, 3, 4, 3, 4, 4, 5, 3, 4, 4, 5, 4, 5, 5, 6, 3, 4, 4, 5, 4, 5, 5, 6, 4, 5, 5, 6, 5, 6, 6, 7, 3, 4, 4, 5, 4, 5, 5, 6, 4, 5, 5, 6, 5, 6, 6, 7, 4, 5, 5, 6, 5, 6, 6, 7, 5, 6, 6, 7, 6, 7, 7, 8]⟩ : ByteArray) a0))) else (none)) else (none)
theorem bits_OnesCount8.calls (a0 : Int) (r : Int) (w : World) (h : bits_OnesCount8.f a0 = some r) :
  Calls Try.prog 64 #[.int .u8 a0] w fun e w' => e = .returned (.int .i64 r) ∧ Drawn0 w w' := by
 unfold bits_OnesCount8.f at h
 have H := h
 clear h
 by_cases c2 : 0 ≤ a0
 ·rw [if_pos c2] at H
  have c2b0 := dt_ c2
  clear c2
  by_cases c3 : a0 < 256
  ·rw [if_pos c3] at H
   have c3b0 := dt_ c3
   clear c3
   obtain rfl := si_ H
   have p4 : 0 ≤ (a0 : Int) := od_ ‹_›
   have q4 : a0 < (256 : Int) := od_ ‹_›
   have hx4 := bt_at (⟨#[0, 1, 1, 2, 1, 2, 2, 3, 1, 2, 2, 3, 2, 3, 3, 4, 1, 2, 2, 3, 2, 3, 3, 4, 2, 3, 3, 4, 3, 4, 4, 5, 1, 2, 2, 3, 2, 3, 3, 4, 2, 3, 3, 4, 3, 4, 4, 5, 2, 3, 3, 4, 3, 4, 4, 5, 3, 4, 4, 5, 4, 5, 5, 6, 1, 2, 2, 3, 2, 3, 3, 4, 2, 3, 3, 4, 3, 4, 4, 5, 2, 3, 3, 4, 3, 4, 4, 5, 3, 4, 4, 5, 4, 5, 5, 6, 2, 3, 3, 4, 3, 4, 4, 5, 3, 4, 4, 5, 4, 5, 5, 6, 3, 4, 4, 5, 4, 5, 5, 6, 4, 5, 5, 6, 5, 6, 6, 7, 1, 2, 2, 3, 2, 3, 3, 4, 2, 3, 3, 4, 3, 4, 4, 5, 2, 3, 3, 4, 3, 4, 4, 5, 3, 4, 4, 5, 4, 5, 5, 6, 2, 3, 3, 4, 3, 4, 4, 5, 3, 4, 4, 5, 4, 5, 5, 6, 3, 4, 4, 5, 4, 5, 5, 6, 4, 5, 5, 6, 5, 6, 6, 7, 2, 3, 3, 4, 3, 4, 4, 5, 3, 4, 4, 5, 4, 5, 5, 6, 3, 4, 4, 5, 4, 5, 5, 6, 4, 5, 5, 6, 5, 6, 6, 7, 3, 4, 4, 5, 4, 5, 5, 6, 4, 5, 5, 6, 5, 6, 6, 7, 4, 5, 5, 6, 5, 6, 6, 7, 5, 6, 6, 7, 6, 7, 7, 8]⟩ : ByteArray) a0
   replace p4 := eq_true p4
   replace q4 := eq_true q4
   go_enter Try.func64, Try.ntmps64
   go_wp2
   go_ret
   exact ⟨by rfl, by repeat (first | exact Drawn0.refl _ | apply Drawn0.step)⟩
  ·rw [if_neg c3] at H
   exact absurd H (by simp)
 ·rw [if_neg c2] at H
  exact absurd H (by simp)
def bits_Count.l0 : Nat → Int → List Int → Int → Int → Option (Int)
 | 0, _, _, _, _ => none
 | k + 1, x3, x6, x7, x8 => if x8 < x7 then (if 0 ≤ x8 then (if x8 < (x6.length : Int) then ((bits_OnesCount8.f (rd x6 x8)).bind fun t110 => (bits_Count.l0 k (wrap64 (x3 + t110)) x6 x7 (wrap64 (x8 + 1)))) else (none)) else (none)) else (some x3)
def bits_Count.f (k : Nat) (l0 : List Int) : Option (Int) := bits_Count.l0 k 0 l0 (l0.length : Int) 0
theorem bits_Count.mono_l : ∀ k, (∀ y0 y1 y2 y3, LeO (bits_Count.l0 k y0 y1 y2 y3) (bits_Count.l0 (k + 1) y0 y1 y2 y3))
 | 0 => fun _ _ _ _ r h => by simp [bits_Count.l0] at h
 | k + 1 => by
  have ih0 := bits_Count.mono_l k
  ·intro y0 y1 y2 y3
   unfold bits_Count.l0
   repeat' with_reducible first
   | exact ih0 _ _ _ _
   | exact LeO.refl _
   | exact LeO.none _
   | refine LeO.ite ?_ ?_
   | refine LeO.bind ?_ (fun _ => ?_)
theorem bits_Count.mono : ∀ a0 k, LeO (bits_Count.f k a0) (bits_Count.f (k + 1) a0) := by
 intro a0 k
 have ih0 := bits_Count.mono_l k
 unfold bits_Count.f
 repeat' with_reducible first
  | exact ih0 _ _ _ _
  | exact LeO.refl _
  | exact LeO.none _
  | refine LeO.ite ?_ ?_
  | refine LeO.bind ?_ (fun _ => ?_)
theorem bits_Count.calls (k : Nat) (A0 : Option Addr) (c0 : Nat) (l0 : List Int) (r : Int) (w : World) (hr0 : Kd.C (Kd.int .u8) w A0 l0.length l0) (hc0 : l0.length ≤ c0) (h : bits_Count.f k l0 = some r) :
  Calls Try.prog 36 #[.slice A0 l0.length c0] w fun e w' => e = .returned (.int .i64 r) ∧ Drawn0 w w' := by
 have HR0 := ak_ hr0
 have HC0 := ak_ hc0
 clear hr0 hc0
 unfold bits_Count.f at h
 have H := h
 clear h
 have H' := ak_ H
 clear H
 go_enter Try.func36, Try.ntmps36
 go_wp2
 go_loopg [3, 8] k (fun kq v3 v8 w' => ∃ (x3_1 : Int) (x8_1 : Int), v3 = .int .i64 x3_1 ∧ v8 = .int .i64 x8_1 ∧ Aside0 (bits_Count.l0 kq x3_1 l0 (l0.length : Int) x8_1 = some r) ∧ Aside0 (kq ≤ k) ∧ Drawn0 w w')
 case atStart => exact ⟨(0), (0), (by rfl), (by rfl), H', ⟨Nat.le_refl _⟩, by repeat (first | exact Drawn0.refl _ | apply Drawn0.step)⟩
 case round =>
  clear H'
  obtain ⟨x3_1, x8_1, rfl, rfl, HA, HK1, ⟨m1, rfl⟩⟩ := hrel
  cases gk with
  | zero => exact absurd HA.out (by simp [bits_Count.l0])
  | succ k1 =>
   have H := HA.out
   clear HA
   simp only [bits_Count.l0] at H
   by_cases c2 : x8_1 < (l0.length : Int)
   ·rw [if_pos c2] at H
    have c2b0 := dt_ c2
    clear c2
    by_cases c3 : 0 ≤ x8_1
    ·rw [if_pos c3] at H
     have c3b0 := dt_ c3
     clear c3
     by_cases c4 : x8_1 < (l0.length : Int)
     ·rw [if_pos c4] at H
      have c4b0 := dt_ c4
      clear c4
      obtain ⟨t110, A5, H⟩ := bs_ H
      have H' := ak_ H
      clear H
      have p109 : 0 ≤ (x8_1 : Int) := od_ ‹_›
      have q109 : x8_1 < (l0.length : Int) := od_ ‹_›
      obtain ⟨ad109, e109, hx109_0⟩ := Kd.at_int HR0.out x8_1 p109 q109
      cases e109
      replace p109 := eq_true p109
      replace q109 := eq_true q109
      go_wp2_with ((with_reducible refine gate_callee (f := 64) rfl ?_); refine goesL_ (some 14) rfl rfl Try.func64 (by kernel_rfl) rfl #[.int .u8 (rd l0 x8_1)] rfl (by (try simp only [List.map_toArray, List.map_cons, List.map_nil]); first | done | rfl | (simp only [List.length_drop, List.length_take]; rfl)) ?_; (with_reducible refine (bits_OnesCount8.calls (rd l0 x8_1) t110 _ A5.out).mono ?_); rintro e w' ⟨rfl, ⟨nd, rfl⟩⟩; refine ⟨_, rfl, ?_⟩)
      go_roundg k1
      case measure => have := HK1.out; omega
      case rel => exact ⟨(wrap64 (x3_1 + t110)), (wrap64 (x8_1 + 1)), (by rfl), (by rfl), H', ⟨by have := HK1.out; omega⟩, by repeat (first | exact Drawn0.refl _ | apply Drawn0.step)⟩
     ·rw [if_neg c4] at H
      exact absurd H (by simp)
    ·rw [if_neg c3] at H
     exact absurd H (by simp)
   ·rw [if_neg c2] at H
    have c2b0 := df_ c2
    clear c2
    obtain rfl := si_ H
    go_wp2
    go_ret
    exact ⟨by rfl, by repeat (first | exact Drawn0.refl _ | apply Drawn0.step)⟩
def bits_Zeros.f (k : Nat) (l0 : List Int) : Option (Int) := (bits_Count.f k l0).bind fun t111 => (some (wrap64 ((wrap64 (8 * (l0.length : Int))) - t111)))
theorem bits_Zeros.mono : ∀ a0 k, LeO (bits_Zeros.f k a0) (bits_Zeros.f (k + 1) a0) := by
 intro a0 k
 unfold bits_Zeros.f
 repeat' with_reducible first
  | exact bits_Count.mono _ _
  | exact LeO.refl _
  | exact LeO.none _
  | refine LeO.ite ?_ ?_
  | refine LeO.bind ?_ (fun _ => ?_)
theorem bits_Zeros.calls (k : Nat) (A0 : Option Addr) (c0 : Nat) (l0 : List Int) (r : Int) (w : World) (hr0 : Kd.C (Kd.int .u8) w A0 l0.length l0) (hc0 : l0.length ≤ c0) (h : bits_Zeros.f k l0 = some r) :
  Calls Try.prog 17 #[.slice A0 l0.length c0] w fun e w' => e = .returned (.int .i64 r) ∧ Drawn0 w w' := by
 have HR0 := ak_ hr0
 have HC0 := ak_ hc0
 clear hr0 hc0
 unfold bits_Zeros.f at h
 have H := h
 clear h
 obtain ⟨t111, A2, H⟩ := bs_ H
 obtain rfl := si_ H
 go_enter Try.func17, Try.ntmps17
 go_wp2_with ((with_reducible refine gate_callee (f := 36) rfl ?_); refine goesL_ (some 7) rfl rfl Try.func36 (by kernel_rfl) rfl #[.slice A0 l0.length c0] rfl (by (try simp only [List.map_toArray, List.map_cons, List.map_nil]); first | done | rfl | (simp only [List.length_drop, List.length_take]; rfl)) ?_; (with_reducible refine (bits_Count.calls k _ _ l0 t111 _ ?side1 ?side2 A2.out).mono ?_); (case side1 => exact HR0.out); (case side2 => exact HC0.out); rintro e w' ⟨rfl, ⟨nd, rfl⟩⟩; refine ⟨_, rfl, ?_⟩)
 go_ret
 exact ⟨by rfl, by repeat (first | exact Drawn0.refl _ | apply Drawn0.step)⟩
def page_of.f (a0_0 : Int) (a0_1 : Int) (a0_2 : Int) (a0_3 : Int) (a0_4 : Int) (a0_5 : Int) (a0_6 : Int) : Option (Int × Int × Int × Int × Int × Int × Int × Int × Bool) := (geom_Check.f a0_0 a0_1 a0_2 a0_3 a0_4 a0_5 a0_6).bind fun t114 => (some (a0_0, a0_1, a0_2, a0_3, a0_4, a0_5, a0_6, wrap64 (a0_3 * (wrap64 (a0_4 + 2))), (t114 == 0)))
def page_of.T1 : Bool × List (List Nat × List Nat) := (true, [([], []), ([], []), ([1], [1]), ([], []), ([3], [3]), ([4], [4]), ([2, 5], [2, 5]), ([0, 6], [0, 6]), ([], []), ([8], [8]), ([9], [9]), ([7, 9, 0, 1, 2, 3, 4, 5, 6, 7], [7]), ([10, 11, 0, 1, 2, 3, 4, 5, 6, 7, 8, 9, 10, 11], [10])])
def page_of.B1 : List Nat := [0, 0, 2, 0, 8, 24, 62, 127, 0, 256, 768, 1023, 4095]
theorem page_of.tab1 : rtab .any (opsOf Try.f37 1) = page_of.T1 := by kernel_rfl
theorem page_of.bits1 : waitsOk page_of.T1.2 page_of.B1 = true := by kernel_rfl
theorem page_of.calls (a0_0 : Int) (a0_1 : Int) (a0_2 : Int) (a0_3 : Int) (a0_4 : Int) (a0_5 : Int) (a0_6 : Int) (r1 : Int) (r2 : Int) (r3 : Int) (r4 : Int) (r5 : Int) (r6 : Int) (r7 : Int) (r8 : Int) (r9 : Bool) (w : World) (h : page_of.f a0_0 a0_1 a0_2 a0_3 a0_4 a0_5 a0_6 = some (r1, r2, r3, r4, r5, r6, r7, r8, r9)) :
  Calls Try.prog 37 #[.agg #[.int .i64 a0_0, .int .i64 a0_1, .int .i64 a0_2, .int .i64 a0_3, .int .i64 a0_4, .int .i64 a0_5, .int .i64 a0_6]] w fun e w' => e = .returned (.tuple #[.agg #[.int .i64 r1, .int .i64 r2, .int .i64 r3, .int .i64 r4, .int .i64 r5, .int .i64 r6, .int .i64 r7, .int .i64 r8], .bool r9]) ∧ Below w.heap.size w w' := by
 have hu23 := Try.underlying23
 have hu70 := Try.underlying70
 have HB := br_ w
 unfold page_of.f at h
 have H := h
 clear h
 obtain ⟨t114, A2, H⟩ := bs_ H
 simp only [Option.some.injEq, Prod.mk.injEq] at H
 obtain ⟨rfl, rfl, rfl, rfl, rfl, rfl, rfl, rfl, rfl⟩ := H
 go_enter Try.func37, Try.ntmps37
 try go_wp2_with (first | ((with_reducible refine gate_dst (N := 1) rfl ?_); refine box_event ?hg (N := 1) ?hd (cs := #[.int .i64 a0_0, .int .i64 a0_1, .int .i64 a0_2, .int .i64 a0_3, .int .i64 a0_4, .int .i64 a0_5, .int .i64 a0_6]) (t := 23) ?hr ?_; (case hd => rfl); (case hg => rfl); (case hr => (go_simp; done)); intro gb112 hg w3 hbox hb; have BK112 := ak_ (hbox); have GW112 := ak_ (gw_ hg (below_size HB.out)); have GE112 := ak_ (gw_ hg (below_size HB.out)); replace HB := ak_ (below_step HB.out hb); clear hb hbox hg) | ((with_reducible refine gate_dst (N := 2) rfl ?_); refine box_event ?hg (N := 2) ?hd (cs := #[.int .i64 0, .int .i64 0, .int .i64 0, .int .i64 0, .int .i64 0, .int .i64 0, .int .i64 0, .int .i64 0]) (t := 70) ?hr ?_; (case hd => rfl); (case hg => rfl); (case hr => (go_simp; done)); intro gb113 hg w4 hbox hb; have BK113 := ak_ (hbox); have GW113 := ak_ (gw_ hg (below_size HB.out)); have GE113 := ak_ (gw_ hg (below_size HB.out)); replace HB := ak_ (below_step HB.out hb); have NB112_113 := ak_ ((by rw [hg]; exact Nat.ne_of_lt (blk_lt BK112.out) : gb112 ≠ gb113)); have NB113_112 := ak_ ((by rw [hg]; exact Nat.ne_of_gt (blk_lt BK112.out) : gb113 ≠ gb112)); replace BK112 := ak_ (blk_below BK112.out hb); clear hb hbox hg))
 replace BK112 := ak_ (blk_drew BK112.out)
 replace BK113 := ak_ (blk_drew BK113.out)
 replace HB := ak_ (below_drew1 HB.out)
 refine start_ (n := 13) (S := fun w' => w'.cell? ⟨gb112, 0, none⟩ = some (.int .i64 a0_0) ∧ w'.cell? ⟨gb112, 1, none⟩ = some (.int .i64 a0_1) ∧ w'.cell? ⟨gb112, 2, none⟩ = some (.int .i64 a0_2) ∧ w'.cell? ⟨gb112, 3, none⟩ = some (.int .i64 a0_3) ∧ w'.cell? ⟨gb112, 4, none⟩ = some (.int .i64 a0_4) ∧ w'.cell? ⟨gb112, 5, none⟩ = some (.int .i64 a0_5) ∧ w'.cell? ⟨gb112, 6, none⟩ = some (.int .i64 a0_6)) (ds := []) #[false, false, false, false, false, false, false, false, false, false, false, false, false] (by kernel_rfl) rfl rfl ⟨(bc_ BK112.out 0).trans rfl, (bc_ BK112.out 1).trans rfl, (bc_ BK112.out 2).trans rfl, (bc_ BK112.out 3).trans rfl, (bc_ BK112.out 4).trans rfl, (bc_ BK112.out 5).trans rfl, (bc_ BK112.out 6).trans rfl⟩ (fun hHeld => ?_); refine with_tabW page_of.tab1 page_of.bits1 (fun HT_ HW_ => ?_)
 generalize w4.drew = w5 at BK112 BK113 HB hHeld ⊢
 refine pure_ (i := 1) (N := some 5) (v := ?_) (a' := ?_) #[false, true, false, false, false, false, false, false, false, false, false, false, false] rfl rfl (any_of HT_.out (by kernel_rfl)) (fun _ _ _ h => h) (Or.inl ⟨by rfl, ?_⟩) ?_ ?_
 rotate_left
 ·intro w'
  go_simp
  with_reducible rfl
 rotate_left
 ·simp only [Act.put, sb_, sz_, su_, i64_w, i32_w]
  rfl
 refine pure_ (i := 3) (N := some 7) (v := ?_) (a' := ?_) #[false, true, false, true, false, false, false, false, false, false, false, false, false] rfl rfl (any_of HT_.out (by kernel_rfl)) (fun _ _ _ h => h) (Or.inl ⟨by rfl, ?_⟩) ?_ ?_
 rotate_left
 ·intro w'
  go_simp
  with_reducible rfl
 rotate_left
 ·simp only [Act.put, sb_, sz_, su_, i64_w, i32_w]
  rfl
 refine take_ (i := 0) (N := some 4) (v := ?_) (a' := ?_) #[true, true, false, true, false, false, false, false, false, false, false, false, false] rfl rfl (take_ofW HT_.out HW_.out (by kernel_rfl)) (fun _ _ _ h => h) (Or.inl ⟨by rfl, ?_⟩) hHeld ?_ ?_
 rotate_left
 ·rintro w' ⟨s0, s1, s2, s3, s4, s5, s6⟩
  go_simp
  with_reducible rfl
 rotate_left
 ·simp only [Act.put, sb_, sz_, su_, i64_w, i32_w]
  rfl
 refine take_ (i := 2) (N := some 6) (v := ?_) (a' := ?_) #[true, true, true, true, false, false, false, false, false, false, false, false, false] rfl rfl (take_ofW HT_.out HW_.out (by kernel_rfl)) (fun _ _ _ h => h) (Or.inl ⟨by rfl, ?_⟩) hHeld ?_ ?_
 rotate_left
 ·rintro w' ⟨s0, s1, s2, s3, s4, s5, s6⟩
  go_simp
  with_reducible rfl
 rotate_left
 ·simp only [Act.put, sb_, sz_, su_, i64_w, i32_w]
  rfl
 refine take_ (i := 4) (N := some 8) (v := ?_) (a' := ?_) #[true, true, true, true, true, false, false, false, false, false, false, false, false] rfl rfl (take_ofW HT_.out HW_.out (by kernel_rfl)) (fun _ _ _ h => h) (Or.inl ⟨by rfl, ?_⟩) hHeld ?_ ?_
 rotate_left
 ·rintro w' ⟨s0, s1, s2, s3, s4, s5, s6⟩
  go_simp
  with_reducible rfl
 rotate_left
 ·simp only [Act.put, sb_, sz_, su_, i64_w, i32_w]
  rfl
 refine pure_ (i := 5) (N := some 9) (v := ?_) (a' := ?_) #[true, true, true, true, true, true, false, false, false, false, false, false, false] rfl rfl (any_of HT_.out (by kernel_rfl)) (fun _ _ _ h => h) (Or.inl ⟨by rfl, ?_⟩) ?_ ?_
 rotate_left
 ·intro w'
  go_simp
  with_reducible rfl
 rotate_left
 ·simp only [Act.put, sb_, sz_, su_, i64_w, i32_w]
  rfl
 refine pure_ (i := 6) (N := some 10) (v := ?_) (a' := ?_) #[true, true, true, true, true, true, true, false, false, false, false, false, false] rfl rfl (any_of HT_.out (by kernel_rfl)) (fun _ _ _ h => h) (Or.inl ⟨by rfl, ?_⟩) ?_ ?_
 rotate_left
 ·intro w'
  go_simp
  with_reducible rfl
 rotate_left
 ·simp only [Act.put, sb_, sz_, su_, i64_w, i32_w]
  rfl
 refine pure_ (i := 7) (N := some 11) (v := ?_) (a' := ?_) #[true, true, true, true, true, true, true, true, false, false, false, false, false] rfl rfl (any_of HT_.out (by kernel_rfl)) (fun _ _ _ h => h) (Or.inl ⟨by rfl, ?_⟩) ?_ ?_
 rotate_left
 ·intro w'
  go_simp
  with_reducible rfl
 rotate_left
 ·simp only [Act.put, sb_, sz_, su_, i64_w, i32_w]
  rfl
 refine take_ (i := 8) (N := some 12) (v := ?_) (a' := ?_) #[true, true, true, true, true, true, true, true, true, false, false, false, false] rfl rfl (take_ofW HT_.out HW_.out (by kernel_rfl)) (fun _ _ _ h => h) (Or.inl ⟨by rfl, ?_⟩) hHeld ?_ ?_
 rotate_left
 ·rintro w' ⟨s0, s1, s2, s3, s4, s5, s6⟩
  go_simp
  with_reducible rfl
 rotate_left
 ·simp only [Act.put, sb_, sz_, su_, i64_w, i32_w]
  rfl
 refine one_ (i := 9) (N := some 13) #[true, true, true, true, true, true, true, true, true, true, false, false, false] rfl rfl (one_of HT_.out (by kernel_rfl)) (by decide) (fun K hK => ?_)
 refine goes_ Try.func35 (by kernel_rfl) rfl #[.agg #[.int .i64 a0_0, .int .i64 a0_1, .int .i64 a0_2, .int .i64 a0_3, .int .i64 a0_4, .int .i64 a0_5, .int .i64 a0_6]] (by rfl) rfl rfl (by (try simp only [List.map_toArray, List.map_cons, List.map_nil]); first | done | rfl | (simp only [List.length_drop, List.length_take]; rfl)) ?_
 with_reducible refine (geom_Check.calls a0_0 a0_1 a0_2 a0_3 a0_4 a0_5 a0_6 t114 _ A2.out).mono ?_
 rintro e w6 ⟨rfl, hb⟩
 refine ⟨_, rfl, ?_⟩
 replace BK112 := ak_ (blk_below BK112.out hb)
 replace BK113 := ak_ (blk_below BK113.out hb)
 replace HB := ak_ (below_step HB.out hb)
 (try clear hb)
 refine hK.out _ _ (cells7 BK112.out) (fun hHeld => ?_)
 clear hK K
 refine norm_ (a' := ?_) ?_ ?_
 rotate_left
 ·show Act.put _ (some 13) _ = _
  simp only [Act.put, sb_, sz_, su_, i64_w, i32_w]
  rfl
 refine pure_ (i := 10) (N := some 14) (v := ?_) (a' := ?_) #[true, true, true, true, true, true, true, true, true, true, true, false, false] rfl rfl (any_of HT_.out (by kernel_rfl)) (fun _ _ _ h => h) (Or.inl ⟨by rfl, ?_⟩) ?_ ?_
 rotate_left
 ·intro w'
  go_simp
  with_reducible rfl
 rotate_left
 ·simp only [Act.put, sb_, sz_, su_, i64_w, i32_w]
  rfl
 refine one_ (i := 11) (N := none) #[true, true, true, true, true, true, true, true, true, true, true, true, false] rfl rfl (one_of HT_.out (by kernel_rfl)) (by decide) (fun K hK => ?_)
 have hs7 : w6.cell? ⟨gb113, 0, none⟩ = some (.int .i64 0) := (bc_ BK113.out 0).trans rfl
 have hfs7 := bf_ BK113.out 0
 have hns7_0 := NB112_113.out
 have hms7_0 := NB113_112.out
 have hs8 : w6.cell? ⟨gb113, 1, none⟩ = some (.int .i64 0) := (bc_ BK113.out 1).trans rfl
 have hfs8 := bf_ BK113.out 1
 have hns8_0 := NB112_113.out
 have hms8_0 := NB113_112.out
 have hs9 : w6.cell? ⟨gb113, 2, none⟩ = some (.int .i64 0) := (bc_ BK113.out 2).trans rfl
 have hfs9 := bf_ BK113.out 2
 have hns9_0 := NB112_113.out
 have hms9_0 := NB113_112.out
 have hs10 : w6.cell? ⟨gb113, 3, none⟩ = some (.int .i64 0) := (bc_ BK113.out 3).trans rfl
 have hfs10 := bf_ BK113.out 3
 have hns10_0 := NB112_113.out
 have hms10_0 := NB113_112.out
 have hs11 : w6.cell? ⟨gb113, 4, none⟩ = some (.int .i64 0) := (bc_ BK113.out 4).trans rfl
 have hfs11 := bf_ BK113.out 4
 have hns11_0 := NB112_113.out
 have hms11_0 := NB113_112.out
 have hs12 : w6.cell? ⟨gb113, 5, none⟩ = some (.int .i64 0) := (bc_ BK113.out 5).trans rfl
 have hfs12 := bf_ BK113.out 5
 have hns12_0 := NB112_113.out
 have hms12_0 := NB113_112.out
 have hs13 : w6.cell? ⟨gb113, 6, none⟩ = some (.int .i64 0) := (bc_ BK113.out 6).trans rfl
 have hfs13 := bf_ BK113.out 6
 have hns13_0 := NB112_113.out
 have hms13_0 := NB113_112.out
 have hs14 : w6.cell? ⟨gb113, 7, none⟩ = some (.int .i64 0) := (bc_ BK113.out 7).trans rfl
 have hfs14 := bf_ BK113.out 7
 have hns14_0 := NB112_113.out
 have hms14_0 := NB113_112.out
 refine skip_ (w1 := ?_) (by rfl) rfl ?_ ?_
 rotate_left
 ·go_simp
  rfl
 refine hK.out _ _ ⟨((cell_far (p := ⟨gb113, _, none⟩) NB112_113.out _).trans (((cell_far (p := ⟨gb113, _, none⟩) NB112_113.out _).trans (((cell_far (p := ⟨gb113, _, none⟩) NB112_113.out _).trans (((cell_far (p := ⟨gb113, _, none⟩) NB112_113.out _).trans (((cell_far (p := ⟨gb113, _, none⟩) NB112_113.out _).trans (((cell_far (p := ⟨gb113, _, none⟩) NB112_113.out _).trans (((cell_far (p := ⟨gb113, _, none⟩) NB112_113.out _).trans (((cell_far (p := ⟨gb113, _, none⟩) NB112_113.out _).trans (hHeld.1)))))))))))))))), ((cell_far (p := ⟨gb113, _, none⟩) NB112_113.out _).trans (((cell_far (p := ⟨gb113, _, none⟩) NB112_113.out _).trans (((cell_far (p := ⟨gb113, _, none⟩) NB112_113.out _).trans (((cell_far (p := ⟨gb113, _, none⟩) NB112_113.out _).trans (((cell_far (p := ⟨gb113, _, none⟩) NB112_113.out _).trans (((cell_far (p := ⟨gb113, _, none⟩) NB112_113.out _).trans (((cell_far (p := ⟨gb113, _, none⟩) NB112_113.out _).trans (((cell_far (p := ⟨gb113, _, none⟩) NB112_113.out _).trans (hHeld.2.1)))))))))))))))), ((cell_far (p := ⟨gb113, _, none⟩) NB112_113.out _).trans (((cell_far (p := ⟨gb113, _, none⟩) NB112_113.out _).trans (((cell_far (p := ⟨gb113, _, none⟩) NB112_113.out _).trans (((cell_far (p := ⟨gb113, _, none⟩) NB112_113.out _).trans (((cell_far (p := ⟨gb113, _, none⟩) NB112_113.out _).trans (((cell_far (p := ⟨gb113, _, none⟩) NB112_113.out _).trans (((cell_far (p := ⟨gb113, _, none⟩) NB112_113.out _).trans (((cell_far (p := ⟨gb113, _, none⟩) NB112_113.out _).trans (hHeld.2.2.1)))))))))))))))), ((cell_far (p := ⟨gb113, _, none⟩) NB112_113.out _).trans (((cell_far (p := ⟨gb113, _, none⟩) NB112_113.out _).trans (((cell_far (p := ⟨gb113, _, none⟩) NB112_113.out _).trans (((cell_far (p := ⟨gb113, _, none⟩) NB112_113.out _).trans (((cell_far (p := ⟨gb113, _, none⟩) NB112_113.out _).trans (((cell_far (p := ⟨gb113, _, none⟩) NB112_113.out _).trans (((cell_far (p := ⟨gb113, _, none⟩) NB112_113.out _).trans (((cell_far (p := ⟨gb113, _, none⟩) NB112_113.out _).trans (hHeld.2.2.2.1)))))))))))))))), ((cell_far (p := ⟨gb113, _, none⟩) NB112_113.out _).trans (((cell_far (p := ⟨gb113, _, none⟩) NB112_113.out _).trans (((cell_far (p := ⟨gb113, _, none⟩) NB112_113.out _).trans (((cell_far (p := ⟨gb113, _, none⟩) NB112_113.out _).trans (((cell_far (p := ⟨gb113, _, none⟩) NB112_113.out _).trans (((cell_far (p := ⟨gb113, _, none⟩) NB112_113.out _).trans (((cell_far (p := ⟨gb113, _, none⟩) NB112_113.out _).trans (((cell_far (p := ⟨gb113, _, none⟩) NB112_113.out _).trans (hHeld.2.2.2.2.1)))))))))))))))), ((cell_far (p := ⟨gb113, _, none⟩) NB112_113.out _).trans (((cell_far (p := ⟨gb113, _, none⟩) NB112_113.out _).trans (((cell_far (p := ⟨gb113, _, none⟩) NB112_113.out _).trans (((cell_far (p := ⟨gb113, _, none⟩) NB112_113.out _).trans (((cell_far (p := ⟨gb113, _, none⟩) NB112_113.out _).trans (((cell_far (p := ⟨gb113, _, none⟩) NB112_113.out _).trans (((cell_far (p := ⟨gb113, _, none⟩) NB112_113.out _).trans (((cell_far (p := ⟨gb113, _, none⟩) NB112_113.out _).trans (hHeld.2.2.2.2.2.1)))))))))))))))), ((cell_far (p := ⟨gb113, _, none⟩) NB112_113.out _).trans (((cell_far (p := ⟨gb113, _, none⟩) NB112_113.out _).trans (((cell_far (p := ⟨gb113, _, none⟩) NB112_113.out _).trans (((cell_far (p := ⟨gb113, _, none⟩) NB112_113.out _).trans (((cell_far (p := ⟨gb113, _, none⟩) NB112_113.out _).trans (((cell_far (p := ⟨gb113, _, none⟩) NB112_113.out _).trans (((cell_far (p := ⟨gb113, _, none⟩) NB112_113.out _).trans (((cell_far (p := ⟨gb113, _, none⟩) NB112_113.out _).trans (hHeld.2.2.2.2.2.2))))))))))))))))⟩ (fun hHeld => ?_)
 clear hK K
 refine pure_ (i := 12) (N := some 3) (v := ?_) (a' := ?_) #[true, true, true, true, true, true, true, true, true, true, true, true, true] rfl rfl (any_of HT_.out (by kernel_rfl)) (fun _ _ _ h => h) (Or.inl ⟨by rfl, ?_⟩) ?_ ?_
 rotate_left
 ·intro w'
  go_simp
  with_reducible rfl
 rotate_left
 ·simp only [Act.put, sb_, sz_, su_, i64_w, i32_w]
  rfl
 refine done_ (done_of HT_.out (by kernel_rfl)) ?_
 try go_wp2
 refine bodyPost_ret (results_ct rfl _ _ gb113 70 #[.int .i64 a0_0, .int .i64 a0_1, .int .i64 a0_2, .int .i64 a0_3, .int .i64 a0_4, .int .i64 a0_5, .int .i64 a0_6, .int .i64 (wrap64 (a0_3 * (wrap64 (a0_4 + 2))))] (0, 0) _ rfl (put8 BK113.out) Try.underlying70 rfl (by kernel_rfl)) rfl ?_
 exact ⟨by rfl, by repeat (first | (with_reducible first | exact HB.out | apply below_alloc | apply pw_below_drewN | apply below_drew1 | refine below_set ?_ GE112.out | refine below_set ?_ GE113.out) | exact HB.out)⟩
def page_shape_size.f (a0_0 : Int) (a0_1 : Int) (a0_2 : Int) (a0_3 : Int) (a0_4 : Int) (a0_5 : Int) (a0_6 : Int) (a0_7 : Int) : Option (Int) := (geom_Raw.f a0_0 a0_1 a0_2 a0_3 a0_4 a0_5 a0_6).bind fun t116 => (some t116)
theorem page_shape_size.calls (a0_0 : Int) (a0_1 : Int) (a0_2 : Int) (a0_3 : Int) (a0_4 : Int) (a0_5 : Int) (a0_6 : Int) (a0_7 : Int) (r : Int) (w : World) (h : page_shape_size.f a0_0 a0_1 a0_2 a0_3 a0_4 a0_5 a0_6 a0_7 = some r) :
  Calls Try.prog 56 #[.agg #[.int .i64 a0_0, .int .i64 a0_1, .int .i64 a0_2, .int .i64 a0_3, .int .i64 a0_4, .int .i64 a0_5, .int .i64 a0_6, .int .i64 a0_7]] w fun e w' => e = .returned (.int .i64 r) ∧ Below w.heap.size w w' := by
 have hu70 := Try.underlying70
 have hu23 := Try.underlying23
 have HB := br_ w
 unfold page_shape_size.f at h
 have H := h
 clear h
 obtain ⟨t116, A2, H⟩ := bs_ H
 obtain rfl := si_ H
 go_enter Try.func56, Try.ntmps56
 go_wp2_with (first | ((with_reducible refine gate_dst (N := 1) rfl ?_); refine box_event ?hg (N := 1) ?hd (cs := #[.int .i64 a0_0, .int .i64 a0_1, .int .i64 a0_2, .int .i64 a0_3, .int .i64 a0_4, .int .i64 a0_5, .int .i64 a0_6, .int .i64 a0_7]) (t := 70) ?hr ?_; (case hd => rfl); (case hg => rfl); (case hr => (go_simp; done)); intro gb115 hg w3 hbox hb; have BK115 := ak_ (hbox); have GW115 := ak_ (gw_ hg (below_size HB.out)); have GE115 := ak_ (gw_ hg (below_size HB.out)); replace HB := ak_ (below_step HB.out hb); clear hb hbox hg; have hcz4_0 : w3.cell? ⟨gb115, 0, none⟩ = some (.int .i64 a0_0) := (bc_ BK115.out 0).trans rfl; have hcz4_1 : w3.cell? ⟨gb115, 1, none⟩ = some (.int .i64 a0_1) := (bc_ BK115.out 1).trans rfl; have hcz4_2 : w3.cell? ⟨gb115, 2, none⟩ = some (.int .i64 a0_2) := (bc_ BK115.out 2).trans rfl; have hcz4_3 : w3.cell? ⟨gb115, 3, none⟩ = some (.int .i64 a0_3) := (bc_ BK115.out 3).trans rfl; have hcz4_4 : w3.cell? ⟨gb115, 4, none⟩ = some (.int .i64 a0_4) := (bc_ BK115.out 4).trans rfl; have hcz4_5 : w3.cell? ⟨gb115, 5, none⟩ = some (.int .i64 a0_5) := (bc_ BK115.out 5).trans rfl; have hcz4_6 : w3.cell? ⟨gb115, 6, none⟩ = some (.int .i64 a0_6) := (bc_ BK115.out 6).trans rfl; have hcz4_7 : w3.cell? ⟨gb115, 7, none⟩ = some (.int .i64 a0_7) := (bc_ BK115.out 7).trans rfl; have hfz4_0 := bf_ BK115.out 0; have hfz4_1 := bf_ BK115.out 1; have hfz4_2 := bf_ BK115.out 2; have hfz4_3 := bf_ BK115.out 3; have hfz4_4 := bf_ BK115.out 4; have hfz4_5 := bf_ BK115.out 5; have hfz4_6 := bf_ BK115.out 6; have hfz4_7 := bf_ BK115.out 7) | ((with_reducible refine gate_callee (f := 16) rfl ?_); refine goesL_ (some 5) rfl rfl Try.func16 (by kernel_rfl) rfl #[.agg #[.int .i64 a0_0, .int .i64 a0_1, .int .i64 a0_2, .int .i64 a0_3, .int .i64 a0_4, .int .i64 a0_5, .int .i64 a0_6]] rfl (by (try simp only [List.map_toArray, List.map_cons, List.map_nil]); first | done | rfl | (simp only [List.length_drop, List.length_take]; rfl)) ?_; (with_reducible refine (geom_Raw.calls a0_0 a0_1 a0_2 a0_3 a0_4 a0_5 a0_6 t116 _ A2.out).mono ?_); rintro e w5 ⟨rfl, hb⟩; refine ⟨_, rfl, ?_⟩; replace BK115 := ak_ (blk_below BK115.out hb); replace HB := ak_ (below_step HB.out hb); (try clear hb)))
 go_ret
 exact ⟨by rfl, HB.out⟩
def page_shape_label.f (a0_0 : Int) (a0_1 : Int) (a0_2 : Int) (a0_3 : Int) (a0_4 : Int) (a0_5 : Int) (a0_6 : Int) (a0_7 : Int) (l1 : List Int) : Option (List Int) := if 0 ≤ a0_7 then (if a0_7 ≤ (wrap64 ((wrap64 (a0_7 + 28)) + 2)) then (if (wrap64 ((wrap64 (a0_7 + 28)) + 2)) ≤ (l1.length : Int) then (some ((l1.take ((wrap64 ((wrap64 (a0_7 + 28)) + 2)) : Int).toNat).drop (a0_7 : Int).toNat)) else (none)) else (none)) else (none)
theorem page_shape_label.calls (a0_0 : Int) (a0_1 : Int) (a0_2 : Int) (a0_3 : Int) (a0_4 : Int) (a0_5 : Int) (a0_6 : Int) (a0_7 : Int) (P1_ : Nat → Prop) (A1 : Option Addr) (c1 : Nat) (l1 : List Int) (r : List Int) (w : World) (hs1 : Kd.V (Kd.int .u8) 5 w w.heap.size (fun k_ => P1_ k_) (.slice A1 l1.length c1) l1) (h : page_shape_label.f a0_0 a0_1 a0_2 a0_3 a0_4 a0_5 a0_6 a0_7 l1 = some r) :
  Calls Try.prog 57 #[.agg #[.int .i64 a0_0, .int .i64 a0_1, .int .i64 a0_2, .int .i64 a0_3, .int .i64 a0_4, .int .i64 a0_5, .int .i64 a0_6, .int .i64 a0_7], .slice A1 l1.length c1] w fun e w' => ∃ v0_ : Value, e = .returned (v0_) ∧ Kd.V (Kd.int .u8) 5 w' w.heap.size (fun k_ => (P1_ k_ ∨ w.heap.size ≤ k_)) v0_ r ∧ Below w.heap.size w w' := by
 have hu70 := Try.underlying70
 have HO1 := ak_ (show Kd.V (Kd.int .u8) 5 w w.heap.size (fun k_ => (P1_ k_ ∨ w.heap.size ≤ k_)) (.slice A1 l1.length c1) l1 from Kd.V_mono hs1 (fun k_ hk => .inl hk))
 have HB := br_ w
 unfold page_shape_label.f at h
 have H := h
 clear h
 by_cases c3 : 0 ≤ a0_7
 ·rw [if_pos c3] at H
  have c3b0 := eq_true c3
  have c3b1 := dt_ c3
  clear c3
  by_cases c4 : a0_7 ≤ (wrap64 ((wrap64 (a0_7 + 28)) + 2))
  ·rw [if_pos c4] at H
   have c4b0 := eq_true c4
   have c4b1 := dt_ c4
   by_cases c5 : (wrap64 ((wrap64 (a0_7 + 28)) + 2)) ≤ (l1.length : Int)
   ·rw [if_pos c5] at H
    have c5b0 := eq_true c5
    have c5b1 := dt_ c5
    obtain ⟨y118, hy118⟩ : ∃ y_ : List Int, y_ = ((l1.take ((wrap64 ((wrap64 (a0_7 + 28)) + 2)) : Int).toNat).drop (a0_7 : Int).toNat) := ⟨_, rfl⟩
    replace H : (some y118) = some r := (by rw [hy118]; with_reducible exact H)
    have Ny118 := ak_ hy118
    clear hy118
    obtain rfl := si_ H
    go_enter Try.func57, Try.ntmps57
    go_wp2_with ((with_reducible refine gate_dst (N := 2) rfl ?_); refine box_event ?hg (N := 2) ?hd (cs := #[.int .i64 a0_0, .int .i64 a0_1, .int .i64 a0_2, .int .i64 a0_3, .int .i64 a0_4, .int .i64 a0_5, .int .i64 a0_6, .int .i64 a0_7]) (t := 70) ?hr ?_; (case hd => rfl); (case hg => rfl); (case hr => (go_simp; done)); intro gb117 hg w6 hbox hb; replace HO1 := ak_ (Kd.V_below (Kd.V_elderB HO1.out gb117 (Nat.le_of_eq hg.symm)) hb); have BK117 := ak_ (hbox); have GW117 := ak_ (gw_ hg (below_size HB.out)); have GE117 := ak_ (gw_ hg (below_size HB.out)); replace HB := ak_ (below_step HB.out hb); clear hb hbox hg; have hcz7_0 : w6.cell? ⟨gb117, 0, none⟩ = some (.int .i64 a0_0) := (bc_ BK117.out 0).trans rfl; have hcz7_1 : w6.cell? ⟨gb117, 1, none⟩ = some (.int .i64 a0_1) := (bc_ BK117.out 1).trans rfl; have hcz7_2 : w6.cell? ⟨gb117, 2, none⟩ = some (.int .i64 a0_2) := (bc_ BK117.out 2).trans rfl; have hcz7_3 : w6.cell? ⟨gb117, 3, none⟩ = some (.int .i64 a0_3) := (bc_ BK117.out 3).trans rfl; have hcz7_4 : w6.cell? ⟨gb117, 4, none⟩ = some (.int .i64 a0_4) := (bc_ BK117.out 4).trans rfl; have hcz7_5 : w6.cell? ⟨gb117, 5, none⟩ = some (.int .i64 a0_5) := (bc_ BK117.out 5).trans rfl; have hcz7_6 : w6.cell? ⟨gb117, 6, none⟩ = some (.int .i64 a0_6) := (bc_ BK117.out 6).trans rfl; have hcz7_7 : w6.cell? ⟨gb117, 7, none⟩ = some (.int .i64 a0_7) := (bc_ BK117.out 7).trans rfl; have hfz7_0 := bf_ BK117.out 0; have hfz7_1 := bf_ BK117.out 1; have hfz7_2 := bf_ BK117.out 2; have hfz7_3 := bf_ BK117.out 3; have hfz7_4 := bf_ BK117.out 4; have hfz7_5 := bf_ BK117.out 5; have hfz7_6 := bf_ BK117.out 6; have hfz7_7 := bf_ BK117.out 7; have q8 : ((wrap64 ((wrap64 (a0_7 + 28)) + 2)) : Int) ≤ ((l1.length : Int) : Int) := od_ ‹_›; obtain ⟨i08, hi08, _, hsz8, _⟩ := info_parts info5; have hroom8 : l1.length ≤ c1 := (Kd.V_reads' HO1.out).2.1; have hC8 : Kd.F (Kd.int .u8) _ _ A1 l1.length l1 := (Kd.V_at (base := w.heap.size) HO1.out).2.2; have ql8 : (a0_7 : Int) ≤ ((wrap64 ((wrap64 (a0_7 + 28)) + 2)) : Int) := od_ ‹_›; have q08 : (0 : Int) ≤ (a0_7 : Int) := od_ ‹_›; have hcut8 := cut_mid (P := Try.prog) 24 5 .i64 .i64 Try.underlying24 hi08 1 hsz8 A1 l1.length c1 a0_7 (wrap64 ((wrap64 (a0_7 + 28)) + 2)) q08 ql8 q8 hroom8; have hr8 := Kd.F_mid (lo := (a0_7 : Int).toNat) (hi := ((wrap64 ((wrap64 (a0_7 + 28)) + 2)) : Int).toNat) (c := c1) hC8 (by omega) (by omega) hroom8; obtain ⟨A8, hA8⟩ : ∃ Az_, Az_ = (if c1 = (a0_7 : Int).toNat then A1 else (A1 : Option Addr).map (·.add ((a0_7 : Int).toNat * 1))) := ⟨_, rfl⟩; obtain ⟨c8, hc8⟩ : ∃ Az_, Az_ = c1 - (a0_7 : Int).toNat := ⟨_, rfl⟩; have hy8 : y118.length = ((wrap64 ((wrap64 (a0_7 + 28)) + 2)) : Int).toNat - (a0_7 : Int).toNat := (by rw [Ny118.out, List.length_drop, List.length_take] <;> omega); rw [show ((l1).take ((wrap64 ((wrap64 (a0_7 + 28)) + 2)) : Int).toNat).drop (a0_7 : Int).toNat = y118 from Ny118.out.symm] at hr8; replace hr8 : Kd.F (Kd.int .u8) _ _ A8 y118.length y118 := (by rw [hA8]; exact hr8); rw [← hy8, ← hA8, ← hc8] at hcut8; have HO122 := ak_ (show Kd.V (Kd.int .u8) 5 _ w.heap.size _ (.slice A8 y118.length c8) y118 from Kd.V_mk (by rw [hy8, hc8]; exact Nat.sub_le_sub_right (Nat.le_trans (by omega) hroom8) _) hr8); have HC122 := ak_ (show y118.length ≤ c8 from by rw [hy8, hc8]; exact Nat.sub_le_sub_right (Nat.le_trans (by omega) hroom8) _); clear hr8 hC8 hroom8 hi08 hsz8 hc8; have KY8 := ak_ hy8; have KA8 := ak_ hA8; clear hy8 hA8; replace q8 := eq_true q8)
    go_ret
    exact ⟨_, by rfl, (Kd.V_mono HO122.out (fun _ hk => hk.1)), HB.out⟩
   ·rw [if_neg c5] at H
    exact absurd H (by simp)
  ·rw [if_neg c4] at H
   exact absurd H (by simp)
 ·rw [if_neg c3] at H
  exact absurd H (by simp)
def chunk_may.f (l0 : List Int) (a1 : Int) : Option (Bool) := if a1 ≥ 1 then (if a1 ≤ 512 then (if (wrap64 (a1 + 2)) = 0 then (none) else (some (((l0.length : Int) % (wrap64 (a1 + 2))) == 0))) else (some false)) else (some false)
theorem chunk_may.calls (A0 : Option Addr) (c0 : Nat) (l0 : List Int) (a1 : Int) (r : Bool) (w : World) (hr0 : Kd.C (Kd.int .u8) w A0 l0.length l0) (hc0 : l0.length ≤ c0) (h : chunk_may.f l0 a1 = some r) :
  Calls Try.prog 77 #[.slice A0 l0.length c0, .int .i64 a1] w fun e w' => e = .returned (.bool r) ∧ Drawn0 w w' := by
 have HR0 := ak_ hr0
 have HC0 := ak_ hc0
 clear hr0 hc0
 unfold chunk_may.f at h
 have H := h
 clear h
 by_cases c3 : a1 ≥ 1
 ·rw [if_pos c3] at H
  have c3b0 : decide (1 ≤ a1) = true := dt_ c3
  clear c3
  by_cases c4 : a1 ≤ 512
  ·rw [if_pos c4] at H
   have c4b0 := dt_ c4
   clear c4
   by_cases c5 : (wrap64 (a1 + 2)) = 0
   ·rw [if_pos c5] at H
    exact absurd H (by simp)
   ·rw [if_neg c5] at H
    have c5b0 := beq_eq_false_iff_ne.mpr c5
    have c5b1 := bne_iff_ne.mpr c5
    obtain rfl := si_ H
    go_enter Try.func77, Try.ntmps77
    go_wp2
    go_ret
    exact ⟨by rfl, by repeat (first | exact Drawn0.refl _ | apply Drawn0.step)⟩
  ·rw [if_neg c4] at H
   have c4b0 := df_ c4
   clear c4
   obtain rfl := si_ H
   go_enter Try.func77, Try.ntmps77
   go_wp2
   go_ret
   exact ⟨by rfl, by repeat (first | exact Drawn0.refl _ | apply Drawn0.step)⟩
 ·rw [if_neg c3] at H
  have c3b0 : decide (1 ≤ a1) = false := df_ c3
  clear c3
  obtain rfl := si_ H
  go_enter Try.func77, Try.ntmps77
  go_wp2
  go_ret
  exact ⟨by rfl, by repeat (first | exact Drawn0.refl _ | apply Drawn0.step)⟩
def slices_Clone_byte_byte.f (l0 : List Int) : Option (List Int) := if l0.length < 140737488355328 then some l0 else none
set_option maxHeartbeats 1000000 in
theorem slices_Clone_byte_byte.calls (A0 : Option Addr) (c0 : Nat) (l0 : List Int) (r : List Int) (w : World) (hr0 : Kd.C (Kd.int .u8) w A0 l0.length l0) (hc0 : l0.length ≤ c0) (h : slices_Clone_byte_byte.f l0 = some r) :
  Calls Try.prog 63 #[.slice A0 l0.length c0] w fun e w' => ∃ v0_ : Value, e = .returned v0_ ∧ Kd.R (Kd.int .u8) 5 w' w.heap.size (fun _ => True) v0_ r ∧ Below w.heap.size w w' := by
 have HR0 := ak_ hr0
 clear hr0
 unfold slices_Clone_byte_byte.f at h
 split at h
 ·rename_i hl
  have HL := ak_ hl
  clear hl
  obtain rfl := si_ h
  clear h
  cases A0 with
  | none =>
   have hnil : l0 = [] := by
    by_cases e : 0 < l0.length
    ·obtain ⟨ad, e1, _⟩ := HR0.out.2.2 e
     cases e1
    ·exact List.length_eq_zero_iff.1 (by omega)
   subst hnil
   have hn := fun (w : World) (n c : Nat) => Lib.run_eql_slice_nil_nil (P := Try.prog) w n c Try.underlying24
   go_enter Try.func63, Try.ntmps63
   go_wp2
   go_ret
   exact ⟨_, rfl, Kd.R_nil _ _ _ _ _, Below.refl _ _⟩
  | some a =>
   have hn := fun (w : World) (n c : Nat) => Lib.run_eql_slice_nil (P := Try.prog) w 24 5 (some a) n c 0 0 Try.underlying24
   go_enter Try.func63, Try.ntmps63
   have HB := br_ w
   go_wp2_with (first | ((with_reducible refine gate_dst (N := 5) rfl ?_); refine Kd.R_lit (Kd.int .u8) w.heap.size 5 ?hg (N := 5) ?hd (xs := ([] : List Int)) (inner := []) (ok := fun _ => True) (okp := fun _ => True) ?hr ?hp (fun _ hk => hk) trivial HB.out (Nat.le_refl _) (by simp) ?_; (case hd => rfl); (case hg => rfl); (case hr => (go_simp; done)); (case hp => exact (Reps.none _ _)); intro v1 w1 ho1 hb1 hg1 hnew1; clear hg1 hnew1; have HO1 := ak_ ho1; have HB1 := ak_ hb1; clear ho1 hb1) | ((with_reducible refine gate_builtin (b := .append) (xs := #[.tmp 5, .tmp 6]) rfl ?_); at_builtin; refine Kd.R_append_rows (Kd.int .u8) (w0 := w) w.heap.size rfl (.tmp 5) (.tmp 6) 24 5 (.int .u8 0) 1 rfl Try.underlying24 info5 rfl (by decide) (by omega) v1 [] l0 _ _ _ (fun _ => True) (fun _ => False) rfl rfl ?aO ?aR (fun _ _ h => h) (fun _ h => h.elim) (fun _ _ => trivial) ?aB ?aS ?aL ?_; (case aO => exact HO1.out); (case aR => exact Kd.C_below HR0.out HB1.out); (case aB => exact HB1.out); (case aS => exact below_size HB1.out); (case aL => have := HL.out; simp; omega); intro v2 w2 ho2 hb2 hg2 hat2; clear hg2 hat2; rw [List.nil_append] at ho2; have HO2 := ak_ ho2; have HB2 := ak_ hb2; clear ho2 hb2))
   go_ret
   exact ⟨_, rfl, HO2.out, HB2.out⟩
 ·cases h
end Go.Proofs.Ytmehbabchakkpaa.QLadderClimbs
