import Derived.Test.YtmehbabchakkpaaMPageDecodesx9
namespace Go.Proofs.Ytmehbabchakkpaa.QPageDecodes
open Go.RowKit Go.Proofs.YtmehbabchakkpaaW.PrintWords Go.Proofs.YtmehbabchakkpaaW.PrintLast Go.Proofs.YtmehbabchakkpaaW.PrintMore Go.Proofs.Ytmehbabchakkpaa.Short
attribute [local go_sem] max2_int min2_int max_two min_two max_three min_three max_four min_four
set_option linter.unusedVariables false
set_option maxHeartbeats 8000000
set_option maxRecDepth 100000
set_option linter.unusedSimpArgs false
mutual
def incunableref06_All.j0 : Nat → List Int → Int → Bool → Option (List Int × Int × Int)
 | 0, _, _, _ => none
 | k + 1, x0, x1, x26 => if x26 = true then (some (([] : List Int), 0, 2)) else (incunableref06_All.l0 k x0 x1 ([] : List Int) 0 0)
def incunableref06_All.l0 : Nat → List Int → Int → List Int → Int → Int → Option (List Int × Int × Int)
 | 0, _, _, _, _, _ => none
 | k + 1, x0, x1, x7, x8, x9 => if x9 < (x0.length : Int) then (if 0 ≤ x9 then (if x9 ≤ (wrap64 ((wrap64 (x9 + x1)) + 2)) then (if (wrap64 ((wrap64 (x9 + x1)) + 2)) ≤ (x0.length : Int) then ((incunableref06_Decode.f k ((x0.take ((wrap64 ((wrap64 (x9 + x1)) + 2)) : Int).toNat).drop (x9 : Int).toNat)).bind fun bt318 => (if bt318.2.2 = 0 then (if x7.length + bt318.1.length < 140737488355328 then (incunableref06_All.l0 k x0 x1 (x7 ++ bt318.1) (wrap64 (x8 + bt318.2.1)) (wrap64 ((wrap64 (x9 + x1)) + 2))) else (none)) else (some (([] : List Int), 0, bt318.2.2)))) else (none)) else (none)) else (none)) else (some (x7, x8, 0))
end
def incunableref06_All.f (k : Nat) (l0 : List Int) (a1 : Int) : Option (List Int × Int × Int) := if a1 < 1 then (incunableref06_All.j0 k l0 a1 true) else (if a1 > 512 then (incunableref06_All.j0 k l0 a1 true) else (if (wrap64 (a1 + 2)) = 0 then (none) else (incunableref06_All.j0 k l0 a1 (((l0.length : Int) % (wrap64 (a1 + 2))) != 0))))
theorem incunableref06_All.mono_l : ∀ k, (∀ y0 y1 y2, LeO (incunableref06_All.j0 k y0 y1 y2) (incunableref06_All.j0 (k + 1) y0 y1 y2)) ∧ (∀ y0 y1 y2 y3 y4, LeO (incunableref06_All.l0 k y0 y1 y2 y3 y4) (incunableref06_All.l0 (k + 1) y0 y1 y2 y3 y4))
 | 0 => ⟨fun _ _ _ r h => by simp [incunableref06_All.j0] at h, fun _ _ _ _ _ r h => by simp [incunableref06_All.l0] at h⟩
 | k + 1 => by
  obtain ⟨ih0, ih1⟩ := incunableref06_All.mono_l k
  refine ⟨?_, ?_⟩
  ·intro y0 y1 y2
   unfold incunableref06_All.j0
   repeat' with_reducible first
   | exact ih0 _ _ _
   | exact ih1 _ _ _ _ _
   | exact incunableref06_Decode.mono _ _
   | exact LeO.refl _
   | exact LeO.none _
   | refine LeO.ite ?_ ?_
   | refine LeO.bind ?_ (fun _ => ?_)
  ·intro y0 y1 y2 y3 y4
   unfold incunableref06_All.l0
   repeat' with_reducible first
   | exact ih0 _ _ _
   | exact ih1 _ _ _ _ _
   | exact incunableref06_Decode.mono _ _
   | exact LeO.refl _
   | exact LeO.none _
   | refine LeO.ite ?_ ?_
   | refine LeO.bind ?_ (fun _ => ?_)
theorem incunableref06_All.mono : ∀ a0 a1 k, LeO (incunableref06_All.f k a0 a1) (incunableref06_All.f (k + 1) a0 a1) := by
 intro a0 a1 k
 obtain ⟨ih0, ih1⟩ := incunableref06_All.mono_l k
 unfold incunableref06_All.f
 repeat' with_reducible first
  | exact ih0 _ _ _
  | exact ih1 _ _ _ _ _
  | exact incunableref06_Decode.mono _ _
  | exact LeO.refl _
  | exact LeO.none _
  | refine LeO.ite ?_ ?_
  | refine LeO.bind ?_ (fun _ => ?_)
theorem incunableref06_All.calls (k : Nat) (A0 : Option Addr) (c0 : Nat) (l0 : List Int) (a1 : Int) (r1 : List Int) (r2 : Int) (r3 : Int) (w : World) (hr0 : Kd.C (Kd.int .u8) w A0 l0.length l0) (hc0 : l0.length ≤ c0) (h : incunableref06_All.f k l0 a1 = some (r1, r2, r3)) :
  Calls Try.prog 53 #[.slice A0 l0.length c0, .int .i64 a1] w fun e w' => ∃ v0_ : Value, e = .returned (.tuple #[v0_, .int .i64 r2, .int .i64 r3]) ∧ Kd.R (Kd.int .u8) 5 w' w.heap.size (fun _ => True) v0_ r1 ∧ Below w.heap.size w w' := by
 have HR0 := ak_ hr0
 have HC0 := ak_ hc0
 clear hr0 hc0
 have HB := ak_ (Below.refl w.heap.size w)
 unfold incunableref06_All.f at h
 have H := h
 clear h
 have HC3 := ak_ H
 clear H
 go_enter Try.func53, Try.ntmps53
 go_upto_region 1 with (fail)
 go_cut [26] (fun v26 wc => ∃ (kq : Nat) (x26_2 : Bool), v26 = .bool x26_2 ∧ Aside0 (incunableref06_All.j0 kq l0 a1 x26_2 = some (r1, r2, r3)) ∧ Aside0 (kq ≤ k) ∧ Aside0 (Below w.heap.size w wc))
 case first =>
  have H := HC3.out
  clear HC3
  by_cases c4 : a1 < 1
  ·rw [if_pos c4] at H
   have c4b0 := decide_eq_true c4
   clear c4
   (first | rw [c4b0] | (simp only [i64_w, i32_w]; rw [c4b0]) | skip)
   have H' := ak_ H
   clear H
   go_wp2
   go_meet
   case rel => exact ⟨_, (true), (by rfl), H', ⟨by omega⟩, ⟨HB.out⟩⟩
  ·rw [if_neg c4] at H
   have c4b0 := decide_eq_false c4
   clear c4
   (first | rw [c4b0] | (simp only [i64_w, i32_w]; rw [c4b0]) | skip)
   by_cases c5 : a1 > 512
   ·rw [if_pos c5] at H
    have c5b0 : decide (512 < a1) = true := decide_eq_true c5
    clear c5
    have H' := ak_ H
    clear H
    go_wp2
    go_meet
    case rel => exact ⟨_, (true), (by rfl), H', ⟨by omega⟩, ⟨HB.out⟩⟩
   ·rw [if_neg c5] at H
    have c5b0 : decide (512 < a1) = false := decide_eq_false c5
    clear c5
    by_cases c6 : (wrap64 (a1 + 2)) = 0
    ·rw [if_pos c6] at H
     exact absurd H (by simp)
    ·rw [if_neg c6] at H
     have c6b0 := beq_eq_false_iff_ne.mpr c6
     have c6b1 := bne_iff_ne.mpr c6
     have H' := ak_ H
     clear H
     go_wp2
     go_meet
     case rel => exact ⟨_, ((((l0.length : Int) % (wrap64 (a1 + 2))) != 0)), (by rfl), H', ⟨by omega⟩, ⟨HB.out⟩⟩
 case rest =>
  clear HC3
  obtain ⟨kq, x26_2, rfl, HA, HJ2, HB⟩ := hcut
  cases kq with
  | zero => exact absurd HA.out (by simp [incunableref06_All.j0])
  | succ kj2 =>
   have H := HA.out
   clear HA
   simp only [incunableref06_All.j0] at H
   by_cases c7 : x26_2 = true
   ·subst c7
    rw [if_pos rfl] at H
    simp only [Option.some.injEq, Prod.mk.injEq] at H
    obtain ⟨rfl, rfl, rfl⟩ := H
    go_wp2
    go_ret3
    exact ⟨_, by rfl, (Kd.R_nil _ _ _ _ _), HB.out⟩
   ·replace c7 := Bool.eq_false_iff.mpr c7
    subst c7
    rw [if_neg (show ¬ (false = true) by decide)] at H
    have H' := ak_ H
    clear H
    go_wp2
    go_loopg [7, 8, 9] kj2 (fun kq v7 v8 v9 w' => ∃ (x7_2 : List Int) (x8_2 : Int) (x9_2 : Int), v8 = .int .i64 x8_2 ∧ v9 = .int .i64 x9_2 ∧ Aside0 (incunableref06_All.l0 kq l0 a1 x7_2 x8_2 x9_2 = some (r1, r2, r3)) ∧ Aside0 (kq ≤ kj2) ∧ Aside0 (Kd.R (Kd.int .u8) 5 w' w.heap.size (fun _ => True) v7 x7_2) ∧ Aside0 (Below w.heap.size w w'))
    case atStart => exact ⟨(([] : List Int)), (0), (0), (by rfl), (by rfl), H', ⟨Nat.le_refl _⟩, ⟨(Kd.R_nil _ _ _ _ _)⟩, ⟨HB.out⟩⟩
    case round =>
     clear H'
     obtain ⟨x7_2, x8_2, x9_2, rfl, rfl, HA, HK2, HO_7, HB⟩ := hrel
     cases gk with
     | zero => exact absurd HA.out (by simp [incunableref06_All.l0])
     | succ k2 =>
      have H := HA.out
      clear HA
      simp only [incunableref06_All.l0] at H
      by_cases c8 : x9_2 < (l0.length : Int)
      ·rw [if_pos c8] at H
       have c8b0 := decide_eq_true c8
       clear c8
       by_cases c9 : 0 ≤ x9_2
       ·rw [if_pos c9] at H
        have c9b0 := eq_true c9
        have c9b1 := decide_eq_true c9
        clear c9
        by_cases c10 : x9_2 ≤ (wrap64 ((wrap64 (x9_2 + a1)) + 2))
        ·rw [if_pos c10] at H
         have c10b0 := eq_true c10
         have c10b1 := decide_eq_true c10
         by_cases c11 : (wrap64 ((wrap64 (x9_2 + a1)) + 2)) ≤ (l0.length : Int)
         ·rw [if_pos c11] at H
          have c11b0 := eq_true c11
          have c11b1 := decide_eq_true c11
          obtain ⟨⟨t318, t321, t322⟩, A12, H⟩ := bs_ H
          try dsimp only at H
          by_cases c13 : t322 = 0
          ·rw [if_pos c13] at H
           have c13b0 := beq_iff_eq.mpr c13
           have c13b1 := bne_eq_false_iff_eq.mpr c13
           clear c13
           by_cases c14 : x7_2.length + t318.length < 140737488355328
           ·rw [if_pos c14] at H
            have LMc14 := ak_ c14
            clear c14
            obtain ⟨y323, hy323⟩ : ∃ y_ : List Int, y_ = (x7_2 ++ t318) := ⟨_, rfl⟩
            replace H : (incunableref06_All.l0 k2 l0 a1 y323 (wrap64 (x8_2 + t321)) (wrap64 ((wrap64 (x9_2 + a1)) + 2))) = some (r1, r2, r3) := (by rw [hy323]; with_reducible exact H)
            have Ny323 := ak_ hy323
            clear hy323
            have H' := ak_ H
            clear H
            obtain ⟨i015, hi015, _, hsz15, _⟩ := info_parts info5
            obtain ⟨A15, hcut15, hA15, hC15⟩ := print_mid_of (P := Try.prog) (Value.int .u8) 0 24 5 .i64 .i64 Try.underlying24 hi015 hsz15 A0 c0 l0 x9_2 (wrap64 ((wrap64 (x9_2 + a1)) + 2)) (od_ ‹_›) (by omega) (od_ ‹_›) HC0.out
            have HR317 := ak_ (Kd.C_of_reads (h1 := fun _ => rfl) (hA15 _ (Kd.reads_of_C HR0.out)))
            have HC317 := ak_ hC15
            clear hA15 hC15 hi015 hsz15
            go_wp2_with (first | ((with_reducible refine gate_callee (f := 54) rfl ?_); refine goesL_ (some 43) rfl rfl Try.func54 (by kernel_rfl) rfl #[.slice A15 ((l0.take ((wrap64 ((wrap64 (x9_2 + a1)) + 2)) : Int).toNat).drop (x9_2 : Int).toNat).length (c0 - x9_2.toNat)] rfl (by (try simp only [List.map_toArray, List.map_cons, List.map_nil]); first | done | (rw [show ((l0.take ((wrap64 ((wrap64 (x9_2 + a1)) + 2)) : Int).toNat).drop (x9_2 : Int).toNat).length = ((wrap64 ((wrap64 (x9_2 + a1)) + 2)).toNat - x9_2.toNat) from (by rw [List.length_drop, List.length_take]; have h_ : ((wrap64 ((wrap64 (x9_2 + a1)) + 2)) : Int) ≤ (l0.length : Int) := od_ ‹_›; omega)] <;> rfl) | rfl | (simp only [List.length_drop, List.length_take]; rfl)) ?_; (with_reducible refine (incunableref06_Decode.calls k2 (fun k_ => k_ < w.heap.size) _ _ ((l0.take ((wrap64 ((wrap64 (x9_2 + a1)) + 2)) : Int).toNat).drop (x9_2 : Int).toNat) t318 t321 t322 _ ?side1 A12.out).mono ?_); (case side1 => exact Kd.V_mk HC317.out (Kd.F_below (Kd.C_F (Kd.heap_int .u8) HR317.out) HB.out)); rintro e w16 ⟨v319, rfl, ho0, hb⟩; refine ⟨_, rfl, ?_⟩; have HO320 := ak_ (Kd.V_lower (Kd.V_mono (ok' := fun k_ => some k_ ≠ (u7 : Value).ownBlock) ho0 (fun k_ hk_ => Or.elim hk_ (fun hs_ => fun e_ => Nat.not_le.2 hs_ (Kd.R_base HO_7.out k_ e_.symm)) (fun hn_ => (Kd.fresh' (Kd.R_lt HO_7.out) k_ hn_)))) (below_size HB.out)); replace HO_7 := ak_ (Kd.R_below HO_7.out hb); replace HB := ak_ (below_step HB.out hb); (try clear hb); (try clear ho0); obtain ⟨Ao18, co18, eo18⟩ := Kd.V_slice HO320.out; subst eo18) | ((with_reducible refine gate_builtin (b := .append) (xs := #[.tmp 50, .tmp 51]) rfl ?_); (try (refine gate_guard (by rfl) ?_; dsimp only)); at_builtin; refine Kd.R_append_rows (Kd.int .u8) (w0 := w) w.heap.size rfl (.tmp 50) (.tmp 51) 24 5 (.int .u8 0) 1 rfl Try.underlying24 info5 rfl (by decide) (by omega) u7 x7_2 t318 _ _ _ (fun _ => True) (fun _ => False) rfl rfl ?aO ?aR (fun _ _ h => h) (fun _ h => h.elim) ?aF ?aB ?aS ?aL ?_; (case aR => repeat (first | exact (Kd.V_reads' HO320.out).2.2 | (with_reducible refine Kd.C_alloc ?_ _) | (with_reducible refine Kd.C_drewN ?_ _) | (with_reducible refine Kd.C_drew ?_))); (case aB => exact HB.out); (case aF => exact (fun _ _ => trivial)); (case aO => exact HO_7.out); (case aS => exact (below_size HB.out)); (case aL => have := LMc14.out; omega); intro v324 w17 ho hb hg hat; rw [← Ny323.out] at ho; have n0_ := ak_ (Kd.V_afterv (ok := (fun _ => True)) (Kd.V_mono HO320.out (fun _ hk => ⟨trivial, hk⟩)) hg hat); have n1_ := ak_ (hb); have n2_ := ak_ (ho); clear HO320; clear HB; clear HO_7; have HO320 := n0_; have HB := n1_; have HO325 := n2_; clear n0_ n1_ n2_; clear ho hb hg hat))
            go_roundg k2
            case measure => have := HJ2.out; have := HK2.out; omega
            case rel => exact ⟨(y323), (wrap64 (x8_2 + t321)), (wrap64 ((wrap64 (x9_2 + a1)) + 2)), (by rfl), (by rfl), H', ⟨by have := HJ2.out; have := HK2.out; omega⟩, ⟨HO325.out⟩, ⟨HB.out⟩⟩
           ·rw [if_neg c14] at H
            exact absurd H (by simp)
          ·rw [if_neg c13] at H
           have c13b0 := beq_eq_false_iff_ne.mpr c13
           have c13b1 := bne_iff_ne.mpr c13
           simp only [Option.some.injEq, Prod.mk.injEq] at H
           obtain ⟨rfl, rfl, rfl⟩ := H
           obtain ⟨i019, hi019, _, hsz19, _⟩ := info_parts info5
           obtain ⟨A19, hcut19, hA19, hC19⟩ := print_mid_of (P := Try.prog) (Value.int .u8) 0 24 5 .i64 .i64 Try.underlying24 hi019 hsz19 A0 c0 l0 x9_2 (wrap64 ((wrap64 (x9_2 + a1)) + 2)) (od_ ‹_›) (by omega) (od_ ‹_›) HC0.out
           have HR317 := ak_ (Kd.C_of_reads (h1 := fun _ => rfl) (hA19 _ (Kd.reads_of_C HR0.out)))
           have HC317 := ak_ hC19
           clear hA19 hC19 hi019 hsz19
           go_wp2_with ((with_reducible refine gate_callee (f := 54) rfl ?_); refine goesL_ (some 43) rfl rfl Try.func54 (by kernel_rfl) rfl #[.slice A19 ((l0.take ((wrap64 ((wrap64 (x9_2 + a1)) + 2)) : Int).toNat).drop (x9_2 : Int).toNat).length (c0 - x9_2.toNat)] rfl (by (try simp only [List.map_toArray, List.map_cons, List.map_nil]); first | done | (rw [show ((l0.take ((wrap64 ((wrap64 (x9_2 + a1)) + 2)) : Int).toNat).drop (x9_2 : Int).toNat).length = ((wrap64 ((wrap64 (x9_2 + a1)) + 2)).toNat - x9_2.toNat) from (by rw [List.length_drop, List.length_take]; have h_ : ((wrap64 ((wrap64 (x9_2 + a1)) + 2)) : Int) ≤ (l0.length : Int) := od_ ‹_›; omega)] <;> rfl) | rfl | (simp only [List.length_drop, List.length_take]; rfl)) ?_; (with_reducible refine (incunableref06_Decode.calls k2 (fun k_ => k_ < w.heap.size) _ _ ((l0.take ((wrap64 ((wrap64 (x9_2 + a1)) + 2)) : Int).toNat).drop (x9_2 : Int).toNat) t318 t321 t322 _ ?side1 A12.out).mono ?_); (case side1 => exact Kd.V_mk HC317.out (Kd.F_below (Kd.C_F (Kd.heap_int .u8) HR317.out) HB.out)); rintro e w20 ⟨v319, rfl, ho0, hb⟩; refine ⟨_, rfl, ?_⟩; have HO320 := ak_ (Kd.V_lower (Kd.V_mono (ok' := fun k_ => some k_ ≠ (u7 : Value).ownBlock) ho0 (fun k_ hk_ => Or.elim hk_ (fun hs_ => fun e_ => Nat.not_le.2 hs_ (Kd.R_base HO_7.out k_ e_.symm)) (fun hn_ => (Kd.fresh' (Kd.R_lt HO_7.out) k_ hn_)))) (below_size HB.out)); replace HO_7 := ak_ (Kd.R_below HO_7.out hb); replace HB := ak_ (below_step HB.out hb); (try clear hb); (try clear ho0))
           go_ret3
           exact ⟨_, by rfl, (Kd.R_nil _ _ _ _ _), HB.out⟩
         ·rw [if_neg c11] at H
          exact absurd H (by simp)
        ·rw [if_neg c10] at H
         exact absurd H (by simp)
       ·rw [if_neg c9] at H
        exact absurd H (by simp)
      ·rw [if_neg c8] at H
       have c8b0 := decide_eq_false c8
       clear c8
       simp only [Option.some.injEq, Prod.mk.injEq] at H
       obtain ⟨rfl, rfl, rfl⟩ := H
       go_wp2
       go_ret3
       exact ⟨_, by rfl, by (with_reducible repeat (first | apply Kd.R_alloc | apply Kd.R_drewN | apply Kd.R_drew)); exact HO_7.out, HB.out⟩
def incunableref07_from.f (a0 : Int) (a1 : Int) (a2 : Int) : Option (Bool) := if a0 ≥ a1 then (some (decide (a0 ≤ a2))) else (some false)
theorem incunableref07_from.calls (a0 : Int) (a1 : Int) (a2 : Int) (r : Bool) (w : World) (h : incunableref07_from.f a0 a1 a2 = some r) :
  Calls Try.prog 44 #[.int .i64 a0, .int .i64 a1, .int .i64 a2] w fun e w' => e = .returned (.bool r) ∧ Drawn0 w w' := by
 unfold incunableref07_from.f at h
 have H := h
 clear h
 by_cases c4 : a0 ≥ a1
 ·rw [if_pos c4] at H
  have c4b0 : decide (a1 ≤ a0) = true := decide_eq_true c4
  clear c4
  obtain rfl := Option.some.inj H
  go_enter Try.func44, Try.ntmps44
  go_wp2
  go_ret
  exact ⟨by rfl, by repeat (first | exact Drawn0.refl _ | apply Drawn0.step)⟩
 ·rw [if_neg c4] at H
  have c4b0 : decide (a1 ≤ a0) = false := decide_eq_false c4
  clear c4
  obtain rfl := Option.some.inj H
  go_enter Try.func44, Try.ntmps44
  go_wp2
  go_ret
  exact ⟨by rfl, by repeat (first | exact Drawn0.refl _ | apply Drawn0.step)⟩
def incunableref07_May.f (a0_0 : Int) (a0_1 : Int) (a0_2 : Int) (a0_3 : Int) : Option (Bool) := (incunableref07_from.f a0_0 1 4).bind fun t327 => (if t327 = true then ((incunableref07_from.f a0_1 0 2147483648).bind fun t328 => (if t328 = true then ((incunableref07_from.f a0_2 0 2305843009213693952).bind fun t329 => (if t329 = true then ((incunableref07_from.f a0_3 0 2147483648).bind fun t330 => (some t330)) else (some false))) else (some false))) else (some false))
theorem incunableref07_May.calls (a0_0 : Int) (a0_1 : Int) (a0_2 : Int) (a0_3 : Int) (r : Bool) (w : World) (h : incunableref07_May.f a0_0 a0_1 a0_2 a0_3 = some r) :
  Calls Try.prog 19 #[.agg #[.int .i64 a0_0, .int .i64 a0_1, .int .i64 a0_2, .int .i64 a0_3]] w fun e w' => e = .returned (.bool r) ∧ Below w.heap.size w w' := by
 have hu26 := Try.underlying26
 have HB := ak_ (Below.refl w.heap.size w)
 unfold incunableref07_May.f at h
 have H := h
 clear h
 obtain ⟨t327, A2, H⟩ := bs_ H
 by_cases c3 : t327 = true
 ·subst c3
  rw [if_pos rfl] at H
  obtain ⟨t328, A4, H⟩ := bs_ H
  by_cases c5 : t328 = true
  ·subst c5
   rw [if_pos rfl] at H
   obtain ⟨t329, A6, H⟩ := bs_ H
   by_cases c7 : t329 = true
   ·subst c7
    rw [if_pos rfl] at H
    obtain ⟨t330, A8, H⟩ := bs_ H
    obtain rfl := Option.some.inj H
    go_enter Try.func19, Try.ntmps19
    go_wp2_with (first | ((with_reducible refine gate_dst (N := 1) rfl ?_); refine box_event ?hg (N := 1) ?hd (cs := #[.int .i64 a0_0, .int .i64 a0_1, .int .i64 a0_2, .int .i64 a0_3]) (t := 26) ?hr ?_; (case hd => rfl); (case hg => rfl); (case hr => (go_simp; done)); intro gb326 hg w9 hbox hb; have BK326 := ak_ (hbox); have GW326 := ak_ (gw_ hg (below_size HB.out)); have GE326 := ak_ (gw_ hg (below_size HB.out)); replace HB := ak_ (below_step HB.out hb); clear hb hbox hg; have hcz10_0 : w9.cell? ⟨gb326, 0, none⟩ = some (.int .i64 a0_0) := (blk_cell BK326.out 0).trans rfl; have hcz10_1 : w9.cell? ⟨gb326, 1, none⟩ = some (.int .i64 a0_1) := (blk_cell BK326.out 1).trans rfl; have hcz10_2 : w9.cell? ⟨gb326, 2, none⟩ = some (.int .i64 a0_2) := (blk_cell BK326.out 2).trans rfl; have hcz10_3 : w9.cell? ⟨gb326, 3, none⟩ = some (.int .i64 a0_3) := (blk_cell BK326.out 3).trans rfl; have hfz10_0 := blk_frozen BK326.out 0; have hfz10_1 := blk_frozen BK326.out 1; have hfz10_2 := blk_frozen BK326.out 2; have hfz10_3 := blk_frozen BK326.out 3) | ((with_reducible refine gate_callee (f := 44) rfl ?_); refine goesL_ (some 5) rfl rfl Try.func44 (by kernel_rfl) rfl #[.int .i64 a0_0, .int .i64 1, .int .i64 4] rfl (by (try simp only [List.map_toArray, List.map_cons, List.map_nil]); first | done | rfl | (simp only [List.length_drop, List.length_take]; rfl)) ?_; (with_reducible refine (incunableref07_from.calls a0_0 1 4 true _ A2.out).mono ?_); rintro e w' ⟨rfl, ⟨nd, rfl⟩⟩; refine ⟨_, rfl, ?_⟩) | (go_at_call 44; (with_reducible refine (incunableref07_from.calls _ _ _ _ _ (Aside0.out (by assumption))).mono ?_); rintro e w' ⟨rfl, ⟨nd, rfl⟩⟩))
    go_ret
    exact ⟨by rfl, by repeat (first | (with_reducible first | exact HB.out | apply below_alloc | apply pw_below_drewN | apply below_drew1 | refine below_set ?_ GE326.out) | exact HB.out)⟩
   ·replace c7 := Bool.eq_false_iff.mpr c7
    subst c7
    rw [if_neg (show ¬ (false = true) by decide)] at H
    obtain rfl := Option.some.inj H
    go_enter Try.func19, Try.ntmps19
    go_wp2_with (first | ((with_reducible refine gate_dst (N := 1) rfl ?_); refine box_event ?hg (N := 1) ?hd (cs := #[.int .i64 a0_0, .int .i64 a0_1, .int .i64 a0_2, .int .i64 a0_3]) (t := 26) ?hr ?_; (case hd => rfl); (case hg => rfl); (case hr => (go_simp; done)); intro gb326 hg w11 hbox hb; have BK326 := ak_ (hbox); have GW326 := ak_ (gw_ hg (below_size HB.out)); have GE326 := ak_ (gw_ hg (below_size HB.out)); replace HB := ak_ (below_step HB.out hb); clear hb hbox hg; have hcz12_0 : w11.cell? ⟨gb326, 0, none⟩ = some (.int .i64 a0_0) := (blk_cell BK326.out 0).trans rfl; have hcz12_1 : w11.cell? ⟨gb326, 1, none⟩ = some (.int .i64 a0_1) := (blk_cell BK326.out 1).trans rfl; have hcz12_2 : w11.cell? ⟨gb326, 2, none⟩ = some (.int .i64 a0_2) := (blk_cell BK326.out 2).trans rfl; have hcz12_3 : w11.cell? ⟨gb326, 3, none⟩ = some (.int .i64 a0_3) := (blk_cell BK326.out 3).trans rfl; have hfz12_0 := blk_frozen BK326.out 0; have hfz12_1 := blk_frozen BK326.out 1; have hfz12_2 := blk_frozen BK326.out 2; have hfz12_3 := blk_frozen BK326.out 3) | ((with_reducible refine gate_callee (f := 44) rfl ?_); refine goesL_ (some 5) rfl rfl Try.func44 (by kernel_rfl) rfl #[.int .i64 a0_0, .int .i64 1, .int .i64 4] rfl (by (try simp only [List.map_toArray, List.map_cons, List.map_nil]); first | done | rfl | (simp only [List.length_drop, List.length_take]; rfl)) ?_; (with_reducible refine (incunableref07_from.calls a0_0 1 4 true _ A2.out).mono ?_); rintro e w' ⟨rfl, ⟨nd, rfl⟩⟩; refine ⟨_, rfl, ?_⟩) | (go_at_call 44; (with_reducible refine (incunableref07_from.calls _ _ _ _ _ (Aside0.out (by assumption))).mono ?_); rintro e w' ⟨rfl, ⟨nd, rfl⟩⟩))
    go_ret
    exact ⟨by rfl, by repeat (first | (with_reducible first | exact HB.out | apply below_alloc | apply pw_below_drewN | apply below_drew1 | refine below_set ?_ GE326.out) | exact HB.out)⟩
  ·replace c5 := Bool.eq_false_iff.mpr c5
   subst c5
   rw [if_neg (show ¬ (false = true) by decide)] at H
   obtain rfl := Option.some.inj H
   go_enter Try.func19, Try.ntmps19
   go_wp2_with (first | ((with_reducible refine gate_dst (N := 1) rfl ?_); refine box_event ?hg (N := 1) ?hd (cs := #[.int .i64 a0_0, .int .i64 a0_1, .int .i64 a0_2, .int .i64 a0_3]) (t := 26) ?hr ?_; (case hd => rfl); (case hg => rfl); (case hr => (go_simp; done)); intro gb326 hg w13 hbox hb; have BK326 := ak_ (hbox); have GW326 := ak_ (gw_ hg (below_size HB.out)); have GE326 := ak_ (gw_ hg (below_size HB.out)); replace HB := ak_ (below_step HB.out hb); clear hb hbox hg; have hcz14_0 : w13.cell? ⟨gb326, 0, none⟩ = some (.int .i64 a0_0) := (blk_cell BK326.out 0).trans rfl; have hcz14_1 : w13.cell? ⟨gb326, 1, none⟩ = some (.int .i64 a0_1) := (blk_cell BK326.out 1).trans rfl; have hcz14_2 : w13.cell? ⟨gb326, 2, none⟩ = some (.int .i64 a0_2) := (blk_cell BK326.out 2).trans rfl; have hcz14_3 : w13.cell? ⟨gb326, 3, none⟩ = some (.int .i64 a0_3) := (blk_cell BK326.out 3).trans rfl; have hfz14_0 := blk_frozen BK326.out 0; have hfz14_1 := blk_frozen BK326.out 1; have hfz14_2 := blk_frozen BK326.out 2; have hfz14_3 := blk_frozen BK326.out 3) | ((with_reducible refine gate_callee (f := 44) rfl ?_); refine goesL_ (some 5) rfl rfl Try.func44 (by kernel_rfl) rfl #[.int .i64 a0_0, .int .i64 1, .int .i64 4] rfl (by (try simp only [List.map_toArray, List.map_cons, List.map_nil]); first | done | rfl | (simp only [List.length_drop, List.length_take]; rfl)) ?_; (with_reducible refine (incunableref07_from.calls a0_0 1 4 true _ A2.out).mono ?_); rintro e w' ⟨rfl, ⟨nd, rfl⟩⟩; refine ⟨_, rfl, ?_⟩) | (go_at_call 44; (with_reducible refine (incunableref07_from.calls a0_1 0 2147483648 false _ A4.out).mono ?_); rintro e w' ⟨rfl, ⟨nd, rfl⟩⟩))
   go_ret
   exact ⟨by rfl, by repeat (first | (with_reducible first | exact HB.out | apply below_alloc | apply pw_below_drewN | apply below_drew1 | refine below_set ?_ GE326.out) | exact HB.out)⟩
 ·replace c3 := Bool.eq_false_iff.mpr c3
  subst c3
  rw [if_neg (show ¬ (false = true) by decide)] at H
  obtain rfl := Option.some.inj H
  go_enter Try.func19, Try.ntmps19
  go_wp2_with (first | ((with_reducible refine gate_dst (N := 1) rfl ?_); refine box_event ?hg (N := 1) ?hd (cs := #[.int .i64 a0_0, .int .i64 a0_1, .int .i64 a0_2, .int .i64 a0_3]) (t := 26) ?hr ?_; (case hd => rfl); (case hg => rfl); (case hr => (go_simp; done)); intro gb326 hg w15 hbox hb; have BK326 := ak_ (hbox); have GW326 := ak_ (gw_ hg (below_size HB.out)); have GE326 := ak_ (gw_ hg (below_size HB.out)); replace HB := ak_ (below_step HB.out hb); clear hb hbox hg; have hcz16_0 : w15.cell? ⟨gb326, 0, none⟩ = some (.int .i64 a0_0) := (blk_cell BK326.out 0).trans rfl; have hcz16_1 : w15.cell? ⟨gb326, 1, none⟩ = some (.int .i64 a0_1) := (blk_cell BK326.out 1).trans rfl; have hcz16_2 : w15.cell? ⟨gb326, 2, none⟩ = some (.int .i64 a0_2) := (blk_cell BK326.out 2).trans rfl; have hcz16_3 : w15.cell? ⟨gb326, 3, none⟩ = some (.int .i64 a0_3) := (blk_cell BK326.out 3).trans rfl; have hfz16_0 := blk_frozen BK326.out 0; have hfz16_1 := blk_frozen BK326.out 1; have hfz16_2 := blk_frozen BK326.out 2; have hfz16_3 := blk_frozen BK326.out 3) | ((with_reducible refine gate_callee (f := 44) rfl ?_); refine goesL_ (some 5) rfl rfl Try.func44 (by kernel_rfl) rfl #[.int .i64 a0_0, .int .i64 1, .int .i64 4] rfl (by (try simp only [List.map_toArray, List.map_cons, List.map_nil]); first | done | rfl | (simp only [List.length_drop, List.length_take]; rfl)) ?_; (with_reducible refine (incunableref07_from.calls a0_0 1 4 false _ A2.out).mono ?_); rintro e w' ⟨rfl, ⟨nd, rfl⟩⟩; refine ⟨_, rfl, ?_⟩))
  go_ret
  exact ⟨by rfl, by repeat (first | (with_reducible first | exact HB.out | apply below_alloc | apply pw_below_drewN | apply below_drew1 | refine below_set ?_ GE326.out) | exact HB.out)⟩
def incunableref07_sizes.f  : Option (List Int) := some (([2, 1, 4, 8, 4, 5] : List Int))
theorem incunableref07_sizes.calls  (r : List Int) (w : World) (h : incunableref07_sizes.f  = some r) :
  Calls Try.prog 72 #[] w fun e w' => ∃ v0_ : Value, e = .returned (v0_) ∧ Kd.R (Kd.int .i64) 3 w' w.heap.size (fun _ => True) v0_ r ∧ Below w.heap.size w w' := by
 have HB := ak_ (Below.refl w.heap.size w)
 unfold incunableref07_sizes.f at h
 have H := h
 clear h
 obtain ⟨y331, hy331⟩ : ∃ y_ : List Int, y_ = (([2, 1, 4, 8, 4, 5] : List Int)) := ⟨_, rfl⟩
 replace H : (some y331) = some r := (by rw [hy331]; with_reducible exact H)
 have Ny331 := ak_ hy331
 clear hy331
 obtain rfl := Option.some.inj H
 go_enter Try.func72, Try.ntmps72
 go_wp2_with ((with_reducible refine gate_dst (N := 1) rfl ?_); refine Kd.R_lit (Kd.int .i64) _ 3 ?hg (N := 1) ?hd (xs := ([2, 1, 4, 8, 4, 5] : List Int)) (inner := [.int .i64 2, .int .i64 1, .int .i64 4, .int .i64 8, .int .i64 4, .int .i64 5]) (ok := fun _ => True) (okp := fun _ => True) ?hr ?hp (fun _ hk => hk) trivial (Below.refl _ _) (Nat.le_refl _) (by simp) ?_; (case hd => rfl); (case hg => rfl); (case hr => (go_simp; done)); (case hp => exact (Reps.one (show Kd.M (Kd.int .i64) _ _ _ 2 [.int .i64 2] from rfl) (Reps.one (show Kd.M (Kd.int .i64) _ _ _ 1 [.int .i64 1] from rfl) (Reps.one (show Kd.M (Kd.int .i64) _ _ _ 4 [.int .i64 4] from rfl) (Reps.one (show Kd.M (Kd.int .i64) _ _ _ 8 [.int .i64 8] from rfl) (Reps.one (show Kd.M (Kd.int .i64) _ _ _ 4 [.int .i64 4] from rfl) (Reps.one (show Kd.M (Kd.int .i64) _ _ _ 5 [.int .i64 5] from rfl) (Reps.none _ _)))))))); intro v332 w1 ho2 hb hg_ hnew_; clear hg_ hnew_; (rw [← Ny331.out] at ho2); have HO333 := ak_ (Kd.R_lower ho2 (below_size HB.out)); replace HB := ak_ (below_step HB.out hb); clear hb ho2)
 go_ret
 exact ⟨_, by rfl, by (with_reducible repeat (first | apply Kd.R_alloc | apply Kd.R_drewN | apply Kd.R_drew)); exact HO333.out, HB.out⟩
def incunableref03_Size.l0 : Nat → List Int → Int → Int → Option (Int × Bool)
 | 0, _, _, _ => none
 | k + 1, x0, x4, x5 => if x5 < (x0.length : Int) then (if x5 ≥ 64 then (some (0, false)) else (if 0 ≤ x5 then (if (rd x0 x5) < 1 then (some (0, false)) else (if (rd x0 x5) > 8 then (some (0, false)) else (incunableref03_Size.l0 k x0 (wrap64 (x4 + (rd x0 x5))) (wrap64 (x5 + 1))))) else (none))) else (some (x4, true))
def incunableref03_Size.f (k : Nat) (l0 : List Int) : Option (Int × Bool) := incunableref03_Size.l0 k l0 0 0
theorem incunableref03_Size.mono_l : ∀ k, (∀ y0 y1 y2, LeO (incunableref03_Size.l0 k y0 y1 y2) (incunableref03_Size.l0 (k + 1) y0 y1 y2))
 | 0 => fun _ _ _ r h => by simp [incunableref03_Size.l0] at h
 | k + 1 => by
  have ih0 := incunableref03_Size.mono_l k
  ·intro y0 y1 y2
   unfold incunableref03_Size.l0
   repeat' with_reducible first
   | exact ih0 _ _ _
   | exact LeO.refl _
   | exact LeO.none _
   | refine LeO.ite ?_ ?_
   | refine LeO.bind ?_ (fun _ => ?_)
theorem incunableref03_Size.mono : ∀ a0 k, LeO (incunableref03_Size.f k a0) (incunableref03_Size.f (k + 1) a0) := by
 intro a0 k
 have ih0 := incunableref03_Size.mono_l k
 unfold incunableref03_Size.f
 repeat' with_reducible first
  | exact ih0 _ _ _
  | exact LeO.refl _
  | exact LeO.none _
  | refine LeO.ite ?_ ?_
  | refine LeO.bind ?_ (fun _ => ?_)
theorem incunableref03_Size.calls (k : Nat) (A0 : Option Addr) (c0 : Nat) (l0 : List Int) (r1 : Int) (r2 : Bool) (w : World) (hr0 : Kd.C (Kd.int .i64) w A0 l0.length l0) (hc0 : l0.length ≤ c0) (h : incunableref03_Size.f k l0 = some (r1, r2)) :
  Calls Try.prog 88 #[.slice A0 l0.length c0] w fun e w' => e = .returned (.tuple #[.int .i64 r1, .bool r2]) ∧ Drawn0 w w' := by
 have HR0 := ak_ hr0
 have HC0 := ak_ hc0
 clear hr0 hc0
 unfold incunableref03_Size.f at h
 have H := h
 clear h
 have H' := ak_ H
 clear H
 go_enter Try.func88, Try.ntmps88
 go_wp2
 go_loopg [4, 5] k (fun kq v4 v5 w' => ∃ (x4_1 : Int) (x5_1 : Int), v4 = .int .i64 x4_1 ∧ v5 = .int .i64 x5_1 ∧ Aside0 (incunableref03_Size.l0 kq l0 x4_1 x5_1 = some (r1, r2)) ∧ Aside0 (kq ≤ k) ∧ Drawn0 w w')
 case atStart => exact ⟨(0), (0), (by rfl), (by rfl), H', ⟨Nat.le_refl _⟩, by repeat (first | exact Drawn0.refl _ | apply Drawn0.step)⟩
 case round =>
  clear H'
  obtain ⟨x4_1, x5_1, rfl, rfl, HA, HK1, ⟨m1, rfl⟩⟩ := hrel
  cases gk with
  | zero => exact absurd HA.out (by simp [incunableref03_Size.l0])
  | succ k1 =>
   have H := HA.out
   clear HA
   simp only [incunableref03_Size.l0] at H
   by_cases c2 : x5_1 < (l0.length : Int)
   ·rw [if_pos c2] at H
    have c2b0 := decide_eq_true c2
    clear c2
    by_cases c3 : x5_1 ≥ 64
    ·rw [if_pos c3] at H
     have c3b0 : decide (64 ≤ x5_1) = true := decide_eq_true c3
     clear c3
     simp only [Option.some.injEq, Prod.mk.injEq] at H
     obtain ⟨rfl, rfl⟩ := H
     go_wp2
     go_ret2
     exact ⟨by rfl, by repeat (first | exact Drawn0.refl _ | apply Drawn0.step)⟩
    ·rw [if_neg c3] at H
     have c3b0 : decide (64 ≤ x5_1) = false := decide_eq_false c3
     clear c3
     by_cases c4 : 0 ≤ x5_1
     ·rw [if_pos c4] at H
      have c4b0 := decide_eq_true c4
      clear c4
      by_cases c5 : (rd l0 x5_1) < 1
      ·rw [if_pos c5] at H
       have c5b0 := decide_eq_true c5
       clear c5
       simp only [Option.some.injEq, Prod.mk.injEq] at H
       obtain ⟨rfl, rfl⟩ := H
       have p334 : 0 ≤ (x5_1 : Int) := od_ ‹_›
       have q334 : x5_1 < (l0.length : Int) := od_ ‹_›
       obtain ⟨ad334, e334, hx334_0⟩ := Kd.at_int HR0.out x5_1 p334 q334
       cases e334
       replace p334 := eq_true p334
       replace q334 := eq_true q334
       go_wp2
       go_ret2
       exact ⟨by rfl, by repeat (first | exact Drawn0.refl _ | apply Drawn0.step)⟩
      ·rw [if_neg c5] at H
       have c5b0 := decide_eq_false c5
       clear c5
       by_cases c6 : (rd l0 x5_1) > 8
       ·rw [if_pos c6] at H
        have c6b0 : decide (8 < (rd l0 x5_1)) = true := decide_eq_true c6
        clear c6
        simp only [Option.some.injEq, Prod.mk.injEq] at H
        obtain ⟨rfl, rfl⟩ := H
        have p334 : 0 ≤ (x5_1 : Int) := od_ ‹_›
        have q334 : x5_1 < (l0.length : Int) := od_ ‹_›
        obtain ⟨ad334, e334, hx334_0⟩ := Kd.at_int HR0.out x5_1 p334 q334
        cases e334
        replace p334 := eq_true p334
        replace q334 := eq_true q334
        have p335 : 0 ≤ (x5_1 : Int) := od_ ‹_›
        have q335 : x5_1 < (l0.length : Int) := od_ ‹_›
        obtain ⟨ad335, e335, hx335_0⟩ := Kd.at_int HR0.out x5_1 p335 q335
        obtain rfl : ad334 = ad335 := (by injection e335)
        replace p335 := eq_true p335
        replace q335 := eq_true q335
        go_wp2
        go_ret2
        exact ⟨by rfl, by repeat (first | exact Drawn0.refl _ | apply Drawn0.step)⟩
       ·rw [if_neg c6] at H
        have c6b0 : decide (8 < (rd l0 x5_1)) = false := decide_eq_false c6
        clear c6
        have H' := ak_ H
        clear H
        have p334 : 0 ≤ (x5_1 : Int) := od_ ‹_›
        have q334 : x5_1 < (l0.length : Int) := od_ ‹_›
        obtain ⟨ad334, e334, hx334_0⟩ := Kd.at_int HR0.out x5_1 p334 q334
        cases e334
        replace p334 := eq_true p334
        replace q334 := eq_true q334
        have p335 : 0 ≤ (x5_1 : Int) := od_ ‹_›
        have q335 : x5_1 < (l0.length : Int) := od_ ‹_›
        obtain ⟨ad335, e335, hx335_0⟩ := Kd.at_int HR0.out x5_1 p335 q335
        obtain rfl : ad334 = ad335 := (by injection e335)
        replace p335 := eq_true p335
        replace q335 := eq_true q335
        have p336 : 0 ≤ (x5_1 : Int) := od_ ‹_›
        have q336 : x5_1 < (l0.length : Int) := od_ ‹_›
        obtain ⟨ad336, e336, hx336_0⟩ := Kd.at_int HR0.out x5_1 p336 q336
        obtain rfl : ad334 = ad336 := (by injection e336)
        replace p336 := eq_true p336
        replace q336 := eq_true q336
        go_wp2
        go_roundg k1
        case measure => have := HK1.out; omega
        case rel => exact ⟨(wrap64 (x4_1 + (rd l0 x5_1))), (wrap64 (x5_1 + 1)), (by rfl), (by rfl), H', ⟨by have := HK1.out; omega⟩, by repeat (first | exact Drawn0.refl _ | apply Drawn0.step)⟩
     ·rw [if_neg c4] at H
      exact absurd H (by simp)
   ·rw [if_neg c2] at H
    have c2b0 := decide_eq_false c2
    clear c2
    simp only [Option.some.injEq, Prod.mk.injEq] at H
    obtain ⟨rfl, rfl⟩ := H
    go_wp2
    go_ret2
    exact ⟨by rfl, by repeat (first | exact Drawn0.refl _ | apply Drawn0.step)⟩
end Go.Proofs.Ytmehbabchakkpaa.QPageDecodes
namespace Go.Proofs.Ytmehbabchakkpaa.QPageDecodes
open Go.RowKit Go.Proofs.YtmehbabchakkpaaW.PrintWords Go.Proofs.YtmehbabchakkpaaW.PrintLast Go.Proofs.YtmehbabchakkpaaW.PrintMore Go.Proofs.Ytmehbabchakkpaa.Short
attribute [local go_sem] max2_int min2_int max_two min_two max_three min_three max_four min_four
set_option linter.unusedVariables false
set_option maxHeartbeats 8000000
set_option maxRecDepth 100000
set_option linter.unusedSimpArgs false
mutual
def incunableref03_Take.l0 : Nat → List Int → List Int → List Int → Int → Int → Option (List Int × Int)
 | 0, _, _, _, _, _ => none
 | k + 1, x0, x1, x8, x9, x10 => if x10 < (x0.length : Int) then (incunableref03_Take.l1 k x0 x1 x8 x9 x10 0 1 0) else (some (x8, 0))
def incunableref03_Take.l1 : Nat → List Int → List Int → List Int → Int → Int → Int → Int → Int → Option (List Int × Int)
 | 0, _, _, _, _, _, _, _, _ => none
 | k + 1, x0, x1, x8, x9, x10, x11, x12, x13 => if 0 ≤ x10 then (if x10 < (x0.length : Int) then (if x13 < (rd x0 x10) then (if 0 ≤ (wrap64 (x9 + x13)) then (if (wrap64 (x9 + x13)) < (x1.length : Int) then (if x13 = 7 then (if (wrap64 (rd x1 (wrap64 (x9 + x13)))) > 64 then (some (([] : List Int), 11)) else (if (wrap64 (rd x1 (wrap64 (x9 + x13)))) = 64 then (if x11 > 0 then (some (([] : List Int), 11)) else (incunableref03_Take.l1 k x0 x1 x8 x9 x10 (wrap64 (x11 + (wrap64 ((wrap64 (rd x1 (wrap64 (x9 + x13)))) * x12)))) (wrap64 (x12 * 256)) (wrap64 (x13 + 1)))) else (incunableref03_Take.l1 k x0 x1 x8 x9 x10 (wrap64 (x11 + (wrap64 ((wrap64 (rd x1 (wrap64 (x9 + x13)))) * x12)))) (wrap64 (x12 * 256)) (wrap64 (x13 + 1))))) else (incunableref03_Take.l1 k x0 x1 x8 x9 x10 (wrap64 (x11 + (wrap64 ((wrap64 (rd x1 (wrap64 (x9 + x13)))) * x12)))) (wrap64 (x12 * 256)) (wrap64 (x13 + 1)))) else (none)) else (none)) else (if x8.length < 17592186044416 then (incunableref03_Take.l0 k x0 x1 (x8 ++ [x11]) (wrap64 (x9 + (rd x0 x10))) (wrap64 (x10 + 1))) else (none))) else (none)) else (none)
end
def incunableref03_Take.f (k : Nat) (l0 : List Int) (l1 : List Int) : Option (List Int × Int) := (incunableref03_Size.f k l0).bind fun bt337 => (if bt337.2 = true then (if (l1.length : Int) < bt337.1 then (some (([] : List Int), 10)) else (if (l1.length : Int) > bt337.1 then (some (([] : List Int), 13)) else (incunableref03_Take.l0 k l0 l1 ([] : List Int) 0 0))) else (some (([] : List Int), 2)))
theorem incunableref03_Take.mono_l : ∀ k, (∀ y0 y1 y2 y3 y4, LeO (incunableref03_Take.l0 k y0 y1 y2 y3 y4) (incunableref03_Take.l0 (k + 1) y0 y1 y2 y3 y4)) ∧ (∀ y0 y1 y2 y3 y4 y5 y6 y7, LeO (incunableref03_Take.l1 k y0 y1 y2 y3 y4 y5 y6 y7) (incunableref03_Take.l1 (k + 1) y0 y1 y2 y3 y4 y5 y6 y7))
 | 0 => ⟨fun _ _ _ _ _ r h => by simp [incunableref03_Take.l0] at h, fun _ _ _ _ _ _ _ _ r h => by simp [incunableref03_Take.l1] at h⟩
 | k + 1 => by
  obtain ⟨ih0, ih1⟩ := incunableref03_Take.mono_l k
  refine ⟨?_, ?_⟩
  ·intro y0 y1 y2 y3 y4
   unfold incunableref03_Take.l0
   repeat' with_reducible first
   | exact ih0 _ _ _ _ _
   | exact ih1 _ _ _ _ _ _ _ _
   | exact incunableref03_Size.mono _ _
   | exact LeO.refl _
   | exact LeO.none _
   | refine LeO.ite ?_ ?_
   | refine LeO.bind ?_ (fun _ => ?_)
  ·intro y0 y1 y2 y3 y4 y5 y6 y7
   unfold incunableref03_Take.l1
   repeat' with_reducible first
   | exact ih0 _ _ _ _ _
   | exact ih1 _ _ _ _ _ _ _ _
   | exact incunableref03_Size.mono _ _
   | exact LeO.refl _
   | exact LeO.none _
   | refine LeO.ite ?_ ?_
   | refine LeO.bind ?_ (fun _ => ?_)
theorem incunableref03_Take.mono : ∀ a0 a1 k, LeO (incunableref03_Take.f k a0 a1) (incunableref03_Take.f (k + 1) a0 a1) := by
 intro a0 a1 k
 obtain ⟨ih0, ih1⟩ := incunableref03_Take.mono_l k
 unfold incunableref03_Take.f
 repeat' with_reducible first
  | exact ih0 _ _ _ _ _
  | exact ih1 _ _ _ _ _ _ _ _
  | exact incunableref03_Size.mono _ _
  | exact LeO.refl _
  | exact LeO.none _
  | refine LeO.ite ?_ ?_
  | refine LeO.bind ?_ (fun _ => ?_)
theorem incunableref03_Take.calls (k : Nat) (A0 : Option Addr) (c0 : Nat) (l0 : List Int) (A1 : Option Addr) (c1 : Nat) (l1 : List Int) (r1 : List Int) (r2 : Int) (w : World) (hr0 : Kd.C (Kd.int .i64) w A0 l0.length l0) (hc0 : l0.length ≤ c0) (hr1 : Kd.C (Kd.int .u8) w A1 l1.length l1) (hc1 : l1.length ≤ c1) (h : incunableref03_Take.f k l0 l1 = some (r1, r2)) :
  Calls Try.prog 76 #[.slice A0 l0.length c0, .slice A1 l1.length c1] w fun e w' => ∃ v0_ : Value, e = .returned (.tuple #[v0_, .int .i64 r2]) ∧ Kd.R (Kd.int .i64) 3 w' w.heap.size (fun _ => True) v0_ r1 ∧ Below w.heap.size w w' := by
 have HR0 := ak_ hr0
 have HC0 := ak_ hc0
 clear hr0 hc0
 have HR1 := ak_ hr1
 have HC1 := ak_ hc1
 clear hr1 hc1
 have HB := ak_ (Below.refl w.heap.size w)
 unfold incunableref03_Take.f at h
 have H := h
 clear h
 obtain ⟨⟨t337, t338⟩, A3, H⟩ := bs_ H
 try dsimp only at H
 by_cases c4 : t338 = true
 ·subst c4
  rw [if_pos rfl] at H
  by_cases c5 : (l1.length : Int) < t337
  ·rw [if_pos c5] at H
   have c5b0 := decide_eq_true c5
   clear c5
   simp only [Option.some.injEq, Prod.mk.injEq] at H
   obtain ⟨rfl, rfl⟩ := H
   go_enter Try.func76, Try.ntmps76
   go_wp2_with ((with_reducible refine gate_callee (f := 88) rfl ?_); refine goesL_ (some 17) rfl rfl Try.func88 (by kernel_rfl) rfl #[.slice A0 l0.length c0] rfl (by (try simp only [List.map_toArray, List.map_cons, List.map_nil]); first | done | rfl | (simp only [List.length_drop, List.length_take]; rfl)) ?_; (with_reducible refine (incunableref03_Size.calls k _ _ l0 t337 true _ ?side1 ?side2 A3.out).mono ?_); (case side1 => exact HR0.out); (case side2 => exact HC0.out); rintro e w' ⟨rfl, ⟨nd, rfl⟩⟩; refine ⟨_, rfl, ?_⟩)
   go_ret2
   exact ⟨_, by rfl, (Kd.R_nil _ _ _ _ _), by repeat (first | (with_reducible first | exact HB.out | apply below_alloc | apply pw_below_drewN | apply below_drew1) | exact HB.out)⟩
  ·rw [if_neg c5] at H
   have c5b0 := decide_eq_false c5
   clear c5
   by_cases c6 : (l1.length : Int) > t337
   ·rw [if_pos c6] at H
    have c6b0 : decide (t337 < (l1.length : Int)) = true := decide_eq_true c6
    clear c6
    simp only [Option.some.injEq, Prod.mk.injEq] at H
    obtain ⟨rfl, rfl⟩ := H
    go_enter Try.func76, Try.ntmps76
    go_wp2_with ((with_reducible refine gate_callee (f := 88) rfl ?_); refine goesL_ (some 17) rfl rfl Try.func88 (by kernel_rfl) rfl #[.slice A0 l0.length c0] rfl (by (try simp only [List.map_toArray, List.map_cons, List.map_nil]); first | done | rfl | (simp only [List.length_drop, List.length_take]; rfl)) ?_; (with_reducible refine (incunableref03_Size.calls k _ _ l0 t337 true _ ?side1 ?side2 A3.out).mono ?_); (case side1 => exact HR0.out); (case side2 => exact HC0.out); rintro e w' ⟨rfl, ⟨nd, rfl⟩⟩; refine ⟨_, rfl, ?_⟩)
    go_ret2
    exact ⟨_, by rfl, (Kd.R_nil _ _ _ _ _), by repeat (first | (with_reducible first | exact HB.out | apply below_alloc | apply pw_below_drewN | apply below_drew1) | exact HB.out)⟩
   ·rw [if_neg c6] at H
    have c6b0 : decide (t337 < (l1.length : Int)) = false := decide_eq_false c6
    clear c6
    have H' := ak_ H
    clear H
    go_enter Try.func76, Try.ntmps76
    go_wp2_with ((with_reducible refine gate_callee (f := 88) rfl ?_); refine goesL_ (some 17) rfl rfl Try.func88 (by kernel_rfl) rfl #[.slice A0 l0.length c0] rfl (by (try simp only [List.map_toArray, List.map_cons, List.map_nil]); first | done | rfl | (simp only [List.length_drop, List.length_take]; rfl)) ?_; (with_reducible refine (incunableref03_Size.calls k _ _ l0 t337 true _ ?side1 ?side2 A3.out).mono ?_); (case side1 => exact HR0.out); (case side2 => exact HC0.out); rintro e w' ⟨rfl, ⟨nd, rfl⟩⟩; refine ⟨_, rfl, ?_⟩)
    go_loopg [8, 9, 10] k (fun kq v8 v9 v10 w' => ∃ (x8_1 : List Int) (x9_1 : Int) (x10_1 : Int), v9 = .int .i64 x9_1 ∧ v10 = .int .i64 x10_1 ∧ Aside0 (incunableref03_Take.l0 kq l0 l1 x8_1 x9_1 x10_1 = some (r1, r2)) ∧ Aside0 (kq ≤ k) ∧ Aside0 (Kd.R (Kd.int .i64) 3 w' w.heap.size (fun _ => True) v8 x8_1) ∧ Aside0 (Below w.heap.size w w'))
    case atStart => exact ⟨(([] : List Int)), (0), (0), (by rfl), (by rfl), H', ⟨Nat.le_refl _⟩, ⟨(Kd.R_nil _ _ _ _ _)⟩, ⟨by repeat (first | (with_reducible first | exact HB.out | apply below_alloc | apply pw_below_drewN | apply below_drew1) | exact HB.out)⟩⟩
    case round =>
     clear H'
     clear c5b0 c6b0
     obtain ⟨x8_1, x9_1, x10_1, rfl, rfl, HA, HK1, HO_8, HB⟩ := hrel
     cases gk with
     | zero => exact absurd HA.out (by simp [incunableref03_Take.l0])
     | succ k1 =>
      have H := HA.out
      clear HA
      simp only [incunableref03_Take.l0] at H
      by_cases c7 : x10_1 < (l0.length : Int)
      ·rw [if_pos c7] at H
       have c7b0 := decide_eq_true c7
       clear c7
       have H' := ak_ H
       clear H
       go_wp2
       go_loopg [11, 12, 13] k1 (fun kq v11 v12 v13 w' => ∃ (x11_2 : Int) (x12_2 : Int) (x13_2 : Int), v11 = .int .i64 x11_2 ∧ v12 = .int .i64 x12_2 ∧ v13 = .int .i64 x13_2 ∧ Aside0 (incunableref03_Take.l1 kq l0 l1 x8_1 x9_1 x10_1 x11_2 x12_2 x13_2 = some (r1, r2)) ∧ Aside0 (kq ≤ k1) ∧ Aside0 (Kd.R (Kd.int .i64) 3 w' w.heap.size (fun _ => True) u8 x8_1) ∧ Aside0 (Below w.heap.size w w'))
       case atStart => exact ⟨(0), (1), (0), (by rfl), (by rfl), (by rfl), H', ⟨Nat.le_refl _⟩, ⟨HO_8.out⟩, ⟨HB.out⟩⟩
       case round =>
        clear H'
        clear c7b0
        obtain ⟨x11_2, x12_2, x13_2, rfl, rfl, rfl, HA, HK2, HO_8, HB⟩ := hrel
        cases gk with
        | zero => exact absurd HA.out (by simp [incunableref03_Take.l1])
        | succ k2 =>
         have H := HA.out
         clear HA
         simp only [incunableref03_Take.l1] at H
         by_cases c8 : 0 ≤ x10_1
         ·rw [if_pos c8] at H
          have c8b0 := decide_eq_true c8
          clear c8
          by_cases c9 : x10_1 < (l0.length : Int)
          ·rw [if_pos c9] at H
           have c9b0 := decide_eq_true c9
           clear c9
           by_cases c10 : x13_2 < (rd l0 x10_1)
           ·rw [if_pos c10] at H
            have c10b0 := decide_eq_true c10
            clear c10
            obtain ⟨ji11, hji11⟩ : ∃ j_ : Int, (wrap64 (x9_1 + x13_2)) = j_ := ⟨_, rfl⟩
            replace H : (if 0 ≤ (ji11) then (if (ji11) < (l1.length : Int) then (if x13_2 = 7 then (if (wrap64 (rd l1 (ji11))) > 64 then (some (([] : List Int), 11)) else (if (wrap64 (rd l1 (ji11))) = 64 then (if x11_2 > 0 then (some (([] : List Int), 11)) else (incunableref03_Take.l1 k2 l0 l1 x8_1 x9_1 x10_1 (wrap64 (x11_2 + (wrap64 ((wrap64 (rd l1 (ji11))) * x12_2)))) (wrap64 (x12_2 * 256)) (wrap64 (x13_2 + 1)))) else (incunableref03_Take.l1 k2 l0 l1 x8_1 x9_1 x10_1 (wrap64 (x11_2 + (wrap64 ((wrap64 (rd l1 (ji11))) * x12_2)))) (wrap64 (x12_2 * 256)) (wrap64 (x13_2 + 1))))) else (incunableref03_Take.l1 k2 l0 l1 x8_1 x9_1 x10_1 (wrap64 (x11_2 + (wrap64 ((wrap64 (rd l1 (ji11))) * x12_2)))) (wrap64 (x12_2 * 256)) (wrap64 (x13_2 + 1)))) else (none)) else (none)) = some (r1, r2) := (by rw [hji11] at H; exact H)
            have hji11w : (IntKind.i64.wrap (x9_1 + x13_2)) = ji11 := (i64_w _).trans hji11
            by_cases c12 : 0 ≤ (ji11)
            ·rw [if_pos c12] at H
             have c12b0 := decide_eq_true c12
             clear c12
             by_cases c13 : (ji11) < (l1.length : Int)
             ·rw [if_pos c13] at H
              have c13b0 := decide_eq_true c13
              clear c13
              by_cases c14 : x13_2 = 7
              ·rw [if_pos c14] at H
               have c14b0 := beq_iff_eq.mpr c14
               have c14b1 := bne_eq_false_iff_eq.mpr c14
               clear c14
               by_cases c15 : (wrap64 (rd l1 (ji11))) > 64
               ·rw [if_pos c15] at H
                have c15b0 : decide (64 < (wrap64 (rd l1 (ji11)))) = true := decide_eq_true c15
                clear c15
                simp only [Option.some.injEq, Prod.mk.injEq] at H
                obtain ⟨rfl, rfl⟩ := H
                have p339 : 0 ≤ (x10_1 : Int) := od_ ‹_›
                have q339 : x10_1 < (l0.length : Int) := od_ ‹_›
                obtain ⟨ad339, e339, hx339_0⟩ := Kd.at_int HR0.out x10_1 p339 q339
                cases e339
                replace hx339_0 := (HB.out.cell (World.block_lt_of_cell? w _ hx339_0)).trans hx339_0
                replace p339 := eq_true p339
                replace q339 := eq_true q339
                have p340 : 0 ≤ ((ji11) : Int) := od_ ‹_›
                have q340 : (ji11) < (l1.length : Int) := od_ ‹_›
                obtain ⟨ad340, e340, hx340_0⟩ := Kd.at_int HR1.out (ji11) p340 q340
                cases e340
                replace hx340_0 := (HB.out.cell (World.block_lt_of_cell? w _ hx340_0)).trans hx340_0
                replace p340 := eq_true p340
                replace q340 := eq_true q340
                go_wp2
                go_ret2
                exact ⟨_, by rfl, (Kd.R_nil _ _ _ _ _), HB.out⟩
               ·rw [if_neg c15] at H
                have c15b0 : decide (64 < (wrap64 (rd l1 (ji11)))) = false := decide_eq_false c15
                clear c15
                by_cases c16 : (wrap64 (rd l1 (ji11))) = 64
                ·rw [if_pos c16] at H
                 have c16b0 := beq_iff_eq.mpr c16
                 have c16b1 := bne_eq_false_iff_eq.mpr c16
                 clear c16
                 by_cases c17 : x11_2 > 0
                 ·rw [if_pos c17] at H
                  have c17b0 : decide (0 < x11_2) = true := decide_eq_true c17
                  clear c17
                  simp only [Option.some.injEq, Prod.mk.injEq] at H
                  obtain ⟨rfl, rfl⟩ := H
                  have p339 : 0 ≤ (x10_1 : Int) := od_ ‹_›
                  have q339 : x10_1 < (l0.length : Int) := od_ ‹_›
                  obtain ⟨ad339, e339, hx339_0⟩ := Kd.at_int HR0.out x10_1 p339 q339
                  cases e339
                  replace hx339_0 := (HB.out.cell (World.block_lt_of_cell? w _ hx339_0)).trans hx339_0
                  replace p339 := eq_true p339
                  replace q339 := eq_true q339
                  have p340 : 0 ≤ ((ji11) : Int) := od_ ‹_›
                  have q340 : (ji11) < (l1.length : Int) := od_ ‹_›
                  obtain ⟨ad340, e340, hx340_0⟩ := Kd.at_int HR1.out (ji11) p340 q340
                  cases e340
                  replace hx340_0 := (HB.out.cell (World.block_lt_of_cell? w _ hx340_0)).trans hx340_0
                  replace p340 := eq_true p340
                  replace q340 := eq_true q340
                  go_wp2
                  go_ret2
                  exact ⟨_, by rfl, (Kd.R_nil _ _ _ _ _), HB.out⟩
                 ·rw [if_neg c17] at H
                  have c17b0 : decide (0 < x11_2) = false := decide_eq_false c17
                  clear c17
                  have H' := ak_ H
                  clear H
                  have p339 : 0 ≤ (x10_1 : Int) := od_ ‹_›
                  have q339 : x10_1 < (l0.length : Int) := od_ ‹_›
                  obtain ⟨ad339, e339, hx339_0⟩ := Kd.at_int HR0.out x10_1 p339 q339
                  cases e339
                  replace hx339_0 := (HB.out.cell (World.block_lt_of_cell? w _ hx339_0)).trans hx339_0
                  replace p339 := eq_true p339
                  replace q339 := eq_true q339
                  have p340 : 0 ≤ ((ji11) : Int) := od_ ‹_›
                  have q340 : (ji11) < (l1.length : Int) := od_ ‹_›
                  obtain ⟨ad340, e340, hx340_0⟩ := Kd.at_int HR1.out (ji11) p340 q340
                  cases e340
                  replace hx340_0 := (HB.out.cell (World.block_lt_of_cell? w _ hx340_0)).trans hx340_0
                  replace p340 := eq_true p340
                  replace q340 := eq_true q340
                  go_wp2
                  go_roundg k2
                  case measure => have := HK1.out; have := HK2.out; omega
                  case rel => exact ⟨(wrap64 (x11_2 + (wrap64 ((wrap64 (rd l1 (ji11))) * x12_2)))), (wrap64 (x12_2 * 256)), (wrap64 (x13_2 + 1)), (by rfl), (by rfl), (by rfl), H', ⟨by have := HK1.out; have := HK2.out; omega⟩, ⟨HO_8.out⟩, ⟨HB.out⟩⟩
                ·rw [if_neg c16] at H
                 have c16b0 := beq_eq_false_iff_ne.mpr c16
                 have c16b1 := bne_iff_ne.mpr c16
                 have H' := ak_ H
                 clear H
                 have p339 : 0 ≤ (x10_1 : Int) := od_ ‹_›
                 have q339 : x10_1 < (l0.length : Int) := od_ ‹_›
                 obtain ⟨ad339, e339, hx339_0⟩ := Kd.at_int HR0.out x10_1 p339 q339
                 cases e339
                 replace hx339_0 := (HB.out.cell (World.block_lt_of_cell? w _ hx339_0)).trans hx339_0
                 replace p339 := eq_true p339
                 replace q339 := eq_true q339
                 have p340 : 0 ≤ ((ji11) : Int) := od_ ‹_›
                 have q340 : (ji11) < (l1.length : Int) := od_ ‹_›
                 obtain ⟨ad340, e340, hx340_0⟩ := Kd.at_int HR1.out (ji11) p340 q340
                 cases e340
                 replace hx340_0 := (HB.out.cell (World.block_lt_of_cell? w _ hx340_0)).trans hx340_0
                 replace p340 := eq_true p340
                 replace q340 := eq_true q340
                 go_wp2
                 go_roundg k2
                 case measure => have := HK1.out; have := HK2.out; omega
                 case rel => exact ⟨(wrap64 (x11_2 + (wrap64 ((wrap64 (rd l1 (ji11))) * x12_2)))), (wrap64 (x12_2 * 256)), (wrap64 (x13_2 + 1)), (by rfl), (by rfl), (by rfl), H', ⟨by have := HK1.out; have := HK2.out; omega⟩, ⟨HO_8.out⟩, ⟨HB.out⟩⟩
              ·rw [if_neg c14] at H
               have c14b0 := beq_eq_false_iff_ne.mpr c14
               have c14b1 := bne_iff_ne.mpr c14
               have H' := ak_ H
               clear H
               have p339 : 0 ≤ (x10_1 : Int) := od_ ‹_›
               have q339 : x10_1 < (l0.length : Int) := od_ ‹_›
               obtain ⟨ad339, e339, hx339_0⟩ := Kd.at_int HR0.out x10_1 p339 q339
               cases e339
               replace hx339_0 := (HB.out.cell (World.block_lt_of_cell? w _ hx339_0)).trans hx339_0
               replace p339 := eq_true p339
               replace q339 := eq_true q339
               have p340 : 0 ≤ ((ji11) : Int) := od_ ‹_›
               have q340 : (ji11) < (l1.length : Int) := od_ ‹_›
               obtain ⟨ad340, e340, hx340_0⟩ := Kd.at_int HR1.out (ji11) p340 q340
               cases e340
               replace hx340_0 := (HB.out.cell (World.block_lt_of_cell? w _ hx340_0)).trans hx340_0
               replace p340 := eq_true p340
               replace q340 := eq_true q340
               go_wp2
               go_roundg k2
               case measure => have := HK1.out; have := HK2.out; omega
               case rel => exact ⟨(wrap64 (x11_2 + (wrap64 ((wrap64 (rd l1 (ji11))) * x12_2)))), (wrap64 (x12_2 * 256)), (wrap64 (x13_2 + 1)), (by rfl), (by rfl), (by rfl), H', ⟨by have := HK1.out; have := HK2.out; omega⟩, ⟨HO_8.out⟩, ⟨HB.out⟩⟩
             ·rw [if_neg c13] at H
              exact absurd H (by simp)
            ·rw [if_neg c12] at H
             exact absurd H (by simp)
           ·rw [if_neg c10] at H
            have c10b0 := decide_eq_false c10
            clear c10
            by_cases c18 : x8_1.length < 17592186044416
            ·rw [if_pos c18] at H
             have LMc18 := ak_ c18
             clear c18
             obtain ⟨y341, hy341⟩ : ∃ y_ : List Int, y_ = (x8_1 ++ [x11_2]) := ⟨_, rfl⟩
             replace H : (incunableref03_Take.l0 k2 l0 l1 y341 (wrap64 (x9_1 + (rd l0 x10_1))) (wrap64 (x10_1 + 1))) = some (r1, r2) := (by rw [hy341]; with_reducible exact H)
             have Ny341 := ak_ hy341
             clear hy341
             have H' := ak_ H
             clear H
             have p339 : 0 ≤ (x10_1 : Int) := od_ ‹_›
             have q339 : x10_1 < (l0.length : Int) := od_ ‹_›
             obtain ⟨ad339, e339, hx339_0⟩ := Kd.at_int HR0.out x10_1 p339 q339
             cases e339
             replace hx339_0 := (HB.out.cell (World.block_lt_of_cell? w _ hx339_0)).trans hx339_0
             replace p339 := eq_true p339
             replace q339 := eq_true q339
             go_wp2_with ((with_reducible refine gate_builtin (b := .append) (xs := #[.tmp 72, .tmp 74]) rfl ?_); at_builtin; refine Kd.R_append (Kd.int .i64) (w0 := w) w.heap.size rfl (.tmp 72) (.tmp 74) 67 3 (.int .i64 0) 8 rfl Try.underlying67 info3 rfl (by decide) (by omega) u8 x8_1 x11_2 [.int .i64 x11_2] (fun _ => True) (fun _ => False) rfl rfl ?aP (fun _ hk => hk.elim) ?aF ?aO ?aB ?aS ?aL ?_; (case aP => exact rfl); (case aB => exact HB.out); (case aF => exact (fun _ _ => trivial)); (case aO => exact HO_8.out); (case aS => exact (below_size HB.out)); (case aL => have := LMc18.out; omega); intro v342 w19 ho hb hg hat; rw [← Ny341.out] at ho; have n0_ := ak_ (hb); have n1_ := ak_ (ho); clear HB; clear HO_8; have HB := n0_; have HO343 := n1_; clear n0_ n1_; clear ho hb hg hat; have p344 : 0 ≤ (x10_1 : Int) := od_ ‹_›; have q344 : x10_1 < (l0.length : Int) := od_ ‹_›; obtain ⟨ad344, e344, hx344_0⟩ := Kd.at_int HR0.out x10_1 p344 q344; obtain rfl : ad339 = ad344 := (by injection e344); replace hx344_0 := (HB.out.cell (World.block_lt_of_cell? w _ hx344_0)).trans hx344_0; replace p344 := eq_true p344; replace q344 := eq_true q344)
             go_roundg k2
             case measure => have := HK1.out; have := HK2.out; omega
             case rel => exact ⟨(y341), (wrap64 (x9_1 + (rd l0 x10_1))), (wrap64 (x10_1 + 1)), (by rfl), (by rfl), H', ⟨by have := HK1.out; have := HK2.out; omega⟩, ⟨HO343.out⟩, ⟨HB.out⟩⟩
            ·rw [if_neg c18] at H
             exact absurd H (by simp)
          ·rw [if_neg c9] at H
           exact absurd H (by simp)
         ·rw [if_neg c8] at H
          exact absurd H (by simp)
      ·rw [if_neg c7] at H
       have c7b0 := decide_eq_false c7
       clear c7
       simp only [Option.some.injEq, Prod.mk.injEq] at H
       obtain ⟨rfl, rfl⟩ := H
       go_wp2
       go_ret2
       exact ⟨_, by rfl, by (with_reducible repeat (first | apply Kd.R_alloc | apply Kd.R_drewN | apply Kd.R_drew)); exact HO_8.out, HB.out⟩
 ·replace c4 := Bool.eq_false_iff.mpr c4
  subst c4
  rw [if_neg (show ¬ (false = true) by decide)] at H
  simp only [Option.some.injEq, Prod.mk.injEq] at H
  obtain ⟨rfl, rfl⟩ := H
  go_enter Try.func76, Try.ntmps76
  go_wp2_with ((with_reducible refine gate_callee (f := 88) rfl ?_); refine goesL_ (some 17) rfl rfl Try.func88 (by kernel_rfl) rfl #[.slice A0 l0.length c0] rfl (by (try simp only [List.map_toArray, List.map_cons, List.map_nil]); first | done | rfl | (simp only [List.length_drop, List.length_take]; rfl)) ?_; (with_reducible refine (incunableref03_Size.calls k _ _ l0 t337 false _ ?side1 ?side2 A3.out).mono ?_); (case side1 => exact HR0.out); (case side2 => exact HC0.out); rintro e w' ⟨rfl, ⟨nd, rfl⟩⟩; refine ⟨_, rfl, ?_⟩)
  go_ret2
  exact ⟨_, by rfl, (Kd.R_nil _ _ _ _ _), by repeat (first | (with_reducible first | exact HB.out | apply below_alloc | apply pw_below_drewN | apply below_drew1) | exact HB.out)⟩
end Go.Proofs.Ytmehbabchakkpaa.QPageDecodes
