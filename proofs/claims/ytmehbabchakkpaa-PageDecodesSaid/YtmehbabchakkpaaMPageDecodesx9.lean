import Derived.Test.YtmehbabchakkpaaMPageDecodesx8
namespace Go.Proofs.Ytmehbabchakkpaa.QPageDecodes
open Go.RowKit Go.Proofs.YtmehbabchakkpaaW.PrintWords Go.Proofs.YtmehbabchakkpaaW.PrintLast Go.Proofs.YtmehbabchakkpaaW.PrintMore Go.Proofs.Ytmehbabchakkpaa.Short
attribute [local go_sem] max2_int min2_int max_two min_two max_three min_three max_four min_four
set_option linter.unusedVariables false
set_option maxHeartbeats 8000000
set_option maxRecDepth 100000
set_option linter.unusedSimpArgs false
mutual
def incunableref05_Judge.j0 : Nat → List Int → Int → Bool → Bool → Option (Int × Int)
 | 0, _, _, _, _ => none
 | k + 1, x0, x8, x9, x33 => if x33 = true then (some (0, 0)) else (if x9 = true then (if x8 = 0 then (incunableref05_Judge.j1 k x0 x8 true) else ((incunableref05_Power.f k x8).bind fun t266 => (incunableref05_Judge.j1 k x0 x8 t266))) else (some (3, 0)))
def incunableref05_Judge.j1 : Nat → List Int → Int → Bool → Option (Int × Int)
 | 0, _, _, _ => none
 | k + 1, x0, x8, x41 => if x41 = true then (some (2, 0)) else ((incunableref05_Places.f k (wrap64 (8 * (x0.length : Int)))).bind fun t267 => (incunableref05_Judge.l0 k x8 t267 0))
def incunableref05_Judge.l0 : Nat → Int → List Int → Int → Option (Int × Int)
 | 0, _, _, _ => none
 | k + 1, x8, x10, x11 => if x11 < (x10.length : Int) then (if 0 ≤ x11 then (if (rd x10 x11) = x8 then (some (1, x11)) else (incunableref05_Judge.l0 k x8 x10 (wrap64 (x11 + 1)))) else (none)) else (some (3, 0))
end
def incunableref05_Judge.f (k : Nat) (l0 : List Int) (a1 : Int) : Option (Int × Int) := (incunableref05_gather.f k l0).bind fun bt262 => ((incunableref05_xor.f k bt262.1 (Int.tmod a1 8192)).bind fun t264 => ((incunableref05_ones.f k (Int.tmod a1 16384)).bind fun t265 => (if ((Int.tmod (wrap64 (bt262.2 + t265)) 2) = 1) then (incunableref05_Judge.j0 k l0 t264 ((Int.tmod (wrap64 (bt262.2 + t265)) 2) == 1) false) else (incunableref05_Judge.j0 k l0 t264 ((Int.tmod (wrap64 (bt262.2 + t265)) 2) == 1) (t264 == 0)))))
theorem incunableref05_Judge.mono_l : ∀ k, (∀ y0 y1 y2 y3, LeO (incunableref05_Judge.j0 k y0 y1 y2 y3) (incunableref05_Judge.j0 (k + 1) y0 y1 y2 y3)) ∧ (∀ y0 y1 y2, LeO (incunableref05_Judge.j1 k y0 y1 y2) (incunableref05_Judge.j1 (k + 1) y0 y1 y2)) ∧ (∀ y0 y1 y2, LeO (incunableref05_Judge.l0 k y0 y1 y2) (incunableref05_Judge.l0 (k + 1) y0 y1 y2))
 | 0 => ⟨fun _ _ _ _ r h => by simp [incunableref05_Judge.j0] at h, fun _ _ _ r h => by simp [incunableref05_Judge.j1] at h, fun _ _ _ r h => by simp [incunableref05_Judge.l0] at h⟩
 | k + 1 => by
  obtain ⟨ih0, ih1, ih2⟩ := incunableref05_Judge.mono_l k
  refine ⟨?_, ?_, ?_⟩
  ·intro y0 y1 y2 y3
   unfold incunableref05_Judge.j0
   repeat' with_reducible first
   | exact ih0 _ _ _ _
   | exact ih1 _ _ _
   | exact ih2 _ _ _
   | exact incunableref05_Places.mono _ _
   | exact incunableref05_Power.mono _ _
   | exact incunableref05_gather.mono _ _
   | exact incunableref05_ones.mono _ _
   | exact incunableref05_xor.mono _ _ _
   | exact LeO.refl _
   | exact LeO.none _
   | refine LeO.ite ?_ ?_
   | refine LeO.bind ?_ (fun _ => ?_)
  ·intro y0 y1 y2
   unfold incunableref05_Judge.j1
   repeat' with_reducible first
   | exact ih0 _ _ _ _
   | exact ih1 _ _ _
   | exact ih2 _ _ _
   | exact incunableref05_Places.mono _ _
   | exact incunableref05_Power.mono _ _
   | exact incunableref05_gather.mono _ _
   | exact incunableref05_ones.mono _ _
   | exact incunableref05_xor.mono _ _ _
   | exact LeO.refl _
   | exact LeO.none _
   | refine LeO.ite ?_ ?_
   | refine LeO.bind ?_ (fun _ => ?_)
  ·intro y0 y1 y2
   unfold incunableref05_Judge.l0
   repeat' with_reducible first
   | exact ih0 _ _ _ _
   | exact ih1 _ _ _
   | exact ih2 _ _ _
   | exact incunableref05_Places.mono _ _
   | exact incunableref05_Power.mono _ _
   | exact incunableref05_gather.mono _ _
   | exact incunableref05_ones.mono _ _
   | exact incunableref05_xor.mono _ _ _
   | exact LeO.refl _
   | exact LeO.none _
   | refine LeO.ite ?_ ?_
   | refine LeO.bind ?_ (fun _ => ?_)
theorem incunableref05_Judge.mono : ∀ a0 a1 k, LeO (incunableref05_Judge.f k a0 a1) (incunableref05_Judge.f (k + 1) a0 a1) := by
 intro a0 a1 k
 obtain ⟨ih0, ih1, ih2⟩ := incunableref05_Judge.mono_l k
 unfold incunableref05_Judge.f
 repeat' with_reducible first
  | exact ih0 _ _ _ _
  | exact ih1 _ _ _
  | exact ih2 _ _ _
  | exact incunableref05_Places.mono _ _
  | exact incunableref05_Power.mono _ _
  | exact incunableref05_gather.mono _ _
  | exact incunableref05_ones.mono _ _
  | exact incunableref05_xor.mono _ _ _
  | exact LeO.refl _
  | exact LeO.none _
  | refine LeO.ite ?_ ?_
  | refine LeO.bind ?_ (fun _ => ?_)
theorem incunableref05_Judge.calls (k : Nat) (A0 : Option Addr) (c0 : Nat) (l0 : List Int) (a1 : Int) (r1 : Int) (r2 : Int) (w : World) (hr0 : Kd.C (Kd.int .u8) w A0 l0.length l0) (hc0 : l0.length ≤ c0) (h : incunableref05_Judge.f k l0 a1 = some (r1, r2)) :
  Calls Try.prog 74 #[.slice A0 l0.length c0, .int .i64 a1] w fun e w' => e = .returned (.tuple #[.int .i64 r1, .int .i64 r2]) ∧ Below w.heap.size w w' := by
 have HR0 := ak_ hr0
 have HC0 := ak_ hc0
 clear hr0 hc0
 have HB := ak_ (Below.refl w.heap.size w)
 unfold incunableref05_Judge.f at h
 have H := h
 clear h
 obtain ⟨⟨t262, t263⟩, A3, H⟩ := bs_ H
 try dsimp only at H
 obtain ⟨t264, A4, H⟩ := bs_ H
 obtain ⟨t265, A5, H⟩ := bs_ H
 have HC6 := ak_ H
 clear H
 go_enter Try.func74, Try.ntmps74
 go_upto_region 4 with (first | ((with_reducible refine gate_callee (f := 86) rfl ?_); refine goesL_ (some 14) rfl rfl Try.func86 (by kernel_rfl) rfl #[.slice A0 l0.length c0] rfl (by (try simp only [List.map_toArray, List.map_cons, List.map_nil]); first | done | rfl | (simp only [List.length_drop, List.length_take]; rfl)) ?_; (with_reducible refine (incunableref05_gather.calls k _ _ l0 t262 t263 _ ?side1 ?side2 A3.out).mono ?_); (case side1 => exact HR0.out); (case side2 => exact HC0.out); rintro e w7 ⟨rfl, hb⟩; refine ⟨_, rfl, ?_⟩; replace HB := ak_ (below_step HB.out hb); (try clear hb)) | ((with_reducible refine gate_callee (f := 91) rfl ?_); refine goesL_ (some 20) rfl rfl Try.func91 (by kernel_rfl) rfl #[.int .i64 t262, .int .i64 (Int.tmod a1 8192)] rfl (by (try simp only [List.map_toArray, List.map_cons, List.map_nil]); first | done | rfl | (simp only [List.length_drop, List.length_take]; rfl)) ?_; (with_reducible refine (incunableref05_xor.calls k t262 (Int.tmod a1 8192) t264 _ A4.out).mono ?_); rintro e w' ⟨rfl, ⟨nd, rfl⟩⟩; refine ⟨_, rfl, ?_⟩) | ((with_reducible refine gate_callee (f := 87) rfl ?_); refine goesL_ (some 24) rfl rfl Try.func87 (by kernel_rfl) rfl #[.int .i64 (Int.tmod a1 16384)] rfl (by (try simp only [List.map_toArray, List.map_cons, List.map_nil]); first | done | rfl | (simp only [List.length_drop, List.length_take]; rfl)) ?_; (with_reducible refine (incunableref05_ones.calls k (Int.tmod a1 16384) t265 _ A5.out).mono ?_); rintro e w' ⟨rfl, ⟨nd, rfl⟩⟩; refine ⟨_, rfl, ?_⟩))
 go_cut [9, 33] (fun v9 v33 wc => ∃ (kq : Nat) (x9_c : Bool) (x33_5 : Bool), v9 = .bool x9_c ∧ v33 = .bool x33_5 ∧ Aside0 (incunableref05_Judge.j0 kq l0 t264 x9_c x33_5 = some (r1, r2)) ∧ Aside0 (kq ≤ k) ∧ Aside0 (Below w.heap.size w wc))
 case first =>
  have H := HC6.out
  clear HC6
  by_cases c8 : ((Int.tmod (wrap64 (t263 + t265)) 2) = 1)
  ·rw [if_pos c8] at H
   have c8b0 : ((Int.tmod (wrap64 (t263 + t265)) 2) == 1) = true := beq_iff_eq.mpr c8
   have c8b1 : ((Int.tmod (wrap64 (t263 + t265)) 2) != 1) = false := bne_eq_false_iff_eq.mpr c8
   clear c8
   (rw [c8b0])
   (try rw [c8b0] at H)
   have H' := ak_ H
   clear H
   go_wp2
   go_meet
   case rel => exact ⟨_, _, (false), rfl, (by rfl), H', ⟨by omega⟩, ⟨by repeat (first | (with_reducible first | exact HB.out | apply below_alloc | apply pw_below_drewN | apply below_drew1) | exact HB.out)⟩⟩
  ·rw [if_neg c8] at H
   have c8b0 : ((Int.tmod (wrap64 (t263 + t265)) 2) == 1) = false := beq_eq_false_iff_ne.mpr c8
   have c8b1 : ((Int.tmod (wrap64 (t263 + t265)) 2) != 1) = true := bne_iff_ne.mpr c8
   (rw [c8b0])
   (try rw [c8b0] at H)
   have H' := ak_ H
   clear H
   go_wp2
   go_meet
   case rel => exact ⟨_, _, ((t264 == 0)), rfl, (by rfl), H', ⟨by omega⟩, ⟨by repeat (first | (with_reducible first | exact HB.out | apply below_alloc | apply pw_below_drewN | apply below_drew1) | exact HB.out)⟩⟩
 case rest =>
  clear HC6
  obtain ⟨kq, x9_c, x33_5, rfl, rfl, HA, HJ5, HB⟩ := hcut
  cases kq with
  | zero => exact absurd HA.out (by simp [incunableref05_Judge.j0])
  | succ kj5 =>
   have H := HA.out
   clear HA
   simp only [incunableref05_Judge.j0] at H
   by_cases c9 : x33_5 = true
   ·subst c9
    rw [if_pos rfl] at H
    simp only [Option.some.injEq, Prod.mk.injEq] at H
    obtain ⟨rfl, rfl⟩ := H
    go_wp2
    go_ret2
    exact ⟨by rfl, HB.out⟩
   ·replace c9 := Bool.eq_false_iff.mpr c9
    subst c9
    rw [if_neg (show ¬ (false = true) by decide)] at H
    by_cases c10 : x9_c = true
    ·rw [if_pos c10] at H
     subst c10
     have HC11 := ak_ H
     clear H
     go_upto_region 8 with (fail)
     go_cut [41] (fun v41 wc => ∃ (kq : Nat) (x41_10 : Bool), v41 = .bool x41_10 ∧ Aside0 (incunableref05_Judge.j1 kq l0 t264 x41_10 = some (r1, r2)) ∧ Aside0 (kq ≤ kj5) ∧ Aside0 (Below w.heap.size w wc))
     case first =>
      have H := HC11.out
      clear HC11
      by_cases c12 : t264 = 0
      ·rw [if_pos c12] at H
       have c12b0 := beq_iff_eq.mpr c12
       have c12b1 := bne_eq_false_iff_eq.mpr c12
       clear c12
       (first | rw [c12b0] | (simp only [i64_w, i32_w]; rw [c12b0]) | skip)
       have H' := ak_ H
       clear H
       go_wp2
       go_meet
       case rel => exact ⟨_, (true), (by rfl), H', ⟨by have := HJ5.out; omega⟩, ⟨HB.out⟩⟩
      ·rw [if_neg c12] at H
       have c12b0 := beq_eq_false_iff_ne.mpr c12
       have c12b1 := bne_iff_ne.mpr c12
       (first | rw [c12b0] | (simp only [i64_w, i32_w]; rw [c12b0]) | skip)
       obtain ⟨t266, A13, H⟩ := bs_ H
       have H' := ak_ H
       clear H
       go_wp2_with (go_at_call 92; (with_reducible refine (incunableref05_Power.calls kj5 t264 t266 _ A13.out).mono ?_); rintro e w' ⟨rfl, ⟨nd, rfl⟩⟩)
       go_meet
       case rel => exact ⟨_, (t266), (by rfl), H', ⟨by have := HJ5.out; omega⟩, ⟨by repeat (first | (with_reducible first | exact HB.out | apply below_alloc | apply pw_below_drewN | apply below_drew1) | exact HB.out)⟩⟩
     case rest =>
      clear HC11
      obtain ⟨kq, x41_10, rfl, HA, HJ10, HB⟩ := hcut
      cases kq with
      | zero => exact absurd HA.out (by simp [incunableref05_Judge.j1])
      | succ kj10 =>
       have H := HA.out
       clear HA
       simp only [incunableref05_Judge.j1] at H
       by_cases c14 : x41_10 = true
       ·subst c14
        rw [if_pos rfl] at H
        simp only [Option.some.injEq, Prod.mk.injEq] at H
        obtain ⟨rfl, rfl⟩ := H
        go_wp2
        go_ret2
        exact ⟨by rfl, HB.out⟩
       ·replace c14 := Bool.eq_false_iff.mpr c14
        subst c14
        rw [if_neg (show ¬ (false = true) by decide)] at H
        obtain ⟨t267, A15, H⟩ := bs_ H
        have H' := ak_ H
        clear H
        go_wp2_with ((with_reducible refine gate_callee (f := 93) rfl ?_); refine goesL_ (some 45) rfl rfl Try.func93 (by kernel_rfl) rfl #[.int .i64 (wrap64 (8 * (l0.length : Int)))] rfl (by (try simp only [List.map_toArray, List.map_cons, List.map_nil]); first | done | rfl | (simp only [List.length_drop, List.length_take]; rfl)) ?_; (with_reducible refine (incunableref05_Places.calls kj10 (wrap64 (8 * (l0.length : Int))) t267 _ A15.out).mono ?_); rintro e w16 ⟨v268, rfl, ho0, hb⟩; refine ⟨_, rfl, ?_⟩; have HO269 := ak_ (Kd.R_lower ho0 (below_size HB.out)); replace HB := ak_ (below_step HB.out hb); (try clear hb); (try clear ho0))
        go_loopg [11] kj10 (fun kq v11 w' => ∃ (x11_3 : Int), v11 = .int .i64 x11_3 ∧ Aside0 (incunableref05_Judge.l0 kq t264 t267 x11_3 = some (r1, r2)) ∧ Aside0 (kq ≤ kj10) ∧ Aside0 (Kd.R (Kd.int .i64) 3 w' w.heap.size (fun _ => True) v268 t267) ∧ Aside0 (Below w.heap.size w w'))
        case atStart => exact ⟨(0), (by rfl), H', ⟨Nat.le_refl _⟩, ⟨HO269.out⟩, ⟨HB.out⟩⟩
        case round =>
         clear H'
         obtain ⟨x11_3, rfl, HA, HK3, HO_10, HB⟩ := hrel
         cases gk with
         | zero => exact absurd HA.out (by simp [incunableref05_Judge.l0])
         | succ k3 =>
          have H := HA.out
          clear HA
          simp only [incunableref05_Judge.l0] at H
          by_cases c17 : x11_3 < (t267.length : Int)
          ·rw [if_pos c17] at H
           have c17b0 := decide_eq_true c17
           clear c17
           by_cases c18 : 0 ≤ x11_3
           ·rw [if_pos c18] at H
            have c18b0 := decide_eq_true c18
            clear c18
            by_cases c19 : (rd t267 x11_3) = t264
            ·rw [if_pos c19] at H
             have c19b0 := beq_iff_eq.mpr c19
             have c19b1 := bne_eq_false_iff_eq.mpr c19
             clear c19
             simp only [Option.some.injEq, Prod.mk.injEq] at H
             obtain ⟨rfl, rfl⟩ := H
             obtain ⟨Ao20, co20, eo20⟩ := Kd.R_slice HO_10.out
             subst eo20
             have p270 : 0 ≤ (x11_3 : Int) := od_ ‹_›
             have q270 : x11_3 < (t267.length : Int) := od_ ‹_›
             obtain ⟨ad270, e270, hx270_0⟩ := Kd.at_int (Kd.R_reads' HO_10.out).2.2 x11_3 p270 q270
             cases e270
             replace p270 := eq_true p270
             replace q270 := eq_true q270
             go_wp2
             go_ret2
             exact ⟨by rfl, HB.out⟩
            ·rw [if_neg c19] at H
             have c19b0 := beq_eq_false_iff_ne.mpr c19
             have c19b1 := bne_iff_ne.mpr c19
             have H' := ak_ H
             clear H
             obtain ⟨Ao21, co21, eo21⟩ := Kd.R_slice HO_10.out
             subst eo21
             have p270 : 0 ≤ (x11_3 : Int) := od_ ‹_›
             have q270 : x11_3 < (t267.length : Int) := od_ ‹_›
             obtain ⟨ad270, e270, hx270_0⟩ := Kd.at_int (Kd.R_reads' HO_10.out).2.2 x11_3 p270 q270
             cases e270
             replace p270 := eq_true p270
             replace q270 := eq_true q270
             go_wp2
             go_roundg k3
             case measure => have := HJ5.out; have := HJ10.out; have := HK3.out; omega
             case rel => exact ⟨(wrap64 (x11_3 + 1)), (by rfl), H', ⟨by have := HJ5.out; have := HJ10.out; have := HK3.out; omega⟩, ⟨HO_10.out⟩, ⟨HB.out⟩⟩
           ·rw [if_neg c18] at H
            exact absurd H (by simp)
          ·rw [if_neg c17] at H
           have c17b0 := decide_eq_false c17
           clear c17
           simp only [Option.some.injEq, Prod.mk.injEq] at H
           obtain ⟨rfl, rfl⟩ := H
           obtain ⟨Ao22, co22, eo22⟩ := Kd.R_slice HO_10.out
           subst eo22
           go_wp2
           go_ret2
           exact ⟨by rfl, HB.out⟩
    ·rw [if_neg c10] at H
     replace c10 := Bool.eq_false_iff.mpr c10; subst c10
     simp only [Option.some.injEq, Prod.mk.injEq] at H
     obtain ⟨rfl, rfl⟩ := H
     go_wp2
     go_ret2
     exact ⟨by rfl, HB.out⟩
mutual
def incunableref01_Of.l0 : Nat → List Int → List Int → Int → Option (List Int)
 | 0, _, _, _ => none
 | k + 1, x0, x3, x4 => if (wrap64 (x4 + 8)) ≤ (x0.length : Int) then (incunableref01_Of.l1 k x0 x3 x4 0 7) else (some x3)
def incunableref01_Of.l1 : Nat → List Int → List Int → Int → Int → Int → Option (List Int)
 | 0, _, _, _, _, _ => none
 | k + 1, x0, x3, x4, x5, x6 => if x6 ≥ 0 then (if 0 ≤ (wrap64 (x4 + x6)) then (if (wrap64 (x4 + x6)) < (x0.length : Int) then (incunableref01_Of.l1 k x0 x3 x4 (wrap64 ((wrap64 (2 * x5)) + (rd x0 (wrap64 (x4 + x6))))) (wrap64 (x6 - 1))) else (none)) else (none)) else (if x3.length < 140737488355328 then (incunableref01_Of.l0 k x0 (x3 ++ [(x5) % 256]) (wrap64 (x4 + 8))) else (none))
end
def incunableref01_Of.f (k : Nat) (l0 : List Int) : Option (List Int) := incunableref01_Of.l0 k l0 ([] : List Int) 0
theorem incunableref01_Of.mono_l : ∀ k, (∀ y0 y1 y2, LeO (incunableref01_Of.l0 k y0 y1 y2) (incunableref01_Of.l0 (k + 1) y0 y1 y2)) ∧ (∀ y0 y1 y2 y3 y4, LeO (incunableref01_Of.l1 k y0 y1 y2 y3 y4) (incunableref01_Of.l1 (k + 1) y0 y1 y2 y3 y4))
 | 0 => ⟨fun _ _ _ r h => by simp [incunableref01_Of.l0] at h, fun _ _ _ _ _ r h => by simp [incunableref01_Of.l1] at h⟩
 | k + 1 => by
  obtain ⟨ih0, ih1⟩ := incunableref01_Of.mono_l k
  refine ⟨?_, ?_⟩
  ·intro y0 y1 y2
   unfold incunableref01_Of.l0
   repeat' with_reducible first
   | exact ih0 _ _ _
   | exact ih1 _ _ _ _ _
   | exact LeO.refl _
   | exact LeO.none _
   | refine LeO.ite ?_ ?_
   | refine LeO.bind ?_ (fun _ => ?_)
  ·intro y0 y1 y2 y3 y4
   unfold incunableref01_Of.l1
   repeat' with_reducible first
   | exact ih0 _ _ _
   | exact ih1 _ _ _ _ _
   | exact LeO.refl _
   | exact LeO.none _
   | refine LeO.ite ?_ ?_
   | refine LeO.bind ?_ (fun _ => ?_)
theorem incunableref01_Of.mono : ∀ a0 k, LeO (incunableref01_Of.f k a0) (incunableref01_Of.f (k + 1) a0) := by
 intro a0 k
 obtain ⟨ih0, ih1⟩ := incunableref01_Of.mono_l k
 unfold incunableref01_Of.f
 repeat' with_reducible first
  | exact ih0 _ _ _
  | exact ih1 _ _ _ _ _
  | exact LeO.refl _
  | exact LeO.none _
  | refine LeO.ite ?_ ?_
  | refine LeO.bind ?_ (fun _ => ?_)
theorem incunableref01_Of.calls (k : Nat) (A0 : Option Addr) (c0 : Nat) (l0 : List Int) (r : List Int) (w : World) (hr0 : Kd.C (Kd.int .i64) w A0 l0.length l0) (hc0 : l0.length ≤ c0) (h : incunableref01_Of.f k l0 = some r) :
  Calls Try.prog 94 #[.slice A0 l0.length c0] w fun e w' => ∃ v0_ : Value, e = .returned (v0_) ∧ Kd.R (Kd.int .u8) 5 w' w.heap.size (fun _ => True) v0_ r ∧ Below w.heap.size w w' := by
 have HR0 := ak_ hr0
 have HC0 := ak_ hc0
 clear hr0 hc0
 have HB := ak_ (Below.refl w.heap.size w)
 unfold incunableref01_Of.f at h
 have H := h
 clear h
 have H' := ak_ H
 clear H
 go_enter Try.func94, Try.ntmps94
 go_wp2
 go_loopg [3, 4] k (fun kq v3 v4 w' => ∃ (x3_1 : List Int) (x4_1 : Int), v4 = .int .i64 x4_1 ∧ Aside0 (incunableref01_Of.l0 kq l0 x3_1 x4_1 = some r) ∧ Aside0 (kq ≤ k) ∧ Aside0 (Kd.R (Kd.int .u8) 5 w' w.heap.size (fun _ => True) v3 x3_1) ∧ Aside0 (Below w.heap.size w w'))
 case atStart => exact ⟨(([] : List Int)), (0), (by rfl), H', ⟨Nat.le_refl _⟩, ⟨(Kd.R_nil _ _ _ _ _)⟩, ⟨HB.out⟩⟩
 case round =>
  clear H'
  obtain ⟨x3_1, x4_1, rfl, HA, HK1, HO_3, HB⟩ := hrel
  cases gk with
  | zero => exact absurd HA.out (by simp [incunableref01_Of.l0])
  | succ k1 =>
   have H := HA.out
   clear HA
   simp only [incunableref01_Of.l0] at H
   by_cases c2 : (wrap64 (x4_1 + 8)) ≤ (l0.length : Int)
   ·rw [if_pos c2] at H
    have c2b0 := decide_eq_true c2
    clear c2
    have H' := ak_ H
    clear H
    go_wp2
    go_loopg [5, 6] k1 (fun kq v5 v6 w' => ∃ (x5_2 : Int) (x6_2 : Int), v5 = .int .i64 x5_2 ∧ v6 = .int .i64 x6_2 ∧ Aside0 (incunableref01_Of.l1 kq l0 x3_1 x4_1 x5_2 x6_2 = some r) ∧ Aside0 (kq ≤ k1) ∧ Aside0 (Kd.R (Kd.int .u8) 5 w' w.heap.size (fun _ => True) u3 x3_1) ∧ Aside0 (Below w.heap.size w w'))
    case atStart => exact ⟨(0), (7), (by rfl), (by rfl), H', ⟨Nat.le_refl _⟩, ⟨HO_3.out⟩, ⟨HB.out⟩⟩
    case round =>
     clear H'
     clear c2b0
     obtain ⟨x5_2, x6_2, rfl, rfl, HA, HK2, HO_3, HB⟩ := hrel
     cases gk with
     | zero => exact absurd HA.out (by simp [incunableref01_Of.l1])
     | succ k2 =>
      have H := HA.out
      clear HA
      simp only [incunableref01_Of.l1] at H
      by_cases c3 : x6_2 ≥ 0
      ·rw [if_pos c3] at H
       have c3b0 : decide (0 ≤ x6_2) = true := decide_eq_true c3
       clear c3
       obtain ⟨ji4, hji4⟩ : ∃ j_ : Int, (wrap64 (x4_1 + x6_2)) = j_ := ⟨_, rfl⟩
       replace H : (if 0 ≤ (ji4) then (if (ji4) < (l0.length : Int) then (incunableref01_Of.l1 k2 l0 x3_1 x4_1 (wrap64 ((wrap64 (2 * x5_2)) + (rd l0 (ji4)))) (wrap64 (x6_2 - 1))) else (none)) else (none)) = some r := (by rw [hji4] at H; exact H)
       have hji4w : (IntKind.i64.wrap (x4_1 + x6_2)) = ji4 := (i64_w _).trans hji4
       by_cases c5 : 0 ≤ (ji4)
       ·rw [if_pos c5] at H
        have c5b0 := decide_eq_true c5
        clear c5
        by_cases c6 : (ji4) < (l0.length : Int)
        ·rw [if_pos c6] at H
         have c6b0 := decide_eq_true c6
         clear c6
         have H' := ak_ H
         clear H
         have p271 : 0 ≤ ((ji4) : Int) := od_ ‹_›
         have q271 : (ji4) < (l0.length : Int) := od_ ‹_›
         obtain ⟨ad271, e271, hx271_0⟩ := Kd.at_int HR0.out (ji4) p271 q271
         cases e271
         replace hx271_0 := (HB.out.cell (World.block_lt_of_cell? w _ hx271_0)).trans hx271_0
         replace p271 := eq_true p271
         replace q271 := eq_true q271
         go_wp2
         go_roundg k2
         case measure => have := HK1.out; have := HK2.out; omega
         case rel => exact ⟨(wrap64 ((wrap64 (2 * x5_2)) + (rd l0 (ji4)))), (wrap64 (x6_2 - 1)), (by rfl), (by rfl), H', ⟨by have := HK1.out; have := HK2.out; omega⟩, ⟨HO_3.out⟩, ⟨HB.out⟩⟩
        ·rw [if_neg c6] at H
         exact absurd H (by simp)
       ·rw [if_neg c5] at H
        exact absurd H (by simp)
      ·rw [if_neg c3] at H
       have c3b0 : decide (0 ≤ x6_2) = false := decide_eq_false c3
       clear c3
       by_cases c7 : x3_1.length < 140737488355328
       ·rw [if_pos c7] at H
        have LMc7 := ak_ c7
        clear c7
        obtain ⟨y272, hy272⟩ : ∃ y_ : List Int, y_ = (x3_1 ++ [(x5_2) % 256]) := ⟨_, rfl⟩
        replace H : (incunableref01_Of.l0 k2 l0 y272 (wrap64 (x4_1 + 8))) = some r := (by rw [hy272]; with_reducible exact H)
        have Ny272 := ak_ hy272
        clear hy272
        have H' := ak_ H
        clear H
        go_wp2_with ((with_reducible refine gate_builtin (b := .append) (xs := #[.tmp 27, .tmp 30]) rfl ?_); at_builtin; refine Kd.R_append (Kd.int .u8) (w0 := w) w.heap.size rfl (.tmp 27) (.tmp 30) 24 5 (.int .u8 0) 1 rfl Try.underlying24 info5 rfl (by decide) (by omega) u3 x3_1 ((x5_2) % 256) [.int .u8 ((x5_2) % 256)] (fun _ => True) (fun _ => False) rfl rfl ?aP (fun _ hk => hk.elim) ?aF ?aO ?aB ?aS ?aL ?_; (case aP => exact rfl); (case aB => exact HB.out); (case aF => exact (fun _ _ => trivial)); (case aO => exact HO_3.out); (case aS => exact (below_size HB.out)); (case aL => have := LMc7.out; omega); intro v273 w8 ho hb hg hat; rw [← Ny272.out] at ho; have n0_ := ak_ (hb); have n1_ := ak_ (ho); clear HB; clear HO_3; have HB := n0_; have HO274 := n1_; clear n0_ n1_; clear ho hb hg hat)
        go_roundg k2
        case measure => have := HK1.out; have := HK2.out; omega
        case rel => exact ⟨(y272), (wrap64 (x4_1 + 8)), (by rfl), H', ⟨by have := HK1.out; have := HK2.out; omega⟩, ⟨HO274.out⟩, ⟨HB.out⟩⟩
       ·rw [if_neg c7] at H
        exact absurd H (by simp)
   ·rw [if_neg c2] at H
    have c2b0 := decide_eq_false c2
    clear c2
    obtain rfl := Option.some.inj H
    go_wp2
    go_ret
    exact ⟨_, by rfl, by (with_reducible repeat (first | apply Kd.R_alloc | apply Kd.R_drewN | apply Kd.R_drew)); exact HO_3.out, HB.out⟩
end Go.Proofs.Ytmehbabchakkpaa.QPageDecodes
namespace Go.Proofs.Ytmehbabchakkpaa.QPageDecodes
open Go.RowKit Go.Proofs.YtmehbabchakkpaaW.PrintWords Go.Proofs.YtmehbabchakkpaaW.PrintLast Go.Proofs.YtmehbabchakkpaaW.PrintMore Go.Proofs.Ytmehbabchakkpaa.Short
attribute [local go_sem] max2_int min2_int max_two min_two max_three min_three max_four min_four
set_option linter.unusedVariables false
set_option maxHeartbeats 8000000
set_option maxRecDepth 100000
set_option linter.unusedSimpArgs false
def incunableref01_Flip.l0 : Nat → List Int → List Int → Int → Option (List Int)
 | 0, _, _, _ => none
 | k + 1, x1, x5, x6 => if x6 < (x1.length : Int) then (if 0 ≤ x6 then (if (rd x1 x6) ≥ 0 then (if (rd x1 x6) < (x5.length : Int) then (if 0 ≤ (rd x1 x6) then (incunableref01_Flip.l0 k x1 (x5.set ((rd x1 x6) : Int).toNat (wrap64 (1 - (rd x5 (rd x1 x6))))) (wrap64 (x6 + 1))) else (none)) else (incunableref01_Flip.l0 k x1 x5 (wrap64 (x6 + 1)))) else (incunableref01_Flip.l0 k x1 x5 (wrap64 (x6 + 1)))) else (none)) else ((incunableref01_Of.f k x5).bind fun t284 => (some t284))
def incunableref01_Flip.f (k : Nat) (l0 : List Int) (l1 : List Int) : Option (List Int) := (incunableref01_List.f k l0).bind fun t275 => (incunableref01_Flip.l0 k l1 t275 0)
theorem incunableref01_Flip.mono_l : ∀ k, (∀ y0 y1 y2, LeO (incunableref01_Flip.l0 k y0 y1 y2) (incunableref01_Flip.l0 (k + 1) y0 y1 y2))
 | 0 => fun _ _ _ r h => by simp [incunableref01_Flip.l0] at h
 | k + 1 => by
  have ih0 := incunableref01_Flip.mono_l k
  ·intro y0 y1 y2
   unfold incunableref01_Flip.l0
   repeat' with_reducible first
   | exact ih0 _ _ _
   | exact incunableref01_List.mono _ _
   | exact incunableref01_Of.mono _ _
   | exact LeO.refl _
   | exact LeO.none _
   | refine LeO.ite ?_ ?_
   | refine LeO.bind ?_ (fun _ => ?_)
theorem incunableref01_Flip.mono : ∀ a0 a1 k, LeO (incunableref01_Flip.f k a0 a1) (incunableref01_Flip.f (k + 1) a0 a1) := by
 intro a0 a1 k
 have ih0 := incunableref01_Flip.mono_l k
 unfold incunableref01_Flip.f
 repeat' with_reducible first
  | exact ih0 _ _ _
  | exact incunableref01_List.mono _ _
  | exact incunableref01_Of.mono _ _
  | exact LeO.refl _
  | exact LeO.none _
  | refine LeO.ite ?_ ?_
  | refine LeO.bind ?_ (fun _ => ?_)
def incunableref01_Flip.T6 : Bool × List (List Nat × List Nat) := (true, [([], []), ([], []), ([], []), ([1, 2], [1, 2]), ([3], [3]), ([], []), ([], []), ([], []), ([6, 7], [6, 7]), ([8], [8]), ([5, 9], [5, 9]), ([10], [10]), ([11], [11]), ([0, 4, 0, 1, 2, 3, 4, 5, 6, 7, 8, 9, 10, 11, 12], [0, 4]), ([13, 12, 0, 1, 2, 3, 4, 5, 6, 7, 8, 9, 10, 11, 12], [12, 13])])
def incunableref01_Flip.B6 : List Nat := [0, 0, 0, 6, 14, 0, 0, 0, 192, 448, 992, 2016, 4064, 8191, 16383]
theorem incunableref01_Flip.tab6 : rtab .any (opsOf Try.f75 6) = incunableref01_Flip.T6 := by kernel_rfl
theorem incunableref01_Flip.bits6 : waitsOk incunableref01_Flip.T6.2 incunableref01_Flip.B6 = true := by kernel_rfl
theorem incunableref01_Flip.calls (k : Nat) (A0 : Option Addr) (c0 : Nat) (l0 : List Int) (A1 : Option Addr) (c1 : Nat) (l1 : List Int) (r : List Int) (w : World) (hr0 : Kd.C (Kd.int .u8) w A0 l0.length l0) (hc0 : l0.length ≤ c0) (hr1 : Kd.C (Kd.int .i64) w A1 l1.length l1) (hc1 : l1.length ≤ c1) (h : incunableref01_Flip.f k l0 l1 = some r) :
  Calls Try.prog 75 #[.slice A0 l0.length c0, .slice A1 l1.length c1] w fun e w' => ∃ v0_ : Value, e = .returned (v0_) ∧ Kd.R (Kd.int .u8) 5 w' w.heap.size (fun _ => True) v0_ r ∧ Below w.heap.size w w' := by
 have HR0 := ak_ hr0
 have HC0 := ak_ hc0
 clear hr0 hc0
 have HR1 := ak_ hr1
 have HC1 := ak_ hc1
 clear hr1 hc1
 have HB := ak_ (Below.refl w.heap.size w)
 unfold incunableref01_Flip.f at h
 have H := h
 clear h
 obtain ⟨t275, A3, H⟩ := bs_ H
 have H' := ak_ H
 clear H
 go_enter Try.func75, Try.ntmps75
 go_wp2_with ((with_reducible refine gate_callee (f := 73) rfl ?_); refine goesL_ (some 8) rfl rfl Try.func73 (by kernel_rfl) rfl #[.slice A0 l0.length c0] rfl (by (try simp only [List.map_toArray, List.map_cons, List.map_nil]); first | done | rfl | (simp only [List.length_drop, List.length_take]; rfl)) ?_; (with_reducible refine (incunableref01_List.calls k _ _ l0 t275 _ ?side1 ?side2 A3.out).mono ?_); (case side1 => exact HR0.out); (case side2 => exact HC0.out); rintro e w4 ⟨v276, rfl, ho0, hb⟩; refine ⟨_, rfl, ?_⟩; have HO277 := ak_ (Kd.R_lower ho0 (below_size HB.out)); replace HB := ak_ (below_step HB.out hb); (try clear hb); (try clear ho0))
 go_loopg [6] k (fun kq v6 w' => ∃ (x5_1 : List Int) (x6_1 : Int), v6 = .int .i64 x6_1 ∧ Aside0 (incunableref01_Flip.l0 kq l1 x5_1 x6_1 = some r) ∧ Aside0 (kq ≤ k) ∧ Aside0 (Kd.R (Kd.int .i64) 3 w' w.heap.size (fun _ => True) v276 x5_1) ∧ Aside0 (Below w.heap.size w w'))
 case atStart => exact ⟨(t275), (0), (by rfl), H', ⟨Nat.le_refl _⟩, ⟨HO277.out⟩, ⟨HB.out⟩⟩
 case round =>
  clear H'
  obtain ⟨x5_1, x6_1, rfl, HA, HK1, HO_5, HB⟩ := hrel
  cases gk with
  | zero => exact absurd HA.out (by simp [incunableref01_Flip.l0])
  | succ k1 =>
   have H := HA.out
   clear HA
   simp only [incunableref01_Flip.l0] at H
   by_cases c5 : x6_1 < (l1.length : Int)
   ·rw [if_pos c5] at H
    have c5b0 := decide_eq_true c5
    clear c5
    by_cases c6 : 0 ≤ x6_1
    ·rw [if_pos c6] at H
     have c6b0 := decide_eq_true c6
     clear c6
     by_cases c7 : (rd l1 x6_1) ≥ 0
     ·rw [if_pos c7] at H
      have c7b0 : decide (0 ≤ (rd l1 x6_1)) = true := decide_eq_true c7
      clear c7
      by_cases c8 : (rd l1 x6_1) < (x5_1.length : Int)
      ·rw [if_pos c8] at H
       have c8b0 := decide_eq_true c8
       clear c8
       by_cases c9 : 0 ≤ (rd l1 x6_1)
       ·rw [if_pos c9] at H
        have c9b0 := decide_eq_true c9
        clear c9
        obtain ⟨y283, hy283⟩ : ∃ y_ : List Int, y_ = (x5_1.set ((rd l1 x6_1) : Int).toNat (wrap64 (1 - (rd x5_1 (rd l1 x6_1))))) := ⟨_, rfl⟩
        replace H : (incunableref01_Flip.l0 k1 l1 y283 (wrap64 (x6_1 + 1))) = some r := (by rw [hy283]; with_reducible exact H)
        have Ny283 := ak_ hy283
        clear hy283
        have H' := ak_ H
        clear H
        have p278 : 0 ≤ (x6_1 : Int) := od_ ‹_›
        have q278 : x6_1 < (l1.length : Int) := od_ ‹_›
        obtain ⟨ad278, e278, hx278_0⟩ := Kd.at_int HR1.out x6_1 p278 q278
        cases e278
        replace hx278_0 := (HB.out.cell (World.block_lt_of_cell? w _ hx278_0)).trans hx278_0
        replace p278 := eq_true p278
        replace q278 := eq_true q278
        have p279 : 0 ≤ (x6_1 : Int) := od_ ‹_›
        have q279 : x6_1 < (l1.length : Int) := od_ ‹_›
        obtain ⟨ad279, e279, hx279_0⟩ := Kd.at_int HR1.out x6_1 p279 q279
        obtain rfl : ad278 = ad279 := (by injection e279)
        replace hx279_0 := (HB.out.cell (World.block_lt_of_cell? w _ hx279_0)).trans hx279_0
        replace p279 := eq_true p279
        replace q279 := eq_true q279
        obtain ⟨Ao11, co11, eo11⟩ := Kd.R_slice HO_5.out
        subst eo11
        try go_wp2
        replace HO_5 := ak_ (Kd.R_drew HO_5.out)
        replace HB := ak_ (below_drew1 HB.out)
        have p280 : 0 ≤ (x6_1 : Int) := od_ ‹_›
        have q280 : x6_1 < (l1.length : Int) := od_ ‹_›
        obtain ⟨ad280, e280, hx280_0⟩ := Kd.at_int HR1.out x6_1 p280 q280
        have hw280_0 := hx280_0
        obtain rfl : ad278 = ad280 := (by injection e280)
        replace hx280_0 := (HB.out.cell (World.block_lt_of_cell? w _ hx280_0)).trans hx280_0
        replace p280 := eq_true p280
        replace q280 := eq_true q280
        have p281 : 0 ≤ (x6_1 : Int) := od_ ‹_›
        have q281 : x6_1 < (l1.length : Int) := od_ ‹_›
        obtain ⟨ad281, e281, hx281_0⟩ := Kd.at_int HR1.out x6_1 p281 q281
        have hw281_0 := hx281_0
        obtain rfl : ad278 = ad281 := (by injection e281)
        replace hx281_0 := (HB.out.cell (World.block_lt_of_cell? w _ hx281_0)).trans hx281_0
        replace p281 := eq_true p281
        replace q281 := eq_true q281
        have p282 : 0 ≤ ((rd l1 x6_1) : Int) := od_ ‹_›
        have q282 : (rd l1 x6_1) < (x5_1.length : Int) := od_ ‹_›
        obtain ⟨ad282, e282, hx282_0⟩ := Kd.at_int (Kd.R_reads' HO_5.out).2.2 (rd l1 x6_1) p282 q282
        cases e282
        replace p282 := eq_true p282
        replace q282 := eq_true q282
        have p10 : 0 ≤ ((rd l1 x6_1) : Int) := od_ ‹_›
        have q10 : ((rd l1 x6_1) : Int) < ((x5_1.length : Int) : Int) := od_ ‹_›
        obtain ⟨go10, co10, eo10, gb10, gl10, cl10, HG10⟩ := Kd.R_form HO_5.out (by omega)
        (cases eo10)
        have GB10 := ak_ gb10
        have GG10 := ak_ HG10
        clear gb10 gl10 HG10
        (simp only [add_plain] at hx282_0)
        obtain ⟨hx10_0, hf10_0⟩ := Kd.R_celln 0 HO_5.out ((rd l1 x6_1) : Int) p10 q10
        replace p10 := eq_true p10
        replace q10 := eq_true q10
        have HP13 := Kd.R_putn HO_5.out ((rd l1 x6_1) : Int) (wrap64 (1 - (rd x5_1 (rd l1 x6_1))))
        rw [← Ny283.out] at HP13
        have HQ13 := ak_ HP13
        clear HP13
        refine start_ (n := 15) (S := fun w' => w'.cell? (ad278.add (x6_1).toNat) = some (.int .i64 (rd l1 x6_1)) ∧ w'.cell? (ad278.add (x6_1).toNat) = some (.int .i64 (rd l1 x6_1)) ∧ w'.cell? ⟨go10, ((rd l1 x6_1)).toNat, none⟩ = some (.int .i64 (rd x5_1 (rd l1 x6_1)))) (ds := [14]) #[false, false, false, false, false, false, false, false, false, false, false, false, false, false, false] (by kernel_rfl) rfl rfl ⟨((HB.out.cell (World.block_lt_of_cell? w _ hw280_0)).trans hw280_0), ((HB.out.cell (World.block_lt_of_cell? w _ hw281_0)).trans hw281_0), hx282_0⟩ (fun hHeld => ?_); refine with_tabW incunableref01_Flip.tab6 incunableref01_Flip.bits6 (fun HT_ HW_ => ?_)
        generalize wr.drew = w12 at HO_5 HB GG10 HQ13 hf10_0 hx10_0 hx280_0 hx281_0 hx282_0 hHeld ⊢
        refine pu 0 (some 29) #[true, false, false, false, false, false, false, false, false, false, false, false, false, false, false] HT_.out rfl rfl ?_
        refine pu 1 (some 30) #[true, true, false, false, false, false, false, false, false, false, false, false, false, false, false] HT_.out rfl rfl ?_
        refine pu 2 (some 31) #[true, true, true, false, false, false, false, false, false, false, false, false, false, false, false] HT_.out rfl rfl ?_
        refine pu 3 (some 32) #[true, true, true, true, false, false, false, false, false, false, false, false, false, false, false] HT_.out rfl rfl ?_
        refine pu 5 (some 34) #[true, true, true, true, false, true, false, false, false, false, false, false, false, false, false] HT_.out rfl rfl ?_
        refine pu 6 (some 35) #[true, true, true, true, false, true, true, false, false, false, false, false, false, false, false] HT_.out rfl rfl ?_
        refine pu 7 (some 36) #[true, true, true, true, false, true, true, true, false, false, false, false, false, false, false] HT_.out rfl rfl ?_
        refine pu 8 (some 37) #[true, true, true, true, false, true, true, true, true, false, false, false, false, false, false] HT_.out rfl rfl ?_
        refine take_ (i := 4) (N := some 33) (v := ?_) (a' := ?_) #[true, true, true, true, true, true, true, true, true, false, false, false, false, false, false] rfl rfl (take_ofW HT_.out HW_.out (by kernel_rfl)) (fun _ _ _ h => h) (Or.inl ⟨by rfl, ?_⟩) hHeld ?_ ?_
        rotate_left
        ·rintro w' ⟨s0, s1, s2⟩
         go_simp
         with_reducible rfl
        rotate_left
        ·simp only [Act.put, List.setIfInBounds_toArray, List.set_cons_zero, List.set_cons_succ, i64_w, i32_w]
         rfl
        refine take_ (i := 9) (N := some 38) (v := ?_) (a' := ?_) #[true, true, true, true, true, true, true, true, true, true, false, false, false, false, false] rfl rfl (take_ofW HT_.out HW_.out (by kernel_rfl)) (fun _ _ _ h => h) (Or.inl ⟨by rfl, ?_⟩) hHeld ?_ ?_
        rotate_left
        ·rintro w' ⟨s0, s1, s2⟩
         go_simp
         with_reducible rfl
        rotate_left
        ·simp only [Act.put, List.setIfInBounds_toArray, List.set_cons_zero, List.set_cons_succ, i64_w, i32_w]
         rfl
        refine pu 10 (some 39) #[true, true, true, true, true, true, true, true, true, true, true, false, false, false, false] HT_.out rfl rfl ?_
        refine take_ (i := 11) (N := some 40) (v := ?_) (a' := ?_) #[true, true, true, true, true, true, true, true, true, true, true, true, false, false, false] rfl rfl (take_ofW HT_.out HW_.out (by kernel_rfl)) (fun _ _ _ h => h) (Or.inl ⟨by rfl, ?_⟩) hHeld ?_ ?_
        rotate_left
        ·rintro w' ⟨s0, s1, s2⟩
         go_simp
         with_reducible rfl
        rotate_left
        ·simp only [Act.put, List.setIfInBounds_toArray, List.set_cons_zero, List.set_cons_succ, i64_w, i32_w]
         rfl
        refine pu 12 (some 41) #[true, true, true, true, true, true, true, true, true, true, true, true, true, false, false] HT_.out rfl rfl ?_
        refine pu 13 (some 42) #[true, true, true, true, true, true, true, true, true, true, true, true, true, true, false] HT_.out rfl rfl ?_
        refine last_ (i := 14) (N := none) #[true, true, true, true, true, true, true, true, true, true, true, true, true, true, true] rfl rfl (one_of HT_.out (by kernel_rfl)) (by decide) (fun K hK => ?_)
        refine skip_ (w1 := ?_) (by rfl) rfl ?_ ?_
        rotate_left
        ·go_simp
         rfl
        refine hK.out _ _ ?_
        clear hK K
        refine done_ (done_of HT_.out (by kernel_rfl)) ?_
        try go_wp2
        go_roundg k1
        case measure => have := HK1.out; omega
        case rel => exact ⟨(y283), (wrap64 (x6_1 + 1)), (by rfl), H', ⟨by have := HK1.out; omega⟩, ⟨by (with_reducible repeat (first | apply Kd.R_alloc | apply Kd.R_drewN | apply Kd.R_drew)); exact HQ13.out⟩, ⟨by repeat (first | (with_reducible first | exact HB.out | apply below_alloc | apply pw_below_drewN | apply below_drew1 | refine below_set ?_ GB10.out) | exact HB.out)⟩⟩
       ·rw [if_neg c9] at H
        exact absurd H (by simp)
      ·rw [if_neg c8] at H
       have c8b0 := decide_eq_false c8
       clear c8
       have H' := ak_ H
       clear H
       have p278 : 0 ≤ (x6_1 : Int) := od_ ‹_›
       have q278 : x6_1 < (l1.length : Int) := od_ ‹_›
       obtain ⟨ad278, e278, hx278_0⟩ := Kd.at_int HR1.out x6_1 p278 q278
       cases e278
       replace hx278_0 := (HB.out.cell (World.block_lt_of_cell? w _ hx278_0)).trans hx278_0
       replace p278 := eq_true p278
       replace q278 := eq_true q278
       have p279 : 0 ≤ (x6_1 : Int) := od_ ‹_›
       have q279 : x6_1 < (l1.length : Int) := od_ ‹_›
       obtain ⟨ad279, e279, hx279_0⟩ := Kd.at_int HR1.out x6_1 p279 q279
       obtain rfl : ad278 = ad279 := (by injection e279)
       replace hx279_0 := (HB.out.cell (World.block_lt_of_cell? w _ hx279_0)).trans hx279_0
       replace p279 := eq_true p279
       replace q279 := eq_true q279
       obtain ⟨Ao14, co14, eo14⟩ := Kd.R_slice HO_5.out
       subst eo14
       go_wp2
       go_roundg k1
       case measure => have := HK1.out; omega
       case rel => exact ⟨(x5_1), (wrap64 (x6_1 + 1)), (by rfl), H', ⟨by have := HK1.out; omega⟩, ⟨HO_5.out⟩, ⟨HB.out⟩⟩
     ·rw [if_neg c7] at H
      have c7b0 : decide (0 ≤ (rd l1 x6_1)) = false := decide_eq_false c7
      clear c7
      have H' := ak_ H
      clear H
      have p278 : 0 ≤ (x6_1 : Int) := od_ ‹_›
      have q278 : x6_1 < (l1.length : Int) := od_ ‹_›
      obtain ⟨ad278, e278, hx278_0⟩ := Kd.at_int HR1.out x6_1 p278 q278
      cases e278
      replace hx278_0 := (HB.out.cell (World.block_lt_of_cell? w _ hx278_0)).trans hx278_0
      replace p278 := eq_true p278
      replace q278 := eq_true q278
      go_wp2
      go_roundg k1
      case measure => have := HK1.out; omega
      case rel => exact ⟨(x5_1), (wrap64 (x6_1 + 1)), (by rfl), H', ⟨by have := HK1.out; omega⟩, ⟨HO_5.out⟩, ⟨HB.out⟩⟩
    ·rw [if_neg c6] at H
     exact absurd H (by simp)
   ·rw [if_neg c5] at H
    have c5b0 := decide_eq_false c5
    clear c5
    obtain ⟨t284, A15, H⟩ := bs_ H
    obtain rfl := Option.some.inj H
    obtain ⟨Ao16, co16, eo16⟩ := Kd.R_slice HO_5.out
    subst eo16
    go_wp2_with ((with_reducible refine gate_callee (f := 94) rfl ?_); refine goesL_ (some 44) rfl rfl Try.func94 (by kernel_rfl) rfl #[.slice Ao16 x5_1.length co16] rfl (by (try simp only [List.map_toArray, List.map_cons, List.map_nil]); first | done | rfl | (simp only [List.length_drop, List.length_take]; rfl)) ?_; (with_reducible refine (incunableref01_Of.calls k1 _ _ x5_1 t284 _ ?side1 ?side2 A15.out).mono ?_); (case side1 => exact (Kd.R_reads' HO_5.out).2.2); (case side2 => exact (Kd.R_reads' HO_5.out).2.1); rintro e w17 ⟨v285, rfl, ho0, hb⟩; refine ⟨_, rfl, ?_⟩; replace HO_5 := ak_ (Kd.R_below HO_5.out hb); have HO286 := ak_ (Kd.R_lower ho0 (below_size HB.out)); replace HB := ak_ (below_step HB.out hb); (try clear hb); (try clear ho0))
    go_ret
    exact ⟨_, by rfl, by (with_reducible repeat (first | apply Kd.R_alloc | apply Kd.R_drewN | apply Kd.R_drew)); exact HO286.out, HB.out⟩
end Go.Proofs.Ytmehbabchakkpaa.QPageDecodes
namespace Go.Proofs.Ytmehbabchakkpaa.QPageDecodes
open Go.RowKit Go.Proofs.YtmehbabchakkpaaW.PrintWords Go.Proofs.YtmehbabchakkpaaW.PrintLast Go.Proofs.YtmehbabchakkpaaW.PrintMore Go.Proofs.Ytmehbabchakkpaa.Short
attribute [local go_sem] max2_int min2_int max_two min_two max_three min_three max_four min_four
set_option linter.unusedVariables false
set_option maxHeartbeats 8000000
set_option maxRecDepth 100000
set_option linter.unusedSimpArgs false
mutual
def incunableref06_Decode.j0 : Nat → List Int → Int → Bool → Option (List Int × Int × Int)
 | 0, _, _, _ => none
 | k + 1, x0, x5, x16 => if x16 = true then (some (([] : List Int), 0, 2)) else (incunableref06_Decode.j1 k x0 x5)
def incunableref06_Decode.j1 : Nat → List Int → Int → Option (List Int × Int × Int)
 | 0, _, _ => none
 | k + 1, x0, x5 => if 0 ≤ x5 then (if x5 ≤ (x0.length : Int) then (if x5 < (x0.length : Int) then (if 0 ≤ (wrap64 (x5 + 1)) then (if (wrap64 (x5 + 1)) < (x0.length : Int) then ((incunableref05_Judge.f k (x0.take (x5 : Int).toNat) (wrap64 ((wrap64 (rd x0 x5)) + (wrap64 (256 * (wrap64 (rd x0 (wrap64 (x5 + 1))))))))).bind fun bt294 => (if bt294.1 = 3 then (some (([] : List Int), 0, 14)) else (incunableref06_Decode.j2 k x0 x5 bt294.1 bt294.2))) else (none)) else (none)) else (none)) else (none)) else (none)
def incunableref06_Decode.j2 : Nat → List Int → Int → Int → Int → Option (List Int × Int × Int)
 | 0, _, _, _, _ => none
 | k + 1, x0, x5, x6, x7 => if x6 = 1 then (if 0 ≤ x5 then (if x5 ≤ (x0.length : Int) then ((incunableref01_Flip.f k (x0.take (x5 : Int).toNat) (([x7] : List Int))).bind fun t304 => (some (t304, 1, 0))) else (none)) else (none)) else (incunableref06_Decode.j3 k x0 x5 x6)
def incunableref06_Decode.j3 : Nat → List Int → Int → Int → Option (List Int × Int × Int)
 | 0, _, _, _ => none
 | k + 1, x0, x5, x6 => if x6 = 2 then (if 0 ≤ x5 then (if x5 ≤ (x0.length : Int) then (some ((x0.take (x5 : Int).toNat), 1, 0)) else (none)) else (none)) else (if 0 ≤ x5 then (if x5 ≤ (x0.length : Int) then (some ((x0.take (x5 : Int).toNat), 0, 0)) else (none)) else (none))
end
def incunableref06_Decode.f (k : Nat) (l0 : List Int) : Option (List Int × Int × Int) := if (wrap64 ((l0.length : Int) - 2)) < 1 then (incunableref06_Decode.j0 k l0 (wrap64 ((l0.length : Int) - 2)) true) else (incunableref06_Decode.j0 k l0 (wrap64 ((l0.length : Int) - 2)) (decide ((wrap64 ((l0.length : Int) - 2)) > 512)))
theorem incunableref06_Decode.mono_l : ∀ k, (∀ y0 y1 y2, LeO (incunableref06_Decode.j0 k y0 y1 y2) (incunableref06_Decode.j0 (k + 1) y0 y1 y2)) ∧ (∀ y0 y1, LeO (incunableref06_Decode.j1 k y0 y1) (incunableref06_Decode.j1 (k + 1) y0 y1)) ∧ (∀ y0 y1 y2 y3, LeO (incunableref06_Decode.j2 k y0 y1 y2 y3) (incunableref06_Decode.j2 (k + 1) y0 y1 y2 y3)) ∧ (∀ y0 y1 y2, LeO (incunableref06_Decode.j3 k y0 y1 y2) (incunableref06_Decode.j3 (k + 1) y0 y1 y2))
 | 0 => ⟨fun _ _ _ r h => by simp [incunableref06_Decode.j0] at h, fun _ _ r h => by simp [incunableref06_Decode.j1] at h, fun _ _ _ _ r h => by simp [incunableref06_Decode.j2] at h, fun _ _ _ r h => by simp [incunableref06_Decode.j3] at h⟩
 | k + 1 => by
  obtain ⟨ih0, ih1, ih2, ih3⟩ := incunableref06_Decode.mono_l k
  refine ⟨?_, ?_, ?_, ?_⟩
  ·intro y0 y1 y2
   unfold incunableref06_Decode.j0
   repeat' with_reducible first
   | exact ih0 _ _ _
   | exact ih1 _ _
   | exact ih2 _ _ _ _
   | exact ih3 _ _ _
   | exact incunableref01_Flip.mono _ _ _
   | exact incunableref05_Judge.mono _ _ _
   | exact LeO.refl _
   | exact LeO.none _
   | refine LeO.ite ?_ ?_
   | refine LeO.bind ?_ (fun _ => ?_)
  ·intro y0 y1
   unfold incunableref06_Decode.j1
   repeat' with_reducible first
   | exact ih0 _ _ _
   | exact ih1 _ _
   | exact ih2 _ _ _ _
   | exact ih3 _ _ _
   | exact incunableref01_Flip.mono _ _ _
   | exact incunableref05_Judge.mono _ _ _
   | exact LeO.refl _
   | exact LeO.none _
   | refine LeO.ite ?_ ?_
   | refine LeO.bind ?_ (fun _ => ?_)
  ·intro y0 y1 y2 y3
   unfold incunableref06_Decode.j2
   repeat' with_reducible first
   | exact ih0 _ _ _
   | exact ih1 _ _
   | exact ih2 _ _ _ _
   | exact ih3 _ _ _
   | exact incunableref01_Flip.mono _ _ _
   | exact incunableref05_Judge.mono _ _ _
   | exact LeO.refl _
   | exact LeO.none _
   | refine LeO.ite ?_ ?_
   | refine LeO.bind ?_ (fun _ => ?_)
  ·intro y0 y1 y2
   unfold incunableref06_Decode.j3
   repeat' with_reducible first
   | exact ih0 _ _ _
   | exact ih1 _ _
   | exact ih2 _ _ _ _
   | exact ih3 _ _ _
   | exact incunableref01_Flip.mono _ _ _
   | exact incunableref05_Judge.mono _ _ _
   | exact LeO.refl _
   | exact LeO.none _
   | refine LeO.ite ?_ ?_
   | refine LeO.bind ?_ (fun _ => ?_)
theorem incunableref06_Decode.mono : ∀ a0 k, LeO (incunableref06_Decode.f k a0) (incunableref06_Decode.f (k + 1) a0) := by
 intro a0 k
 obtain ⟨ih0, ih1, ih2, ih3⟩ := incunableref06_Decode.mono_l k
 unfold incunableref06_Decode.f
 repeat' with_reducible first
  | exact ih0 _ _ _
  | exact ih1 _ _
  | exact ih2 _ _ _ _
  | exact ih3 _ _ _
  | exact incunableref01_Flip.mono _ _ _
  | exact incunableref05_Judge.mono _ _ _
  | exact LeO.refl _
  | exact LeO.none _
  | refine LeO.ite ?_ ?_
  | refine LeO.bind ?_ (fun _ => ?_)
def incunableref06_Decode.T4 : Bool × List (List Nat × List Nat) := (true, [([], []), ([], []), ([0, 1], [0, 1]), ([], []), ([], []), ([3, 4], [3, 4]), ([5], [5]), ([6], [6]), ([], []), ([], []), ([9], [9]), ([8, 10], [8, 10]), ([11], [11]), ([12], [12]), ([13], [13]), ([7, 14], [7, 14]), ([2, 15], [2, 15]), ([16], [16]), ([17], [17]), ([17], [17]), ([18, 16, 0, 1, 2, 3, 4, 5, 6, 7, 8, 9, 10, 11, 12, 13, 14, 15, 16, 17, 18], [18]), ([19, 20, 0, 1, 2, 3, 4, 5, 6, 7, 8, 9, 10, 11, 12, 13, 14, 15, 16, 17, 18, 19, 20], [19])])
def incunableref06_Decode.B4 : List Nat := [0, 0, 3, 0, 0, 24, 56, 120, 0, 0, 512, 1792, 3840, 7936, 16128, 32760, 65535, 131071, 262143, 262143, 524287, 2097151]
theorem incunableref06_Decode.tab4 : rtab .any (opsOf Try.f54 4) = incunableref06_Decode.T4 := by kernel_rfl
theorem incunableref06_Decode.bits4 : waitsOk incunableref06_Decode.T4.2 incunableref06_Decode.B4 = true := by kernel_rfl
theorem incunableref06_Decode.calls (k : Nat) (P0_ : Nat → Prop) (A0 : Option Addr) (c0 : Nat) (l0 : List Int) (r1 : List Int) (r2 : Int) (r3 : Int) (w : World) (hs0 : Kd.V (Kd.int .u8) 5 w w.heap.size (fun k_ => P0_ k_) (.slice A0 l0.length c0) l0) (h : incunableref06_Decode.f k l0 = some (r1, r2, r3)) :
  Calls Try.prog 54 #[.slice A0 l0.length c0] w fun e w' => ∃ v0_ : Value, e = .returned (.tuple #[v0_, .int .i64 r2, .int .i64 r3]) ∧ Kd.V (Kd.int .u8) 5 w' w.heap.size (fun k_ => (P0_ k_ ∨ w.heap.size ≤ k_)) v0_ r1 ∧ Below w.heap.size w w' := by
 have HO0 := ak_ (show Kd.V (Kd.int .u8) 5 w w.heap.size (fun k_ => (P0_ k_ ∨ w.heap.size ≤ k_)) (.slice A0 l0.length c0) l0 from Kd.V_mono hs0 (fun k_ hk => .inl hk))
 have HB := ak_ (Below.refl w.heap.size w)
 unfold incunableref06_Decode.f at h
 have H := h
 clear h
 have HC2 := ak_ H
 clear H
 go_enter Try.func54, Try.ntmps54
 go_upto_region 2 with (fail)
 go_cut [16] (fun v16 wc => ∃ (kq : Nat) (x16_1 : Bool), v16 = .bool x16_1 ∧ Aside0 (incunableref06_Decode.j0 kq l0 (wrap64 ((l0.length : Int) - 2)) x16_1 = some (r1, r2, r3)) ∧ Aside0 (kq ≤ k) ∧ Aside0 (Kd.V (Kd.int .u8) 5 wc w.heap.size (fun k_ => (P0_ k_ ∨ w.heap.size ≤ k_)) (.slice A0 l0.length c0) l0) ∧ Aside0 (Below w.heap.size w wc))
 case first =>
  have H := HC2.out
  clear HC2
  by_cases c3 : (wrap64 ((l0.length : Int) - 2)) < 1
  ·rw [if_pos c3] at H
   have c3b0 := decide_eq_true c3
   clear c3
   (first | rw [c3b0] | (simp only [i64_w, i32_w]; rw [c3b0]) | skip)
   have H' := ak_ H
   clear H
   go_wp2
   go_meet
   case rel => exact ⟨_, (true), (by rfl), H', ⟨by omega⟩, ⟨HO0.out⟩, ⟨HB.out⟩⟩
  ·rw [if_neg c3] at H
   have c3b0 := decide_eq_false c3
   clear c3
   (first | rw [c3b0] | (simp only [i64_w, i32_w]; rw [c3b0]) | skip)
   have H' := ak_ H
   clear H
   go_wp2
   go_meet
   case rel => exact ⟨_, (decide ((wrap64 ((l0.length : Int) - 2)) > 512)), (by rfl), H', ⟨by omega⟩, ⟨HO0.out⟩, ⟨HB.out⟩⟩
 case rest =>
  clear HC2
  obtain ⟨kq, x16_1, rfl, HA, HJ1, HO_0, HB⟩ := hcut
  cases kq with
  | zero => exact absurd HA.out (by simp [incunableref06_Decode.j0])
  | succ kj1 =>
   have H := HA.out
   clear HA
   simp only [incunableref06_Decode.j0] at H
   have HC4 := ak_ H
   clear H
   go_upto_if 16 with (fail)
   go_cut [] (fun wc => ∃ (kq : Nat), Aside0 (incunableref06_Decode.j1 kq l0 (wrap64 ((l0.length : Int) - 2)) = some (r1, r2, r3)) ∧ Aside0 (kq ≤ kj1) ∧ Aside0 (Kd.V (Kd.int .u8) 5 wc w.heap.size (fun k_ => (P0_ k_ ∨ w.heap.size ≤ k_)) (.slice A0 l0.length c0) l0) ∧ Aside0 (Below w.heap.size w wc))
   case first =>
    have H := HC4.out
    clear HC4
    by_cases c5 : x16_1 = true
    ·subst c5
     rw [if_pos rfl] at H
     simp only [Option.some.injEq, Prod.mk.injEq] at H
     obtain ⟨rfl, rfl, rfl⟩ := H
     go_wp2
     go_ret3
     exact ⟨_, by rfl, Kd.V_nil _ _ _ _ _, HB.out⟩
    ·replace c5 := Bool.eq_false_iff.mpr c5
     subst c5
     rw [if_neg (show ¬ (false = true) by decide)] at H
     have H' := ak_ H
     clear H
     go_wp2
     go_meet
     case rel => exact ⟨_, H', ⟨by have := HJ1.out; omega⟩, ⟨HO_0.out⟩, ⟨HB.out⟩⟩
   case rest =>
    clear HC4
    obtain ⟨kq, HA, HJ3, HO_0, HB⟩ := hcut
    cases kq with
    | zero => exact absurd HA.out (by simp [incunableref06_Decode.j1])
    | succ kj3 =>
     have H := HA.out
     clear HA
     simp only [incunableref06_Decode.j1] at H
     obtain ⟨ji6, hji6⟩ : ∃ j_ : Int, (wrap64 ((l0.length : Int) - 2)) = j_ := ⟨_, rfl⟩
     replace H : (if 0 ≤ (ji6) then (if (ji6) ≤ (l0.length : Int) then (if (ji6) < (l0.length : Int) then (if 0 ≤ (wrap64 ((ji6) + 1)) then (if (wrap64 ((ji6) + 1)) < (l0.length : Int) then ((incunableref05_Judge.f kj3 (l0.take ((ji6) : Int).toNat) (wrap64 ((wrap64 (rd l0 (ji6))) + (wrap64 (256 * (wrap64 (rd l0 (wrap64 ((ji6) + 1))))))))).bind fun bt294 => (if bt294.1 = 3 then (some (([] : List Int), 0, 14)) else (incunableref06_Decode.j2 kj3 l0 (ji6) bt294.1 bt294.2))) else (none)) else (none)) else (none)) else (none)) else (none)) = some (r1, r2, r3) := (by rw [hji6] at H; exact H)
     have hji6w : (IntKind.i64.wrap ((l0.length : Int) - 2)) = ji6 := (i64_w _).trans hji6
     by_cases c7 : 0 ≤ (ji6)
     ·rw [if_pos c7] at H
      have c7b0 := eq_true c7
      have c7b1 := decide_eq_true c7
      clear c7
      by_cases c8 : (ji6) ≤ (l0.length : Int)
      ·rw [if_pos c8] at H
       have c8b0 := eq_true c8
       have c8b1 := decide_eq_true c8
       clear c8
       obtain ⟨y287, hy287⟩ : ∃ y_ : List Int, y_ = (l0.take ((ji6) : Int).toNat) := ⟨_, rfl⟩
       replace H : (if (ji6) < (l0.length : Int) then (if 0 ≤ (wrap64 ((ji6) + 1)) then (if (wrap64 ((ji6) + 1)) < (l0.length : Int) then ((incunableref05_Judge.f kj3 y287 (wrap64 ((wrap64 (rd l0 (ji6))) + (wrap64 (256 * (wrap64 (rd l0 (wrap64 ((ji6) + 1))))))))).bind fun bt294 => (if bt294.1 = 3 then (some (([] : List Int), 0, 14)) else (incunableref06_Decode.j2 kj3 l0 (ji6) bt294.1 bt294.2))) else (none)) else (none)) else (none)) = some (r1, r2, r3) := (by rw [hy287]; with_reducible exact H)
       have Ny287 := ak_ hy287
       clear hy287
       by_cases c9 : (ji6) < (l0.length : Int)
       ·rw [if_pos c9] at H
        have c9b0 := decide_eq_true c9
        clear c9
        obtain ⟨ji10, hji10⟩ : ∃ j_ : Int, (wrap64 ((ji6) + 1)) = j_ := ⟨_, rfl⟩
        replace H : (if 0 ≤ (ji10) then (if (ji10) < (l0.length : Int) then ((incunableref05_Judge.f kj3 y287 (wrap64 ((wrap64 (rd l0 (ji6))) + (wrap64 (256 * (wrap64 (rd l0 (ji10)))))))).bind fun bt294 => (if bt294.1 = 3 then (some (([] : List Int), 0, 14)) else (incunableref06_Decode.j2 kj3 l0 (ji6) bt294.1 bt294.2))) else (none)) else (none)) = some (r1, r2, r3) := (by rw [hji10] at H; exact H)
        have hji10w : (IntKind.i64.wrap ((ji6) + 1)) = ji10 := (i64_w _).trans hji10
        by_cases c11 : 0 ≤ (ji10)
        ·rw [if_pos c11] at H
         have c11b0 := decide_eq_true c11
         clear c11
         by_cases c12 : (ji10) < (l0.length : Int)
         ·rw [if_pos c12] at H
          have c12b0 := decide_eq_true c12
          clear c12
          obtain ⟨⟨t294, t295⟩, A13, H⟩ := bs_ H
          try dsimp only at H
          have HC14 := ak_ H
          clear H
          try go_wp2
          replace HO_0 := ak_ (Kd.V_drew HO_0.out)
          replace HB := ak_ (below_drew1 HB.out)
          have q16 : ((ji6) : Int) ≤ ((l0.length : Int) : Int) := od_ ‹_›
          obtain ⟨i016, hi016, _, hsz16, _⟩ := info_parts info5
          have hroom16 : l0.length ≤ c0 := (Kd.V_reads' HO_0.out).2.1
          have hC16 : Kd.F (Kd.int .u8) _ _ A0 l0.length l0 := (Kd.V_at (base := w.heap.size) HO_0.out).2.2
          have hcut16 := cut_to (P := Try.prog) 24 5 .i64 Try.underlying24 hi016 A0 l0.length c0 (ji6) (od_ ‹_›) q16 hroom16
          have hr16 := Kd.F_take (m := ((ji6) : Int).toNat) hC16 (by omega)
          have hy16 : y287.length = ((ji6) : Int).toNat := (by rw [Ny287.out, List.length_take]; omega)
          rw [← Ny287.out] at hr16
          rw [← hy16] at hcut16
          have HO291 := ak_ (show Kd.V (Kd.int .u8) 5 _ w.heap.size _ (.slice A0 y287.length c0) y287 from Kd.V_mk (by omega) hr16)
          have HC291 := ak_ (show y287.length ≤ c0 from by omega)
          clear hr16 hC16 hroom16 hi016 hsz16
          have KY16 := ak_ hy16
          clear hy16
          replace q16 := eq_true q16
          have p292 : 0 ≤ ((ji6) : Int) := od_ ‹_›
          have q292 : (ji6) < (l0.length : Int) := od_ ‹_›
          obtain ⟨ad292, e292, hx292_0⟩ := Kd.at_int (Kd.V_reads' HO_0.out).2.2 (ji6) p292 q292
          cases e292
          replace p292 := eq_true p292
          replace q292 := eq_true q292
          have p293 : 0 ≤ ((ji10) : Int) := od_ ‹_›
          have q293 : (ji10) < (l0.length : Int) := od_ ‹_›
          obtain ⟨ad293, e293, hx293_0⟩ := Kd.at_int (Kd.V_reads' HO_0.out).2.2 (ji10) p293 q293
          obtain rfl : ad292 = ad293 := (by injection e293)
          replace p293 := eq_true p293
          replace q293 := eq_true q293
          refine start_ (n := 22) (S := fun w' => w'.cell? (ad292.add ((ji6)).toNat) = some (.int .u8 (rd l0 (ji6))) ∧ w'.cell? (ad292.add ((ji10)).toNat) = some (.int .u8 (rd l0 (ji10)))) (ds := []) #[false, false, false, false, false, false, false, false, false, false, false, false, false, false, false, false, false, false, false, false, false, false] (by kernel_rfl) rfl rfl ⟨hx292_0, hx293_0⟩ (fun hHeld => ?_); refine with_tabW incunableref06_Decode.tab4 incunableref06_Decode.bits4 (fun HT_ HW_ => ?_)
          generalize wc.drew = w15 at HO_0 HB HO291 hx292_0 hx293_0 hHeld ⊢
          refine pu 0 (some 18) #[true, false, false, false, false, false, false, false, false, false, false, false, false, false, false, false, false, false, false, false, false, false] HT_.out rfl rfl ?_
          refine pu 1 (some 19) #[true, true, false, false, false, false, false, false, false, false, false, false, false, false, false, false, false, false, false, false, false, false] HT_.out rfl rfl ?_
          refine pu 2 (some 20) #[true, true, true, false, false, false, false, false, false, false, false, false, false, false, false, false, false, false, false, false, false, false] HT_.out rfl rfl ?_
          refine pu 3 (some 21) #[true, true, true, true, false, false, false, false, false, false, false, false, false, false, false, false, false, false, false, false, false, false] HT_.out rfl rfl ?_
          refine pu 4 (some 22) #[true, true, true, true, true, false, false, false, false, false, false, false, false, false, false, false, false, false, false, false, false, false] HT_.out rfl rfl ?_
          refine pu 5 (some 23) #[true, true, true, true, true, true, false, false, false, false, false, false, false, false, false, false, false, false, false, false, false, false] HT_.out rfl rfl ?_
          refine pu 8 (some 26) #[true, true, true, true, true, true, false, false, true, false, false, false, false, false, false, false, false, false, false, false, false, false] HT_.out rfl rfl ?_
          refine pu 9 (some 27) #[true, true, true, true, true, true, false, false, true, true, false, false, false, false, false, false, false, false, false, false, false, false] HT_.out rfl rfl ?_
          refine pu 10 (some 28) #[true, true, true, true, true, true, false, false, true, true, true, false, false, false, false, false, false, false, false, false, false, false] HT_.out rfl rfl ?_
          refine pu 11 (some 29) #[true, true, true, true, true, true, false, false, true, true, true, true, false, false, false, false, false, false, false, false, false, false] HT_.out rfl rfl ?_
          refine take_ (i := 6) (N := some 24) (v := ?_) (a' := ?_) #[true, true, true, true, true, true, true, false, true, true, true, true, false, false, false, false, false, false, false, false, false, false] rfl rfl (take_ofW HT_.out HW_.out (by kernel_rfl)) (fun _ _ _ h => h) (Or.inl ⟨by rfl, ?_⟩) hHeld ?_ ?_
          rotate_left
          ·rintro w' ⟨s0, s1⟩
           go_simp
           with_reducible rfl
          rotate_left
          ·simp only [Act.put, List.setIfInBounds_toArray, List.set_cons_zero, List.set_cons_succ, i64_w, i32_w]
           rfl
          refine pu 7 (some 25) #[true, true, true, true, true, true, true, true, true, true, true, true, false, false, false, false, false, false, false, false, false, false] HT_.out rfl rfl ?_
          refine take_ (i := 12) (N := some 30) (v := ?_) (a' := ?_) #[true, true, true, true, true, true, true, true, true, true, true, true, true, false, false, false, false, false, false, false, false, false] rfl rfl (take_ofW HT_.out HW_.out (by kernel_rfl)) (fun _ _ _ h => h) (Or.inl ⟨by rfl, ?_⟩) hHeld ?_ ?_
          rotate_left
          ·rintro w' ⟨s0, s1⟩
           go_simp
           with_reducible rfl
          rotate_left
          ·simp only [Act.put, List.setIfInBounds_toArray, List.set_cons_zero, List.set_cons_succ, i64_w, i32_w]
           rfl
          refine pu 13 (some 31) #[true, true, true, true, true, true, true, true, true, true, true, true, true, true, false, false, false, false, false, false, false, false] HT_.out rfl rfl ?_
          refine pu 14 (some 32) #[true, true, true, true, true, true, true, true, true, true, true, true, true, true, true, false, false, false, false, false, false, false] HT_.out rfl rfl ?_
          refine pu 15 (some 33) #[true, true, true, true, true, true, true, true, true, true, true, true, true, true, true, true, false, false, false, false, false, false] HT_.out rfl rfl ?_
          refine one_ (i := 16) (N := some 34) #[true, true, true, true, true, true, true, true, true, true, true, true, true, true, true, true, true, false, false, false, false, false] rfl rfl (one_of HT_.out (by kernel_rfl)) (by decide) (fun K hK => ?_)
          refine goes_ Try.func74 (by kernel_rfl) rfl #[.slice (some ad292) y287.length c0, .int .i64 (wrap64 ((wrap64 (rd l0 (ji6))) + (wrap64 (256 * (wrap64 (rd l0 (ji10)))))))] (by rfl) rfl rfl (by (try simp only [List.map_toArray, List.map_cons, List.map_nil]); first | done | (simp only [hji10, hji6]; rfl) | rfl | (simp only [List.length_drop, List.length_take]; rfl)) ?_
          with_reducible refine (incunableref05_Judge.calls kj3 _ _ y287 (wrap64 ((wrap64 (rd l0 (ji6))) + (wrap64 (256 * (wrap64 (rd l0 (ji10))))))) t294 t295 _ ?side1 ?side2 A13.out).mono ?_
          (case side1 => exact (Kd.V_reads' HO291.out).2.2)
          (case side2 => exact (Kd.V_reads' HO291.out).2.1)
          rintro e w17 ⟨rfl, hb⟩
          have HS0_ := (hb.cell (World.block_lt_of_cell? _ _ (hHeld.1))).trans (hHeld.1)
          have HS1_ := (hb.cell (World.block_lt_of_cell? _ _ (hHeld.2))).trans (hHeld.2)
          refine ⟨_, rfl, ?_⟩
          replace HO_0 := ak_ (Kd.V_below HO_0.out hb)
          replace HO291 := ak_ (Kd.V_below HO291.out hb)
          replace HB := ak_ (below_step HB.out hb)
          (try clear hb)
          (try clear hb2)
          (try clear hk)
          (try clear hi)
          refine hK.out _ _ ⟨HS0_, HS1_⟩ (fun hHeld => ?_)
          clear hK K
          refine norm_ (a' := ?_) ?_ ?_
          rotate_left
          ·show Act.put _ (some 34) _ = _
           simp only [Act.put, List.setIfInBounds_toArray, List.set_cons_zero, List.set_cons_succ, i64_w, i32_w]
           rfl
          refine pu 17 (some 17) #[true, true, true, true, true, true, true, true, true, true, true, true, true, true, true, true, true, true, false, false, false, false] HT_.out rfl rfl ?_
          refine pu 18 (some 35) #[true, true, true, true, true, true, true, true, true, true, true, true, true, true, true, true, true, true, true, false, false, false] HT_.out rfl rfl ?_
          refine pu 19 (some 36) #[true, true, true, true, true, true, true, true, true, true, true, true, true, true, true, true, true, true, true, true, false, false] HT_.out rfl rfl ?_
          refine pu 20 (some 6) #[true, true, true, true, true, true, true, true, true, true, true, true, true, true, true, true, true, true, true, true, true, false] HT_.out rfl rfl ?_
          refine pu 21 (some 7) #[true, true, true, true, true, true, true, true, true, true, true, true, true, true, true, true, true, true, true, true, true, true] HT_.out rfl rfl ?_
          refine done_ (done_of HT_.out (by kernel_rfl)) ?_
          go_upto_if 38 with (fail)
          (try simp only [hji6, hji10])
          go_cut [] (fun wc => ∃ (kq : Nat), Aside0 (incunableref06_Decode.j2 kq l0 (ji6) t294 t295 = some (r1, r2, r3)) ∧ Aside0 (kq ≤ kj3) ∧ Aside0 (Kd.V (Kd.int .u8) 5 wc w.heap.size (fun k_ => (P0_ k_ ∨ w.heap.size ≤ k_)) (.slice (some ad292) l0.length c0) l0) ∧ Aside0 (Below w.heap.size w wc))
          case first =>
           have H := HC14.out
           clear HC14
           by_cases c18 : t294 = 3
           ·rw [if_pos c18] at H
            have c18b0 := beq_iff_eq.mpr c18
            have c18b1 := bne_eq_false_iff_eq.mpr c18
            clear c18
            (rw [c18b0])
            simp only [Option.some.injEq, Prod.mk.injEq] at H
            obtain ⟨rfl, rfl, rfl⟩ := H
            go_wp2
            go_ret3
            exact ⟨_, by rfl, Kd.V_nil _ _ _ _ _, HB.out⟩
           ·rw [if_neg c18] at H
            have c18b0 := beq_eq_false_iff_ne.mpr c18
            have c18b1 := bne_iff_ne.mpr c18
            (rw [c18b0])
            have H' := ak_ H
            clear H
            go_wp2
            go_meet
            case rel => exact ⟨_, H', ⟨by have := HJ1.out; have := HJ3.out; omega⟩, ⟨HO_0.out⟩, ⟨HB.out⟩⟩
          case rest =>
           clear HC14 c7b0 c7b1 c8b0 c8b1 c9b0 c11b0 c12b0 q16 hx292_0 hx293_0 p292 p293 q292 q293
           obtain ⟨kq, HA, HJ13, HO_0, HB⟩ := hcut
           cases kq with
           | zero => exact absurd HA.out (by simp [incunableref06_Decode.j2])
           | succ kj13 =>
            have H := HA.out
            clear HA
            simp only [incunableref06_Decode.j2] at H
            have HC19 := ak_ H
            clear H
            go_upto_if 40 with (fail)
            (try simp only [hji6, hji10])
            go_cut [] (fun wc => ∃ (kq : Nat), Aside0 (incunableref06_Decode.j3 kq l0 (ji6) t294 = some (r1, r2, r3)) ∧ Aside0 (kq ≤ kj13) ∧ Aside0 (Kd.V (Kd.int .u8) 5 wc w.heap.size (fun k_ => (P0_ k_ ∨ w.heap.size ≤ k_)) (.slice (some ad292) l0.length c0) l0) ∧ Aside0 (Below w.heap.size w wc))
            case first =>
             have H := HC19.out
             clear HC19
             by_cases c20 : t294 = 1
             ·rw [if_pos c20] at H
              have c20b0 := beq_iff_eq.mpr c20
              have c20b1 := bne_eq_false_iff_eq.mpr c20
              clear c20
              (rw [c20b0])
              by_cases c21 : 0 ≤ (ji6)
              ·rw [if_pos c21] at H
               have c21b0 := eq_true c21
               have c21b1 := decide_eq_true c21
               clear c21
               by_cases c22 : (ji6) ≤ (l0.length : Int)
               ·rw [if_pos c22] at H
                have c22b0 := eq_true c22
                have c22b1 := decide_eq_true c22
                clear c22
                have hy296 : y287 = (l0.take ((ji6) : Int).toNat) := Ny287.out
                replace H : ((incunableref01_Flip.f kj13 y287 (([t295] : List Int))).bind fun t304 => (some (t304, 1, 0))) = some (r1, r2, r3) := (by rw [hy296]; with_reducible exact H)
                have Ny296 := ak_ hy296
                clear hy296
                obtain ⟨y301, hy301⟩ : ∃ y_ : List Int, y_ = (([t295] : List Int)) := ⟨_, rfl⟩
                replace H : ((incunableref01_Flip.f kj13 y287 y301).bind fun t304 => (some (t304, 1, 0))) = some (r1, r2, r3) := (by rw [hy301]; with_reducible exact H)
                have Ny301 := ak_ hy301
                clear hy301
                obtain ⟨t304, A23, H⟩ := bs_ H
                simp only [Option.some.injEq, Prod.mk.injEq] at H
                obtain ⟨rfl, rfl, rfl⟩ := H
                have q24 : ((ji6) : Int) ≤ ((l0.length : Int) : Int) := od_ ‹_›
                obtain ⟨i024, hi024, _, hsz24, _⟩ := info_parts info5
                have hroom24 : l0.length ≤ c0 := (Kd.V_reads' HO_0.out).2.1
                have hC24 : Kd.F (Kd.int .u8) _ _ (some ad292) l0.length l0 := (Kd.V_at (base := w.heap.size) HO_0.out).2.2
                have hcut24 := cut_to (P := Try.prog) 24 5 .i64 Try.underlying24 hi024 (some ad292) l0.length c0 (ji6) (od_ ‹_›) q24 hroom24
                have hr24 := Kd.F_take (m := ((ji6) : Int).toNat) hC24 (by omega)
                have hy24 : y287.length = ((ji6) : Int).toNat := (by rw [Ny296.out, List.length_take]; omega)
                rw [← Ny296.out] at hr24
                rw [← hy24] at hcut24
                have HO300 := ak_ (show Kd.V (Kd.int .u8) 5 _ w.heap.size _ (.slice (some ad292) y287.length c0) y287 from Kd.V_mk (by omega) hr24)
                have HC300 := ak_ (show y287.length ≤ c0 from by omega)
                clear hr24 hC24 hroom24 hi024 hsz24
                have KY24 := ak_ hy24
                clear hy24
                replace q24 := eq_true q24
                go_wp2_with (first | ((with_reducible refine gate_dst (N := 45) rfl ?_); refine Kd.R_lit (Kd.int .i64) _ 3 ?hg (N := 45) ?hd (xs := ([t295] : List Int)) (inner := [.int .i64 t295]) (ok := fun _ => True) (okp := fun _ => True) ?hr ?hp (fun _ hk => hk) trivial (Below.refl _ _) (Nat.le_refl _) (by simp) ?_; (case hd => rfl); (case hg => rfl); (case hr => (go_simp; done)); (case hp => exact (Reps.one (show Kd.M (Kd.int .i64) _ _ _ t295 [.int .i64 t295] from rfl) (Reps.none _ _))); intro v302 w25 ho26 hb hg_ hnew_; clear hg_ hnew_; (rw [← Ny301.out] at ho26); replace HO_0 := ak_ (Kd.V_elder' HO_0.out (Kd.R_base ho26) hb); replace HO300 := ak_ (Kd.V_elder' HO300.out (Kd.R_base ho26) hb); have HO303 := ak_ (Kd.R_lower (Kd.R_newM (M := fun k_ => (w.heap.size ≤ k_)) ho26 (below_size HB.out) (fun k_ h_ => h_)) (below_size HB.out)); replace HB := ak_ (below_step HB.out hb); clear hb ho26; obtain ⟨Ao27, co27, eo27⟩ := Kd.R_slice HO303.out; subst eo27) | ((with_reducible refine gate_callee (f := 75) rfl ?_); refine goesL_ (some 46) rfl rfl Try.func75 (by kernel_rfl) rfl #[.slice (some ad292) y287.length c0, .slice Ao27 y301.length co27] rfl (by (try simp only [List.map_toArray, List.map_cons, List.map_nil]); first | done | rfl | (simp only [List.length_drop, List.length_take]; rfl)) ?_; (with_reducible refine (incunableref01_Flip.calls kj13 _ _ y287 _ _ y301 t304 _ ?side1 ?side2 ?side3 ?side4 A23.out).mono ?_); (case side1 => exact (Kd.V_reads' HO300.out).2.2); (case side2 => exact (Kd.V_reads' HO300.out).2.1); (case side3 => exact (Kd.R_reads' HO303.out).2.2); (case side4 => exact (Kd.R_reads' HO303.out).2.1); rintro e w28 ⟨v305, rfl, ho0, hb⟩; refine ⟨_, rfl, ?_⟩; replace HO_0 := ak_ (Kd.V_elder' HO_0.out (Kd.R_base ho0) hb); replace HO300 := ak_ (Kd.V_elder' HO300.out (Kd.R_base ho0) hb); replace HO303 := ak_ (Kd.R_below HO303.out hb); have HO306 := ak_ (Kd.R_lower (Kd.R_newM (M := fun k_ => (w.heap.size ≤ k_)) ho0 (below_size HB.out) (fun k_ h_ => h_)) (below_size HB.out)); replace HB := ak_ (below_step HB.out hb); (try clear hb); (try clear hb2); (try clear hk); (try clear hi); (try clear ho0)))
                go_ret3
                exact ⟨_, by rfl, Kd.V_mono (Kd.R_V (Kd.R_mono HO306.out (fun _ hk => hk.1))) (fun k_ hk => by first | exact ⟨(.inr (hk.1)), hk.2⟩ | exact (.inr (hk))), HB.out⟩
               ·rw [if_neg c22] at H
                exact absurd H (by simp)
              ·rw [if_neg c21] at H
               exact absurd H (by simp)
             ·rw [if_neg c20] at H
              have c20b0 := beq_eq_false_iff_ne.mpr c20
              have c20b1 := bne_iff_ne.mpr c20
              (rw [c20b0])
              have H' := ak_ H
              clear H
              go_wp2
              go_meet
              case rel => exact ⟨_, H', ⟨by have := HJ1.out; have := HJ3.out; have := HJ13.out; omega⟩, ⟨HO_0.out⟩, ⟨HB.out⟩⟩
            case rest =>
             clear HC19
             obtain ⟨kq, HA, HJ18, HO_0, HB⟩ := hcut
             cases kq with
             | zero => exact absurd HA.out (by simp [incunableref06_Decode.j3])
             | succ kj18 =>
              have H := HA.out
              clear HA
              simp only [incunableref06_Decode.j3] at H
              by_cases c29 : t294 = 2
              ·rw [if_pos c29] at H
               have c29b0 := beq_iff_eq.mpr c29
               have c29b1 := bne_eq_false_iff_eq.mpr c29
               clear c29
               by_cases c30 : 0 ≤ (ji6)
               ·rw [if_pos c30] at H
                have c30b0 := eq_true c30
                have c30b1 := decide_eq_true c30
                clear c30
                by_cases c31 : (ji6) ≤ (l0.length : Int)
                ·rw [if_pos c31] at H
                 have c31b0 := eq_true c31
                 have c31b1 := decide_eq_true c31
                 clear c31
                 have hy307 : y287 = (l0.take ((ji6) : Int).toNat) := Ny287.out
                 replace H : (some (y287, 1, 0)) = some (r1, r2, r3) := (by rw [hy307]; with_reducible exact H)
                 have Ny307 := ak_ hy307
                 clear hy307
                 simp only [Option.some.injEq, Prod.mk.injEq] at H
                 obtain ⟨rfl, rfl, rfl⟩ := H
                 have q32 : ((ji6) : Int) ≤ ((l0.length : Int) : Int) := od_ ‹_›
                 obtain ⟨i032, hi032, _, hsz32, _⟩ := info_parts info5
                 have hroom32 : l0.length ≤ c0 := (Kd.V_reads' HO_0.out).2.1
                 have hC32 : Kd.F (Kd.int .u8) _ _ (some ad292) l0.length l0 := (Kd.V_at (base := w.heap.size) HO_0.out).2.2
                 have hcut32 := cut_to (P := Try.prog) 24 5 .i64 Try.underlying24 hi032 (some ad292) l0.length c0 (ji6) (od_ ‹_›) q32 hroom32
                 have hr32 := Kd.F_take (m := ((ji6) : Int).toNat) hC32 (by omega)
                 have hy32 : y287.length = ((ji6) : Int).toNat := (by rw [Ny307.out, List.length_take]; omega)
                 rw [← Ny307.out] at hr32
                 rw [← hy32] at hcut32
                 have HO311 := ak_ (show Kd.V (Kd.int .u8) 5 _ w.heap.size _ (.slice (some ad292) y287.length c0) y287 from Kd.V_mk (by omega) hr32)
                 have HC311 := ak_ (show y287.length ≤ c0 from by omega)
                 clear hr32 hC32 hroom32 hi032 hsz32
                 have KY32 := ak_ hy32
                 clear hy32
                 replace q32 := eq_true q32
                 go_wp2
                 go_ret3
                 exact ⟨_, by rfl, by (with_reducible repeat (first | apply Kd.V_alloc | apply Kd.V_drewN | apply Kd.V_drew)); exact HO311.out, HB.out⟩
                ·rw [if_neg c31] at H
                 exact absurd H (by simp)
               ·rw [if_neg c30] at H
                exact absurd H (by simp)
              ·rw [if_neg c29] at H
               have c29b0 := beq_eq_false_iff_ne.mpr c29
               have c29b1 := bne_iff_ne.mpr c29
               by_cases c33 : 0 ≤ (ji6)
               ·rw [if_pos c33] at H
                have c33b0 := eq_true c33
                have c33b1 := decide_eq_true c33
                clear c33
                by_cases c34 : (ji6) ≤ (l0.length : Int)
                ·rw [if_pos c34] at H
                 have c34b0 := eq_true c34
                 have c34b1 := decide_eq_true c34
                 clear c34
                 have hy312 : y287 = (l0.take ((ji6) : Int).toNat) := Ny287.out
                 replace H : (some (y287, 0, 0)) = some (r1, r2, r3) := (by rw [hy312]; with_reducible exact H)
                 have Ny312 := ak_ hy312
                 clear hy312
                 simp only [Option.some.injEq, Prod.mk.injEq] at H
                 obtain ⟨rfl, rfl, rfl⟩ := H
                 have q35 : ((ji6) : Int) ≤ ((l0.length : Int) : Int) := od_ ‹_›
                 obtain ⟨i035, hi035, _, hsz35, _⟩ := info_parts info5
                 have hroom35 : l0.length ≤ c0 := (Kd.V_reads' HO_0.out).2.1
                 have hC35 : Kd.F (Kd.int .u8) _ _ (some ad292) l0.length l0 := (Kd.V_at (base := w.heap.size) HO_0.out).2.2
                 have hcut35 := cut_to (P := Try.prog) 24 5 .i64 Try.underlying24 hi035 (some ad292) l0.length c0 (ji6) (od_ ‹_›) q35 hroom35
                 have hr35 := Kd.F_take (m := ((ji6) : Int).toNat) hC35 (by omega)
                 have hy35 : y287.length = ((ji6) : Int).toNat := (by rw [Ny312.out, List.length_take]; omega)
                 rw [← Ny312.out] at hr35
                 rw [← hy35] at hcut35
                 have HO316 := ak_ (show Kd.V (Kd.int .u8) 5 _ w.heap.size _ (.slice (some ad292) y287.length c0) y287 from Kd.V_mk (by omega) hr35)
                 have HC316 := ak_ (show y287.length ≤ c0 from by omega)
                 clear hr35 hC35 hroom35 hi035 hsz35
                 have KY35 := ak_ hy35
                 clear hy35
                 replace q35 := eq_true q35
                 go_wp2
                 go_ret3
                 exact ⟨_, by rfl, by (with_reducible repeat (first | apply Kd.V_alloc | apply Kd.V_drewN | apply Kd.V_drew)); exact HO316.out, HB.out⟩
                ·rw [if_neg c34] at H
                 exact absurd H (by simp)
               ·rw [if_neg c33] at H
                exact absurd H (by simp)
         ·rw [if_neg c12] at H
          exact absurd H (by simp)
        ·rw [if_neg c11] at H
         exact absurd H (by simp)
       ·rw [if_neg c9] at H
        exact absurd H (by simp)
      ·rw [if_neg c8] at H
       exact absurd H (by simp)
     ·rw [if_neg c7] at H
      exact absurd H (by simp)
end Go.Proofs.Ytmehbabchakkpaa.QPageDecodes
