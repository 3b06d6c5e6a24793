import Derived.Test.YtmehbabchakkpaaMLadderWalksx2
namespace Go.Proofs.Ytmehbabchakkpaa.QLadderWalks
open Go.RowKit YtmehbabchakkpaaW.PrintWords YtmehbabchakkpaaW.PrintLast YtmehbabchakkpaaW.PrintMore Short
attribute [local go_sem] max2_int min2_int max_two min_two max_three min_three max_four min_four
set_option linter.unusedVariables false
set_option maxHeartbeats 8000000
set_option maxRecDepth 100000
set_option linter.unusedSimpArgs false
mutual
def r01_Bit.j0 : Nat → List Int → Int → Bool → Option (Int)
 | 0, _, _, _ => none
 | k + 1, x0, x1, x15 => if x15 = true then (some (-1)) else (if 0 ≤ (wrap64 (Int.tdiv x1 8)) then (if (wrap64 (Int.tdiv x1 8)) < (x0.length : Int) then (r01_Bit.l0 k x1 (wrap64 (rd x0 (wrap64 (Int.tdiv x1 8)))) 0) else (none)) else (none))
def r01_Bit.l0 : Nat → Int → Int → Int → Option (Int)
 | 0, _, _, _ => none
 | k + 1, x1, x5, x6 => if x6 < (Int.tmod x1 8) then (r01_Bit.l0 k x1 (wrap64 (Int.tdiv x5 2)) (wrap64 (x6 + 1))) else (some (Int.tmod x5 2))
end
def r01_Bit.f (k : Nat) (l0 : List Int) (a1 : Int) : Option (Int) := if a1 < 0 then (r01_Bit.j0 k l0 a1 true) else (r01_Bit.j0 k l0 a1 (decide ((wrap64 (Int.tdiv a1 8)) ≥ (l0.length : Int))))
theorem r01_Bit.mono_l : ∀ k, (∀ y0 y1 y2, LeO (r01_Bit.j0 k y0 y1 y2) (r01_Bit.j0 (k + 1) y0 y1 y2)) ∧ (∀ y0 y1 y2, LeO (r01_Bit.l0 k y0 y1 y2) (r01_Bit.l0 (k + 1) y0 y1 y2))
 | 0 => ⟨fun _ _ _ r h => by simp [r01_Bit.j0] at h, fun _ _ _ r h => by simp [r01_Bit.l0] at h⟩
 | k + 1 => by
  obtain ⟨ih0, ih1⟩ := r01_Bit.mono_l k
  refine ⟨?_, ?_⟩
  ·intro y0 y1 y2
   unfold r01_Bit.j0
   repeat' first
   | (with_reducible exact ih0 _ _ _)
   | (with_reducible exact ih1 _ _ _)
   | (with_reducible exact LeO.refl _)
   | (with_reducible exact LeO.none _)
   | (with_reducible refine LeO.ite ?_ ?_)
   | (with_reducible refine LeO.bind ?_ (fun _ => ?_))
  ·intro y0 y1 y2
   unfold r01_Bit.l0
   repeat' first
   | (with_reducible exact ih0 _ _ _)
   | (with_reducible exact ih1 _ _ _)
   | (with_reducible exact LeO.refl _)
   | (with_reducible exact LeO.none _)
   | (with_reducible refine LeO.ite ?_ ?_)
   | (with_reducible refine LeO.bind ?_ (fun _ => ?_))
theorem r01_Bit.mono : ∀ a0 a1 k, LeO (r01_Bit.f k a0 a1) (r01_Bit.f (k + 1) a0 a1) := by
 intro a0 a1 k
 obtain ⟨ih0, ih1⟩ := r01_Bit.mono_l k
 unfold r01_Bit.f
 repeat' with_reducible first
  | exact ih0 _ _ _
  | exact ih1 _ _ _
  | exact LeO.refl _
  | exact LeO.none _
  | refine LeO.ite ?_ ?_
  | refine LeO.bind ?_ (fun _ => ?_)
theorem r01_Bit.calls (k : Nat) (A0 : Option Addr) (c0 : Nat) (l0 : List Int) (a1 : Int) (r : Int) (w : World) (hr0 : Kd.C (Kd.int .u8) w A0 l0.length l0) (hc0 : l0.length ≤ c0) (h : r01_Bit.f k l0 a1 = some r) :
  Calls Try.prog 90 #[.slice A0 l0.length c0, .int .i64 a1] w fun e w' => e = .returned (.int .i64 r) ∧ Drawn0 w w' := by
 have HR0 := ak_ hr0
 have HC0 := ak_ hc0
 clear hr0 hc0
 unfold r01_Bit.f at h
 have H := h
 clear h
 have HC3 := ak_ H
 clear H
 go_enter Try.func90, Try.ntmps90
 go_upto_region 1 with (fail)
 go_cut [15] (fun v15 wc => ∃ (kq : Nat) (x15_2 : Bool), v15 = .bool x15_2 ∧ Aside0 (r01_Bit.j0 kq l0 a1 x15_2 = some r) ∧ Aside0 (kq ≤ k) ∧ Drawn0 w wc)
 case first =>
  have H := HC3.out
  clear HC3
  by_cases c4 : a1 < 0
  ·rw [if_pos c4] at H
   have c4b0 := dt_ c4
   clear c4
   (first | rw [c4b0] | (simp only [i64_w, i32_w]; rw [c4b0]) | skip)
   have H' := ak_ H
   clear H
   go_wp2
   go_meet
   case rel => exact ⟨_, (true), (by rfl), H', ⟨by omega⟩, by repeat (first | exact Drawn0.refl _ | apply Drawn0.step)⟩
  ·rw [if_neg c4] at H
   have c4b0 := df_ c4
   clear c4
   (first | rw [c4b0] | (simp only [i64_w, i32_w]; rw [c4b0]) | skip)
   have H' := ak_ H
   clear H
   go_wp2
   go_meet
   case rel => exact ⟨_, (decide ((wrap64 (Int.tdiv a1 8)) ≥ (l0.length : Int))), (by rfl), H', ⟨by omega⟩, by repeat (first | exact Drawn0.refl _ | apply Drawn0.step)⟩
 case rest =>
  clear HC3
  obtain ⟨kq, x15_2, rfl, HA, HJ2, ⟨mc2, rfl⟩⟩ := hcut
  cases kq with
  | zero => exact absurd HA.out (by simp [r01_Bit.j0])
  | succ kj2 =>
   have H := HA.out
   clear HA
   simp only [r01_Bit.j0] at H
   by_cases c5 : x15_2 = true
   ·subst c5
    rw [if_pos rfl] at H
    obtain rfl := si_ H
    go_wp2
    go_ret
    exact ⟨by rfl, by repeat (first | exact Drawn0.refl _ | apply Drawn0.step)⟩
   ·replace c5 := Bool.eq_false_iff.mpr c5
    subst c5
    rw [if_neg (show ¬ (false = true) by decide)] at H
    obtain ⟨ji6, hji6⟩ : ∃ j_ : Int, (wrap64 (Int.tdiv a1 8)) = j_ := ⟨_, rfl⟩
    replace H : (if 0 ≤ (ji6) then (if (ji6) < (l0.length : Int) then (r01_Bit.l0 kj2 a1 (wrap64 (rd l0 (ji6))) 0) else (none)) else (none)) = some r := (by rw [hji6] at H; exact H)
    have hji6w : (IntKind.i64.wrap (Int.tdiv a1 8)) = ji6 := (i64_w _).trans hji6
    by_cases c7 : 0 ≤ (ji6)
    ·rw [if_pos c7] at H
     have c7b0 := dt_ c7
     clear c7
     by_cases c8 : (ji6) < (l0.length : Int)
     ·rw [if_pos c8] at H
      have c8b0 := dt_ c8
      clear c8
      have H' := ak_ H
      clear H
      have p327 : 0 ≤ ((ji6) : Int) := od_ ‹_›
      have q327 : (ji6) < (l0.length : Int) := od_ ‹_›
      obtain ⟨ad327, e327, hx327_0⟩ := Kd.at_int HR0.out (ji6) p327 q327
      cases e327
      replace p327 := eq_true p327
      replace q327 := eq_true q327
      go_wp2
      go_loopg [5, 6] kj2 (fun kq v5 v6 w' => ∃ (x5_2 : Int) (x6_2 : Int), v5 = .int .i64 x5_2 ∧ v6 = .int .i64 x6_2 ∧ Aside0 (r01_Bit.l0 kq a1 x5_2 x6_2 = some r) ∧ Aside0 (kq ≤ kj2) ∧ Drawn0 w w')
      case atStart => exact ⟨(wrap64 (rd l0 (ji6))), (0), (by rfl), (by rfl), H', ⟨Nat.le_refl _⟩, by repeat (first | exact Drawn0.refl _ | apply Drawn0.step)⟩
      case round =>
       clear H'
       clear c7b0 c8b0 hx327_0 p327 q327
       obtain ⟨x5_2, x6_2, rfl, rfl, HA, HK2, ⟨m2, rfl⟩⟩ := hrel
       cases gk with
       | zero => exact absurd HA.out (by simp [r01_Bit.l0])
       | succ k2 =>
        have H := HA.out
        clear HA
        simp only [r01_Bit.l0] at H
        by_cases c9 : x6_2 < (Int.tmod a1 8)
        ·rw [if_pos c9] at H
         have c9b0 := dt_ c9
         clear c9
         have H' := ak_ H
         clear H
         go_wp2
         go_roundg k2
         case measure => have := HJ2.out; have := HK2.out; omega
         case rel => exact ⟨(wrap64 (Int.tdiv x5_2 2)), (wrap64 (x6_2 + 1)), (by rfl), (by rfl), H', ⟨by have := HJ2.out; have := HK2.out; omega⟩, by repeat (first | exact Drawn0.refl _ | apply Drawn0.step)⟩
        ·rw [if_neg c9] at H
         have c9b0 := df_ c9
         clear c9
         obtain rfl := si_ H
         go_wp2
         go_ret
         exact ⟨by rfl, by repeat (first | exact Drawn0.refl _ | apply Drawn0.step)⟩
     ·rw [if_neg c8] at H
      exact absurd H (by simp)
    ·rw [if_neg c7] at H
     exact absurd H (by simp)
def r01_List.l0 : Nat → List Int → List Int → Int → Option (List Int)
 | 0, _, _, _ => none
 | k + 1, x0, x3, x4 => if x4 < (wrap64 (8 * (x0.length : Int))) then ((r01_Bit.f k x0 x4).bind fun t331 => (if x3.length < 17592186044416 then (r01_List.l0 k x0 (x3 ++ [t331]) (wrap64 (x4 + 1))) else (none))) else (some x3)
def r01_List.f (k : Nat) (l0 : List Int) : Option (List Int) := r01_List.l0 k l0 ([] : List Int) 0
theorem r01_List.mono_l : ∀ k, (∀ y0 y1 y2, LeO (r01_List.l0 k y0 y1 y2) (r01_List.l0 (k + 1) y0 y1 y2))
 | 0 => fun _ _ _ r h => by simp [r01_List.l0] at h
 | k + 1 => by
  have ih0 := r01_List.mono_l k
  ·intro y0 y1 y2
   unfold r01_List.l0
   repeat' first
   | (with_reducible exact ih0 _ _ _)
   | (with_reducible exact r01_Bit.mono _ _ _)
   | (with_reducible exact LeO.refl _)
   | (with_reducible exact LeO.none _)
   | (with_reducible refine LeO.ite ?_ ?_)
   | (with_reducible refine LeO.bind ?_ (fun _ => ?_))
theorem r01_List.mono : ∀ a0 k, LeO (r01_List.f k a0) (r01_List.f (k + 1) a0) := by
 intro a0 k
 have ih0 := r01_List.mono_l k
 unfold r01_List.f
 repeat' with_reducible first
  | exact ih0 _ _ _
  | exact r01_Bit.mono _ _ _
  | exact LeO.refl _
  | exact LeO.none _
  | refine LeO.ite ?_ ?_
  | refine LeO.bind ?_ (fun _ => ?_)
theorem r01_List.calls (k : Nat) (A0 : Option Addr) (c0 : Nat) (l0 : List Int) (r : List Int) (w : World) (hr0 : Kd.C (Kd.int .u8) w A0 l0.length l0) (hc0 : l0.length ≤ c0) (h : r01_List.f k l0 = some r) :
  Calls Try.prog 73 #[.slice A0 l0.length c0] w fun e w' => ∃ v0_ : Value, e = .returned (v0_) ∧ Kd.R (Kd.int .i64) 3 w' w.heap.size (fun _ => True) v0_ r ∧ Below w.heap.size w w' := by
 have HR0 := ak_ hr0
 have HC0 := ak_ hc0
 clear hr0 hc0
 have HB := br_ w
 unfold r01_List.f at h
 have H := h
 clear h
 have H' := ak_ H
 clear H
 go_enter Try.func73, Try.ntmps73
 go_wp2
 go_loopg [3, 4] k (fun kq v3 v4 w' => ∃ (x3_1 : List Int) (x4_1 : Int), v4 = .int .i64 x4_1 ∧ Aside0 (r01_List.l0 kq l0 x3_1 x4_1 = some r) ∧ Aside0 (kq ≤ k) ∧ Aside0 (Kd.R (Kd.int .i64) 3 w' w.heap.size (fun _ => True) v3 x3_1) ∧ Aside0 (Below w.heap.size w w'))
 case atStart => exact ⟨(([] : List Int)), (0), (by rfl), H', ⟨Nat.le_refl _⟩, ⟨(Kd.R_nil _ _ _ _ _)⟩, ⟨HB.out⟩⟩
 case round =>
  clear H'
  obtain ⟨x3_1, x4_1, rfl, HA, HK1, HO_3, HB⟩ := hrel
  cases gk with
  | zero => exact absurd HA.out (by simp [r01_List.l0])
  | succ k1 =>
   have H := HA.out
   clear HA
   simp only [r01_List.l0] at H
   by_cases c2 : x4_1 < (wrap64 (8 * (l0.length : Int)))
   ·rw [if_pos c2] at H
    have c2b0 := dt_ c2
    clear c2
    obtain ⟨t328, A3, H⟩ := bs_ H
    by_cases c4 : x3_1.length < 17592186044416
    ·rw [if_pos c4] at H
     have LMc4 := ak_ c4
     clear c4
     obtain ⟨y329, hy329⟩ : ∃ y_ : List Int, y_ = (x3_1 ++ [t328]) := ⟨_, rfl⟩
     replace H : (r01_List.l0 k1 l0 y329 (wrap64 (x4_1 + 1))) = some r := (by rw [hy329]; with_reducible exact H)
     have Ny329 := ak_ hy329
     clear hy329
     have H' := ak_ H
     clear H
     go_wp2_with (first | ((with_reducible refine gate_callee (f := 90) rfl ?_); refine goesL_ (some 15) rfl rfl Try.func90 (by kernel_rfl) rfl #[.slice A0 l0.length c0, .int .i64 x4_1] rfl (by (try simp only [List.map_toArray, List.map_cons, List.map_nil]); first | done | rfl | (simp only [List.length_drop, List.length_take]; rfl)) ?_; (with_reducible refine (r01_Bit.calls k1 _ _ l0 x4_1 t328 _ ?side1 ?side2 A3.out).mono ?_); (case side1 => exact (Kd.C_below HR0.out HB.out)); (case side2 => exact HC0.out); rintro e w' ⟨rfl, ⟨nd, rfl⟩⟩; refine ⟨_, rfl, ?_⟩) | ((with_reducible refine gate_builtin (b := .append) (xs := #[.tmp 12, .tmp 16]) rfl ?_); at_builtin; refine Kd.R_append (Kd.int .i64) (w0 := w) w.heap.size rfl (.tmp 12) (.tmp 16) 67 3 (.int .i64 0) 8 rfl Try.underlying67 info3 rfl (by decide) (by omega) u3 x3_1 t328 [.int .i64 t328] (fun _ => True) (fun _ => False) rfl rfl ?aP (fun _ hk => hk.elim) ?aF ?aO ?aB ?aS ?aL ?_; (case aP => exact rfl); (case aB => exact (by repeat (first | (with_reducible first | exact HB.out | apply below_alloc | apply pw_below_drewN | apply below_drew1) | exact HB.out))); (case aF => exact (fun _ _ => trivial)); (case aO => exact (by (with_reducible repeat (first | apply Kd.R_alloc | apply Kd.R_drewN | apply Kd.R_drew)); exact HO_3.out)); (case aS => exact (below_size (by repeat (first | (with_reducible first | exact HB.out | apply below_alloc | apply pw_below_drewN | apply below_drew1) | exact HB.out)))); (case aL => have := LMc4.out; omega); intro v330 w5 ho hb hg hat; rw [← Ny329.out] at ho; have n0_ := ak_ (hb); have n1_ := ak_ (ho); clear HB; clear HO_3; have HB := n0_; have HO331 := n1_; clear n0_ n1_; clear ho hb hg hat))
     go_roundg k1
     case measure => have := HK1.out; omega
     case rel => exact ⟨(y329), (wrap64 (x4_1 + 1)), (by rfl), H', ⟨by have := HK1.out; omega⟩, ⟨HO331.out⟩, ⟨HB.out⟩⟩
    ·rw [if_neg c4] at H
     exact absurd H (by simp)
   ·rw [if_neg c2] at H
    have c2b0 := df_ c2
    clear c2
    obtain rfl := si_ H
    go_wp2
    go_ret
    exact ⟨_, by rfl, by (with_reducible repeat (first | apply Kd.R_alloc | apply Kd.R_drewN | apply Kd.R_drew)); exact HO_3.out, HB.out⟩
def r02_Sum.l0 : Nat → Int → List Int → Int → Option (Int)
 | 0, _, _, _ => none
 | k + 1, x3, x4, x5 => if x5 < (x4.length : Int) then (if 0 ≤ x5 then (if (wrap64 (Int.tmod x3 2)) = (rd x4 x5) then (r02_Sum.l0 k ((Int.tdiv x3 2) % 4294967296) x4 (wrap64 (x5 + 1))) else (r02_Sum.l0 k (Go.bits .xor .u32 ((Int.tdiv x3 2) % 4294967296) 3988292384) x4 (wrap64 (x5 + 1)))) else (none)) else (some ((4294967295 - x3) % 4294967296))
def r02_Sum.f (k : Nat) (l0 : List Int) : Option (Int) := (r01_List.f k l0).bind fun t335 => (r02_Sum.l0 k 4294967295 t335 0)
theorem r02_Sum.mono_l : ∀ k, (∀ y0 y1 y2, LeO (r02_Sum.l0 k y0 y1 y2) (r02_Sum.l0 (k + 1) y0 y1 y2))
 | 0 => fun _ _ _ r h => by simp [r02_Sum.l0] at h
 | k + 1 => by
  have ih0 := r02_Sum.mono_l k
  ·intro y0 y1 y2
   unfold r02_Sum.l0
   repeat' first
   | (with_reducible exact ih0 _ _ _)
   | (with_reducible exact r01_List.mono _ _)
   | (with_reducible exact LeO.refl _)
   | (with_reducible exact LeO.none _)
   | (with_reducible refine LeO.ite ?_ ?_)
   | (with_reducible refine LeO.bind ?_ (fun _ => ?_))
theorem r02_Sum.mono : ∀ a0 k, LeO (r02_Sum.f k a0) (r02_Sum.f (k + 1) a0) := by
 intro a0 k
 have ih0 := r02_Sum.mono_l k
 unfold r02_Sum.f
 repeat' with_reducible first
  | exact ih0 _ _ _
  | exact r01_List.mono _ _
  | exact LeO.refl _
  | exact LeO.none _
  | refine LeO.ite ?_ ?_
  | refine LeO.bind ?_ (fun _ => ?_)
theorem r02_Sum.calls (k : Nat) (A0 : Option Addr) (c0 : Nat) (l0 : List Int) (r : Int) (w : World) (hr0 : Kd.C (Kd.int .u8) w A0 l0.length l0) (hc0 : l0.length ≤ c0) (h : r02_Sum.f k l0 = some r) :
  Calls Try.prog 48 #[.slice A0 l0.length c0] w fun e w' => e = .returned (.int .u32 r) ∧ Below w.heap.size w w' := by
 have HR0 := ak_ hr0
 have HC0 := ak_ hc0
 clear hr0 hc0
 have HB := br_ w
 unfold r02_Sum.f at h
 have H := h
 clear h
 obtain ⟨t332, A2, H⟩ := bs_ H
 have H' := ak_ H
 clear H
 go_enter Try.func48, Try.ntmps48
 go_wp2_with ((with_reducible refine gate_callee (f := 73) rfl ?_); refine goesL_ (some 8) rfl rfl Try.func73 (by kernel_rfl) rfl #[.slice A0 l0.length c0] rfl (by (try simp only [List.map_toArray, List.map_cons, List.map_nil]); first | done | rfl | (simp only [List.length_drop, List.length_take]; rfl)) ?_; (with_reducible refine (r01_List.calls k _ _ l0 t332 _ ?side1 ?side2 A2.out).mono ?_); (case side1 => exact HR0.out); (case side2 => exact HC0.out); rintro e w3 ⟨v333, rfl, ho0, hb⟩; refine ⟨_, rfl, ?_⟩; have HO334 := ak_ (Kd.R_lower ho0 (below_size HB.out)); replace HB := ak_ (below_step HB.out hb); (try clear hb); (try clear ho0))
 go_loopg [3, 5] k (fun kq v3 v5 w' => ∃ (x3_1 : Int) (x5_1 : Int), v3 = .int .u32 x3_1 ∧ v5 = .int .i64 x5_1 ∧ Aside0 (r02_Sum.l0 kq x3_1 t332 x5_1 = some r) ∧ Aside0 (kq ≤ k) ∧ Aside0 (Kd.R (Kd.int .i64) 3 w' w.heap.size (fun _ => True) v333 t332) ∧ Aside0 (Below w.heap.size w w'))
 case atStart => exact ⟨(4294967295), (0), (by rfl), (by rfl), H', ⟨Nat.le_refl _⟩, ⟨HO334.out⟩, ⟨HB.out⟩⟩
 case round =>
  clear H'
  obtain ⟨x3_1, x5_1, rfl, rfl, HA, HK1, HO_4, HB⟩ := hrel
  cases gk with
  | zero => exact absurd HA.out (by simp [r02_Sum.l0])
  | succ k1 =>
   have H := HA.out
   clear HA
   simp only [r02_Sum.l0] at H
   by_cases c4 : x5_1 < (t332.length : Int)
   ·rw [if_pos c4] at H
    have c4b0 := dt_ c4
    clear c4
    by_cases c5 : 0 ≤ x5_1
    ·rw [if_pos c5] at H
     have c5b0 := dt_ c5
     clear c5
     by_cases c6 : (wrap64 (Int.tmod x3_1 2)) = (rd t332 x5_1)
     ·rw [if_pos c6] at H
      have c6b0 := beq_iff_eq.mpr c6
      have c6b1 := bne_eq_false_iff_eq.mpr c6
      clear c6
      have H' := ak_ H
      clear H
      obtain ⟨Ao7, co7, eo7⟩ := Kd.R_slice HO_4.out
      subst eo7
      have p335 : 0 ≤ (x5_1 : Int) := od_ ‹_›
      have q335 : x5_1 < (t332.length : Int) := od_ ‹_›
      obtain ⟨ad335, e335, hx335_0⟩ := Kd.at_int (Kd.R_reads' HO_4.out).2.2 x5_1 p335 q335
      cases e335
      replace p335 := eq_true p335
      replace q335 := eq_true q335
      go_wp2
      go_roundg k1
      case measure => have := HK1.out; omega
      case rel => exact ⟨((Int.tdiv x3_1 2) % 4294967296), (wrap64 (x5_1 + 1)), (by rfl), (by rfl), H', ⟨by have := HK1.out; omega⟩, ⟨HO_4.out⟩, ⟨HB.out⟩⟩
     ·rw [if_neg c6] at H
      have c6b0 := beq_eq_false_iff_ne.mpr c6
      have c6b1 := bne_iff_ne.mpr c6
      have H' := ak_ H
      clear H
      obtain ⟨Ao8, co8, eo8⟩ := Kd.R_slice HO_4.out
      subst eo8
      have p335 : 0 ≤ (x5_1 : Int) := od_ ‹_›
      have q335 : x5_1 < (t332.length : Int) := od_ ‹_›
      obtain ⟨ad335, e335, hx335_0⟩ := Kd.at_int (Kd.R_reads' HO_4.out).2.2 x5_1 p335 q335
      cases e335
      replace p335 := eq_true p335
      replace q335 := eq_true q335
      go_wp2
      go_roundg k1
      case measure => have := HK1.out; omega
      case rel => exact ⟨(Go.bits .xor .u32 ((Int.tdiv x3_1 2) % 4294967296) 3988292384), (wrap64 (x5_1 + 1)), (by rfl), (by rfl), H', ⟨by have := HK1.out; omega⟩, ⟨HO_4.out⟩, ⟨HB.out⟩⟩
    ·rw [if_neg c5] at H
     exact absurd H (by simp)
   ·rw [if_neg c4] at H
    have c4b0 := df_ c4
    clear c4
    obtain rfl := si_ H
    obtain ⟨Ao9, co9, eo9⟩ := Kd.R_slice HO_4.out
    subst eo9
    go_wp2
    go_ret
    exact ⟨by rfl, HB.out⟩
def r04_Raw.f (a0_0 : Int) (a0_1 : Int) (a0_2 : Int) (a0_3 : Int) (a0_4 : Int) (a0_5 : Int) (a0_6 : Int) : Option (Int) := some (wrap64 ((wrap64 ((wrap64 (a0_3 * a0_4)) + (wrap64 (2 * a0_3)))) + 31))
theorem r04_Raw.calls (a0_0 : Int) (a0_1 : Int) (a0_2 : Int) (a0_3 : Int) (a0_4 : Int) (a0_5 : Int) (a0_6 : Int) (r : Int) (w : World) (h : r04_Raw.f a0_0 a0_1 a0_2 a0_3 a0_4 a0_5 a0_6 = some r) :
  Calls Try.prog 51 #[.agg #[.int .i64 a0_0, .int .i64 a0_1, .int .i64 a0_2, .int .i64 a0_3, .int .i64 a0_4, .int .i64 a0_5, .int .i64 a0_6]] w fun e w' => e = .returned (.int .i64 r) ∧ Below w.heap.size w w' := by
 have hu23 := Try.underlying23
 have HB := br_ w
 unfold r04_Raw.f at h
 have H := h
 clear h
 obtain rfl := si_ H
 go_enter Try.func51, Try.ntmps51
 go_wp2_with ((with_reducible refine gate_dst (N := 1) rfl ?_); refine box_event ?hg (N := 1) ?hd (cs := #[.int .i64 a0_0, .int .i64 a0_1, .int .i64 a0_2, .int .i64 a0_3, .int .i64 a0_4, .int .i64 a0_5, .int .i64 a0_6]) (t := 23) ?hr ?_; (case hd => rfl); (case hg => rfl); (case hr => (go_simp; done)); intro gb336 hg w2 hbox hb; have BK336 := ak_ (hbox); have GW336 := ak_ (gw_ hg (below_size HB.out)); have GE336 := ak_ (gw_ hg (below_size HB.out)); replace HB := ak_ (below_step HB.out hb); clear hb hbox hg; obtain ⟨hcz3_0, hcz3_1, hcz3_2, hcz3_3, hcz3_4, hcz3_5, hcz3_6⟩ := cells7 BK336.out; obtain ⟨hfz3_0, hfz3_1, hfz3_2, hfz3_3, hfz3_4, hfz3_5, hfz3_6⟩ := froz7 BK336.out)
 go_ret
 exact ⟨by rfl, HB.out⟩
def r01_Zeros.l0 : Nat → Int → List Int → Int → Option (Int)
 | 0, _, _, _ => none
 | k + 1, x3, x4, x5 => if x5 < (x4.length : Int) then (if 0 ≤ x5 then (r01_Zeros.l0 k (wrap64 ((wrap64 (x3 + 1)) - (rd x4 x5))) x4 (wrap64 (x5 + 1))) else (none)) else (some x3)
def r01_Zeros.f (k : Nat) (l0 : List Int) : Option (Int) := (r01_List.f k l0).bind fun t340 => (r01_Zeros.l0 k 0 t340 0)
theorem r01_Zeros.mono_l : ∀ k, (∀ y0 y1 y2, LeO (r01_Zeros.l0 k y0 y1 y2) (r01_Zeros.l0 (k + 1) y0 y1 y2))
 | 0 => fun _ _ _ r h => by simp [r01_Zeros.l0] at h
 | k + 1 => by
  have ih0 := r01_Zeros.mono_l k
  ·intro y0 y1 y2
   unfold r01_Zeros.l0
   repeat' first
   | (with_reducible exact ih0 _ _ _)
   | (with_reducible exact r01_List.mono _ _)
   | (with_reducible exact LeO.refl _)
   | (with_reducible exact LeO.none _)
   | (with_reducible refine LeO.ite ?_ ?_)
   | (with_reducible refine LeO.bind ?_ (fun _ => ?_))
theorem r01_Zeros.mono : ∀ a0 k, LeO (r01_Zeros.f k a0) (r01_Zeros.f (k + 1) a0) := by
 intro a0 k
 have ih0 := r01_Zeros.mono_l k
 unfold r01_Zeros.f
 repeat' with_reducible first
  | exact ih0 _ _ _
  | exact r01_List.mono _ _
  | exact LeO.refl _
  | exact LeO.none _
  | refine LeO.ite ?_ ?_
  | refine LeO.bind ?_ (fun _ => ?_)
theorem r01_Zeros.calls (k : Nat) (A0 : Option Addr) (c0 : Nat) (l0 : List Int) (r : Int) (w : World) (hr0 : Kd.C (Kd.int .u8) w A0 l0.length l0) (hc0 : l0.length ≤ c0) (h : r01_Zeros.f k l0 = some r) :
  Calls Try.prog 52 #[.slice A0 l0.length c0] w fun e w' => e = .returned (.int .i64 r) ∧ Below w.heap.size w w' := by
 have HR0 := ak_ hr0
 have HC0 := ak_ hc0
 clear hr0 hc0
 have HB := br_ w
 unfold r01_Zeros.f at h
 have H := h
 clear h
 obtain ⟨t337, A2, H⟩ := bs_ H
 have H' := ak_ H
 clear H
 go_enter Try.func52, Try.ntmps52
 go_wp2_with ((with_reducible refine gate_callee (f := 73) rfl ?_); refine goesL_ (some 7) rfl rfl Try.func73 (by kernel_rfl) rfl #[.slice A0 l0.length c0] rfl (by (try simp only [List.map_toArray, List.map_cons, List.map_nil]); first | done | rfl | (simp only [List.length_drop, List.length_take]; rfl)) ?_; (with_reducible refine (r01_List.calls k _ _ l0 t337 _ ?side1 ?side2 A2.out).mono ?_); (case side1 => exact HR0.out); (case side2 => exact HC0.out); rintro e w3 ⟨v338, rfl, ho0, hb⟩; refine ⟨_, rfl, ?_⟩; have HO339 := ak_ (Kd.R_lower ho0 (below_size HB.out)); replace HB := ak_ (below_step HB.out hb); (try clear hb); (try clear ho0))
 go_loopg [3, 5] k (fun kq v3 v5 w' => ∃ (x3_1 : Int) (x5_1 : Int), v3 = .int .i64 x3_1 ∧ v5 = .int .i64 x5_1 ∧ Aside0 (r01_Zeros.l0 kq x3_1 t337 x5_1 = some r) ∧ Aside0 (kq ≤ k) ∧ Aside0 (Kd.R (Kd.int .i64) 3 w' w.heap.size (fun _ => True) v338 t337) ∧ Aside0 (Below w.heap.size w w'))
 case atStart => exact ⟨(0), (0), (by rfl), (by rfl), H', ⟨Nat.le_refl _⟩, ⟨HO339.out⟩, ⟨HB.out⟩⟩
 case round =>
  clear H'
  obtain ⟨x3_1, x5_1, rfl, rfl, HA, HK1, HO_4, HB⟩ := hrel
  cases gk with
  | zero => exact absurd HA.out (by simp [r01_Zeros.l0])
  | succ k1 =>
   have H := HA.out
   clear HA
   simp only [r01_Zeros.l0] at H
   by_cases c4 : x5_1 < (t337.length : Int)
   ·rw [if_pos c4] at H
    have c4b0 := dt_ c4
    clear c4
    by_cases c5 : 0 ≤ x5_1
    ·rw [if_pos c5] at H
     have c5b0 := dt_ c5
     clear c5
     have H' := ak_ H
     clear H
     obtain ⟨Ao6, co6, eo6⟩ := Kd.R_slice HO_4.out
     subst eo6
     have p340 : 0 ≤ (x5_1 : Int) := od_ ‹_›
     have q340 : x5_1 < (t337.length : Int) := od_ ‹_›
     obtain ⟨ad340, e340, hx340_0⟩ := Kd.at_int (Kd.R_reads' HO_4.out).2.2 x5_1 p340 q340
     cases e340
     replace p340 := eq_true p340
     replace q340 := eq_true q340
     go_wp2
     go_roundg k1
     case measure => have := HK1.out; omega
     case rel => exact ⟨(wrap64 ((wrap64 (x3_1 + 1)) - (rd t337 x5_1))), (wrap64 (x5_1 + 1)), (by rfl), (by rfl), H', ⟨by have := HK1.out; omega⟩, ⟨HO_4.out⟩, ⟨HB.out⟩⟩
    ·rw [if_neg c5] at H
     exact absurd H (by simp)
   ·rw [if_neg c4] at H
    have c4b0 := df_ c4
    clear c4
    obtain rfl := si_ H
    obtain ⟨Ao7, co7, eo7⟩ := Kd.R_slice HO_4.out
    subst eo7
    go_wp2
    go_ret
    exact ⟨by rfl, HB.out⟩
def r05_xor.l0 : Nat → Int → Int → Int → Int → Int → Option (Int)
 | 0, _, _, _, _, _ => none
 | k + 1, x0, x1, x5, x6, x7 => if x7 < 13 then (if (Int.tmod x0 2) = (Int.tmod x1 2) then (r05_xor.l0 k (wrap64 (Int.tdiv x0 2)) (wrap64 (Int.tdiv x1 2)) x5 (wrap64 (x6 * 2)) (wrap64 (x7 + 1))) else (r05_xor.l0 k (wrap64 (Int.tdiv x0 2)) (wrap64 (Int.tdiv x1 2)) (wrap64 (x5 + x6)) (wrap64 (x6 * 2)) (wrap64 (x7 + 1)))) else (some x5)
def r05_xor.f (k : Nat) (a0 : Int) (a1 : Int) : Option (Int) := r05_xor.l0 k a0 a1 0 1 0
theorem r05_xor.mono_l : ∀ k, (∀ y0 y1 y2 y3 y4, LeO (r05_xor.l0 k y0 y1 y2 y3 y4) (r05_xor.l0 (k + 1) y0 y1 y2 y3 y4))
 | 0 => fun _ _ _ _ _ r h => by simp [r05_xor.l0] at h
 | k + 1 => by
  have ih0 := r05_xor.mono_l k
  ·intro y0 y1 y2 y3 y4
   unfold r05_xor.l0
   repeat' first
   | (with_reducible exact ih0 _ _ _ _ _)
   | (with_reducible exact LeO.refl _)
   | (with_reducible exact LeO.none _)
   | (with_reducible refine LeO.ite ?_ ?_)
   | (with_reducible refine LeO.bind ?_ (fun _ => ?_))
theorem r05_xor.mono : ∀ a0 a1 k, LeO (r05_xor.f k a0 a1) (r05_xor.f (k + 1) a0 a1) := by
 intro a0 a1 k
 have ih0 := r05_xor.mono_l k
 unfold r05_xor.f
 repeat' with_reducible first
  | exact ih0 _ _ _ _ _
  | exact LeO.refl _
  | exact LeO.none _
  | refine LeO.ite ?_ ?_
  | refine LeO.bind ?_ (fun _ => ?_)
theorem r05_xor.calls (k : Nat) (a0 : Int) (a1 : Int) (r : Int) (w : World) (h : r05_xor.f k a0 a1 = some r) :
  Calls Try.prog 91 #[.int .i64 a0, .int .i64 a1] w fun e w' => e = .returned (.int .i64 r) ∧ Drawn0 w w' := by
 unfold r05_xor.f at h
 have H := h
 clear h
 have H' := ak_ H
 clear H
 go_enter Try.func91, Try.ntmps91
 go_wp2
 go_loopg [0, 1, 5, 6, 7] k (fun kq v0 v1 v5 v6 v7 w' => ∃ (x0_1 : Int) (x1_1 : Int) (x5_1 : Int) (x6_1 : Int) (x7_1 : Int), v0 = .int .i64 x0_1 ∧ v1 = .int .i64 x1_1 ∧ v5 = .int .i64 x5_1 ∧ v6 = .int .i64 x6_1 ∧ v7 = .int .i64 x7_1 ∧ Aside0 (r05_xor.l0 kq x0_1 x1_1 x5_1 x6_1 x7_1 = some r) ∧ Aside0 (kq ≤ k) ∧ Drawn0 w w')
 case atStart => exact ⟨(a0), (a1), (0), (1), (0), (by rfl), (by rfl), (by rfl), (by rfl), (by rfl), H', ⟨Nat.le_refl _⟩, by repeat (first | exact Drawn0.refl _ | apply Drawn0.step)⟩
 case round =>
  clear H'
  obtain ⟨x0_1, x1_1, x5_1, x6_1, x7_1, rfl, rfl, rfl, rfl, rfl, HA, HK1, ⟨m1, rfl⟩⟩ := hrel
  cases gk with
  | zero => exact absurd HA.out (by simp [r05_xor.l0])
  | succ k1 =>
   have H := HA.out
   clear HA
   simp only [r05_xor.l0] at H
   by_cases c3 : x7_1 < 13
   ·rw [if_pos c3] at H
    have c3b0 := dt_ c3
    clear c3
    by_cases c4 : (Int.tmod x0_1 2) = (Int.tmod x1_1 2)
    ·rw [if_pos c4] at H
     have c4b0 := beq_iff_eq.mpr c4
     have c4b1 := bne_eq_false_iff_eq.mpr c4
     clear c4
     have H' := ak_ H
     clear H
     go_wp2
     go_roundg k1
     case measure => have := HK1.out; omega
     case rel => exact ⟨(wrap64 (Int.tdiv x0_1 2)), (wrap64 (Int.tdiv x1_1 2)), (x5_1), (wrap64 (x6_1 * 2)), (wrap64 (x7_1 + 1)), (by rfl), (by rfl), (by rfl), (by rfl), (by rfl), H', ⟨by have := HK1.out; omega⟩, by repeat (first | exact Drawn0.refl _ | apply Drawn0.step)⟩
    ·rw [if_neg c4] at H
     have c4b0 := beq_eq_false_iff_ne.mpr c4
     have c4b1 := bne_iff_ne.mpr c4
     have H' := ak_ H
     clear H
     go_wp2
     go_roundg k1
     case measure => have := HK1.out; omega
     case rel => exact ⟨(wrap64 (Int.tdiv x0_1 2)), (wrap64 (Int.tdiv x1_1 2)), (wrap64 (x5_1 + x6_1)), (wrap64 (x6_1 * 2)), (wrap64 (x7_1 + 1)), (by rfl), (by rfl), (by rfl), (by rfl), (by rfl), H', ⟨by have := HK1.out; omega⟩, by repeat (first | exact Drawn0.refl _ | apply Drawn0.step)⟩
   ·rw [if_neg c3] at H
    have c3b0 := df_ c3
    clear c3
    obtain rfl := si_ H
    go_wp2
    go_ret
    exact ⟨by rfl, by repeat (first | exact Drawn0.refl _ | apply Drawn0.step)⟩
def r05_Power.l0 : Nat → Int → Option (Bool)
 | 0, _ => none
 | k + 1, x0 => if x0 > 1 then (if (Int.tmod x0 2) = 0 then (r05_Power.l0 k (wrap64 (Int.tdiv x0 2))) else (some (x0 == 1))) else (some (x0 == 1))
def r05_Power.f (k : Nat) (a0 : Int) : Option (Bool) := r05_Power.l0 k a0
theorem r05_Power.mono_l : ∀ k, (∀ y0, LeO (r05_Power.l0 k y0) (r05_Power.l0 (k + 1) y0))
 | 0 => fun _ r h => by simp [r05_Power.l0] at h
 | k + 1 => by
  have ih0 := r05_Power.mono_l k
  ·intro y0
   unfold r05_Power.l0
   repeat' first
   | (with_reducible exact ih0 _)
   | (with_reducible exact LeO.refl _)
   | (with_reducible exact LeO.none _)
   | (with_reducible refine LeO.ite ?_ ?_)
   | (with_reducible refine LeO.bind ?_ (fun _ => ?_))
theorem r05_Power.mono : ∀ a0 k, LeO (r05_Power.f k a0) (r05_Power.f (k + 1) a0) := by
 intro a0 k
 have ih0 := r05_Power.mono_l k
 unfold r05_Power.f
 repeat' with_reducible first
  | exact ih0 _
  | exact LeO.refl _
  | exact LeO.none _
  | refine LeO.ite ?_ ?_
  | refine LeO.bind ?_ (fun _ => ?_)
theorem r05_Power.calls (k : Nat) (a0 : Int) (r : Bool) (w : World) (h : r05_Power.f k a0 = some r) :
  Calls Try.prog 92 #[.int .i64 a0] w fun e w' => e = .returned (.bool r) ∧ Drawn0 w w' := by
 unfold r05_Power.f at h
 have H := h
 clear h
 have H' := ak_ H
 clear H
 go_enter Try.func92, Try.ntmps92
 go_wp2
 go_loopg [0] k (fun kq v0 w' => ∃ (x0_1 : Int), v0 = .int .i64 x0_1 ∧ Aside0 (r05_Power.l0 kq x0_1 = some r) ∧ Aside0 (kq ≤ k) ∧ Drawn0 w w')
 case atStart => exact ⟨(a0), (by rfl), H', ⟨Nat.le_refl _⟩, by repeat (first | exact Drawn0.refl _ | apply Drawn0.step)⟩
 case round =>
  clear H'
  obtain ⟨x0_1, rfl, HA, HK1, ⟨m1, rfl⟩⟩ := hrel
  cases gk with
  | zero => exact absurd HA.out (by simp [r05_Power.l0])
  | succ k1 =>
   have H := HA.out
   clear HA
   simp only [r05_Power.l0] at H
   by_cases c2 : x0_1 > 1
   ·rw [if_pos c2] at H
    have c2b0 : decide (1 < x0_1) = true := dt_ c2
    clear c2
    by_cases c3 : (Int.tmod x0_1 2) = 0
    ·rw [if_pos c3] at H
     have c3b0 := beq_iff_eq.mpr c3
     have c3b1 := bne_eq_false_iff_eq.mpr c3
     clear c3
     have H' := ak_ H
     clear H
     go_wp2
     go_roundg k1
     case measure => have := HK1.out; omega
     case rel => exact ⟨(wrap64 (Int.tdiv x0_1 2)), (by rfl), H', ⟨by have := HK1.out; omega⟩, by repeat (first | exact Drawn0.refl _ | apply Drawn0.step)⟩
    ·rw [if_neg c3] at H
     have c3b0 := beq_eq_false_iff_ne.mpr c3
     have c3b1 := bne_iff_ne.mpr c3
     obtain rfl := si_ H
     go_wp2
     go_ret
     exact ⟨by rfl, by repeat (first | exact Drawn0.refl _ | apply Drawn0.step)⟩
   ·rw [if_neg c2] at H
    have c2b0 : decide (1 < x0_1) = false := df_ c2
    clear c2
    obtain rfl := si_ H
    go_wp2
    go_ret
    exact ⟨by rfl, by repeat (first | exact Drawn0.refl _ | apply Drawn0.step)⟩
def r05_Places.l0 : Nat → Int → List Int → Int → Option (List Int)
 | 0, _, _, _ => none
 | k + 1, x0, x3, x4 => if (x3.length : Int) < x0 then ((r05_Power.f k x4).bind fun t344 => (if t344 = true then (r05_Places.l0 k x0 x3 (wrap64 (x4 + 1))) else (if x3.length < 17592186044416 then (r05_Places.l0 k x0 (x3 ++ [x4]) (wrap64 (x4 + 1))) else (none)))) else (some x3)
def r05_Places.f (k : Nat) (a0 : Int) : Option (List Int) := r05_Places.l0 k a0 ([] : List Int) 3
theorem r05_Places.mono_l : ∀ k, (∀ y0 y1 y2, LeO (r05_Places.l0 k y0 y1 y2) (r05_Places.l0 (k + 1) y0 y1 y2))
 | 0 => fun _ _ _ r h => by simp [r05_Places.l0] at h
 | k + 1 => by
  have ih0 := r05_Places.mono_l k
  ·intro y0 y1 y2
   unfold r05_Places.l0
   repeat' first
   | (with_reducible exact ih0 _ _ _)
   | (with_reducible exact r05_Power.mono _ _)
   | (with_reducible exact LeO.refl _)
   | (with_reducible exact LeO.none _)
   | (with_reducible refine LeO.ite ?_ ?_)
   | (with_reducible refine LeO.bind ?_ (fun _ => ?_))
theorem r05_Places.mono : ∀ a0 k, LeO (r05_Places.f k a0) (r05_Places.f (k + 1) a0) := by
 intro a0 k
 have ih0 := r05_Places.mono_l k
 unfold r05_Places.f
 repeat' with_reducible first
  | exact ih0 _ _ _
  | exact r05_Power.mono _ _
  | exact LeO.refl _
  | exact LeO.none _
  | refine LeO.ite ?_ ?_
  | refine LeO.bind ?_ (fun _ => ?_)
theorem r05_Places.calls (k : Nat) (a0 : Int) (r : List Int) (w : World) (h : r05_Places.f k a0 = some r) :
  Calls Try.prog 93 #[.int .i64 a0] w fun e w' => ∃ v0_ : Value, e = .returned (v0_) ∧ Kd.R (Kd.int .i64) 3 w' w.heap.size (fun _ => True) v0_ r ∧ Below w.heap.size w w' := by
 have HB := br_ w
 unfold r05_Places.f at h
 have H := h
 clear h
 have H' := ak_ H
 clear H
 go_enter Try.func93, Try.ntmps93
 go_wp2
 go_loopg [3, 4] k (fun kq v3 v4 w' => ∃ (x3_1 : List Int) (x4_1 : Int), v4 = .int .i64 x4_1 ∧ Aside0 (r05_Places.l0 kq a0 x3_1 x4_1 = some r) ∧ Aside0 (kq ≤ k) ∧ Aside0 (Kd.R (Kd.int .i64) 3 w' w.heap.size (fun _ => True) v3 x3_1) ∧ Aside0 (Below w.heap.size w w'))
 case atStart => exact ⟨(([] : List Int)), (3), (by rfl), H', ⟨Nat.le_refl _⟩, ⟨(Kd.R_nil _ _ _ _ _)⟩, ⟨HB.out⟩⟩
 case round =>
  clear H'
  obtain ⟨x3_1, x4_1, rfl, HA, HK1, HO_3, HB⟩ := hrel
  cases gk with
  | zero => exact absurd HA.out (by simp [r05_Places.l0])
  | succ k1 =>
   have H := HA.out
   clear HA
   simp only [r05_Places.l0] at H
   by_cases c2 : (x3_1.length : Int) < a0
   ·rw [if_pos c2] at H
    have c2b0 := dt_ c2
    clear c2
    obtain ⟨t341, A3, H⟩ := bs_ H
    by_cases c4 : t341 = true
    ·subst c4
     rw [if_pos rfl] at H
     have H' := ak_ H
     clear H
     obtain ⟨Ao5, co5, eo5⟩ := Kd.R_slice HO_3.out
     subst eo5
     go_wp2_with ((with_reducible refine gate_callee (f := 92) rfl ?_); refine goesL_ (some 12) rfl rfl Try.func92 (by kernel_rfl) rfl #[.int .i64 x4_1] rfl (by (try simp only [List.map_toArray, List.map_cons, List.map_nil]); first | done | rfl | (simp only [List.length_drop, List.length_take]; rfl)) ?_; (with_reducible refine (r05_Power.calls k1 x4_1 true _ A3.out).mono ?_); rintro e w' ⟨rfl, ⟨nd, rfl⟩⟩; refine ⟨_, rfl, ?_⟩)
     go_roundg k1
     case measure => have := HK1.out; omega
     case rel => exact ⟨(x3_1), (wrap64 (x4_1 + 1)), (by rfl), H', ⟨by have := HK1.out; omega⟩, ⟨by (with_reducible repeat (first | apply Kd.R_alloc | apply Kd.R_drewN | apply Kd.R_drew)); exact HO_3.out⟩, ⟨by repeat (first | (with_reducible first | exact HB.out | apply below_alloc | apply pw_below_drewN | apply below_drew1) | exact HB.out)⟩⟩
    ·replace c4 := Bool.eq_false_iff.mpr c4
     subst c4
     rw [if_neg (show ¬ (false = true) by decide)] at H
     by_cases c6 : x3_1.length < 17592186044416
     ·rw [if_pos c6] at H
      have LMc6 := ak_ c6
      clear c6
      obtain ⟨y342, hy342⟩ : ∃ y_ : List Int, y_ = (x3_1 ++ [x4_1]) := ⟨_, rfl⟩
      replace H : (r05_Places.l0 k1 a0 y342 (wrap64 (x4_1 + 1))) = some r := (by rw [hy342]; with_reducible exact H)
      have Ny342 := ak_ hy342
      clear hy342
      have H' := ak_ H
      clear H
      obtain ⟨Ao7, co7, eo7⟩ := Kd.R_slice HO_3.out
      subst eo7
      go_wp2_with (first | ((with_reducible refine gate_callee (f := 92) rfl ?_); refine goesL_ (some 12) rfl rfl Try.func92 (by kernel_rfl) rfl #[.int .i64 x4_1] rfl (by (try simp only [List.map_toArray, List.map_cons, List.map_nil]); first | done | rfl | (simp only [List.length_drop, List.length_take]; rfl)) ?_; (with_reducible refine (r05_Power.calls k1 x4_1 false _ A3.out).mono ?_); rintro e w' ⟨rfl, ⟨nd, rfl⟩⟩; refine ⟨_, rfl, ?_⟩) | ((with_reducible refine gate_builtin (b := .append) (xs := #[.tmp 14, .tmp 16]) rfl ?_); at_builtin; refine Kd.R_append (Kd.int .i64) (w0 := w) w.heap.size rfl (.tmp 14) (.tmp 16) 67 3 (.int .i64 0) 8 rfl Try.underlying67 info3 rfl (by decide) (by omega) (.slice Ao7 x3_1.length co7) x3_1 x4_1 [.int .i64 x4_1] (fun _ => True) (fun _ => False) rfl rfl ?aP (fun _ hk => hk.elim) ?aF ?aO ?aB ?aS ?aL ?_; (case aP => exact rfl); (case aB => exact (by repeat (first | (with_reducible first | exact HB.out | apply below_alloc | apply pw_below_drewN | apply below_drew1) | exact HB.out))); (case aF => exact (fun _ _ => trivial)); (case aO => exact (by (with_reducible repeat (first | apply Kd.R_alloc | apply Kd.R_drewN | apply Kd.R_drew)); exact HO_3.out)); (case aS => exact (below_size (by repeat (first | (with_reducible first | exact HB.out | apply below_alloc | apply pw_below_drewN | apply below_drew1) | exact HB.out)))); (case aL => have := LMc6.out; omega); intro v343 w8 ho hb hg hat; rw [← Ny342.out] at ho; have n0_ := ak_ (hb); have n1_ := ak_ (ho); clear HB; clear HO_3; have HB := n0_; have HO344 := n1_; clear n0_ n1_; clear ho hb hg hat))
      go_roundg k1
      case measure => have := HK1.out; omega
      case rel => exact ⟨(y342), (wrap64 (x4_1 + 1)), (by rfl), H', ⟨by have := HK1.out; omega⟩, ⟨HO344.out⟩, ⟨HB.out⟩⟩
     ·rw [if_neg c6] at H
      exact absurd H (by simp)
   ·rw [if_neg c2] at H
    have c2b0 := df_ c2
    clear c2
    obtain rfl := si_ H
    obtain ⟨Ao9, co9, eo9⟩ := Kd.R_slice HO_3.out
    subst eo9
    go_wp2
    go_ret
    exact ⟨_, by rfl, by (with_reducible repeat (first | apply Kd.R_alloc | apply Kd.R_drewN | apply Kd.R_drew)); exact HO_3.out, HB.out⟩
end Go.Proofs.Ytmehbabchakkpaa.QLadderWalks
namespace Go.Proofs.Ytmehbabchakkpaa.QLadderWalks
open Go.RowKit YtmehbabchakkpaaW.PrintWords YtmehbabchakkpaaW.PrintLast YtmehbabchakkpaaW.PrintMore Short
attribute [local go_sem] max2_int min2_int max_two min_two max_three min_three max_four min_four
set_option linter.unusedVariables false
set_option maxHeartbeats 8000000
set_option maxRecDepth 100000
set_option linter.unusedSimpArgs false
def r05_gather.l0 : Nat → List Int → List Int → Int → Int → Int → Option (Int × Int)
 | 0, _, _, _, _, _ => none
 | k + 1, x4, x5, x6, x7, x8 => if x8 < (x4.length : Int) then (if 0 ≤ x8 then (if (rd x4 x8) = 1 then (if x8 < (x5.length : Int) then ((r05_xor.f k x6 (rd x5 x8)).bind fun t356 => (r05_gather.l0 k x4 x5 t356 (wrap64 (x7 + 1)) (wrap64 (x8 + 1)))) else (none)) else (r05_gather.l0 k x4 x5 x6 x7 (wrap64 (x8 + 1)))) else (none)) else (some (x6, x7))
def r05_gather.f (k : Nat) (l0 : List Int) : Option (Int × Int) := (r01_List.f k l0).bind fun t348 => ((r05_Places.f k (t348.length : Int)).bind fun t351 => (r05_gather.l0 k t348 t351 0 0 0))
theorem r05_gather.mono_l : ∀ k, (∀ y0 y1 y2 y3 y4, LeO (r05_gather.l0 k y0 y1 y2 y3 y4) (r05_gather.l0 (k + 1) y0 y1 y2 y3 y4))
 | 0 => fun _ _ _ _ _ r h => by simp [r05_gather.l0] at h
 | k + 1 => by
  have ih0 := r05_gather.mono_l k
  ·intro y0 y1 y2 y3 y4
   unfold r05_gather.l0
   repeat' first
   | (with_reducible exact ih0 _ _ _ _ _)
   | (with_reducible exact r01_List.mono _ _)
   | (with_reducible exact r05_Places.mono _ _)
   | (with_reducible exact r05_xor.mono _ _ _)
   | (with_reducible exact LeO.refl _)
   | (with_reducible exact LeO.none _)
   | (with_reducible refine LeO.ite ?_ ?_)
   | (with_reducible refine LeO.bind ?_ (fun _ => ?_))
theorem r05_gather.mono : ∀ a0 k, LeO (r05_gather.f k a0) (r05_gather.f (k + 1) a0) := by
 intro a0 k
 have ih0 := r05_gather.mono_l k
 unfold r05_gather.f
 repeat' with_reducible first
  | exact ih0 _ _ _ _ _
  | exact r01_List.mono _ _
  | exact r05_Places.mono _ _
  | exact r05_xor.mono _ _ _
  | exact LeO.refl _
  | exact LeO.none _
  | refine LeO.ite ?_ ?_
  | refine LeO.bind ?_ (fun _ => ?_)
theorem r05_gather.calls (k : Nat) (A0 : Option Addr) (c0 : Nat) (l0 : List Int) (r1 : Int) (r2 : Int) (w : World) (hr0 : Kd.C (Kd.int .u8) w A0 l0.length l0) (hc0 : l0.length ≤ c0) (h : r05_gather.f k l0 = some (r1, r2)) :
  Calls Try.prog 86 #[.slice A0 l0.length c0] w fun e w' => e = .returned (.tuple #[.int .i64 r1, .int .i64 r2]) ∧ Below w.heap.size w w' := by
 have HR0 := ak_ hr0
 have HC0 := ak_ hc0
 clear hr0 hc0
 have HB := br_ w
 unfold r05_gather.f at h
 have H := h
 clear h
 obtain ⟨t345, A2, H⟩ := bs_ H
 obtain ⟨t348, A3, H⟩ := bs_ H
 have H' := ak_ H
 clear H
 go_enter Try.func86, Try.ntmps86
 go_wp2_with (first | ((with_reducible refine gate_callee (f := 73) rfl ?_); refine goesL_ (some 10) rfl rfl Try.func73 (by kernel_rfl) rfl #[.slice A0 l0.length c0] rfl (by (try simp only [List.map_toArray, List.map_cons, List.map_nil]); first | done | rfl | (simp only [List.length_drop, List.length_take]; rfl)) ?_; (with_reducible refine (r01_List.calls k _ _ l0 t345 _ ?side1 ?side2 A2.out).mono ?_); (case side1 => exact HR0.out); (case side2 => exact HC0.out); rintro e w4 ⟨v346, rfl, ho0, hb⟩; refine ⟨_, rfl, ?_⟩; have HO347 := ak_ (Kd.R_lower ho0 (below_size HB.out)); replace HB := ak_ (below_step HB.out hb); (try clear hb); (try clear ho0); obtain ⟨Ao5, co5, eo5⟩ := Kd.R_slice HO347.out; subst eo5) | ((with_reducible refine gate_callee (f := 93) rfl ?_); refine goesL_ (some 13) rfl rfl Try.func93 (by kernel_rfl) rfl #[.int .i64 (t345.length : Int)] rfl (by (try simp only [List.map_toArray, List.map_cons, List.map_nil]); first | done | rfl | (simp only [List.length_drop, List.length_take]; rfl)) ?_; (with_reducible refine (r05_Places.calls k (t345.length : Int) t348 _ A3.out).mono ?_); rintro e w6 ⟨v349, rfl, ho0, hb⟩; refine ⟨_, rfl, ?_⟩; have HO350 := ak_ (Kd.R_lower (Kd.R_new' ho0 (Kd.R_lt HO347.out)) (below_size HB.out)); replace HO347 := ak_ (Kd.R_elder' HO347.out (Kd.R_base ho0) hb); replace HB := ak_ (below_step HB.out hb); (try clear hb); (try clear ho0)))
 go_loopg [6, 7, 8] k (fun kq v6 v7 v8 w' => ∃ (x6_1 : Int) (x7_1 : Int) (x8_1 : Int), v6 = .int .i64 x6_1 ∧ v7 = .int .i64 x7_1 ∧ v8 = .int .i64 x8_1 ∧ Aside0 (r05_gather.l0 kq t345 t348 x6_1 x7_1 x8_1 = some (r1, r2)) ∧ Aside0 (kq ≤ k) ∧ Aside0 (Kd.R (Kd.int .i64) 3 w' w.heap.size (fun k_ => some k_ ≠ (v349 : Value).ownBlock) (.slice Ao5 t345.length co5) t345) ∧ Aside0 (Kd.R (Kd.int .i64) 3 w' w.heap.size (fun k_ => some k_ ≠ ((.slice Ao5 t345.length co5) : Value).ownBlock) v349 t348) ∧ Aside0 (Below w.heap.size w w'))
 case atStart => exact ⟨(0), (0), (0), (by rfl), (by rfl), (by rfl), H', ⟨Nat.le_refl _⟩, ⟨(Kd.R_mono HO347.out (fun _ hk => hk.2))⟩, ⟨(Kd.R_mono HO350.out (fun _ hk => hk.2))⟩, ⟨HB.out⟩⟩
 case round =>
  clear H'
  obtain ⟨x6_1, x7_1, x8_1, rfl, rfl, rfl, HA, HK1, HO_4, HO_5, HB⟩ := hrel
  cases gk with
  | zero => exact absurd HA.out (by simp [r05_gather.l0])
  | succ k1 =>
   have H := HA.out
   clear HA
   simp only [r05_gather.l0] at H
   by_cases c7 : x8_1 < (t345.length : Int)
   ·rw [if_pos c7] at H
    have c7b0 := dt_ c7
    clear c7
    by_cases c8 : 0 ≤ x8_1
    ·rw [if_pos c8] at H
     have c8b0 := dt_ c8
     clear c8
     by_cases c9 : (rd t345 x8_1) = 1
     ·rw [if_pos c9] at H
      have c9b0 := beq_iff_eq.mpr c9
      have c9b1 := bne_eq_false_iff_eq.mpr c9
      clear c9
      by_cases c10 : x8_1 < (t348.length : Int)
      ·rw [if_pos c10] at H
       have c10b0 := dt_ c10
       clear c10
       obtain ⟨t353, A11, H⟩ := bs_ H
       have H' := ak_ H
       clear H
       have p351 : 0 ≤ (x8_1 : Int) := od_ ‹_›
       have q351 : x8_1 < (t345.length : Int) := od_ ‹_›
       obtain ⟨ad351, e351, hx351_0⟩ := Kd.at_int (Kd.R_reads' HO_4.out).2.2 x8_1 p351 q351
       cases e351
       replace p351 := eq_true p351
       replace q351 := eq_true q351
       obtain ⟨Ao12, co12, eo12⟩ := Kd.R_slice HO_5.out
       subst eo12
       have p352 : 0 ≤ (x8_1 : Int) := od_ ‹_›
       have q352 : x8_1 < (t348.length : Int) := od_ ‹_›
       obtain ⟨ad352, e352, hx352_0⟩ := Kd.at_int (Kd.R_reads' HO_5.out).2.2 x8_1 p352 q352
       cases e352
       replace p352 := eq_true p352
       replace q352 := eq_true q352
       go_wp2_with ((with_reducible refine gate_callee (f := 91) rfl ?_); refine goesL_ (some 30) rfl rfl Try.func91 (by kernel_rfl) rfl #[.int .i64 x6_1, .int .i64 (rd t348 x8_1)] rfl (by (try simp only [List.map_toArray, List.map_cons, List.map_nil]); first | done | rfl | (simp only [List.length_drop, List.length_take]; rfl)) ?_; (with_reducible refine (r05_xor.calls k1 x6_1 (rd t348 x8_1) t353 _ A11.out).mono ?_); rintro e w' ⟨rfl, ⟨nd, rfl⟩⟩; refine ⟨_, rfl, ?_⟩)
       go_roundg k1
       case measure => have := HK1.out; omega
       case rel => exact ⟨(t353), (wrap64 (x7_1 + 1)), (wrap64 (x8_1 + 1)), (by rfl), (by rfl), (by rfl), H', ⟨by have := HK1.out; omega⟩, ⟨by (with_reducible repeat (first | apply Kd.R_alloc | apply Kd.R_drewN | apply Kd.R_drew)); exact HO_4.out⟩, ⟨by (with_reducible repeat (first | apply Kd.R_alloc | apply Kd.R_drewN | apply Kd.R_drew)); exact HO_5.out⟩, ⟨by repeat (first | (with_reducible first | exact HB.out | apply below_alloc | apply pw_below_drewN | apply below_drew1) | exact HB.out)⟩⟩
      ·rw [if_neg c10] at H
       exact absurd H (by simp)
     ·rw [if_neg c9] at H
      have c9b0 := beq_eq_false_iff_ne.mpr c9
      have c9b1 := bne_iff_ne.mpr c9
      have H' := ak_ H
      clear H
      have p351 : 0 ≤ (x8_1 : Int) := od_ ‹_›
      have q351 : x8_1 < (t345.length : Int) := od_ ‹_›
      obtain ⟨ad351, e351, hx351_0⟩ := Kd.at_int (Kd.R_reads' HO_4.out).2.2 x8_1 p351 q351
      cases e351
      replace p351 := eq_true p351
      replace q351 := eq_true q351
      go_wp2
      go_roundg k1
      case measure => have := HK1.out; omega
      case rel => exact ⟨(x6_1), (x7_1), (wrap64 (x8_1 + 1)), (by rfl), (by rfl), (by rfl), H', ⟨by have := HK1.out; omega⟩, ⟨HO_4.out⟩, ⟨HO_5.out⟩, ⟨HB.out⟩⟩
    ·rw [if_neg c8] at H
     exact absurd H (by simp)
   ·rw [if_neg c7] at H
    have c7b0 := df_ c7
    clear c7
    simp only [Option.some.injEq, Prod.mk.injEq] at H
    obtain ⟨rfl, rfl⟩ := H
    go_wp2
    go_ret2
    exact ⟨by rfl, HB.out⟩
def r05_ones.l0 : Nat → Int → Int → Option (Int)
 | 0, _, _ => none
 | k + 1, x0, x3 => if x0 > 0 then (r05_ones.l0 k (wrap64 (Int.tdiv x0 2)) (wrap64 (x3 + (Int.tmod x0 2)))) else (some x3)
def r05_ones.f (k : Nat) (a0 : Int) : Option (Int) := r05_ones.l0 k a0 0
theorem r05_ones.mono_l : ∀ k, (∀ y0 y1, LeO (r05_ones.l0 k y0 y1) (r05_ones.l0 (k + 1) y0 y1))
 | 0 => fun _ _ r h => by simp [r05_ones.l0] at h
 | k + 1 => by
  have ih0 := r05_ones.mono_l k
  ·intro y0 y1
   unfold r05_ones.l0
   repeat' first
   | (with_reducible exact ih0 _ _)
   | (with_reducible exact LeO.refl _)
   | (with_reducible exact LeO.none _)
   | (with_reducible refine LeO.ite ?_ ?_)
   | (with_reducible refine LeO.bind ?_ (fun _ => ?_))
theorem r05_ones.mono : ∀ a0 k, LeO (r05_ones.f k a0) (r05_ones.f (k + 1) a0) := by
 intro a0 k
 have ih0 := r05_ones.mono_l k
 unfold r05_ones.f
 repeat' with_reducible first
  | exact ih0 _ _
  | exact LeO.refl _
  | exact LeO.none _
  | refine LeO.ite ?_ ?_
  | refine LeO.bind ?_ (fun _ => ?_)
theorem r05_ones.calls (k : Nat) (a0 : Int) (r : Int) (w : World) (h : r05_ones.f k a0 = some r) :
  Calls Try.prog 87 #[.int .i64 a0] w fun e w' => e = .returned (.int .i64 r) ∧ Drawn0 w w' := by
 unfold r05_ones.f at h
 have H := h
 clear h
 have H' := ak_ H
 clear H
 go_enter Try.func87, Try.ntmps87
 go_wp2
 go_loopg [0, 3] k (fun kq v0 v3 w' => ∃ (x0_1 : Int) (x3_1 : Int), v0 = .int .i64 x0_1 ∧ v3 = .int .i64 x3_1 ∧ Aside0 (r05_ones.l0 kq x0_1 x3_1 = some r) ∧ Aside0 (kq ≤ k) ∧ Drawn0 w w')
 case atStart => exact ⟨(a0), (0), (by rfl), (by rfl), H', ⟨Nat.le_refl _⟩, by repeat (first | exact Drawn0.refl _ | apply Drawn0.step)⟩
 case round =>
  clear H'
  obtain ⟨x0_1, x3_1, rfl, rfl, HA, HK1, ⟨m1, rfl⟩⟩ := hrel
  cases gk with
  | zero => exact absurd HA.out (by simp [r05_ones.l0])
  | succ k1 =>
   have H := HA.out
   clear HA
   simp only [r05_ones.l0] at H
   by_cases c2 : x0_1 > 0
   ·rw [if_pos c2] at H
    have c2b0 : decide (0 < x0_1) = true := dt_ c2
    clear c2
    have H' := ak_ H
    clear H
    go_wp2
    go_roundg k1
    case measure => have := HK1.out; omega
    case rel => exact ⟨(wrap64 (Int.tdiv x0_1 2)), (wrap64 (x3_1 + (Int.tmod x0_1 2))), (by rfl), (by rfl), H', ⟨by have := HK1.out; omega⟩, by repeat (first | exact Drawn0.refl _ | apply Drawn0.step)⟩
   ·rw [if_neg c2] at H
    have c2b0 : decide (0 < x0_1) = false := df_ c2
    clear c2
    obtain rfl := si_ H
    go_wp2
    go_ret
    exact ⟨by rfl, by repeat (first | exact Drawn0.refl _ | apply Drawn0.step)⟩
mutual
def r05_Judge.j0 : Nat → List Int → Int → Bool → Bool → Option (Int × Int)
 | 0, _, _, _, _ => none
 | k + 1, x0, x8, x9, x33 => if x33 = true then (some (0, 0)) else (if x9 = true then (if x8 = 0 then (r05_Judge.j1 k x0 x8 true) else ((r05_Power.f k x8).bind fun t361 => (r05_Judge.j1 k x0 x8 t361))) else (some (3, 0)))
def r05_Judge.j1 : Nat → List Int → Int → Bool → Option (Int × Int)
 | 0, _, _, _ => none
 | k + 1, x0, x8, x41 => if x41 = true then (some (2, 0)) else ((r05_Places.f k (wrap64 (8 * (x0.length : Int)))).bind fun t362 => (r05_Judge.l0 k x8 t362 0))
def r05_Judge.l0 : Nat → Int → List Int → Int → Option (Int × Int)
 | 0, _, _, _ => none
 | k + 1, x8, x10, x11 => if x11 < (x10.length : Int) then (if 0 ≤ x11 then (if (rd x10 x11) = x8 then (some (1, x11)) else (r05_Judge.l0 k x8 x10 (wrap64 (x11 + 1)))) else (none)) else (some (3, 0))
end
def r05_Judge.f (k : Nat) (l0 : List Int) (a1 : Int) : Option (Int × Int) := (r05_gather.f k l0).bind fun bt357 => ((r05_xor.f k bt357.1 (Int.tmod a1 8192)).bind fun t359 => ((r05_ones.f k (Int.tmod a1 16384)).bind fun t360 => (if ((Int.tmod (wrap64 (bt357.2 + t360)) 2) = 1) then (r05_Judge.j0 k l0 t359 ((Int.tmod (wrap64 (bt357.2 + t360)) 2) == 1) false) else (r05_Judge.j0 k l0 t359 ((Int.tmod (wrap64 (bt357.2 + t360)) 2) == 1) (t359 == 0)))))
theorem r05_Judge.mono_l : ∀ k, (∀ y0 y1 y2 y3, LeO (r05_Judge.j0 k y0 y1 y2 y3) (r05_Judge.j0 (k + 1) y0 y1 y2 y3)) ∧ (∀ y0 y1 y2, LeO (r05_Judge.j1 k y0 y1 y2) (r05_Judge.j1 (k + 1) y0 y1 y2)) ∧ (∀ y0 y1 y2, LeO (r05_Judge.l0 k y0 y1 y2) (r05_Judge.l0 (k + 1) y0 y1 y2))
 | 0 => ⟨fun _ _ _ _ r h => by simp [r05_Judge.j0] at h, fun _ _ _ r h => by simp [r05_Judge.j1] at h, fun _ _ _ r h => by simp [r05_Judge.l0] at h⟩
 | k + 1 => by
  obtain ⟨ih0, ih1, ih2⟩ := r05_Judge.mono_l k
  refine ⟨?_, ?_, ?_⟩
  ·intro y0 y1 y2 y3
   unfold r05_Judge.j0
   repeat' first
   | (with_reducible exact ih0 _ _ _ _)
   | (with_reducible exact ih1 _ _ _)
   | (with_reducible exact ih2 _ _ _)
   | (with_reducible exact r05_Places.mono _ _)
   | (with_reducible exact r05_Power.mono _ _)
   | (with_reducible exact r05_gather.mono _ _)
   | (with_reducible exact r05_ones.mono _ _)
   | (with_reducible exact r05_xor.mono _ _ _)
   | (with_reducible exact LeO.refl _)
   | (with_reducible exact LeO.none _)
   | (with_reducible refine LeO.ite ?_ ?_)
   | (with_reducible refine LeO.bind ?_ (fun _ => ?_))
  ·intro y0 y1 y2
   unfold r05_Judge.j1
   repeat' first
   | (with_reducible exact ih0 _ _ _ _)
   | (with_reducible exact ih1 _ _ _)
   | (with_reducible exact ih2 _ _ _)
   | (with_reducible exact r05_Places.mono _ _)
   | (with_reducible exact r05_Power.mono _ _)
   | (with_reducible exact r05_gather.mono _ _)
   | (with_reducible exact r05_ones.mono _ _)
   | (with_reducible exact r05_xor.mono _ _ _)
   | (with_reducible exact LeO.refl _)
   | (with_reducible exact LeO.none _)
   | (with_reducible refine LeO.ite ?_ ?_)
   | (with_reducible refine LeO.bind ?_ (fun _ => ?_))
  ·intro y0 y1 y2
   unfold r05_Judge.l0
   repeat' first
   | (with_reducible exact ih0 _ _ _ _)
   | (with_reducible exact ih1 _ _ _)
   | (with_reducible exact ih2 _ _ _)
   | (with_reducible exact r05_Places.mono _ _)
   | (with_reducible exact r05_Power.mono _ _)
   | (with_reducible exact r05_gather.mono _ _)
   | (with_reducible exact r05_ones.mono _ _)
   | (with_reducible exact r05_xor.mono _ _ _)
   | (with_reducible exact LeO.refl _)
   | (with_reducible exact LeO.none _)
   | (with_reducible refine LeO.ite ?_ ?_)
   | (with_reducible refine LeO.bind ?_ (fun _ => ?_))
theorem r05_Judge.mono : ∀ a0 a1 k, LeO (r05_Judge.f k a0 a1) (r05_Judge.f (k + 1) a0 a1) := by
 intro a0 a1 k
 obtain ⟨ih0, ih1, ih2⟩ := r05_Judge.mono_l k
 unfold r05_Judge.f
 repeat' with_reducible first
  | exact ih0 _ _ _ _
  | exact ih1 _ _ _
  | exact ih2 _ _ _
  | exact r05_Places.mono _ _
  | exact r05_Power.mono _ _
  | exact r05_gather.mono _ _
  | exact r05_ones.mono _ _
  | exact r05_xor.mono _ _ _
  | exact LeO.refl _
  | exact LeO.none _
  | refine LeO.ite ?_ ?_
  | refine LeO.bind ?_ (fun _ => ?_)
theorem r05_Judge.calls (k : Nat) (A0 : Option Addr) (c0 : Nat) (l0 : List Int) (a1 : Int) (r1 : Int) (r2 : Int) (w : World) (hr0 : Kd.C (Kd.int .u8) w A0 l0.length l0) (hc0 : l0.length ≤ c0) (h : r05_Judge.f k l0 a1 = some (r1, r2)) :
  Calls Try.prog 74 #[.slice A0 l0.length c0, .int .i64 a1] w fun e w' => e = .returned (.tuple #[.int .i64 r1, .int .i64 r2]) ∧ Below w.heap.size w w' := by
 have HR0 := ak_ hr0
 have HC0 := ak_ hc0
 clear hr0 hc0
 have HB := br_ w
 unfold r05_Judge.f at h
 have H := h
 clear h
 obtain ⟨⟨t262, t263⟩, A3, H⟩ := bs_ H
 try dsimp only at H
 obtain ⟨t264, A4, H⟩ := bs_ H
 obtain ⟨t265, A5, H⟩ := bs_ H
 have HC6 := ak_ H
 clear H
 go_enter Try.func74, Try.ntmps74
 go_upto_region 4 with (first | ((with_reducible refine gate_callee (f := 86) rfl ?_); refine goesL_ (some 14) rfl rfl Try.func86 (by kernel_rfl) rfl #[.slice A0 l0.length c0] rfl (by (try simp only [List.map_toArray, List.map_cons, List.map_nil]); first | done | rfl | (simp only [List.length_drop, List.length_take]; rfl)) ?_; (with_reducible refine (r05_gather.calls k _ _ l0 t262 t263 _ ?side1 ?side2 A3.out).mono ?_); (case side1 => exact HR0.out); (case side2 => exact HC0.out); rintro e w7 ⟨rfl, hb⟩; refine ⟨_, rfl, ?_⟩; replace HB := ak_ (below_step HB.out hb); (try clear hb)) | ((with_reducible refine gate_callee (f := 91) rfl ?_); refine goesL_ (some 20) rfl rfl Try.func91 (by kernel_rfl) rfl #[.int .i64 t262, .int .i64 (Int.tmod a1 8192)] rfl (by (try simp only [List.map_toArray, List.map_cons, List.map_nil]); first | done | rfl | (simp only [List.length_drop, List.length_take]; rfl)) ?_; (with_reducible refine (r05_xor.calls k t262 (Int.tmod a1 8192) t264 _ A4.out).mono ?_); rintro e w' ⟨rfl, ⟨nd, rfl⟩⟩; refine ⟨_, rfl, ?_⟩) | ((with_reducible refine gate_callee (f := 87) rfl ?_); refine goesL_ (some 24) rfl rfl Try.func87 (by kernel_rfl) rfl #[.int .i64 (Int.tmod a1 16384)] rfl (by (try simp only [List.map_toArray, List.map_cons, List.map_nil]); first | done | rfl | (simp only [List.length_drop, List.length_take]; rfl)) ?_; (with_reducible refine (r05_ones.calls k (Int.tmod a1 16384) t265 _ A5.out).mono ?_); rintro e w' ⟨rfl, ⟨nd, rfl⟩⟩; refine ⟨_, rfl, ?_⟩))
 go_cut [9, 33] (fun v9 v33 wc => ∃ (kq : Nat) (x9_c : Bool) (x33_5 : Bool), v9 = .bool x9_c ∧ v33 = .bool x33_5 ∧ Aside0 (r05_Judge.j0 kq l0 t264 x9_c x33_5 = some (r1, r2)) ∧ Aside0 (kq ≤ k) ∧ Aside0 (Below w.heap.size w wc))
 case first =>
  have H := HC6.out
  clear HC6
  by_cases c8 : ((Int.tmod (wrap64 (t263 + t265)) 2) = 1)
  ·rw [if_pos c8] at H
   have c8b0 : ((Int.tmod (wrap64 (t263 + t265)) 2) == 1) = true := beq_iff_eq.mpr c8
   have c8b1 : ((Int.tmod (wrap64 (t263 + t265)) 2) != 1) = false := bne_eq_false_iff_eq.mpr c8
   clear c8
   (rw [c8b0])
   (try rw [c8b0] at H)
   have H' := ak_ H
   clear H
   go_wp2
   go_meet
   case rel => exact ⟨_, _, (false), rfl, (by rfl), H', ⟨by omega⟩, ⟨by repeat (first | (with_reducible first | exact HB.out | apply below_alloc | apply pw_below_drewN | apply below_drew1) | exact HB.out)⟩⟩
  ·rw [if_neg c8] at H
   have c8b0 : ((Int.tmod (wrap64 (t263 + t265)) 2) == 1) = false := beq_eq_false_iff_ne.mpr c8
   have c8b1 : ((Int.tmod (wrap64 (t263 + t265)) 2) != 1) = true := bne_iff_ne.mpr c8
   (rw [c8b0])
   (try rw [c8b0] at H)
   have H' := ak_ H
   clear H
   go_wp2
   go_meet
   case rel => exact ⟨_, _, ((t264 == 0)), rfl, (by rfl), H', ⟨by omega⟩, ⟨by repeat (first | (with_reducible first | exact HB.out | apply below_alloc | apply pw_below_drewN | apply below_drew1) | exact HB.out)⟩⟩
 case rest =>
  clear HC6
  obtain ⟨kq, x9_c, x33_5, rfl, rfl, HA, HJ5, HB⟩ := hcut
  cases kq with
  | zero => exact absurd HA.out (by simp [r05_Judge.j0])
  | succ kj5 =>
   have H := HA.out
   clear HA
   simp only [r05_Judge.j0] at H
   by_cases c9 : x33_5 = true
   ·subst c9
    rw [if_pos rfl] at H
    simp only [Option.some.injEq, Prod.mk.injEq] at H
    obtain ⟨rfl, rfl⟩ := H
    go_wp2
    go_ret2
    exact ⟨by rfl, HB.out⟩
   ·replace c9 := Bool.eq_false_iff.mpr c9
    subst c9
    rw [if_neg (show ¬ (false = true) by decide)] at H
    by_cases c10 : x9_c = true
    ·rw [if_pos c10] at H
     subst c10
     have HC11 := ak_ H
     clear H
     go_upto_region 8 with (fail)
     go_cut [41] (fun v41 wc => ∃ (kq : Nat) (x41_10 : Bool), v41 = .bool x41_10 ∧ Aside0 (r05_Judge.j1 kq l0 t264 x41_10 = some (r1, r2)) ∧ Aside0 (kq ≤ kj5) ∧ Aside0 (Below w.heap.size w wc))
     case first =>
      have H := HC11.out
      clear HC11
      by_cases c12 : t264 = 0
      ·rw [if_pos c12] at H
       have c12b0 := beq_iff_eq.mpr c12
       have c12b1 := bne_eq_false_iff_eq.mpr c12
       clear c12
       (first | rw [c12b0] | (simp only [i64_w, i32_w]; rw [c12b0]) | skip)
       have H' := ak_ H
       clear H
       go_wp2
       go_meet
       case rel => exact ⟨_, (true), (by rfl), H', ⟨by have := HJ5.out; omega⟩, ⟨HB.out⟩⟩
      ·rw [if_neg c12] at H
       have c12b0 := beq_eq_false_iff_ne.mpr c12
       have c12b1 := bne_iff_ne.mpr c12
       (first | rw [c12b0] | (simp only [i64_w, i32_w]; rw [c12b0]) | skip)
       obtain ⟨t266, A13, H⟩ := bs_ H
       have H' := ak_ H
       clear H
       go_wp2_with (go_at_call 92; (with_reducible refine (r05_Power.calls kj5 t264 t266 _ A13.out).mono ?_); rintro e w' ⟨rfl, ⟨nd, rfl⟩⟩)
       go_meet
       case rel => exact ⟨_, (t266), (by rfl), H', ⟨by have := HJ5.out; omega⟩, ⟨by repeat (first | (with_reducible first | exact HB.out | apply below_alloc | apply pw_below_drewN | apply below_drew1) | exact HB.out)⟩⟩
     case rest =>
      clear HC11
      obtain ⟨kq, x41_10, rfl, HA, HJ10, HB⟩ := hcut
      cases kq with
      | zero => exact absurd HA.out (by simp [r05_Judge.j1])
      | succ kj10 =>
       have H := HA.out
       clear HA
       simp only [r05_Judge.j1] at H
       by_cases c14 : x41_10 = true
       ·subst c14
        rw [if_pos rfl] at H
        simp only [Option.some.injEq, Prod.mk.injEq] at H
        obtain ⟨rfl, rfl⟩ := H
        go_wp2
        go_ret2
        exact ⟨by rfl, HB.out⟩
       ·replace c14 := Bool.eq_false_iff.mpr c14
        subst c14
        rw [if_neg (show ¬ (false = true) by decide)] at H
        obtain ⟨t267, A15, H⟩ := bs_ H
        have H' := ak_ H
        clear H
        go_wp2_with ((with_reducible refine gate_callee (f := 93) rfl ?_); refine goesL_ (some 45) rfl rfl Try.func93 (by kernel_rfl) rfl #[.int .i64 (wrap64 (8 * (l0.length : Int)))] rfl (by (try simp only [List.map_toArray, List.map_cons, List.map_nil]); first | done | rfl | (simp only [List.length_drop, List.length_take]; rfl)) ?_; (with_reducible refine (r05_Places.calls kj10 (wrap64 (8 * (l0.length : Int))) t267 _ A15.out).mono ?_); rintro e w16 ⟨v268, rfl, ho0, hb⟩; refine ⟨_, rfl, ?_⟩; have HO269 := ak_ (Kd.R_lower ho0 (below_size HB.out)); replace HB := ak_ (below_step HB.out hb); (try clear hb); (try clear ho0))
        go_loopg [11] kj10 (fun kq v11 w' => ∃ (x11_3 : Int), v11 = .int .i64 x11_3 ∧ Aside0 (r05_Judge.l0 kq t264 t267 x11_3 = some (r1, r2)) ∧ Aside0 (kq ≤ kj10) ∧ Aside0 (Kd.R (Kd.int .i64) 3 w' w.heap.size (fun _ => True) v268 t267) ∧ Aside0 (Below w.heap.size w w'))
        case atStart => exact ⟨(0), (by rfl), H', ⟨Nat.le_refl _⟩, ⟨HO269.out⟩, ⟨HB.out⟩⟩
        case round =>
         clear H'
         obtain ⟨x11_3, rfl, HA, HK3, HO_10, HB⟩ := hrel
         cases gk with
         | zero => exact absurd HA.out (by simp [r05_Judge.l0])
         | succ k3 =>
          have H := HA.out
          clear HA
          simp only [r05_Judge.l0] at H
          by_cases c17 : x11_3 < (t267.length : Int)
          ·rw [if_pos c17] at H
           have c17b0 := dt_ c17
           clear c17
           by_cases c18 : 0 ≤ x11_3
           ·rw [if_pos c18] at H
            have c18b0 := dt_ c18
            clear c18
            by_cases c19 : (rd t267 x11_3) = t264
            ·rw [if_pos c19] at H
             have c19b0 := beq_iff_eq.mpr c19
             have c19b1 := bne_eq_false_iff_eq.mpr c19
             clear c19
             simp only [Option.some.injEq, Prod.mk.injEq] at H
             obtain ⟨rfl, rfl⟩ := H
             obtain ⟨Ao20, co20, eo20⟩ := Kd.R_slice HO_10.out
             subst eo20
             have p270 : 0 ≤ (x11_3 : Int) := od_ ‹_›
             have q270 : x11_3 < (t267.length : Int) := od_ ‹_›
             obtain ⟨ad270, e270, hx270_0⟩ := Kd.at_int (Kd.R_reads' HO_10.out).2.2 x11_3 p270 q270
             cases e270
             replace p270 := eq_true p270
             replace q270 := eq_true q270
             go_wp2
             go_ret2
             exact ⟨by rfl, HB.out⟩
            ·rw [if_neg c19] at H
             have c19b0 := beq_eq_false_iff_ne.mpr c19
             have c19b1 := bne_iff_ne.mpr c19
             have H' := ak_ H
             clear H
             obtain ⟨Ao21, co21, eo21⟩ := Kd.R_slice HO_10.out
             subst eo21
             have p270 : 0 ≤ (x11_3 : Int) := od_ ‹_›
             have q270 : x11_3 < (t267.length : Int) := od_ ‹_›
             obtain ⟨ad270, e270, hx270_0⟩ := Kd.at_int (Kd.R_reads' HO_10.out).2.2 x11_3 p270 q270
             cases e270
             replace p270 := eq_true p270
             replace q270 := eq_true q270
             go_wp2
             go_roundg k3
             case measure => have := HJ5.out; have := HJ10.out; have := HK3.out; omega
             case rel => exact ⟨(wrap64 (x11_3 + 1)), (by rfl), H', ⟨by have := HJ5.out; have := HJ10.out; have := HK3.out; omega⟩, ⟨HO_10.out⟩, ⟨HB.out⟩⟩
           ·rw [if_neg c18] at H
            exact absurd H (by simp)
          ·rw [if_neg c17] at H
           have c17b0 := df_ c17
           clear c17
           simp only [Option.some.injEq, Prod.mk.injEq] at H
           obtain ⟨rfl, rfl⟩ := H
           obtain ⟨Ao22, co22, eo22⟩ := Kd.R_slice HO_10.out
           subst eo22
           go_wp2
           go_ret2
           exact ⟨by rfl, HB.out⟩
    ·rw [if_neg c10] at H
     replace c10 := Bool.eq_false_iff.mpr c10; subst c10
     simp only [Option.some.injEq, Prod.mk.injEq] at H
     obtain ⟨rfl, rfl⟩ := H
     go_wp2
     go_ret2
     exact ⟨by rfl, HB.out⟩
mutual
def r01_Of.l0 : Nat → List Int → List Int → Int → Option (List Int)
 | 0, _, _, _ => none
 | k + 1, x0, x3, x4 => if (wrap64 (x4 + 8)) ≤ (x0.length : Int) then (r01_Of.l1 k x0 x3 x4 0 7) else (some x3)
def r01_Of.l1 : Nat → List Int → List Int → Int → Int → Int → Option (List Int)
 | 0, _, _, _, _, _ => none
 | k + 1, x0, x3, x4, x5, x6 => if x6 ≥ 0 then (if 0 ≤ (wrap64 (x4 + x6)) then (if (wrap64 (x4 + x6)) < (x0.length : Int) then (r01_Of.l1 k x0 x3 x4 (wrap64 ((wrap64 (2 * x5)) + (rd x0 (wrap64 (x4 + x6))))) (wrap64 (x6 - 1))) else (none)) else (none)) else (if x3.length < 140737488355328 then (r01_Of.l0 k x0 (x3 ++ [(x5) % 256]) (wrap64 (x4 + 8))) else (none))
end
def r01_Of.f (k : Nat) (l0 : List Int) : Option (List Int) := r01_Of.l0 k l0 ([] : List Int) 0
theorem r01_Of.mono_l : ∀ k, (∀ y0 y1 y2, LeO (r01_Of.l0 k y0 y1 y2) (r01_Of.l0 (k + 1) y0 y1 y2)) ∧ (∀ y0 y1 y2 y3 y4, LeO (r01_Of.l1 k y0 y1 y2 y3 y4) (r01_Of.l1 (k + 1) y0 y1 y2 y3 y4))
 | 0 => ⟨fun _ _ _ r h => by simp [r01_Of.l0] at h, fun _ _ _ _ _ r h => by simp [r01_Of.l1] at h⟩
 | k + 1 => by
  obtain ⟨ih0, ih1⟩ := r01_Of.mono_l k
  refine ⟨?_, ?_⟩
  ·intro y0 y1 y2
   unfold r01_Of.l0
   repeat' first
   | (with_reducible exact ih0 _ _ _)
   | (with_reducible exact ih1 _ _ _ _ _)
   | (with_reducible exact LeO.refl _)
   | (with_reducible exact LeO.none _)
   | (with_reducible refine LeO.ite ?_ ?_)
   | (with_reducible refine LeO.bind ?_ (fun _ => ?_))
  ·intro y0 y1 y2 y3 y4
   unfold r01_Of.l1
   repeat' first
   | (with_reducible exact ih0 _ _ _)
   | (with_reducible exact ih1 _ _ _ _ _)
   | (with_reducible exact LeO.refl _)
   | (with_reducible exact LeO.none _)
   | (with_reducible refine LeO.ite ?_ ?_)
   | (with_reducible refine LeO.bind ?_ (fun _ => ?_))
theorem r01_Of.mono : ∀ a0 k, LeO (r01_Of.f k a0) (r01_Of.f (k + 1) a0) := by
 intro a0 k
 obtain ⟨ih0, ih1⟩ := r01_Of.mono_l k
 unfold r01_Of.f
 repeat' with_reducible first
  | exact ih0 _ _ _
  | exact ih1 _ _ _ _ _
  | exact LeO.refl _
  | exact LeO.none _
  | refine LeO.ite ?_ ?_
  | refine LeO.bind ?_ (fun _ => ?_)
theorem r01_Of.calls (k : Nat) (A0 : Option Addr) (c0 : Nat) (l0 : List Int) (r : List Int) (w : World) (hr0 : Kd.C (Kd.int .i64) w A0 l0.length l0) (hc0 : l0.length ≤ c0) (h : r01_Of.f k l0 = some r) :
  Calls Try.prog 94 #[.slice A0 l0.length c0] w fun e w' => ∃ v0_ : Value, e = .returned (v0_) ∧ Kd.R (Kd.int .u8) 5 w' w.heap.size (fun _ => True) v0_ r ∧ Below w.heap.size w w' := by
 have HR0 := ak_ hr0
 have HC0 := ak_ hc0
 clear hr0 hc0
 have HB := br_ w
 unfold r01_Of.f at h
 have H := h
 clear h
 have H' := ak_ H
 clear H
 go_enter Try.func94, Try.ntmps94
 go_wp2
 go_loopg [3, 4] k (fun kq v3 v4 w' => ∃ (x3_1 : List Int) (x4_1 : Int), v4 = .int .i64 x4_1 ∧ Aside0 (r01_Of.l0 kq l0 x3_1 x4_1 = some r) ∧ Aside0 (kq ≤ k) ∧ Aside0 (Kd.R (Kd.int .u8) 5 w' w.heap.size (fun _ => True) v3 x3_1) ∧ Aside0 (Below w.heap.size w w'))
 case atStart => exact ⟨(([] : List Int)), (0), (by rfl), H', ⟨Nat.le_refl _⟩, ⟨(Kd.R_nil _ _ _ _ _)⟩, ⟨HB.out⟩⟩
 case round =>
  clear H'
  obtain ⟨x3_1, x4_1, rfl, HA, HK1, HO_3, HB⟩ := hrel
  cases gk with
  | zero => exact absurd HA.out (by simp [r01_Of.l0])
  | succ k1 =>
   have H := HA.out
   clear HA
   simp only [r01_Of.l0] at H
   by_cases c2 : (wrap64 (x4_1 + 8)) ≤ (l0.length : Int)
   ·rw [if_pos c2] at H
    have c2b0 := dt_ c2
    clear c2
    have H' := ak_ H
    clear H
    go_wp2
    go_loopg [5, 6] k1 (fun kq v5 v6 w' => ∃ (x5_2 : Int) (x6_2 : Int), v5 = .int .i64 x5_2 ∧ v6 = .int .i64 x6_2 ∧ Aside0 (r01_Of.l1 kq l0 x3_1 x4_1 x5_2 x6_2 = some r) ∧ Aside0 (kq ≤ k1) ∧ Aside0 (Kd.R (Kd.int .u8) 5 w' w.heap.size (fun _ => True) u3 x3_1) ∧ Aside0 (Below w.heap.size w w'))
    case atStart => exact ⟨(0), (7), (by rfl), (by rfl), H', ⟨Nat.le_refl _⟩, ⟨HO_3.out⟩, ⟨HB.out⟩⟩
    case round =>
     clear H'
     clear c2b0
     obtain ⟨x5_2, x6_2, rfl, rfl, HA, HK2, HO_3, HB⟩ := hrel
     cases gk with
     | zero => exact absurd HA.out (by simp [r01_Of.l1])
     | succ k2 =>
      have H := HA.out
      clear HA
      simp only [r01_Of.l1] at H
      by_cases c3 : x6_2 ≥ 0
      ·rw [if_pos c3] at H
       have c3b0 : decide (0 ≤ x6_2) = true := dt_ c3
       clear c3
       obtain ⟨ji4, hji4⟩ : ∃ j_ : Int, (wrap64 (x4_1 + x6_2)) = j_ := ⟨_, rfl⟩
       replace H : (if 0 ≤ (ji4) then (if (ji4) < (l0.length : Int) then (r01_Of.l1 k2 l0 x3_1 x4_1 (wrap64 ((wrap64 (2 * x5_2)) + (rd l0 (ji4)))) (wrap64 (x6_2 - 1))) else (none)) else (none)) = some r := (by rw [hji4] at H; exact H)
       have hji4w : (IntKind.i64.wrap (x4_1 + x6_2)) = ji4 := (i64_w _).trans hji4
       by_cases c5 : 0 ≤ (ji4)
       ·rw [if_pos c5] at H
        have c5b0 := dt_ c5
        clear c5
        by_cases c6 : (ji4) < (l0.length : Int)
        ·rw [if_pos c6] at H
         have c6b0 := dt_ c6
         clear c6
         have H' := ak_ H
         clear H
         have p271 : 0 ≤ ((ji4) : Int) := od_ ‹_›
         have q271 : (ji4) < (l0.length : Int) := od_ ‹_›
         obtain ⟨ad271, e271, hx271_0⟩ := Kd.at_int HR0.out (ji4) p271 q271
         cases e271
         replace hx271_0 := (HB.out.cell (World.block_lt_of_cell? w _ hx271_0)).trans hx271_0
         replace p271 := eq_true p271
         replace q271 := eq_true q271
         go_wp2
         go_roundg k2
         case measure => have := HK1.out; have := HK2.out; omega
         case rel => exact ⟨(wrap64 ((wrap64 (2 * x5_2)) + (rd l0 (ji4)))), (wrap64 (x6_2 - 1)), (by rfl), (by rfl), H', ⟨by have := HK1.out; have := HK2.out; omega⟩, ⟨HO_3.out⟩, ⟨HB.out⟩⟩
        ·rw [if_neg c6] at H
         exact absurd H (by simp)
       ·rw [if_neg c5] at H
        exact absurd H (by simp)
      ·rw [if_neg c3] at H
       have c3b0 : decide (0 ≤ x6_2) = false := df_ c3
       clear c3
       by_cases c7 : x3_1.length < 140737488355328
       ·rw [if_pos c7] at H
        have LMc7 := ak_ c7
        clear c7
        obtain ⟨y272, hy272⟩ : ∃ y_ : List Int, y_ = (x3_1 ++ [(x5_2) % 256]) := ⟨_, rfl⟩
        replace H : (r01_Of.l0 k2 l0 y272 (wrap64 (x4_1 + 8))) = some r := (by rw [hy272]; with_reducible exact H)
        have Ny272 := ak_ hy272
        clear hy272
        have H' := ak_ H
        clear H
        go_wp2_with ((with_reducible refine gate_builtin (b := .append) (xs := #[.tmp 27, .tmp 30]) rfl ?_); at_builtin; refine Kd.R_append (Kd.int .u8) (w0 := w) w.heap.size rfl (.tmp 27) (.tmp 30) 24 5 (.int .u8 0) 1 rfl Try.underlying24 info5 rfl (by decide) (by omega) u3 x3_1 ((x5_2) % 256) [.int .u8 ((x5_2) % 256)] (fun _ => True) (fun _ => False) rfl rfl ?aP (fun _ hk => hk.elim) ?aF ?aO ?aB ?aS ?aL ?_; (case aP => exact rfl); (case aB => exact HB.out); (case aF => exact (fun _ _ => trivial)); (case aO => exact HO_3.out); (case aS => exact (below_size HB.out)); (case aL => have := LMc7.out; omega); intro v273 w8 ho hb hg hat; rw [← Ny272.out] at ho; have n0_ := ak_ (hb); have n1_ := ak_ (ho); clear HB; clear HO_3; have HB := n0_; have HO274 := n1_; clear n0_ n1_; clear ho hb hg hat)
        go_roundg k2
        case measure => have := HK1.out; have := HK2.out; omega
        case rel => exact ⟨(y272), (wrap64 (x4_1 + 8)), (by rfl), H', ⟨by have := HK1.out; have := HK2.out; omega⟩, ⟨HO274.out⟩, ⟨HB.out⟩⟩
       ·rw [if_neg c7] at H
        exact absurd H (by simp)
   ·rw [if_neg c2] at H
    have c2b0 := df_ c2
    clear c2
    obtain rfl := si_ H
    go_wp2
    go_ret
    exact ⟨_, by rfl, by (with_reducible repeat (first | apply Kd.R_alloc | apply Kd.R_drewN | apply Kd.R_drew)); exact HO_3.out, HB.out⟩
end Go.Proofs.Ytmehbabchakkpaa.QLadderWalks
namespace Go.Proofs.Ytmehbabchakkpaa.QLadderWalks
open Go.RowKit YtmehbabchakkpaaW.PrintWords YtmehbabchakkpaaW.PrintLast YtmehbabchakkpaaW.PrintMore Short
attribute [local go_sem] max2_int min2_int max_two min_two max_three min_three max_four min_four
set_option linter.unusedVariables false
set_option maxHeartbeats 8000000
set_option maxRecDepth 100000
set_option linter.unusedSimpArgs false
def r01_Flip.l0 : Nat → List Int → List Int → Int → Option (List Int)
 | 0, _, _, _ => none
 | k + 1, x1, x5, x6 => if x6 < (x1.length : Int) then (if 0 ≤ x6 then (if (rd x1 x6) ≥ 0 then (if (rd x1 x6) < (x5.length : Int) then (if 0 ≤ (rd x1 x6) then (r01_Flip.l0 k x1 (x5.set ((rd x1 x6) : Int).toNat (wrap64 (1 - (rd x5 (rd x1 x6))))) (wrap64 (x6 + 1))) else (none)) else (r01_Flip.l0 k x1 x5 (wrap64 (x6 + 1)))) else (r01_Flip.l0 k x1 x5 (wrap64 (x6 + 1)))) else (none)) else ((r01_Of.f k x5).bind fun t379 => (some t379))
def r01_Flip.f (k : Nat) (l0 : List Int) (l1 : List Int) : Option (List Int) := (r01_List.f k l0).bind fun t370 => (r01_Flip.l0 k l1 t370 0)
theorem r01_Flip.mono_l : ∀ k, (∀ y0 y1 y2, LeO (r01_Flip.l0 k y0 y1 y2) (r01_Flip.l0 (k + 1) y0 y1 y2))
 | 0 => fun _ _ _ r h => by simp [r01_Flip.l0] at h
 | k + 1 => by
  have ih0 := r01_Flip.mono_l k
  ·intro y0 y1 y2
   unfold r01_Flip.l0
   repeat' first
   | (with_reducible exact ih0 _ _ _)
   | (with_reducible exact r01_List.mono _ _)
   | (with_reducible exact r01_Of.mono _ _)
   | (with_reducible exact LeO.refl _)
   | (with_reducible exact LeO.none _)
   | (with_reducible refine LeO.ite ?_ ?_)
   | (with_reducible refine LeO.bind ?_ (fun _ => ?_))
theorem r01_Flip.mono : ∀ a0 a1 k, LeO (r01_Flip.f k a0 a1) (r01_Flip.f (k + 1) a0 a1) := by
 intro a0 a1 k
 have ih0 := r01_Flip.mono_l k
 unfold r01_Flip.f
 repeat' with_reducible first
  | exact ih0 _ _ _
  | exact r01_List.mono _ _
  | exact r01_Of.mono _ _
  | exact LeO.refl _
  | exact LeO.none _
  | refine LeO.ite ?_ ?_
  | refine LeO.bind ?_ (fun _ => ?_)
def r01_Flip.T6 : Bool × List (List Nat × List Nat) := (true, [([], []), ([], []), ([], []), ([1, 2], [1, 2]), ([3], [3]), ([], []), ([], []), ([], []), ([6, 7], [6, 7]), ([8], [8]), ([5, 9], [5, 9]), ([10], [10]), ([11], [11]), ([0, 4, 0, 1, 2, 3, 4, 5, 6, 7, 8, 9, 10, 11, 12], [0, 4]), ([13, 12, 0, 1, 2, 3, 4, 5, 6, 7, 8, 9, 10, 11, 12], [12, 13])])
def r01_Flip.B6 : List Nat := [0, 0, 0, 6, 14, 0, 0, 0, 192, 448, 992, 2016, 4064, 8191, 16383]
theorem r01_Flip.tab6 : rtab .any (opsOf Try.f75 6) = r01_Flip.T6 := by kernel_rfl
theorem r01_Flip.bits6 : waitsOk r01_Flip.T6.2 r01_Flip.B6 = true := by kernel_rfl
theorem r01_Flip.calls (k : Nat) (A0 : Option Addr) (c0 : Nat) (l0 : List Int) (A1 : Option Addr) (c1 : Nat) (l1 : List Int) (r : List Int) (w : World) (hr0 : Kd.C (Kd.int .u8) w A0 l0.length l0) (hc0 : l0.length ≤ c0) (hr1 : Kd.C (Kd.int .i64) w A1 l1.length l1) (hc1 : l1.length ≤ c1) (h : r01_Flip.f k l0 l1 = some r) :
  Calls Try.prog 75 #[.slice A0 l0.length c0, .slice A1 l1.length c1] w fun e w' => ∃ v0_ : Value, e = .returned (v0_) ∧ Kd.R (Kd.int .u8) 5 w' w.heap.size (fun _ => True) v0_ r ∧ Below w.heap.size w w' := by
 have HR0 := ak_ hr0
 have HC0 := ak_ hc0
 clear hr0 hc0
 have HR1 := ak_ hr1
 have HC1 := ak_ hc1
 clear hr1 hc1
 have HB := br_ w
 unfold r01_Flip.f at h
 have H := h
 clear h
 obtain ⟨t367, A3, H⟩ := bs_ H
 have H' := ak_ H
 clear H
 go_enter Try.func75, Try.ntmps75
 go_wp2_with ((with_reducible refine gate_callee (f := 73) rfl ?_); refine goesL_ (some 8) rfl rfl Try.func73 (by kernel_rfl) rfl #[.slice A0 l0.length c0] rfl (by (try simp only [List.map_toArray, List.map_cons, List.map_nil]); first | done | rfl | (simp only [List.length_drop, List.length_take]; rfl)) ?_; (with_reducible refine (r01_List.calls k _ _ l0 t367 _ ?side1 ?side2 A3.out).mono ?_); (case side1 => exact HR0.out); (case side2 => exact HC0.out); rintro e w4 ⟨v368, rfl, ho0, hb⟩; refine ⟨_, rfl, ?_⟩; have HO369 := ak_ (Kd.R_lower ho0 (below_size HB.out)); replace HB := ak_ (below_step HB.out hb); (try clear hb); (try clear ho0))
 go_loopg [6] k (fun kq v6 w' => ∃ (x5_1 : List Int) (x6_1 : Int), v6 = .int .i64 x6_1 ∧ Aside0 (r01_Flip.l0 kq l1 x5_1 x6_1 = some r) ∧ Aside0 (kq ≤ k) ∧ Aside0 (Kd.R (Kd.int .i64) 3 w' w.heap.size (fun _ => True) v368 x5_1) ∧ Aside0 (Below w.heap.size w w'))
 case atStart => exact ⟨(t367), (0), (by rfl), H', ⟨Nat.le_refl _⟩, ⟨HO369.out⟩, ⟨HB.out⟩⟩
 case round =>
  clear H'
  obtain ⟨x5_1, x6_1, rfl, HA, HK1, HO_5, HB⟩ := hrel
  cases gk with
  | zero => exact absurd HA.out (by simp [r01_Flip.l0])
  | succ k1 =>
   have H := HA.out
   clear HA
   simp only [r01_Flip.l0] at H
   by_cases c5 : x6_1 < (l1.length : Int)
   ·rw [if_pos c5] at H
    have c5b0 := dt_ c5
    clear c5
    by_cases c6 : 0 ≤ x6_1
    ·rw [if_pos c6] at H
     have c6b0 := dt_ c6
     clear c6
     by_cases c7 : (rd l1 x6_1) ≥ 0
     ·rw [if_pos c7] at H
      have c7b0 : decide (0 ≤ (rd l1 x6_1)) = true := dt_ c7
      clear c7
      by_cases c8 : (rd l1 x6_1) < (x5_1.length : Int)
      ·rw [if_pos c8] at H
       have c8b0 := dt_ c8
       clear c8
       by_cases c9 : 0 ≤ (rd l1 x6_1)
       ·rw [if_pos c9] at H
        have c9b0 := dt_ c9
        clear c9
        obtain ⟨y375, hy375⟩ : ∃ y_ : List Int, y_ = (x5_1.set ((rd l1 x6_1) : Int).toNat (wrap64 (1 - (rd x5_1 (rd l1 x6_1))))) := ⟨_, rfl⟩
        replace H : (r01_Flip.l0 k1 l1 y375 (wrap64 (x6_1 + 1))) = some r := (by rw [hy375]; with_reducible exact H)
        have Ny375 := ak_ hy375
        clear hy375
        have H' := ak_ H
        clear H
        have p370 : 0 ≤ (x6_1 : Int) := od_ ‹_›
        have q370 : x6_1 < (l1.length : Int) := od_ ‹_›
        obtain ⟨ad370, e370, hx370_0⟩ := Kd.at_int HR1.out x6_1 p370 q370
        cases e370
        replace hx370_0 := (HB.out.cell (World.block_lt_of_cell? w _ hx370_0)).trans hx370_0
        replace p370 := eq_true p370
        replace q370 := eq_true q370
        have p371 : 0 ≤ (x6_1 : Int) := od_ ‹_›
        have q371 : x6_1 < (l1.length : Int) := od_ ‹_›
        obtain ⟨ad371, e371, hx371_0⟩ := Kd.at_int HR1.out x6_1 p371 q371
        obtain rfl : ad370 = ad371 := (by injection e371)
        replace hx371_0 := (HB.out.cell (World.block_lt_of_cell? w _ hx371_0)).trans hx371_0
        replace p371 := eq_true p371
        replace q371 := eq_true q371
        obtain ⟨Ao11, co11, eo11⟩ := Kd.R_slice HO_5.out
        subst eo11
        try go_wp2
        replace HO_5 := ak_ (Kd.R_drew HO_5.out)
        replace HB := ak_ (below_drew1 HB.out)
        have p372 : 0 ≤ (x6_1 : Int) := od_ ‹_›
        have q372 : x6_1 < (l1.length : Int) := od_ ‹_›
        obtain ⟨ad372, e372, hx372_0⟩ := Kd.at_int HR1.out x6_1 p372 q372
        have hw372_0 := hx372_0
        obtain rfl : ad370 = ad372 := (by injection e372)
        replace hx372_0 := (HB.out.cell (World.block_lt_of_cell? w _ hx372_0)).trans hx372_0
        replace p372 := eq_true p372
        replace q372 := eq_true q372
        have p373 : 0 ≤ (x6_1 : Int) := od_ ‹_›
        have q373 : x6_1 < (l1.length : Int) := od_ ‹_›
        obtain ⟨ad373, e373, hx373_0⟩ := Kd.at_int HR1.out x6_1 p373 q373
        have hw373_0 := hx373_0
        obtain rfl : ad370 = ad373 := (by injection e373)
        replace hx373_0 := (HB.out.cell (World.block_lt_of_cell? w _ hx373_0)).trans hx373_0
        replace p373 := eq_true p373
        replace q373 := eq_true q373
        have p374 : 0 ≤ ((rd l1 x6_1) : Int) := od_ ‹_›
        have q374 : (rd l1 x6_1) < (x5_1.length : Int) := od_ ‹_›
        obtain ⟨ad374, e374, hx374_0⟩ := Kd.at_int (Kd.R_reads' HO_5.out).2.2 (rd l1 x6_1) p374 q374
        cases e374
        replace p374 := eq_true p374
        replace q374 := eq_true q374
        have p10 : 0 ≤ ((rd l1 x6_1) : Int) := od_ ‹_›
        have q10 : ((rd l1 x6_1) : Int) < ((x5_1.length : Int) : Int) := od_ ‹_›
        obtain ⟨go10, co10, eo10, gb10, gl10, cl10, HG10⟩ := Kd.R_form HO_5.out (by omega)
        (cases eo10)
        have GB10 := ak_ gb10
        have GG10 := ak_ HG10
        clear gb10 gl10 HG10
        (simp only [add_plain] at hx374_0)
        obtain ⟨hx10_0, hf10_0⟩ := Kd.R_celln 0 HO_5.out ((rd l1 x6_1) : Int) p10 q10
        replace p10 := eq_true p10
        replace q10 := eq_true q10
        have HP13 := Kd.R_putn HO_5.out ((rd l1 x6_1) : Int) (wrap64 (1 - (rd x5_1 (rd l1 x6_1))))
        rw [← Ny375.out] at HP13
        have HQ13 := ak_ HP13
        clear HP13
        refine start_ (n := 15) (S := fun w' => w'.cell? (ad370.add (x6_1).toNat) = some (.int .i64 (rd l1 x6_1)) ∧ w'.cell? (ad370.add (x6_1).toNat) = some (.int .i64 (rd l1 x6_1)) ∧ w'.cell? ⟨go10, ((rd l1 x6_1)).toNat, none⟩ = some (.int .i64 (rd x5_1 (rd l1 x6_1)))) (ds := [14]) #[false, false, false, false, false, false, false, false, false, false, false, false, false, false, false] (by kernel_rfl) rfl rfl ⟨((HB.out.cell (World.block_lt_of_cell? w _ hw372_0)).trans hw372_0), ((HB.out.cell (World.block_lt_of_cell? w _ hw373_0)).trans hw373_0), hx374_0⟩ (fun hHeld => ?_); refine with_tabW r01_Flip.tab6 r01_Flip.bits6 (fun HT_ HW_ => ?_)
        generalize wr.drew = w12 at HO_5 HB GG10 HQ13 hf10_0 hx10_0 hx372_0 hx373_0 hx374_0 hHeld ⊢
        refine pu 0 (some 29) #[true, false, false, false, false, false, false, false, false, false, false, false, false, false, false] HT_.out rfl rfl ?_
        refine pu 1 (some 30) #[true, true, false, false, false, false, false, false, false, false, false, false, false, false, false] HT_.out rfl rfl ?_
        refine pu 2 (some 31) #[true, true, true, false, false, false, false, false, false, false, false, false, false, false, false] HT_.out rfl rfl ?_
        refine pu 3 (some 32) #[true, true, true, true, false, false, false, false, false, false, false, false, false, false, false] HT_.out rfl rfl ?_
        refine pu 5 (some 34) #[true, true, true, true, false, true, false, false, false, false, false, false, false, false, false] HT_.out rfl rfl ?_
        refine pu 6 (some 35) #[true, true, true, true, false, true, true, false, false, false, false, false, false, false, false] HT_.out rfl rfl ?_
        refine pu 7 (some 36) #[true, true, true, true, false, true, true, true, false, false, false, false, false, false, false] HT_.out rfl rfl ?_
        refine pu 8 (some 37) #[true, true, true, true, false, true, true, true, true, false, false, false, false, false, false] HT_.out rfl rfl ?_
        refine take_ (i := 4) (N := some 33) (v := ?_) (a' := ?_) #[true, true, true, true, true, true, true, true, true, false, false, false, false, false, false] rfl rfl (take_ofW HT_.out HW_.out (by kernel_rfl)) (fun _ _ _ h => h) (Or.inl ⟨by rfl, ?_⟩) hHeld ?_ ?_
        rotate_left
        ·rintro w' ⟨s0, s1, s2⟩
         go_simp
         with_reducible rfl
        rotate_left
        ·simp only [Act.put, sb_, sz_, su_, i64_w, i32_w]
         rfl
        refine take_ (i := 9) (N := some 38) (v := ?_) (a' := ?_) #[true, true, true, true, true, true, true, true, true, true, false, false, false, false, false] rfl rfl (take_ofW HT_.out HW_.out (by kernel_rfl)) (fun _ _ _ h => h) (Or.inl ⟨by rfl, ?_⟩) hHeld ?_ ?_
        rotate_left
        ·rintro w' ⟨s0, s1, s2⟩
         go_simp
         with_reducible rfl
        rotate_left
        ·simp only [Act.put, sb_, sz_, su_, i64_w, i32_w]
         rfl
        refine pu 10 (some 39) #[true, true, true, true, true, true, true, true, true, true, true, false, false, false, false] HT_.out rfl rfl ?_
        refine take_ (i := 11) (N := some 40) (v := ?_) (a' := ?_) #[true, true, true, true, true, true, true, true, true, true, true, true, false, false, false] rfl rfl (take_ofW HT_.out HW_.out (by kernel_rfl)) (fun _ _ _ h => h) (Or.inl ⟨by rfl, ?_⟩) hHeld ?_ ?_
        rotate_left
        ·rintro w' ⟨s0, s1, s2⟩
         go_simp
         with_reducible rfl
        rotate_left
        ·simp only [Act.put, sb_, sz_, su_, i64_w, i32_w]
         rfl
        refine pu 12 (some 41) #[true, true, true, true, true, true, true, true, true, true, true, true, true, false, false] HT_.out rfl rfl ?_
        refine pu 13 (some 42) #[true, true, true, true, true, true, true, true, true, true, true, true, true, true, false] HT_.out rfl rfl ?_
        refine last_ (i := 14) (N := none) #[true, true, true, true, true, true, true, true, true, true, true, true, true, true, true] rfl rfl (one_of HT_.out (by kernel_rfl)) (by decide) (fun K hK => ?_)
        refine skip_ (w1 := ?_) (by rfl) rfl ?_ ?_
        rotate_left
        ·go_simp
         rfl
        refine hK.out _ _ ?_
        clear hK K
        refine done_ (done_of HT_.out (by kernel_rfl)) ?_
        try go_wp2
        go_roundg k1
        case measure => have := HK1.out; omega
        case rel => exact ⟨(y375), (wrap64 (x6_1 + 1)), (by rfl), H', ⟨by have := HK1.out; omega⟩, ⟨by (with_reducible repeat (first | apply Kd.R_alloc | apply Kd.R_drewN | apply Kd.R_drew)); exact HQ13.out⟩, ⟨by repeat (first | (with_reducible first | exact HB.out | apply below_alloc | apply pw_below_drewN | apply below_drew1 | refine below_set ?_ GB10.out) | exact HB.out)⟩⟩
       ·rw [if_neg c9] at H
        exact absurd H (by simp)
      ·rw [if_neg c8] at H
       have c8b0 := df_ c8
       clear c8
       have H' := ak_ H
       clear H
       have p370 : 0 ≤ (x6_1 : Int) := od_ ‹_›
       have q370 : x6_1 < (l1.length : Int) := od_ ‹_›
       obtain ⟨ad370, e370, hx370_0⟩ := Kd.at_int HR1.out x6_1 p370 q370
       cases e370
       replace hx370_0 := (HB.out.cell (World.block_lt_of_cell? w _ hx370_0)).trans hx370_0
       replace p370 := eq_true p370
       replace q370 := eq_true q370
       have p371 : 0 ≤ (x6_1 : Int) := od_ ‹_›
       have q371 : x6_1 < (l1.length : Int) := od_ ‹_›
       obtain ⟨ad371, e371, hx371_0⟩ := Kd.at_int HR1.out x6_1 p371 q371
       obtain rfl : ad370 = ad371 := (by injection e371)
       replace hx371_0 := (HB.out.cell (World.block_lt_of_cell? w _ hx371_0)).trans hx371_0
       replace p371 := eq_true p371
       replace q371 := eq_true q371
       obtain ⟨Ao14, co14, eo14⟩ := Kd.R_slice HO_5.out
       subst eo14
       go_wp2
       go_roundg k1
       case measure => have := HK1.out; omega
       case rel => exact ⟨(x5_1), (wrap64 (x6_1 + 1)), (by rfl), H', ⟨by have := HK1.out; omega⟩, ⟨HO_5.out⟩, ⟨HB.out⟩⟩
     ·rw [if_neg c7] at H
      have c7b0 : decide (0 ≤ (rd l1 x6_1)) = false := df_ c7
      clear c7
      have H' := ak_ H
      clear H
      have p370 : 0 ≤ (x6_1 : Int) := od_ ‹_›
      have q370 : x6_1 < (l1.length : Int) := od_ ‹_›
      obtain ⟨ad370, e370, hx370_0⟩ := Kd.at_int HR1.out x6_1 p370 q370
      cases e370
      replace hx370_0 := (HB.out.cell (World.block_lt_of_cell? w _ hx370_0)).trans hx370_0
      replace p370 := eq_true p370
      replace q370 := eq_true q370
      go_wp2
      go_roundg k1
      case measure => have := HK1.out; omega
      case rel => exact ⟨(x5_1), (wrap64 (x6_1 + 1)), (by rfl), H', ⟨by have := HK1.out; omega⟩, ⟨HO_5.out⟩, ⟨HB.out⟩⟩
    ·rw [if_neg c6] at H
     exact absurd H (by simp)
   ·rw [if_neg c5] at H
    have c5b0 := df_ c5
    clear c5
    obtain ⟨t376, A15, H⟩ := bs_ H
    obtain rfl := si_ H
    obtain ⟨Ao16, co16, eo16⟩ := Kd.R_slice HO_5.out
    subst eo16
    go_wp2_with ((with_reducible refine gate_callee (f := 94) rfl ?_); refine goesL_ (some 44) rfl rfl Try.func94 (by kernel_rfl) rfl #[.slice Ao16 x5_1.length co16] rfl (by (try simp only [List.map_toArray, List.map_cons, List.map_nil]); first | done | rfl | (simp only [List.length_drop, List.length_take]; rfl)) ?_; (with_reducible refine (r01_Of.calls k1 _ _ x5_1 t376 _ ?side1 ?side2 A15.out).mono ?_); (case side1 => exact (Kd.R_reads' HO_5.out).2.2); (case side2 => exact (Kd.R_reads' HO_5.out).2.1); rintro e w17 ⟨v377, rfl, ho0, hb⟩; refine ⟨_, rfl, ?_⟩; replace HO_5 := ak_ (Kd.R_below HO_5.out hb); have HO378 := ak_ (Kd.R_lower ho0 (below_size HB.out)); replace HB := ak_ (below_step HB.out hb); (try clear hb); (try clear ho0))
    go_ret
    exact ⟨_, by rfl, by (with_reducible repeat (first | apply Kd.R_alloc | apply Kd.R_drewN | apply Kd.R_drew)); exact HO378.out, HB.out⟩
end Go.Proofs.Ytmehbabchakkpaa.QLadderWalks
