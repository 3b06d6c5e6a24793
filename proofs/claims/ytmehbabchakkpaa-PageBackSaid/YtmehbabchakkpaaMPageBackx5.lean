import Derived.Test.YtmehbabchakkpaaMPageBackx3
namespace Go.Proofs.Ytmehbabchakkpaa.QPageBack
open Go.RowKit YtmehbabchakkpaaW.PrintWords YtmehbabchakkpaaW.PrintLast YtmehbabchakkpaaW.PrintMore Short
attribute [local go_sem] max2_int min2_int max_two min_two max_three min_three max_four min_four
set_option linter.unusedVariables false
set_option maxHeartbeats 8000000
set_option maxRecDepth 100000
set_option linter.unusedSimpArgs false
def bits_Len64.j0 : Nat → Int → Int → Option (Int)
 | 0, _, _ => none
 | k + 1, x0, x2 => if x0 ≥ 65536 then (if (x0 / 65536) ≥ 256 then (if 0 ≤ (((x0 / 65536) / 256) % 256) then (if (((x0 / 65536) / 256) % 256) < 256 then (some (wrap64 ((wrap64 ((wrap64 (x2 + 16)) + 8)) + (wrap64 (bt (⟨#[0, 1, 2, 2, 3, 3, 3, 3, 4, 4, 4, 4, 4, 4, 4, 4, 5, 5, 5, 5, 5, 5, 5, 5, 5, 5, 5, 5, 5, 5, 5, 5, 6, 6, 6, 6, 6, 6, 6, 6, 6, 6, 6, 6, 6, 6, 6, 6, 6, 6, 6, 6, 6, 6, 6, 6, 6, 6, 6, 6, 6, 6, 6, 6, 7, 7, 7, 7, 7, 7, 7, 7, 7, 7, 7, 7, 7, 7, 7, 7, 7, 7, 7, 7, 7, 7, 7, 7, 7, 7, 7, 7, 7, 7, 7, 7, 7, 7, 7, 7, 7, 7, 7, 7, 7, 7, 7, 7, 7, 7, 7, 7, 7, 7, 7, 7, 7, 7, 7, 7, 7, 7, 7, 7, 7, 7, 7, 7, 8, 8, 8, 8, 8, 8, 8, 8, 8, 8, 8, 8, 8, 8, 8, 8, 8, 8, 8, 8, 8, 8, 8, 8, 8, 8, 8, 8, 8, 8, 8, 8, 8, 8, 8, 8, 8, 8, 8, 8, 8, 8, 8, 8, 8, 8, 8, 8, 8, 8, 8, 8, 8, 8, 8, 8, 8, 8, 8, 8, 8, 8, 8, 8, 8, 8, 8, 8, 8, 8, 8, 8, 8, 8, 8, 8, 8, 8, 8, 8, 8, 8, 8, 8, 8, 8, 8, 8, 8, 8, 8, 8, 8, 8, 8, 8, 8, 8, 8, 8, 8, 8, 8, 8, 8, 8, 8, 8, 8, 8, 8, 8, 8, 8, 8, 8, 8, 8, 8, 8, 8, 8, 8, 8, 8, 8, 8, 8]⟩ : ByteArray) (((x0 / 65536) / 256) % 256)))))) else (none)) else (none)) else (if 0 ≤ ((x0 / 65536) % 256) then (if ((x0 / 65536) % 256) < 256 then (some (wrap64 ((wrap64 (x2 + 16)) + (wrap64 (bt (⟨#[0, 1, 2, 2, 3, 3, 3, 3, 4, 4, 4, 4, 4, 4, 4, 4, 5, 5, 5, 5, 5, 5, 5, 5, 5, 5, 5, 5, 5, 5, 5, 5, 6, 6, 6, 6, 6, 6, 6, 6, 6, 6, 6, 6, 6, 6, 6, 6, 6, 6, 6, 6, 6, 6, 6, 6, 6, 6, 6, 6, 6, 6, 6, 6, 7, 7, 7, 7, 7, 7, 7, 7, 7, 7, 7, 7, 7, 7, 7, 7, 7, 7, 7, 7, 7, 7, 7, 7, 7, 7, 7, 7, 7, 7, 7, 7, 7, 7, 7, 7, 7, 7, 7, 7, 7, 7, 7, 7, 7, 7, 7, 7, 7, 7, 7, 7, 7, 7, 7, 7, 7, 7, 7, 7, 7, 7, 7, 7, 8, 8, 8, 8, 8, 8, 8, 8, 8, 8, 8, 8, 8, 8, 8, 8, 8, 8, 8, 8, 8, 8, 8, 8, 8, 8, 8, 8, 8, 8, 8, 8, 8, 8, 8, 8, 8, 8, 8, 8, 8, 8, 8, 8, 8, 8, 8, 8, 8, 8, 8, 8, 8, 8, 8, 8, 8, 8, 8, 8, 8, 8, 8, 8, 8, 8, 8, 8, 8, 8, 8, 8, 8, 8, 8, 8, 8, 8, 8, 8, 8, 8, 8, 8, 8, 8, 8, 8, 8, 8, 8, 8, 8, 8, 8, 8, 8, 8, 8, 8, 8, 8, 8, 8, 8, 8, 8, 8, 8, 8, 8, 8, 8, 8, 8, 8, 8, 8, 8, 8, 8, 8, 8, 8, 8, 8, 8, 8]⟩ : ByteArray) ((x0 / 65536) % 256)))))) else (none)) else (none))) else (if x0 ≥ 256 then (if 0 ≤ ((x0 / 256) % 256) then (if ((x0 / 256) % 256) < 256 then (some (wrap64 ((wrap64 (x2 + 8)) + (wrap64 (bt (⟨#[0, 1, 2, 2, 3, 3, 3, 3, 4, 4, 4, 4, 4, 4, 4, 4, 5, 5, 5, 5, 5, 5, 5, 5, 5, 5, 5, 5, 5, 5, 5, 5, 6, 6, 6, 6, 6, 6, 6, 6, 6, 6, 6, 6, 6, 6, 6, 6, 6, 6, 6, 6, 6, 6, 6, 6, 6, 6, 6, 6, 6, 6, 6, 6, 7, 7, 7, 7, 7, 7, 7, 7, 7, 7, 7, 7, 7, 7, 7, 7, 7, 7, 7, 7, 7, 7, 7, 7, 7, 7, 7, 7, 7, 7, 7, 7, 7, 7, 7, 7, 7, 7, 7, 7, 7, 7, 7, 7, 7, 7, 7, 7, 7, 7, 7, 7, 7, 7, 7, 7, 7, 7, 7, 7, 7, 7, 7, 7, 8, 8, 8, 8, 8, 8, 8, 8, 8, 8, 8, 8, 8, 8, 8, 8, 8, 8, 8, 8, 8, 8, 8, 8, 8, 8, 8, 8, 8, 8, 8, 8, 8, 8, 8, 8, 8, 8, 8, 8, 8, 8, 8, 8, 8, 8, 8, 8, 8, 8, 8, 8, 8, 8, 8, 8, 8, 8, 8, 8, 8, 8, 8, 8, 8, 8, 8, 8, 8, 8, 8, 8, 8, 8, 8, 8, 8, 8, 8, 8, 8, 8, 8, 8, 8, 8, 8, 8, 8, 8, 8, 8, 8, 8, 8, 8, 8, 8, 8, 8, 8, 8, 8, 8, 8, 8, 8, 8, 8, 8, 8, 8, 8, 8, 8, 8, 8, 8, 8, 8, 8, 8, 8, 8, 8, 8, 8, 8]⟩ : ByteArray) ((x0 / 256) % 256)))))) else (none)) else (none)) else (if 0 ≤ ((x0) % 256) then (if ((x0) % 256) < 256 then (some (wrap64 (x2 + (wrap64 (bt (⟨#[0, 1, 2, 2, 3, 3, 3, 3, 4, 4, 4, 4, 4, 4, 4, 4, 5, 5, 5, 5, 5, 5, 5, 5, 5, 5, 5, 5, 5, 5, 5, 5, 6, 6, 6, 6, 6, 6, 6, 6, 6, 6, 6, 6, 6, 6, 6, 6, 6, 6, 6, 6, 6, 6, 6, 6, 6, 6, 6, 6, 6, 6, 6, 6, 7, 7, 7, 7, 7, 7, 7, 7, 7, 7, 7, 7, 7, 7, 7, 7, 7, 7, 7, 7, 7, 7, 7, 7, 7, 7, 7, 7, 7, 7, 7, 7, 7, 7, 7, 7, 7, 7, 7, 7, 7, 7, 7, 7, 7, 7, 7, 7, 7, 7, 7, 7, 7, 7, 7, 7, 7, 7, 7, 7, 7, 7, 7, 7, 8, 8, 8, 8, 8, 8, 8, 8, 8, 8, 8, 8, 8, 8, 8, 8, 8, 8, 8, 8, 8, 8, 8, 8, 8, 8, 8, 8, 8, 8, 8, 8, 8, 8, 8, 8, 8, 8, 8, 8, 8, 8, 8, 8, 8, 8, 8, 8, 8, 8, 8, 8, 8, 8, 8, 8, 8, 8, 8, 8, 8, 8, 8, 8, 8, 8, 8, 8, 8, 8, 8, 8, 8, 8, 8, 8, 8, 8, 8, 8, 8, 8, 8, 8, 8, 8, 8, 8, 8, 8, 8, 8, 8, 8, 8, 8, 8, 8, 8, 8, 8, 8, 8, 8, 8, 8, 8, 8, 8, 8, 8, 8, 8, 8, 8, 8, 8, 8, 8, 8, 8, 8, 8, 8, 8, 8, 8, 8]⟩ : ByteArray) ((x0) % 256)))))) else (none)) else (none)))
def bits_Len64.f (k : Nat) (a0 : Int) : Option (Int) := if a0 ≥ 4294967296 then (bits_Len64.j0 k (a0 / 4294967296) 32) else (bits_Len64.j0 k a0 0)
theorem bits_Len64.mono_l : ∀ k, (∀ y0 y1, LeO (bits_Len64.j0 k y0 y1) (bits_Len64.j0 (k + 1) y0 y1))
 | 0 => fun _ _ r h => by simp [bits_Len64.j0] at h
 | k + 1 => by
  have ih0 := bits_Len64.mono_l k
  ·intro y0 y1
   unfold bits_Len64.j0
   repeat' with_reducible first
   | exact ih0 _ _
   | exact LeO.refl _
   | exact LeO.none _
   | refine LeO.ite ?_ ?_
   | refine LeO.bind ?_ (fun _ => ?_)
theorem bits_Len64.mono : ∀ a0 k, LeO (bits_Len64.f k a0) (bits_Len64.f (k + 1) a0) := by
 intro a0 k
 have ih0 := bits_Len64.mono_l k
 unfold bits_Len64.f
 repeat' with_reducible first
  | exact ih0 _ _
  | exact LeO.refl _
  | exact LeO.none _
  | refine LeO.ite ?_ ?_
  | refine LeO.bind ?_ (fun _ => ?_)
theorem bits_Len64.calls (k : Nat) (a0 : Int) (r : Int) (w : World) (h : bits_Len64.f k a0 = some r) :
  Calls Try.prog 102 #[.int .u64 a0] w fun e w' => e = .returned (.int .i64 r) ∧ Drawn0 w w' := by
 unfold bits_Len64.f at h
 have H := h
 clear h
 have HC2 := ak_ H
 clear H
 go_enter Try.func102, Try.ntmps102
 go_upto_if 4 with (fail)
 go_cut [0, 2] (fun v0 v2 wc => ∃ (kq : Nat) (x0_1 : Int) (x2_1 : Int), v0 = .int .u64 x0_1 ∧ v2 = .int .i64 x2_1 ∧ Aside0 (bits_Len64.j0 kq x0_1 x2_1 = some r) ∧ Aside0 (kq ≤ k) ∧ Drawn0 w wc)
 case first =>
  have H := HC2.out
  clear HC2
  by_cases c3 : a0 ≥ 4294967296
  ·rw [if_pos c3] at H
   have c3b0 : decide (4294967296 ≤ a0) = true := dt_ c3
   clear c3
   (rw [c3b0])
   have H' := ak_ H
   clear H
   go_wp2
   go_meet
   case rel => exact ⟨_, (a0 / 4294967296), (32), (by rfl), (by rfl), H', ⟨by omega⟩, by repeat (first | exact Drawn0.refl _ | apply Drawn0.step)⟩
  ·rw [if_neg c3] at H
   have c3b0 : decide (4294967296 ≤ a0) = false := df_ c3
   clear c3
   (rw [c3b0])
   have H' := ak_ H
   clear H
   go_wp2
   go_meet
   case rel => exact ⟨_, (a0), (0), (by rfl), (by rfl), H', ⟨by omega⟩, by repeat (first | exact Drawn0.refl _ | apply Drawn0.step)⟩
 case rest =>
  clear HC2
  obtain ⟨kq, x0_1, x2_1, rfl, rfl, HA, HJ1, ⟨mc1, rfl⟩⟩ := hcut
  cases kq with
  | zero => exact absurd HA.out (by simp [bits_Len64.j0])
  | succ kj1 =>
   have H := HA.out
   clear HA
   simp only [bits_Len64.j0] at H
   by_cases c4 : x0_1 ≥ 65536
   ·rw [if_pos c4] at H
    have c4b0 : decide (65536 ≤ x0_1) = true := dt_ c4
    clear c4
    by_cases c5 : (x0_1 / 65536) ≥ 256
    ·rw [if_pos c5] at H
     have c5b0 : decide (256 ≤ (x0_1 / 65536)) = true := dt_ c5
     clear c5
     obtain ⟨ji6, hji6⟩ : ∃ j_ : Int, (((x0_1 / 65536) / 256) % 256) = j_ := ⟨_, rfl⟩
     replace H : (if 0 ≤ (ji6) then (if (ji6) < 256 then (some (wrap64 ((wrap64 ((wrap64 (x2_1 + 16)) + 8)) + (wrap64 (bt (⟨#[0, 1, 2, 2, 3, 3, 3, 3, 4, 4, 4, 4, 4, 4, 4, 4, 5, 5, 5, 5, 5, 5, 5, 5, 5, 5, 5, 5, 5, 5, 5, 5, 6, 6, 6, 6, 6, 6, 6, 6, 6, 6, 6, 6, 6, 6, 6, 6, 6, 6, 6, 6, 6, 6, 6, 6, 6, 6, 6, 6, 6, 6, 6, 6, 7, 7, 7, 7, 7, 7, 7, 7, 7, 7, 7, 7, 7, 7, 7, 7, 7, 7, 7, 7, 7, 7, 7, 7, 7, 7, 7, 7, 7, 7, 7, 7, 7, 7, 7, 7, 7, 7, 7, 7, 7, 7, 7, 7, 7, 7, 7, 7, 7, 7, 7, 7, 7, 7, 7, 7, 7, 7, 7, 7, 7, 7, 7, 7, 8, 8, 8, 8, 8, 8, 8, 8, 8, 8, 8, 8, 8, 8, 8, 8, 8, 8, 8, 8, 8, 8, 8, 8, 8, 8, 8, 8, 8, 8, 8, 8, 8, 8, 8, 8, 8, 8, 8, 8, 8, 8, 8, 8, 8, 8, 8, 8, 8, 8, 8, 8, 8, 8, 8, 8, 8, 8, 8, 8, 8, 8, 8, 8, 8, 8, 8, 8, 8, 8, 8, 8, 8, 8, 8, 8, 8, 8, 8, 8, 8, 8, 8, 8, 8, 8, 8, 8, 8, 8, 8, 8, 8, 8, 8, 8, 8, 8, 8, 8, 8, 8, 8, 8, 8, 8, 8, 8, 8, 8, 8, 8, 8, 8, 8, 8, 8, 8, 8, 8, 8, 8, 8, 8, 8, 8, 8, 8]⟩ : ByteArray) (ji6)))))) else (none)) else (none)) = some r := (by rw [hji6] at H; exact H)
     by_cases c7 : 0 ≤ (ji6)
     ·rw [if_pos c7] at H
      have c7b0 := dt_ c7
      clear c7
      by_cases c8 : (ji6) < 256
      ·rw [if_pos c8] at H
       have c8b0 := dt_ c8
       clear c8
       obtain rfl := si_ H
       have p9 : 0 ≤ ((ji6) : Int) := of_decide_eq_true (by with_reducible assumption)
       have q9 : (ji6) < (256 : Int) := of_decide_eq_true (by with_reducible assumption)
       have hx9 := bt_at (⟨#[0, 1, 2, 2, 3, 3, 3, 3, 4, 4, 4, 4, 4, 4, 4, 4, 5, 5, 5, 5, 5, 5, 5, 5, 5, 5, 5, 5, 5, 5, 5, 5, 6, 6, 6, 6, 6, 6, 6, 6, 6, 6, 6, 6, 6, 6, 6, 6, 6, 6, 6, 6, 6, 6, 6, 6, 6, 6, 6, 6, 6, 6, 6, 6, 7, 7, 7, 7, 7, 7, 7, 7, 7, 7, 7, 7, 7, 7, 7, 7, 7, 7, 7, 7, 7, 7, 7, 7, 7, 7, 7, 7, 7, 7, 7, 7, 7, 7, 7, 7, 7, 7, 7, 7, 7, 7, 7, 7, 7, 7, 7, 7, 7, 7, 7, 7, 7, 7, 7, 7, 7, 7, 7, 7, 7, 7, 7, 7, 8, 8, 8, 8, 8, 8, 8, 8, 8, 8, 8, 8, 8, 8, 8, 8, 8, 8, 8, 8, 8, 8, 8, 8, 8, 8, 8, 8, 8, 8, 8, 8, 8, 8, 8, 8, 8, 8, 8, 8, 8, 8, 8, 8, 8, 8, 8, 8, 8, 8, 8, 8, 8, 8, 8, 8, 8, 8, 8, 8, 8, 8, 8, 8, 8, 8, 8, 8, 8, 8, 8, 8, 8, 8, 8, 8, 8, 8, 8, 8, 8, 8, 8, 8, 8, 8, 8, 8, 8, 8, 8, 8, 8, 8, 8, 8, 8, 8, 8, 8, 8, 8, 8, 8, 8, 8, 8, 8, 8, 8, 8, 8, 8, 8, 8, 8, 8, 8, 8, 8, 8, 8, 8, 8, 8, 8, 8, 8]⟩ : ByteArray) (ji6)
       replace p9 := eq_true p9
       replace q9 := eq_true q9
       go_wp2
       go_ret
       exact ⟨by first | rfl | (simp; done) | (simp only [← hji6] <;> (first | rfl | simp)) | (simp [*]; done), by repeat (first | exact Drawn0.refl _ | apply Drawn0.step)⟩
      ·rw [if_neg c8] at H
       exact absurd H (by simp)
     ·rw [if_neg c7] at H
      exact absurd H (by simp)
    ·rw [if_neg c5] at H
     have c5b0 : decide (256 ≤ (x0_1 / 65536)) = false := df_ c5
     clear c5
     obtain ⟨ji10, hji10⟩ : ∃ j_ : Int, ((x0_1 / 65536) % 256) = j_ := ⟨_, rfl⟩
     replace H : (if 0 ≤ (ji10) then (if (ji10) < 256 then (some (wrap64 ((wrap64 (x2_1 + 16)) + (wrap64 (bt (⟨#[0, 1, 2, 2, 3, 3, 3, 3, 4, 4, 4, 4, 4, 4, 4, 4, 5, 5, 5, 5, 5, 5, 5, 5, 5, 5, 5, 5, 5, 5, 5, 5, 6, 6, 6, 6, 6, 6, 6, 6, 6, 6, 6, 6, 6, 6, 6, 6, 6, 6, 6, 6, 6, 6, 6, 6, 6, 6, 6, 6, 6, 6, 6, 6, 7, 7, 7, 7, 7, 7, 7, 7, 7, 7, 7, 7, 7, 7, 7, 7, 7, 7, 7, 7, 7, 7, 7, 7, 7, 7, 7, 7, 7, 7, 7, 7, 7, 7, 7, 7, 7, 7, 7, 7, 7, 7, 7, 7, 7, 7, 7, 7, 7, 7, 7, 7, 7, 7, 7, 7, 7, 7, 7, 7, 7, 7, 7, 7, 8, 8, 8, 8, 8, 8, 8, 8, 8, 8, 8, 8, 8, 8, 8, 8, 8, 8, 8, 8, 8, 8, 8, 8, 8, 8, 8, 8, 8, 8, 8, 8, 8, 8, 8, 8, 8, 8, 8, 8, 8, 8, 8, 8, 8, 8, 8, 8, 8, 8, 8, 8, 8, 8, 8, 8, 8, 8, 8, 8, 8, 8, 8, 8, 8, 8, 8, 8, 8, 8, 8, 8, 8, 8, 8, 8, 8, 8, 8, 8, 8, 8, 8, 8, 8, 8, 8, 8, 8, 8, 8, 8, 8, 8, 8, 8, 8, 8, 8, 8, 8, 8, 8, 8, 8, 8, 8, 8, 8, 8, 8, 8, 8, 8, 8, 8, 8, 8, 8, 8, 8, 8, 8, 8, 8, 8, 8, 8]⟩ : ByteArray) (ji10)))))) else (none)) else (none)) = some r := (by rw [hji10] at H; exact H)
     by_cases c11 : 0 ≤ (ji10)
     ·rw [if_pos c11] at H
      have c11b0 := dt_ c11
      clear c11
      by_cases c12 : (ji10) < 256
      ·rw [if_pos c12] at H
       have c12b0 := dt_ c12
       clear c12
       obtain rfl := si_ H
       have p13 : 0 ≤ ((ji10) : Int) := of_decide_eq_true (by with_reducible assumption)
       have q13 : (ji10) < (256 : Int) := of_decide_eq_true (by with_reducible assumption)
       have hx13 := bt_at (⟨#[0, 1, 2, 2, 3, 3, 3, 3, 4, 4, 4, 4, 4, 4, 4, 4, 5, 5, 5, 5, 5, 5, 5, 5, 5, 5, 5, 5, 5, 5, 5, 5, 6, 6, 6, 6, 6, 6, 6, 6, 6, 6, 6, 6, 6, 6, 6, 6, 6, 6, 6, 6, 6, 6, 6, 6, 6, 6, 6, 6, 6, 6, 6, 6, 7, 7, 7, 7, 7, 7, 7, 7, 7, 7, 7, 7, 7, 7, 7, 7, 7, 7, 7, 7, 7, 7, 7, 7, 7, 7, 7, 7, 7, 7, 7, 7, 7, 7, 7, 7, 7, 7, 7, 7, 7, 7, 7, 7, 7, 7, 7, 7, 7, 7, 7, 7, 7, 7, 7, 7, 7, 7, 7, 7, 7, 7, 7, 7, 8, 8, 8, 8, 8, 8, 8, 8, 8, 8, 8, 8, 8, 8, 8, 8, 8, 8, 8, 8, 8, 8, 8, 8, 8, 8, 8, 8, 8, 8, 8, 8, 8, 8, 8, 8, 8, 8, 8, 8, 8, 8, 8, 8, 8, 8, 8, 8, 8, 8, 8, 8, 8, 8, 8, 8, 8, 8, 8, 8, 8, 8, 8, 8, 8, 8, 8, 8, 8, 8, 8, 8, 8, 8, 8, 8, 8, 8, 8, 8, 8, 8, 8, 8, 8, 8, 8, 8, 8, 8, 8, 8, 8, 8, 8, 8, 8, 8, 8, 8, 8, 8, 8, 8, 8, 8, 8, 8, 8, 8, 8, 8, 8, 8, 8, 8, 8, 8, 8, 8, 8, 8, 8, 8, 8, 8, 8, 8]⟩ : ByteArray) (ji10)
       replace p13 := eq_true p13
       replace q13 := eq_true q13
       go_wp2
       go_ret
       exact ⟨by first | rfl | (simp; done) | (simp only [← hji10] <;> (first | rfl | simp)) | (simp [*]; done), by repeat (first | exact Drawn0.refl _ | apply Drawn0.step)⟩
      ·rw [if_neg c12] at H
       exact absurd H (by simp)
     ·rw [if_neg c11] at H
      exact absurd H (by simp)
   ·rw [if_neg c4] at H
    have c4b0 : decide (65536 ≤ x0_1) = false := df_ c4
    clear c4
    by_cases c14 : x0_1 ≥ 256
    ·rw [if_pos c14] at H
     have c14b0 : decide (256 ≤ x0_1) = true := dt_ c14
     clear c14
     obtain ⟨ji15, hji15⟩ : ∃ j_ : Int, ((x0_1 / 256) % 256) = j_ := ⟨_, rfl⟩
     replace H : (if 0 ≤ (ji15) then (if (ji15) < 256 then (some (wrap64 ((wrap64 (x2_1 + 8)) + (wrap64 (bt (⟨#[0, 1, 2, 2, 3, 3, 3, 3, 4, 4, 4, 4, 4, 4, 4, 4, 5, 5, 5, 5, 5, 5, 5, 5, 5, 5, 5, 5, 5, 5, 5, 5, 6, 6, 6, 6, 6, 6, 6, 6, 6, 6, 6, 6, 6, 6, 6, 6, 6, 6, 6, 6, 6, 6, 6, 6, 6, 6, 6, 6, 6, 6, 6, 6, 7, 7, 7, 7, 7, 7, 7, 7, 7, 7, 7, 7, 7, 7, 7, 7, 7, 7, 7, 7, 7, 7, 7, 7, 7, 7, 7, 7, 7, 7, 7, 7, 7, 7, 7, 7, 7, 7, 7, 7, 7, 7, 7, 7, 7, 7, 7, 7, 7, 7, 7, 7, 7, 7, 7, 7, 7, 7, 7, 7, 7, 7, 7, 7, 8, 8, 8, 8, 8, 8, 8, 8, 8, 8, 8, 8, 8, 8, 8, 8, 8, 8, 8, 8, 8, 8, 8, 8, 8, 8, 8, 8, 8, 8, 8, 8, 8, 8, 8, 8, 8, 8, 8, 8, 8, 8, 8, 8, 8, 8, 8, 8, 8, 8, 8, 8, 8, 8, 8, 8, 8, 8, 8, 8, 8, 8, 8, 8, 8, 8, 8, 8, 8, 8, 8, 8, 8, 8, 8, 8, 8, 8, 8, 8, 8, 8, 8, 8, 8, 8, 8, 8, 8, 8, 8, 8, 8, 8, 8, 8, 8, 8, 8, 8, 8, 8, 8, 8, 8, 8, 8, 8, 8, 8, 8, 8, 8, 8, 8, 8, 8, 8, 8, 8, 8, 8, 8, 8, 8, 8, 8, 8]⟩ : ByteArray) (ji15)))))) else (none)) else (none)) = some r := (by rw [hji15] at H; exact H)
     by_cases c16 : 0 ≤ (ji15)
     ·rw [if_pos c16] at H
      have c16b0 := dt_ c16
      clear c16
      by_cases c17 : (ji15) < 256
      ·rw [if_pos c17] at H
       have c17b0 := dt_ c17
       clear c17
       obtain rfl := si_ H
       have p18 : 0 ≤ ((ji15) : Int) := of_decide_eq_true (by with_reducible assumption)
       have q18 : (ji15) < (256 : Int) := of_decide_eq_true (by with_reducible assumption)
       have hx18 := bt_at (⟨#[0, 1, 2, 2, 3, 3, 3, 3, 4, 4, 4, 4, 4, 4, 4, 4, 5, 5, 5, 5, 5, 5, 5, 5, 5, 5, 5, 5, 5, 5, 5, 5, 6, 6, 6, 6, 6, 6, 6, 6, 6, 6, 6, 6, 6, 6, 6, 6, 6, 6, 6, 6, 6, 6, 6, 6, 6, 6, 6, 6, 6, 6, 6, 6, 7, 7, 7, 7, 7, 7, 7, 7, 7, 7, 7, 7, 7, 7, 7, 7, 7, 7, 7, 7, 7, 7, 7, 7, 7, 7, 7, 7, 7, 7, 7, 7, 7, 7, 7, 7, 7, 7, 7, 7, 7, 7, 7, 7, 7, 7, 7, 7, 7, 7, 7, 7, 7, 7, 7, 7, 7, 7, 7, 7, 7, 7, 7, 7, 8, 8, 8, 8, 8, 8, 8, 8, 8, 8, 8, 8, 8, 8, 8, 8, 8, 8, 8, 8, 8, 8, 8, 8, 8, 8, 8, 8, 8, 8, 8, 8, 8, 8, 8, 8, 8, 8, 8, 8, 8, 8, 8, 8, 8, 8, 8, 8, 8, 8, 8, 8, 8, 8, 8, 8, 8, 8, 8, 8, 8, 8, 8, 8, 8, 8, 8, 8, 8, 8, 8, 8, 8, 8, 8, 8, 8, 8, 8, 8, 8, 8, 8, 8, 8, 8, 8, 8, 8, 8, 8, 8, 8, 8, 8, 8, 8, 8, 8, 8, 8, 8, 8, 8, 8, 8, 8, 8, 8, 8, 8, 8, 8, 8, 8, 8, 8, 8, 8, 8, 8, 8, 8, 8, 8, 8, 8, 8]⟩ : ByteArray) (ji15)
       replace p18 := eq_true p18
       replace q18 := eq_true q18
       go_wp2
       go_ret
       exact ⟨by first | rfl | (simp; done) | (simp only [← hji15] <;> (first | rfl | simp)) | (simp [*]; done), by repeat (first | exact Drawn0.refl _ | apply Drawn0.step)⟩
      ·rw [if_neg c17] at H
       exact absurd H (by simp)
     ·rw [if_neg c16] at H
      exact absurd H (by simp)
    ·rw [if_neg c14] at H
     have c14b0 : decide (256 ≤ x0_1) = false := df_ c14
     clear c14
     obtain ⟨ji19, hji19⟩ : ∃ j_ : Int, ((x0_1) % 256) = j_ := ⟨_, rfl⟩
     replace H : (if 0 ≤ (ji19) then (if (ji19) < 256 then (some (wrap64 (x2_1 + (wrap64 (bt (⟨#[0, 1, 2, 2, 3, 3, 3, 3, 4, 4, 4, 4, 4, 4, 4, 4, 5, 5, 5, 5, 5, 5, 5, 5, 5, 5, 5, 5, 5, 5, 5, 5, 6, 6, 6, 6, 6, 6, 6, 6, 6, 6, 6, 6, 6, 6, 6, 6, 6, 6, 6, 6, 6, 6, 6, 6, 6, 6, 6, 6, 6, 6, 6, 6, 7, 7, 7, 7, 7, 7, 7, 7, 7, 7, 7, 7, 7, 7, 7, 7, 7, 7, 7, 7, 7, 7, 7, 7, 7, 7, 7, 7, 7, 7, 7, 7, 7, 7, 7, 7, 7, 7, 7, 7, 7, 7, 7, 7, 7, 7, 7, 7, 7, 7, 7, 7, 7, 7, 7, 7, 7, 7, 7, 7, 7, 7, 7, 7, 8, 8, 8, 8, 8, 8, 8, 8, 8, 8, 8, 8, 8, 8, 8, 8, 8, 8, 8, 8, 8, 8, 8, 8, 8, 8, 8, 8, 8, 8, 8, 8, 8, 8, 8, 8, 8, 8, 8, 8, 8, 8, 8, 8, 8, 8, 8, 8, 8, 8, 8, 8, 8, 8, 8, 8, 8, 8, 8, 8, 8, 8, 8, 8, 8, 8, 8, 8, 8, 8, 8, 8, 8, 8, 8, 8, 8, 8, 8, 8, 8, 8, 8, 8, 8, 8, 8, 8, 8, 8, 8, 8, 8, 8, 8, 8, 8, 8, 8, 8, 8, 8, 8, 8, 8, 8, 8, 8, 8, 8, 8, 8, 8, 8, 8, 8, 8, 8, 8, 8, 8, 8, 8, 8, 8, 8, 8, 8]⟩ : ByteArray) (ji19)))))) else (none)) else (none)) = some r := (by rw [hji19] at H; exact H)
     by_cases c20 : 0 ≤ (ji19)
     ·rw [if_pos c20] at H
      have c20b0 := dt_ c20
      clear c20
      by_cases c21 : (ji19) < 256
      ·rw [if_pos c21] at H
       have c21b0 := dt_ c21
       clear c21
       obtain rfl := si_ H
       have p22 : 0 ≤ ((ji19) : Int) := of_decide_eq_true (by with_reducible assumption)
       have q22 : (ji19) < (256 : Int) := of_decide_eq_true (by with_reducible assumption)
       have hx22 := bt_at (⟨#[0, 1, 2, 2, 3, 3, 3, 3, 4, 4, 4, 4, 4, 4, 4, 4, 5, 5, 5, 5, 5, 5, 5, 5, 5, 5, 5, 5, 5, 5, 5, 5, 6, 6, 6, 6, 6, 6, 6, 6, 6, 6, 6, 6, 6, 6, 6, 6, 6, 6, 6, 6, 6, 6, 6, 6, 6, 6, 6, 6, 6, 6, 6, 6, 7, 7, 7, 7, 7, 7, 7, 7, 7, 7, 7, 7, 7, 7, 7, 7, 7, 7, 7, 7, 7, 7, 7, 7, 7, 7, 7, 7, 7, 7, 7, 7, 7, 7, 7, 7, 7, 7, 7, 7, 7, 7, 7, 7, 7, 7, 7, 7, 7, 7, 7, 7, 7, 7, 7, 7, 7, 7, 7, 7, 7, 7, 7, 7, 8, 8, 8, 8, 8, 8, 8, 8, 8, 8, 8, 8, 8, 8, 8, 8, 8, 8, 8, 8, 8, 8, 8, 8, 8, 8, 8, 8, 8, 8, 8, 8, 8, 8, 8, 8, 8, 8, 8, 8, 8, 8, 8, 8, 8, 8, 8, 8, 8, 8, 8, 8, 8, 8, 8, 8, 8, 8, 8, 8, 8, 8, 8, 8, 8, 8, 8, 8, 8, 8, 8, 8, 8, 8, 8, 8, 8, 8, 8, 8, 8, 8, 8, 8, 8, 8, 8, 8, 8, 8, 8, 8, 8, 8, 8, 8, 8, 8, 8, 8, 8, 8, 8, 8, 8, 8, 8, 8, 8, 8, 8, 8, 8, 8, 8, 8, 8, 8, 8, 8, 8, 8, 8, 8, 8, 8, 8, 8]⟩ : ByteArray) (ji19)
       replace p22 := eq_true p22
       replace q22 := eq_true q22
       go_wp2
       go_ret
       exact ⟨by first | rfl | (simp; done) | (simp only [← hji19] <;> (first | rfl | simp)) | (simp [*]; done), by repeat (first | exact Drawn0.refl _ | apply Drawn0.step)⟩
      ·rw [if_neg c21] at H
       exact absurd H (by simp)
     ·rw [if_neg c20] at H
      exact absurd H (by simp)
def bits_Len.f (k : Nat) (a0 : Int) : Option (Int) := (bits_Len64.f k a0).bind fun t136 => (some t136)
theorem bits_Len.mono : ∀ a0 k, LeO (bits_Len.f k a0) (bits_Len.f (k + 1) a0) := by
 intro a0 k
 unfold bits_Len.f
 repeat' with_reducible first
  | exact bits_Len64.mono _ _
  | exact LeO.refl _
  | exact LeO.none _
  | refine LeO.ite ?_ ?_
  | refine LeO.bind ?_ (fun _ => ?_)
theorem bits_Len.calls (k : Nat) (a0 : Int) (r : Int) (w : World) (h : bits_Len.f k a0 = some r) :
  Calls Try.prog 99 #[.int .u64 a0] w fun e w' => e = .returned (.int .i64 r) ∧ Drawn0 w w' := by
 unfold bits_Len.f at h
 have H := h
 clear h
 obtain ⟨t136, A2, H⟩ := bs_ H
 obtain rfl := si_ H
 go_enter Try.func99, Try.ntmps99
 go_wp2_with ((with_reducible refine gate_callee (f := 102) rfl ?_); refine goesL_ (some 7) rfl rfl Try.func102 (by kernel_rfl) rfl #[.int .u64 a0] rfl (by (try simp only [List.map_toArray, List.map_cons, List.map_nil]); first | done | rfl | (simp only [List.length_drop, List.length_take]; rfl)) ?_; (with_reducible refine (bits_Len64.calls k a0 t136 _ A2.out).mono ?_); rintro e w' ⟨rfl, ⟨nd, rfl⟩⟩; refine ⟨_, rfl, ?_⟩)
 go_ret
 exact ⟨by rfl, by repeat (first | exact Drawn0.refl _ | apply Drawn0.step)⟩
mutual
def hamming_Place.j0 : Nat → Int → Bool → Option (Int)
 | 0, _, _ => none
 | k + 1, x0, x9 => if x9 = true then (some 0) else (hamming_Place.l0 k x0 (wrap64 (x0 + 3)))
def hamming_Place.l0 : Nat → Int → Int → Option (Int)
 | 0, _, _ => none
 | k + 1, x0, x3 => (bits_Len.f k (IntKind.u64.wrap (x3))).bind fun t137 => (if (wrap64 (x3 - t137)) < (wrap64 (x0 + 1)) then (hamming_Place.l0 k x0 (wrap64 (x3 + 1))) else (hamming_Place.l1 k x3))
def hamming_Place.l1 : Nat → Int → Option (Int)
 | 0, _ => none
 | k + 1, x3 => if (Go.bits .and .i64 x3 (wrap64 (x3 - 1))) = 0 then (hamming_Place.l1 k (wrap64 (x3 + 1))) else (some x3)
end
def hamming_Place.f (k : Nat) (a0 : Int) : Option (Int) := if a0 < 0 then (hamming_Place.j0 k a0 true) else (hamming_Place.j0 k a0 (decide (a0 > 1048576)))
theorem hamming_Place.mono_l : ∀ k, (∀ y0 y1, LeO (hamming_Place.j0 k y0 y1) (hamming_Place.j0 (k + 1) y0 y1)) ∧ (∀ y0 y1, LeO (hamming_Place.l0 k y0 y1) (hamming_Place.l0 (k + 1) y0 y1)) ∧ (∀ y0, LeO (hamming_Place.l1 k y0) (hamming_Place.l1 (k + 1) y0))
 | 0 => ⟨fun _ _ r h => by simp [hamming_Place.j0] at h, fun _ _ r h => by simp [hamming_Place.l0] at h, fun _ r h => by simp [hamming_Place.l1] at h⟩
 | k + 1 => by
  obtain ⟨ih0, ih1, ih2⟩ := hamming_Place.mono_l k
  refine ⟨?_, ?_, ?_⟩
  ·intro y0 y1
   unfold hamming_Place.j0
   repeat' with_reducible first
   | exact ih0 _ _
   | exact ih1 _ _
   | exact ih2 _
   | exact bits_Len.mono _ _
   | exact LeO.refl _
   | exact LeO.none _
   | refine LeO.ite ?_ ?_
   | refine LeO.bind ?_ (fun _ => ?_)
  ·intro y0 y1
   unfold hamming_Place.l0
   repeat' with_reducible first
   | exact ih0 _ _
   | exact ih1 _ _
   | exact ih2 _
   | exact bits_Len.mono _ _
   | exact LeO.refl _
   | exact LeO.none _
   | refine LeO.ite ?_ ?_
   | refine LeO.bind ?_ (fun _ => ?_)
  ·intro y0
   unfold hamming_Place.l1
   repeat' with_reducible first
   | exact ih0 _ _
   | exact ih1 _ _
   | exact ih2 _
   | exact bits_Len.mono _ _
   | exact LeO.refl _
   | exact LeO.none _
   | refine LeO.ite ?_ ?_
   | refine LeO.bind ?_ (fun _ => ?_)
theorem hamming_Place.mono : ∀ a0 k, LeO (hamming_Place.f k a0) (hamming_Place.f (k + 1) a0) := by
 intro a0 k
 obtain ⟨ih0, ih1, ih2⟩ := hamming_Place.mono_l k
 unfold hamming_Place.f
 repeat' with_reducible first
  | exact ih0 _ _
  | exact ih1 _ _
  | exact ih2 _
  | exact bits_Len.mono _ _
  | exact LeO.refl _
  | exact LeO.none _
  | refine LeO.ite ?_ ?_
  | refine LeO.bind ?_ (fun _ => ?_)
theorem hamming_Place.calls (k : Nat) (a0 : Int) (r : Int) (w : World) (h : hamming_Place.f k a0 = some r) :
  Calls Try.prog 100 #[.int .i64 a0] w fun e w' => e = .returned (.int .i64 r) ∧ Drawn0 w w' := by
 unfold hamming_Place.f at h
 have H := h
 clear h
 have HC2 := ak_ H
 clear H
 go_enter Try.func100, Try.ntmps100
 go_upto_region 1 with (fail)
 go_cut [9] (fun v9 wc => ∃ (kq : Nat) (x9_1 : Bool), v9 = .bool x9_1 ∧ Aside0 (hamming_Place.j0 kq a0 x9_1 = some r) ∧ Aside0 (kq ≤ k) ∧ Drawn0 w wc)
 case first =>
  have H := HC2.out
  clear HC2
  by_cases c3 : a0 < 0
  ·rw [if_pos c3] at H
   have c3b0 := dt_ c3
   clear c3
   (first | rw [c3b0] | (simp only [i64_w, i32_w]; rw [c3b0]) | skip)
   have H' := ak_ H
   clear H
   go_wp2
   go_meet
   case rel => exact ⟨_, (true), (by rfl), H', ⟨by omega⟩, by repeat (first | exact Drawn0.refl _ | apply Drawn0.step)⟩
  ·rw [if_neg c3] at H
   have c3b0 := df_ c3
   clear c3
   (first | rw [c3b0] | (simp only [i64_w, i32_w]; rw [c3b0]) | skip)
   have H' := ak_ H
   clear H
   go_wp2
   go_meet
   case rel => exact ⟨_, (decide (a0 > 1048576)), (by rfl), H', ⟨by omega⟩, by repeat (first | exact Drawn0.refl _ | apply Drawn0.step)⟩
 case rest =>
  clear HC2
  obtain ⟨kq, x9_1, rfl, HA, HJ1, ⟨mc1, rfl⟩⟩ := hcut
  cases kq with
  | zero => exact absurd HA.out (by simp [hamming_Place.j0])
  | succ kj1 =>
   have H := HA.out
   clear HA
   simp only [hamming_Place.j0] at H
   by_cases c4 : x9_1 = true
   ·subst c4
    rw [if_pos rfl] at H
    obtain rfl := si_ H
    go_wp2
    go_ret
    exact ⟨by rfl, by repeat (first | exact Drawn0.refl _ | apply Drawn0.step)⟩
   ·replace c4 := Bool.eq_false_iff.mpr c4
    subst c4
    rw [if_neg (show ¬ (false = true) by decide)] at H
    have H' := ak_ H
    clear H
    go_wp2
    go_loopg [3] kj1 (fun kq v3 w' => ∃ (x3_2 : Int), v3 = .int .i64 x3_2 ∧ Aside0 (hamming_Place.l0 kq a0 x3_2 = some r) ∧ Aside0 (kq ≤ kj1) ∧ Drawn0 w w')
    case atStart => exact ⟨(wrap64 (a0 + 3)), (by rfl), H', ⟨Nat.le_refl _⟩, by repeat (first | exact Drawn0.refl _ | apply Drawn0.step)⟩
    case round =>
     clear H'
     obtain ⟨x3_2, rfl, HA, HK2, ⟨m2, rfl⟩⟩ := hrel
     cases gk with
     | zero => exact absurd HA.out (by simp [hamming_Place.l0])
     | succ k2 =>
      have H := HA.out
      clear HA
      simp only [hamming_Place.l0] at H
      obtain ⟨t137, A5, H⟩ := bs_ H
      by_cases c6 : (wrap64 (x3_2 - t137)) < (wrap64 (a0 + 1))
      ·rw [if_pos c6] at H
       have c6b0 := dt_ c6
       clear c6
       have H' := ak_ H
       clear H
       go_wp2_with ((with_reducible refine gate_callee (f := 99) rfl ?_); refine goesL_ (some 15) rfl rfl Try.func99 (by kernel_rfl) rfl #[.int .u64 (IntKind.u64.wrap (x3_2))] rfl (by (try simp only [List.map_toArray, List.map_cons, List.map_nil]); first | done | rfl | (simp only [List.length_drop, List.length_take]; rfl)) ?_; (with_reducible refine (bits_Len.calls k2 (IntKind.u64.wrap (x3_2)) t137 _ A5.out).mono ?_); rintro e w' ⟨rfl, ⟨nd, rfl⟩⟩; refine ⟨_, rfl, ?_⟩)
       go_roundg k2
       case measure => have := HJ1.out; have := HK2.out; omega
       case rel => exact ⟨(wrap64 (x3_2 + 1)), (by rfl), H', ⟨by have := HJ1.out; have := HK2.out; omega⟩, by repeat (first | exact Drawn0.refl _ | apply Drawn0.step)⟩
      ·rw [if_neg c6] at H
       have c6b0 := df_ c6
       clear c6
       have H' := ak_ H
       clear H
       go_wp2_with ((with_reducible refine gate_callee (f := 99) rfl ?_); refine goesL_ (some 15) rfl rfl Try.func99 (by kernel_rfl) rfl #[.int .u64 (IntKind.u64.wrap (x3_2))] rfl (by (try simp only [List.map_toArray, List.map_cons, List.map_nil]); first | done | rfl | (simp only [List.length_drop, List.length_take]; rfl)) ?_; (with_reducible refine (bits_Len.calls k2 (IntKind.u64.wrap (x3_2)) t137 _ A5.out).mono ?_); rintro e w' ⟨rfl, ⟨nd, rfl⟩⟩; refine ⟨_, rfl, ?_⟩)
       go_loopg [3] k2 (fun kq v3 w' => ∃ (x3_3 : Int), v3 = .int .i64 x3_3 ∧ Aside0 (hamming_Place.l1 kq x3_3 = some r) ∧ Aside0 (kq ≤ k2) ∧ Drawn0 w w')
       case atStart => exact ⟨(x3_2), (by rfl), H', ⟨Nat.le_refl _⟩, by repeat (first | exact Drawn0.refl _ | apply Drawn0.step)⟩
       case round =>
        clear H'
        clear c6b0
        obtain ⟨x3_3, rfl, HA, HK3, ⟨m3, rfl⟩⟩ := hrel
        cases gk with
        | zero => exact absurd HA.out (by simp [hamming_Place.l1])
        | succ k3 =>
         have H := HA.out
         clear HA
         simp only [hamming_Place.l1] at H
         by_cases c7 : (Go.bits .and .i64 x3_3 (wrap64 (x3_3 - 1))) = 0
         ·rw [if_pos c7] at H
          have c7b0 := beq_iff_eq.mpr c7
          have c7b1 := bne_eq_false_iff_eq.mpr c7
          clear c7
          have H' := ak_ H
          clear H
          go_wp2
          go_roundg k3
          case measure => have := HJ1.out; have := HK2.out; have := HK3.out; omega
          case rel => exact ⟨(wrap64 (x3_3 + 1)), (by rfl), H', ⟨by have := HJ1.out; have := HK2.out; have := HK3.out; omega⟩, by repeat (first | exact Drawn0.refl _ | apply Drawn0.step)⟩
         ·rw [if_neg c7] at H
          have c7b0 := beq_eq_false_iff_ne.mpr c7
          have c7b1 := bne_iff_ne.mpr c7
          obtain rfl := si_ H
          go_wp2
          go_ret
          exact ⟨by rfl, by repeat (first | exact Drawn0.refl _ | apply Drawn0.step)⟩
theorem hamming_gather_eight_calls (k : Nat) (i : Int) (p0 p1 p2 p3 p4 p5 p6 p7 : Int) (w : World) (h0 : 0 ≤ i) (h1 : i < 1000000)
 (e0 : Aside0 (hamming_Place.f k (8 * i) = some p0)) (e1 : Aside0 (hamming_Place.f k (8 * i + 1) = some p1)) (e2 : Aside0 (hamming_Place.f k (8 * i + 2) = some p2)) (e3 : Aside0 (hamming_Place.f k (8 * i + 3) = some p3))
 (e4 : Aside0 (hamming_Place.f k (8 * i + 4) = some p4)) (e5 : Aside0 (hamming_Place.f k (8 * i + 5) = some p5)) (e6 : Aside0 (hamming_Place.f k (8 * i + 6) = some p6)) (e7 : Aside0 (hamming_Place.f k (8 * i + 7) = some p7)) :
  Calls Try.prog 97 #[.int .i64 i] w fun e w' => e = .returned (.agg #[.int .i64 p0, .int .i64 p1, .int .i64 p2, .int .i64 p3, .int .i64 p4, .int .i64 p5, .int .i64 p6, .int .i64 p7]) ∧ Below w.heap.size w w' := by
 go_enter Try.func97, Try.ntmps97
 go_wp2
 refine wp_loop_rounds 9 ?_
 rw [rounds_succ]
 generalize hR0 : Code.rounds _ _ _ 8 = R0
 go_wp2_with fail
 with_reducible refine (hamming_Place.calls k _ p0 _ e0.out).mono ?_
 rintro e w1 ⟨rfl, ⟨⟨n0, rfl⟩⟩⟩
 go_wp2_with fail
 subst hR0
 rw [rounds_succ]
 generalize hR1 : Code.rounds _ _ _ 7 = R1
 go_wp2_with fail
 with_reducible refine (hamming_Place.calls k _ p1 _ e1.out).mono ?_
 rintro e w1 ⟨rfl, ⟨⟨n1, rfl⟩⟩⟩
 go_wp2_with fail
 subst hR1
 rw [rounds_succ]
 generalize hR2 : Code.rounds _ _ _ 6 = R2
 go_wp2_with fail
 with_reducible refine (hamming_Place.calls k _ p2 _ e2.out).mono ?_
 rintro e w1 ⟨rfl, ⟨⟨n2, rfl⟩⟩⟩
 go_wp2_with fail
 subst hR2
 rw [rounds_succ]
 generalize hR3 : Code.rounds _ _ _ 5 = R3
 go_wp2_with fail
 with_reducible refine (hamming_Place.calls k _ p3 _ e3.out).mono ?_
 rintro e w1 ⟨rfl, ⟨⟨n3, rfl⟩⟩⟩
 go_wp2_with fail
 subst hR3
 rw [rounds_succ]
 generalize hR4 : Code.rounds _ _ _ 4 = R4
 go_wp2_with fail
 with_reducible refine (hamming_Place.calls k _ p4 _ e4.out).mono ?_
 rintro e w1 ⟨rfl, ⟨⟨n4, rfl⟩⟩⟩
 go_wp2_with fail
 subst hR4
 rw [rounds_succ]
 generalize hR5 : Code.rounds _ _ _ 3 = R5
 go_wp2_with fail
 with_reducible refine (hamming_Place.calls k _ p5 _ e5.out).mono ?_
 rintro e w1 ⟨rfl, ⟨⟨n5, rfl⟩⟩⟩
 go_wp2_with fail
 subst hR5
 rw [rounds_succ]
 generalize hR6 : Code.rounds _ _ _ 2 = R6
 go_wp2_with fail
 with_reducible refine (hamming_Place.calls k _ p6 _ e6.out).mono ?_
 rintro e w1 ⟨rfl, ⟨⟨n6, rfl⟩⟩⟩
 go_wp2_with fail
 subst hR6
 rw [rounds_succ]
 generalize hR7 : Code.rounds _ _ _ 1 = R7
 go_wp2_with fail
 with_reducible refine (hamming_Place.calls k _ p7 _ e7.out).mono ?_
 rintro e w1 ⟨rfl, ⟨⟨n7, rfl⟩⟩⟩
 go_wp2_with fail
 subst hR7
 rw [rounds_succ]
 go_wp2_with fail
 refine bodyPost_ret (v := .agg #[.int .i64 p0, .int .i64 p1, .int .i64 p2, .int .i64 p3, .int .i64 p4, .int .i64 p5, .int .i64 p6, .int .i64 p7]) (by simp [results, Try.results97, go_sem]) rfl ⟨rfl, ?_⟩
 refine Below.setCell ?_ (by simp) _
 refine Below.setCell ?_ (by simp) _
 refine Below.setCell ?_ (by simp) _
 refine Below.setCell ?_ (by simp) _
 refine Below.setCell ?_ (by simp) _
 refine Below.setCell ?_ (by simp) _
 refine Below.setCell ?_ (by simp) _
 refine Below.setCell ?_ (by simp) _
 refine Below.setCell ?_ (by simp) _
 refine below_drewN ?_ _
 refine Below.setCell ?_ (by simp) _
 refine below_drewN ?_ _
 refine Below.setCell ?_ (by simp) _
 refine below_drewN ?_ _
 refine Below.setCell ?_ (by simp) _
 refine below_drewN ?_ _
 refine Below.setCell ?_ (by simp) _
 refine below_drewN ?_ _
 refine Below.setCell ?_ (by simp) _
 refine below_drewN ?_ _
 refine Below.setCell ?_ (by simp) _
 refine below_drewN ?_ _
 refine Below.setCell ?_ (by simp) _
 refine below_drewN ?_ _
 refine Below.alloc ?_ (by simp) _
 refine Below.alloc ?_ (Nat.le_refl _) _
 exact Below.refl _ _
theorem hamming_gather_index8_0 (p0 p1 p2 p3 p4 p5 p6 p7 : Value) (w : World) : (Instr.index 135 (.agg #[p0, p1, p2, p3, p4, p5, p6, p7]) (.int .i64 0)).run Try.prog w = .ok p0 w := by
 simp [Instr.index, run_underlying (P := Try.prog) Try.underlying135, asIntOf, go_sem]
theorem hamming_gather_index8_1 (p0 p1 p2 p3 p4 p5 p6 p7 : Value) (w : World) : (Instr.index 135 (.agg #[p0, p1, p2, p3, p4, p5, p6, p7]) (.int .i64 1)).run Try.prog w = .ok p1 w := by
 simp [Instr.index, run_underlying (P := Try.prog) Try.underlying135, asIntOf, go_sem]
theorem hamming_gather_index8_2 (p0 p1 p2 p3 p4 p5 p6 p7 : Value) (w : World) : (Instr.index 135 (.agg #[p0, p1, p2, p3, p4, p5, p6, p7]) (.int .i64 2)).run Try.prog w = .ok p2 w := by
 simp [Instr.index, run_underlying (P := Try.prog) Try.underlying135, asIntOf, go_sem]
theorem hamming_gather_index8_3 (p0 p1 p2 p3 p4 p5 p6 p7 : Value) (w : World) : (Instr.index 135 (.agg #[p0, p1, p2, p3, p4, p5, p6, p7]) (.int .i64 3)).run Try.prog w = .ok p3 w := by
 simp [Instr.index, run_underlying (P := Try.prog) Try.underlying135, asIntOf, go_sem]
theorem hamming_gather_index8_4 (p0 p1 p2 p3 p4 p5 p6 p7 : Value) (w : World) : (Instr.index 135 (.agg #[p0, p1, p2, p3, p4, p5, p6, p7]) (.int .i64 4)).run Try.prog w = .ok p4 w := by
 simp [Instr.index, run_underlying (P := Try.prog) Try.underlying135, asIntOf, go_sem]
theorem hamming_gather_index8_5 (p0 p1 p2 p3 p4 p5 p6 p7 : Value) (w : World) : (Instr.index 135 (.agg #[p0, p1, p2, p3, p4, p5, p6, p7]) (.int .i64 5)).run Try.prog w = .ok p5 w := by
 simp [Instr.index, run_underlying (P := Try.prog) Try.underlying135, asIntOf, go_sem]
theorem hamming_gather_index8_6 (p0 p1 p2 p3 p4 p5 p6 p7 : Value) (w : World) : (Instr.index 135 (.agg #[p0, p1, p2, p3, p4, p5, p6, p7]) (.int .i64 6)).run Try.prog w = .ok p6 w := by
 simp [Instr.index, run_underlying (P := Try.prog) Try.underlying135, asIntOf, go_sem]
theorem hamming_gather_index8_7 (p0 p1 p2 p3 p4 p5 p6 p7 : Value) (w : World) : (Instr.index 135 (.agg #[p0, p1, p2, p3, p4, p5, p6, p7]) (.int .i64 7)).run Try.prog w = .ok p7 w := by
 simp [Instr.index, run_underlying (P := Try.prog) Try.underlying135, asIntOf, go_sem]
attribute [local go_sem] hamming_gather_index8_0 hamming_gather_index8_1 hamming_gather_index8_2 hamming_gather_index8_3 hamming_gather_index8_4 hamming_gather_index8_5 hamming_gather_index8_6 hamming_gather_index8_7
def hamming_gather_gbit (c : Int) (j : Nat) : Bool := Go.bits .and .u8 (if j = 0 then c else c / 2 ^ j) 1 == 1
def hamming_gather_gst (c : Int) (j : Nat) (p : Int) (q : Int × Bool) : Int × Bool := if hamming_gather_gbit c j then (Go.bits .xor .u16 q.1 (IntKind.u16.wrap p), !q.2) else q
def hamming_gather_gup (c : Int) (ps : List Int) (q : Int × Bool) : Nat → Int × Bool
 | 0 => q
 | j + 1 => hamming_gather_gst c j (ps.getD j 0) (hamming_gather_gup c ps q j)
def hamming_gather_eightF (k : Nat) (i : Int) : Option (List Int) := if i < 1000000 then (hamming_Place.f k (8 * i)).bind fun p0 => (hamming_Place.f k (8 * i + 1)).bind fun p1 => (hamming_Place.f k (8 * i + 2)).bind fun p2 => (hamming_Place.f k (8 * i + 3)).bind fun p3 =>
 (hamming_Place.f k (8 * i + 4)).bind fun p4 => (hamming_Place.f k (8 * i + 5)).bind fun p5 => (hamming_Place.f k (8 * i + 6)).bind fun p6 => (hamming_Place.f k (8 * i + 7)).bind fun p7 => some [p0, p1, p2, p3, p4, p5, p6, p7] else none
theorem hamming_gather_up_step (c x4 : Int) (x5 : Bool) (p0 p1 p2 p3 p4 p5 p6 p7 : Int) (j : Nat) (p : Int) (hp : [p0, p1, p2, p3, p4, p5, p6, p7].getD j 0 = p) :
  ((hamming_gather_gbit c j = true → hamming_gather_gup c [p0, p1, p2, p3, p4, p5, p6, p7] (x4, x5) (j + 1) = (Go.bits .xor .u16 (hamming_gather_gup c [p0, p1, p2, p3, p4, p5, p6, p7] (x4, x5) j).1 (IntKind.u16.wrap p), !(hamming_gather_gup c [p0, p1, p2, p3, p4, p5, p6, p7] (x4, x5) j).2)) ∧
  (hamming_gather_gbit c j = false → hamming_gather_gup c [p0, p1, p2, p3, p4, p5, p6, p7] (x4, x5) (j + 1) = hamming_gather_gup c [p0, p1, p2, p3, p4, p5, p6, p7] (x4, x5) j)) := by
 subst hp
 refine ⟨fun h => ?_, fun h => ?_⟩
 ·show hamming_gather_gst _ _ _ _ = _
  unfold hamming_gather_gst
  rw [if_pos h]
 ·show hamming_gather_gst _ _ _ _ = _
  unfold hamming_gather_gst
  rw [h, if_neg (by decide)]
def hamming_gather.l0 : Nat → List Int → Int → Bool → Int → Option (Int × Bool)
 | 0, _, _, _, _ => none
 | k + 1, l, x, o, i => if i < (l.length : Int) then (if 0 ≤ i then (if i < 1000000 then (if rd l i = 0 then hamming_gather.l0 k l x o (i + 1) else ((hamming_gather_eightF k i).bind fun ps => hamming_gather.l0 k l (hamming_gather_gup (rd l i) ps (x, o) 8).1 (hamming_gather_gup (rd l i) ps (x, o) 8).2 (i + 1))) else none) else none) else some (x, o)
def hamming_gather.f (k : Nat) (l : List Int) : Option (Int × Bool) := hamming_gather.l0 k l 0 false 0
theorem hamming_gather_eightF.mono : ∀ i k, LeO (hamming_gather_eightF k i) (hamming_gather_eightF (k + 1) i) := by
 intro i k
 unfold hamming_gather_eightF
 refine LeO.ite ?_ (LeO.refl _)
 repeat' with_reducible first
  | exact LeO.refl _
  | exact hamming_Place.mono _ _
  | refine LeO.bind ?_ (fun _ => ?_)
theorem hamming_gather.mono_l : ∀ k, (∀ y0 y1 y2 y3, LeO (hamming_gather.l0 k y0 y1 y2 y3) (hamming_gather.l0 (k + 1) y0 y1 y2 y3))
 | 0 => fun _ _ _ _ r h => by simp [hamming_gather.l0] at h
 | k + 1 => by
  have ih0 := hamming_gather.mono_l k
  intro y0 y1 y2 y3
  unfold hamming_gather.l0
  repeat' with_reducible first
   | exact ih0 _ _ _ _
   | exact hamming_gather_eightF.mono _ _
   | exact LeO.refl _
   | refine LeO.ite ?_ ?_
   | refine LeO.bind ?_ (fun _ => ?_)
theorem hamming_gather.mono : ∀ a0 k, LeO (hamming_gather.f k a0) (hamming_gather.f (k + 1) a0) := fun _ k => hamming_gather.mono_l k _ _ _ _
theorem hamming_gather_eightF_calls (k : Nat) (i : Int) (ps : List Int) (h : hamming_gather_eightF k i = some ps) : i < 1000000 ∧ ∃ p0 p1 p2 p3 p4 p5 p6 p7 : Int, ps = [p0, p1, p2, p3, p4, p5, p6, p7] ∧ (0 ≤ i → ∀ w : World,
  Calls Try.prog 97 #[.int .i64 i] w fun e w' => e = .returned (.agg #[.int .i64 p0, .int .i64 p1, .int .i64 p2, .int .i64 p3, .int .i64 p4, .int .i64 p5, .int .i64 p6, .int .i64 p7]) ∧ Below w.heap.size w w') := by
 unfold hamming_gather_eightF at h
 split at h
 ·rename_i hi
  refine ⟨hi, ?_⟩
  obtain ⟨p0, e0, h⟩ := Option.bind_eq_some_iff.mp h
  obtain ⟨p1, e1, h⟩ := Option.bind_eq_some_iff.mp h
  obtain ⟨p2, e2, h⟩ := Option.bind_eq_some_iff.mp h
  obtain ⟨p3, e3, h⟩ := Option.bind_eq_some_iff.mp h
  obtain ⟨p4, e4, h⟩ := Option.bind_eq_some_iff.mp h
  obtain ⟨p5, e5, h⟩ := Option.bind_eq_some_iff.mp h
  obtain ⟨p6, e6, h⟩ := Option.bind_eq_some_iff.mp h
  obtain ⟨p7, e7, h⟩ := Option.bind_eq_some_iff.mp h
  exact ⟨p0, p1, p2, p3, p4, p5, p6, p7, (si_ h).symm, fun h0 w => hamming_gather_eight_calls k i p0 p1 p2 p3 p4 p5 p6 p7 w h0 hi ⟨e0⟩ ⟨e1⟩ ⟨e2⟩ ⟨e3⟩ ⟨e4⟩ ⟨e5⟩ ⟨e6⟩ ⟨e7⟩⟩
 ·exact absurd h (by simp)
theorem hamming_gather.calls (k : Nat) (A0 : Option Addr) (c0 : Nat) (l0 : List Int) (r1 : Int) (r2 : Bool) (w : World) (hr0 : Kd.C (Kd.int .u8) w A0 l0.length l0) (hc0 : l0.length ≤ c0) (h : hamming_gather.f k l0 = some (r1, r2)) :
  Calls Try.prog 84 #[.slice A0 l0.length c0] w fun e w' => e = .returned (.tuple #[.int .u16 r1, .bool r2]) ∧ Below w.heap.size w w' := by
 have HR0 := ak_ hr0
 have HC0 := ak_ hc0
 clear hr0 hc0
 have HB := br_ w
 have H' := ak_ (show hamming_gather.l0 k l0 0 false 0 = some (r1, r2) from h)
 clear h
 go_enter Try.func84, Try.ntmps84
 go_wp2
 go_loopg [4, 5, 12] k (fun kq v4 v5 v12 w' => ∃ (x4 : Int) (x5 : Bool) (x12 : Int), v4 = .int .u16 x4 ∧ v5 = .bool x5 ∧ v12 = .int .i64 x12 ∧ Aside0 (hamming_gather.l0 kq l0 x4 x5 x12 = some (r1, r2)) ∧ Aside0 (kq ≤ k) ∧ Aside0 (Below w.heap.size w w'))
 case atStart => exact ⟨0, false, 0, rfl, rfl, rfl, H', ⟨Nat.le_refl _⟩, HB⟩
 case round =>
  clear H'
  obtain ⟨x4, x5, x12, rfl, rfl, rfl, HA, HK1, HB⟩ := hrel
  cases gk with
  | zero => exact absurd HA.out (by simp [hamming_gather.l0])
  | succ k1 =>
   have H := HA.out
   clear HA
   simp only [hamming_gather.l0] at H
   by_cases q126 : x12 < (l0.length : Int)
   ·rw [if_pos q126] at H
    by_cases p126 : 0 ≤ x12
    ·rw [if_pos p126] at H
     by_cases hx1 : x12 < 1000000
     ·rw [if_pos hx1] at H
      have hx0 := p126
      obtain ⟨ad126, e126, hx126_0⟩ := Kd.at_int HR0.out x12 p126 q126
      cases e126
      replace hx126_0 := (HB.out.cell (World.block_lt_of_cell? w _ hx126_0)).trans hx126_0
      replace p126 := eq_true p126
      replace q126 := eq_true q126
      generalize rd l0 x12 = c at hx126_0 H
      by_cases c0' : c = 0
      ·subst c0'
       rw [if_pos rfl] at H
       have H' := ak_ H
       clear H
       go_wp2
       go_roundg k1
       case measure => have := HK1.out; omega
       case rel => exact ⟨x4, x5, x12 + 1, rfl, rfl, rfl, H', ⟨by have := HK1.out; omega⟩, HB⟩
      ·rw [if_neg c0'] at H
       obtain ⟨ps, e8, H⟩ := Option.bind_eq_some_iff.mp H
       obtain ⟨_, p0, p1, p2, p3, p4, p5, p6, p7, rfl, h8⟩ := hamming_gather_eightF_calls _ _ _ e8
       have H' := ak_ H
       have H8 := ak_ (h8 hx0)
       clear H h8 e8
       have c0b : (c == 0) = false := by simpa using c0'
       clear c0'
       go_wp2_with fail
       with_reducible refine (H8.out _).mono ?_
       rintro e w1 ⟨rfl, HB1⟩
       replace HB1 := ak_ HB1
       go_wp2_with fail
       go_loop [4, 5, 21] (fun v4 v5 v21 => ∃ (y4 : Int) (y5 : Bool) (j : Nat), j ≤ 8 ∧ Aside0 (hamming_gather_gup c [p0, p1, p2, p3, p4, p5, p6, p7] (x4, x5) j = (y4, y5)) ∧ v4 = .int .u16 y4 ∧ v5 = .bool y5 ∧ v21 = .int .i64 j) (fun _ _ v21 => 8 - (intOf v21).toNat)
       case atStart => exact ⟨x4, x5, 0, by omega, ⟨rfl⟩, rfl, rfl, rfl⟩
       case round =>
        obtain ⟨y4, y5, j, hj, HG, rfl, rfl, rfl⟩ := hrel
        by_cases h8 : j < 8
        ·obtain rfl | rfl | rfl | rfl | rfl | rfl | rfl | rfl : j = 0 ∨ j = 1 ∨ j = 2 ∨ j = 3 ∨ j = 4 ∨ j = 5 ∨ j = 6 ∨ j = 7 := by omega
         ·obtain ⟨hu1, hu2⟩ := hamming_gather_up_step c x4 x5 p0 p1 p2 p3 p4 p5 p6 p7 0 p0 rfl
          rw [HG.out] at hu1 hu2
          by_cases hb : hamming_gather_gbit c 0 = true
          ·have HN := ak_ (hu1 hb)
           have hb' : (Go.bits .and .u8 (c) 1 == 1) = true := hb
           clear hu1 hu2 hb
           go_wp2
           go_round
           case rel => exact ⟨_, _, 1, by omega, HN, rfl, rfl, rfl⟩
           case measure => simp [intOf]
          ·have hb := eq_false_of_ne_true hb
           have HN := ak_ (hu2 hb)
           have hb' : (Go.bits .and .u8 (c) 1 == 1) = false := hb
           clear hu1 hu2 hb
           go_wp2
           go_round
           case rel => exact ⟨_, _, 1, by omega, HN, rfl, rfl, rfl⟩
           case measure => simp [intOf]
         ·obtain ⟨hu1, hu2⟩ := hamming_gather_up_step c x4 x5 p0 p1 p2 p3 p4 p5 p6 p7 1 p1 rfl
          rw [HG.out] at hu1 hu2
          by_cases hb : hamming_gather_gbit c 1 = true
          ·have HN := ak_ (hu1 hb)
           have hb' : (Go.bits .and .u8 (c / 2) 1 == 1) = true := hb
           clear hu1 hu2 hb
           go_wp2
           go_round
           case rel => exact ⟨_, _, 2, by omega, HN, rfl, rfl, rfl⟩
           case measure => simp [intOf]
          ·have hb := eq_false_of_ne_true hb
           have HN := ak_ (hu2 hb)
           have hb' : (Go.bits .and .u8 (c / 2) 1 == 1) = false := hb
           clear hu1 hu2 hb
           go_wp2
           go_round
           case rel => exact ⟨_, _, 2, by omega, HN, rfl, rfl, rfl⟩
           case measure => simp [intOf]
         ·obtain ⟨hu1, hu2⟩ := hamming_gather_up_step c x4 x5 p0 p1 p2 p3 p4 p5 p6 p7 2 p2 rfl
          rw [HG.out] at hu1 hu2
          by_cases hb : hamming_gather_gbit c 2 = true
          ·have HN := ak_ (hu1 hb)
           have hb' : (Go.bits .and .u8 (c / 4) 1 == 1) = true := hb
           clear hu1 hu2 hb
           go_wp2
           go_round
           case rel => exact ⟨_, _, 3, by omega, HN, rfl, rfl, rfl⟩
           case measure => simp [intOf]
          ·have hb := eq_false_of_ne_true hb
           have HN := ak_ (hu2 hb)
           have hb' : (Go.bits .and .u8 (c / 4) 1 == 1) = false := hb
           clear hu1 hu2 hb
           go_wp2
           go_round
           case rel => exact ⟨_, _, 3, by omega, HN, rfl, rfl, rfl⟩
           case measure => simp [intOf]
         ·obtain ⟨hu1, hu2⟩ := hamming_gather_up_step c x4 x5 p0 p1 p2 p3 p4 p5 p6 p7 3 p3 rfl
          rw [HG.out] at hu1 hu2
          by_cases hb : hamming_gather_gbit c 3 = true
          ·have HN := ak_ (hu1 hb)
           have hb' : (Go.bits .and .u8 (c / 8) 1 == 1) = true := hb
           clear hu1 hu2 hb
           go_wp2
           go_round
           case rel => exact ⟨_, _, 4, by omega, HN, rfl, rfl, rfl⟩
           case measure => simp [intOf]
          ·have hb := eq_false_of_ne_true hb
           have HN := ak_ (hu2 hb)
           have hb' : (Go.bits .and .u8 (c / 8) 1 == 1) = false := hb
           clear hu1 hu2 hb
           go_wp2
           go_round
           case rel => exact ⟨_, _, 4, by omega, HN, rfl, rfl, rfl⟩
           case measure => simp [intOf]
         ·obtain ⟨hu1, hu2⟩ := hamming_gather_up_step c x4 x5 p0 p1 p2 p3 p4 p5 p6 p7 4 p4 rfl
          rw [HG.out] at hu1 hu2
          by_cases hb : hamming_gather_gbit c 4 = true
          ·have HN := ak_ (hu1 hb)
           have hb' : (Go.bits .and .u8 (c / 16) 1 == 1) = true := hb
           clear hu1 hu2 hb
           go_wp2
           go_round
           case rel => exact ⟨_, _, 5, by omega, HN, rfl, rfl, rfl⟩
           case measure => simp [intOf]
          ·have hb := eq_false_of_ne_true hb
           have HN := ak_ (hu2 hb)
           have hb' : (Go.bits .and .u8 (c / 16) 1 == 1) = false := hb
           clear hu1 hu2 hb
           go_wp2
           go_round
           case rel => exact ⟨_, _, 5, by omega, HN, rfl, rfl, rfl⟩
           case measure => simp [intOf]
         ·obtain ⟨hu1, hu2⟩ := hamming_gather_up_step c x4 x5 p0 p1 p2 p3 p4 p5 p6 p7 5 p5 rfl
          rw [HG.out] at hu1 hu2
          by_cases hb : hamming_gather_gbit c 5 = true
          ·have HN := ak_ (hu1 hb)
           have hb' : (Go.bits .and .u8 (c / 32) 1 == 1) = true := hb
           clear hu1 hu2 hb
           go_wp2
           go_round
           case rel => exact ⟨_, _, 6, by omega, HN, rfl, rfl, rfl⟩
           case measure => simp [intOf]
          ·have hb := eq_false_of_ne_true hb
           have HN := ak_ (hu2 hb)
           have hb' : (Go.bits .and .u8 (c / 32) 1 == 1) = false := hb
           clear hu1 hu2 hb
           go_wp2
           go_round
           case rel => exact ⟨_, _, 6, by omega, HN, rfl, rfl, rfl⟩
           case measure => simp [intOf]
         ·obtain ⟨hu1, hu2⟩ := hamming_gather_up_step c x4 x5 p0 p1 p2 p3 p4 p5 p6 p7 6 p6 rfl
          rw [HG.out] at hu1 hu2
          by_cases hb : hamming_gather_gbit c 6 = true
          ·have HN := ak_ (hu1 hb)
           have hb' : (Go.bits .and .u8 (c / 64) 1 == 1) = true := hb
           clear hu1 hu2 hb
           go_wp2
           go_round
           case rel => exact ⟨_, _, 7, by omega, HN, rfl, rfl, rfl⟩
           case measure => simp [intOf]
          ·have hb := eq_false_of_ne_true hb
           have HN := ak_ (hu2 hb)
           have hb' : (Go.bits .and .u8 (c / 64) 1 == 1) = false := hb
           clear hu1 hu2 hb
           go_wp2
           go_round
           case rel => exact ⟨_, _, 7, by omega, HN, rfl, rfl, rfl⟩
           case measure => simp [intOf]
         ·obtain ⟨hu1, hu2⟩ := hamming_gather_up_step c x4 x5 p0 p1 p2 p3 p4 p5 p6 p7 7 p7 rfl
          rw [HG.out] at hu1 hu2
          by_cases hb : hamming_gather_gbit c 7 = true
          ·have HN := ak_ (hu1 hb)
           have hb' : (Go.bits .and .u8 (c / 128) 1 == 1) = true := hb
           clear hu1 hu2 hb
           go_wp2
           go_round
           case rel => exact ⟨_, _, 8, by omega, HN, rfl, rfl, rfl⟩
           case measure => simp [intOf]
          ·have hb := eq_false_of_ne_true hb
           have HN := ak_ (hu2 hb)
           have hb' : (Go.bits .and .u8 (c / 128) 1 == 1) = false := hb
           clear hu1 hu2 hb
           go_wp2
           go_round
           case rel => exact ⟨_, _, 8, by omega, HN, rfl, rfl, rfl⟩
           case measure => simp [intOf]
        ·have : j = 8 := by omega
         subst this
         have H2 := H'.out
         rw [HG.out] at H2
         have H3 := ak_ H2
         clear H2 H' HG
         have HB2 := ak_ (HB.out.trans (HB1.out.mono HB.out.size))
         go_wp2
         go_roundg k1
         case measure => have := HK1.out; omega
         case rel => exact ⟨y4, y5, x12 + 1, rfl, rfl, rfl, H3, ⟨by have := HK1.out; omega⟩, HB2⟩
     ·rw [if_neg hx1] at H
      exact absurd H (by simp)
    ·rw [if_neg p126] at H
     exact absurd H (by simp)
   ·rw [if_neg q126] at H
    have c2b0 : decide (x12 < (l0.length : Int)) = false := df_ q126
    clear q126
    obtain rfl := (Prod.mk.inj (si_ H)).1
    obtain rfl := (Prod.mk.inj (si_ H)).2
    go_wp2
    go_ret2
    exact ⟨rfl, HB.out⟩
end Go.Proofs.Ytmehbabchakkpaa.QPageBack
