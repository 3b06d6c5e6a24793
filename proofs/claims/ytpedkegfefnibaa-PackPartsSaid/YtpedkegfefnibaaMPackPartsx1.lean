/-
  Texts for the law PackParts, laid together by my program merge2.py; what nothing here names is left out.
-/
import Derived.Test.YtpedkegfefnibaaMPackPartsx0
import Derived.Test.YtpedkegfefnibaaProg
import Derived.Below
import Derived.Deep.Draws
import Derived.Deep.AppendLies
import Derived.Maps.AppendAt
import Derived.OwnWalk
import Derived.Laws.BytesArg
import Derived.Laws.MakeOwn
import Derived.Laws.OwnMore
import Derived.Deep.OwnRows
import Derived.Tactics
import Derived.Lib.ConvBytes
import Derived.Laws.Slices
import Derived.WalkKit
import Derived.KernelRfl
import Derived.RowKit3
import Derived.Deep.LoopGhost
import Derived.Deep.QuietTactic
import Derived.BigQuiet
import Derived.WideLaws
import Derived.Deep.DeepCutAuto
import Derived.Deep.CutBlock
import Derived.Deep.RegionHeld3
import Derived.Laws.Rows
import Derived.Lib.AppendStr
import Derived.ArgAppend
import Derived.Laws.IdiomCopy
import Derived.OrdersHeld
import Derived.Laws.BitsLemmas
import Derived.RowKit
import Derived.WalkSpells
import Derived.Lib.SliceRun
import Derived.Lib.BufferMore
import Derived.Deep.Slices
import Derived.OpenShut
import Derived.SizedLaws
namespace Go.Proofs.Ytpedkegfefnibaa.QPackParts
open Go.RowKit Go.Proofs.YtpedkegfefnibaaW.PrintWords Go.Proofs.YtpedkegfefnibaaW.PrintLast Go.Proofs.YtpedkegfefnibaaW.PrintMore
attribute [local go_sem] max2_int min2_int max_two min_two max_three min_three max_four min_four   -- for this text's walks alone
set_option linter.unusedVariables false
set_option linter.unusedSimpArgs false
def errW : Option Int → Value
  | none => .nilIface
  | some c => .iface 0 (.int .i64 c)
theorem errW_none : errW none = .nilIface := rfl
theorem errW_some (c : Int) : errW (some c) = .iface 0 (.int .i64 c) := rfl
theorem info3 : (Try.prog.info? 3).map (fun i => (i.zero, i.size, i.bytes)) = some (some (.int .i64 0), 1, 8) := by kernel_rfl
theorem info5 : (Try.prog.info? 5).map (fun i => (i.zero, i.size, i.bytes)) = some (some (.int .u8 0), 1, 1) := by kernel_rfl
end Go.Proofs.Ytpedkegfefnibaa.QPackParts
namespace Go.Proofs.Ytpedkegfefnibaa.QPackParts
open Go.RowKit Go.Proofs.YtpedkegfefnibaaW.PrintWords Go.Proofs.YtpedkegfefnibaaW.PrintLast Go.Proofs.YtpedkegfefnibaaW.PrintMore
attribute [local go_sem] max2_int min2_int max_two min_two max_three min_three max_four min_four   -- for this text's walks alone
set_option linter.unusedVariables false
set_option linter.unusedSimpArgs false
def incunableref01_Same.l0 : Nat → List Int → List Int → Int → Option (Bool)
  | 0, _, _, _ => none
  | k + 1, x0, x1, x5 => if x5 < (x0.length : Int) then (if 0 ≤ x5 then (if x5 < (x1.length : Int) then (if (rd x0 x5) = (rd x1 x5) then (incunableref01_Same.l0 k x0 x1 (wrap64 (x5 + 1))) else (some false)) else (none)) else (none)) else (some true)
def incunableref01_Same.f (k : Nat) (l0 : List Int) (l1 : List Int) : Option (Bool) := if (l0.length : Int) = (l1.length : Int) then (incunableref01_Same.l0 k l0 l1 0) else (some false)
theorem incunableref01_Same.mono_l : ∀ k, (∀ y0 y1 y2, LeO (incunableref01_Same.l0 k y0 y1 y2) (incunableref01_Same.l0 (k + 1) y0 y1 y2))
  | 0 => fun _ _ _ r h => by simp [incunableref01_Same.l0] at h
  | k + 1 => by
    have ih0 := incunableref01_Same.mono_l k
    · intro y0 y1 y2
      unfold incunableref01_Same.l0
      repeat' first
      | (with_reducible exact ih0 _ _ _)
      | (with_reducible exact LeO.refl _)
      | (with_reducible exact LeO.none _)
      | (with_reducible refine LeO.ite ?_ ?_)
      | (with_reducible refine LeO.bind ?_ (fun _ => ?_))
      | exact ih0 _ _ _
      | exact LeO.none _
      | refine LeO.ite ?_ ?_
      | refine LeO.bind ?_ (fun _ => ?_)
theorem incunableref01_Same.mono : ∀ a0 a1 k, LeO (incunableref01_Same.f k a0 a1) (incunableref01_Same.f (k + 1) a0 a1) := by
  intro a0 a1 k
  have ih0 := incunableref01_Same.mono_l k
  unfold incunableref01_Same.f
  repeat' first
      | (with_reducible exact ih0 _ _ _)
      | (with_reducible exact LeO.refl _)
      | (with_reducible exact LeO.none _)
      | (with_reducible refine LeO.ite ?_ ?_)
      | (with_reducible refine LeO.bind ?_ (fun _ => ?_))
      | exact ih0 _ _ _
      | exact LeO.none _
      | refine LeO.ite ?_ ?_
      | refine LeO.bind ?_ (fun _ => ?_)
set_option maxHeartbeats 8000000 in
set_option maxRecDepth 100000 in
theorem incunableref01_Same.calls (k : Nat) (A0 : Option Addr) (c0 : Nat) (l0 : List Int) (A1 : Option Addr) (c1 : Nat) (l1 : List Int) (r : Bool) (w : World) (hr0 : Kd.C (Kd.int .u8) w A0 l0.length l0) (hc0 : l0.length ≤ c0) (hr1 : Kd.C (Kd.int .u8) w A1 l1.length l1) (hc1 : l1.length ≤ c1) (h : incunableref01_Same.f k l0 l1 = some r) :
    Calls Try.prog 18 #[.slice A0 l0.length c0, .slice A1 l1.length c1] w fun e w' => e = .returned (.bool r) ∧ Drawn0 w w' := by
  have HR0 := Aside0.mk hr0
  have HC0 := Aside0.mk hc0
  clear hr0 hc0
  have HR1 := Aside0.mk hr1
  have HC1 := Aside0.mk hc1
  clear hr1 hc1
  have H : (if (l0.length : Int) = (l1.length : Int) then (incunableref01_Same.l0 k l0 l1 0) else (some false)) = some r := h
  clear h
  by_cases c3 : (l0.length : Int) = (l1.length : Int)
  · rw [if_pos c3] at H
    have c3b0 : ((l0.length : Int) == (l1.length : Int)) = true := beq_iff_eq.mpr c3
    have c3b1 : ((l0.length : Int) != (l1.length : Int)) = false := bne_eq_false_iff_eq.mpr c3
    have c3b2 : (l0.length == l1.length) = true := by first | simpa using c3 | (simp at c3 ⊢; omega)
    clear c3
    have H' := Aside0.mk H
    clear H
    go_enter Try.func18, Try.ntmps18
    go_wp2
    repeat (go_quiet (fail); try go_wp2)
    go_loopg [5] k (fun kq v5 w' => ∃ (x5_1 : Int), v5 = .int .i64 x5_1 ∧ Aside0 (incunableref01_Same.l0 kq l0 l1 x5_1 = some r) ∧ Aside0 (kq ≤ k) ∧ Drawn0 w w')
    case atStart => exact ⟨(0), (by first | rfl | (simp; done) | (simp [*]; done)), H', ⟨Nat.le_refl _⟩, by repeat (first | exact Drawn0.refl _ | apply Drawn0.step)⟩
    case round =>
      clear H'
      try clear c1
      try clear p2
      try clear c3
      try clear c3b0
      try clear c3b1
      try clear c3b2
      obtain ⟨x5_1, rfl, HA, HK1, ⟨m1, rfl⟩⟩ := hrel
      cases gk with
      | zero => exact absurd HA.out (by simp [incunableref01_Same.l0])
      | succ k1 =>
        have H := HA.out
        clear HA
        simp only [incunableref01_Same.l0] at H
        by_cases c4 : x5_1 < (l0.length : Int)
        · rw [if_pos c4] at H
          have c4b0 : decide (x5_1 < (l0.length : Int)) = true := decide_eq_true c4
          clear c4
          by_cases c5 : 0 ≤ x5_1
          · rw [if_pos c5] at H
            have c5b0 : decide (0 ≤ x5_1) = true := decide_eq_true c5
            clear c5
            by_cases c6 : x5_1 < (l1.length : Int)
            · rw [if_pos c6] at H
              have c6b0 : decide (x5_1 < (l1.length : Int)) = true := decide_eq_true c6
              clear c6
              by_cases c7 : (rd l0 x5_1) = (rd l1 x5_1)
              · rw [if_pos c7] at H
                have c7b0 : ((rd l0 x5_1) == (rd l1 x5_1)) = true := beq_iff_eq.mpr c7
                have c7b1 : ((rd l0 x5_1) != (rd l1 x5_1)) = false := bne_eq_false_iff_eq.mpr c7
                clear c7
                have H' := Aside0.mk H
                clear H
                have p101 : 0 ≤ (x5_1 : Int) := of_decide_eq_true (by first | (with_reducible assumption) | assumption)
                have q101 : x5_1 < (l0.length : Int) := of_decide_eq_true (by first | (with_reducible assumption) | assumption)
                obtain ⟨ad101, e101, hx101_0⟩ := Kd.at_int HR0.out x5_1 p101 q101
                cases e101
                replace p101 := eq_true p101
                replace q101 := eq_true q101
                have p102 : 0 ≤ (x5_1 : Int) := of_decide_eq_true (by first | (with_reducible assumption) | assumption)
                have q102 : x5_1 < (l1.length : Int) := of_decide_eq_true (by first | (with_reducible assumption) | assumption)
                obtain ⟨ad102, e102, hx102_0⟩ := Kd.at_int HR1.out x5_1 p102 q102
                cases e102
                replace p102 := eq_true p102
                replace q102 := eq_true q102
                go_wp2
                repeat (go_quiet (fail); try go_wp2)
                go_roundg k1
                case measure => have := HK1.out; omega
                case rel => exact ⟨(wrap64 (x5_1 + 1)), (by first | rfl | (simp; done) | (simp [*]; done)), H', ⟨by have := HK1.out; omega⟩, by repeat (first | exact Drawn0.refl _ | apply Drawn0.step)⟩
              · rw [if_neg c7] at H
                have c7b0 : ((rd l0 x5_1) == (rd l1 x5_1)) = false := beq_eq_false_iff_ne.mpr c7
                have c7b1 : ((rd l0 x5_1) != (rd l1 x5_1)) = true := bne_iff_ne.mpr c7
                obtain rfl := Option.some.inj H
                have p101 : 0 ≤ (x5_1 : Int) := of_decide_eq_true (by first | (with_reducible assumption) | assumption)
                have q101 : x5_1 < (l0.length : Int) := of_decide_eq_true (by first | (with_reducible assumption) | assumption)
                obtain ⟨ad101, e101, hx101_0⟩ := Kd.at_int HR0.out x5_1 p101 q101
                cases e101
                replace p101 := eq_true p101
                replace q101 := eq_true q101
                have p102 : 0 ≤ (x5_1 : Int) := of_decide_eq_true (by first | (with_reducible assumption) | assumption)
                have q102 : x5_1 < (l1.length : Int) := of_decide_eq_true (by first | (with_reducible assumption) | assumption)
                obtain ⟨ad102, e102, hx102_0⟩ := Kd.at_int HR1.out x5_1 p102 q102
                cases e102
                replace p102 := eq_true p102
                replace q102 := eq_true q102
                go_wp2
                repeat (go_quiet (fail); try go_wp2)
                go_ret
                exact ⟨by first | rfl | (simp; done) | (simp [*]; done), by repeat (first | exact Drawn0.refl _ | apply Drawn0.step)⟩
            · rw [if_neg c6] at H
              exact absurd H (by simp)
          · rw [if_neg c5] at H
            exact absurd H (by simp)
        · rw [if_neg c4] at H
          have c4b0 : decide (x5_1 < (l0.length : Int)) = false := decide_eq_false c4
          clear c4
          obtain rfl := Option.some.inj H
          go_wp2
          repeat (go_quiet (fail); try go_wp2)
          go_ret
          exact ⟨by first | rfl | (simp; done) | (simp [*]; done), by repeat (first | exact Drawn0.refl _ | apply Drawn0.step)⟩
  · rw [if_neg c3] at H
    have c3b0 : ((l0.length : Int) == (l1.length : Int)) = false := beq_eq_false_iff_ne.mpr c3
    have c3b1 : ((l0.length : Int) != (l1.length : Int)) = true := bne_iff_ne.mpr c3
    have c3b2 : (l0.length == l1.length) = false := by first | simpa using c3 | (simp at c3 ⊢; omega)
    obtain rfl := Option.some.inj H
    go_enter Try.func18, Try.ntmps18
    go_wp2
    repeat (go_quiet (fail); try go_wp2)
    go_ret
    exact ⟨by first | rfl | (simp; done) | (simp [*]; done), by repeat (first | exact Drawn0.refl _ | apply Drawn0.step)⟩
def pack_Size.l0 : Nat → Int → List Int → Int → Int → Option (Int × Bool)
  | 0, _, _, _, _ => none
  | k + 1, x4, x10, x11, x12 => if x12 < x11 then (if 0 ≤ x12 then (if x12 < (x10.length : Int) then (if (rd x10 x12) < 1 then (some (0, false)) else (if (rd x10 x12) > 8 then (some (0, false)) else (pack_Size.l0 k (wrap64 (x4 + (rd x10 x12))) x10 x11 (wrap64 (x12 + 1))))) else (none)) else (none)) else (some (x4, true))
def pack_Size.f (k : Nat) (l0 : List Int) : Option (Int × Bool) := if (l0.length : Int) > 64 then (some (0, false)) else (pack_Size.l0 k 0 l0 (l0.length : Int) 0)
theorem pack_Size.mono_l : ∀ k, (∀ y0 y1 y2 y3, LeO (pack_Size.l0 k y0 y1 y2 y3) (pack_Size.l0 (k + 1) y0 y1 y2 y3))
  | 0 => fun _ _ _ _ r h => by simp [pack_Size.l0] at h
  | k + 1 => by
    have ih0 := pack_Size.mono_l k
    · intro y0 y1 y2 y3
      unfold pack_Size.l0
      repeat' first
      | (with_reducible exact ih0 _ _ _ _)
      | (with_reducible exact LeO.refl _)
      | (with_reducible exact LeO.none _)
      | (with_reducible refine LeO.ite ?_ ?_)
      | (with_reducible refine LeO.bind ?_ (fun _ => ?_))
      | exact ih0 _ _ _ _
      | exact LeO.none _
      | refine LeO.ite ?_ ?_
      | refine LeO.bind ?_ (fun _ => ?_)
theorem pack_Size.mono : ∀ a0 k, LeO (pack_Size.f k a0) (pack_Size.f (k + 1) a0) := by
  intro a0 k
  have ih0 := pack_Size.mono_l k
  unfold pack_Size.f
  repeat' first
      | (with_reducible exact ih0 _ _ _ _)
      | (with_reducible exact LeO.refl _)
      | (with_reducible exact LeO.none _)
      | (with_reducible refine LeO.ite ?_ ?_)
      | (with_reducible refine LeO.bind ?_ (fun _ => ?_))
      | exact ih0 _ _ _ _
      | exact LeO.none _
      | refine LeO.ite ?_ ?_
      | refine LeO.bind ?_ (fun _ => ?_)
set_option maxHeartbeats 8000000 in
set_option maxRecDepth 100000 in
theorem pack_Size.calls (k : Nat) (A0 : Option Addr) (c0 : Nat) (l0 : List Int) (r1 : Int) (r2 : Bool) (w : World) (hr0 : Kd.C (Kd.int .i64) w A0 l0.length l0) (hc0 : l0.length ≤ c0) (h : pack_Size.f k l0 = some (r1, r2)) :
    Calls Try.prog 34 #[.slice A0 l0.length c0] w fun e w' => e = .returned (.tuple #[.int .i64 r1, .bool r2]) ∧ Drawn0 w w' := by
  have HR0 := Aside0.mk hr0
  have HC0 := Aside0.mk hc0
  clear hr0 hc0
  have H : (if (l0.length : Int) > 64 then (some (0, false)) else (pack_Size.l0 k 0 l0 (l0.length : Int) 0)) = some (r1, r2) := h
  clear h
  by_cases c2 : (l0.length : Int) > 64
  · rw [if_pos c2] at H
    have c2b0 : decide (64 < (l0.length : Int)) = true := decide_eq_true c2
    have c2b1 : decide (64 < l0.length) = true := decide_eq_true (by omega)
    clear c2
    simp only [Option.some.injEq, Prod.mk.injEq] at H
    obtain ⟨rfl, rfl⟩ := H
    go_enter Try.func34, Try.ntmps34
    go_wp2
    go_ret2
    exact ⟨by first | rfl | (simp; done) | (simp [*]; done), by repeat (first | exact Drawn0.refl _ | apply Drawn0.step)⟩
  · rw [if_neg c2] at H
    have c2b0 : decide (64 < (l0.length : Int)) = false := decide_eq_false c2
    have c2b1 : decide (64 < l0.length) = false := decide_eq_false (by omega)
    clear c2
    have H' := Aside0.mk H
    clear H
    go_enter Try.func34, Try.ntmps34
    go_wp2
    go_loopg [4, 12] k (fun kq v4 v12 w' => ∃ (x4_1 : Int) (x12_1 : Int), v4 = .int .i64 x4_1 ∧ v12 = .int .i64 x12_1 ∧ Aside0 (pack_Size.l0 kq x4_1 l0 (l0.length : Int) x12_1 = some (r1, r2)) ∧ Aside0 (kq ≤ k) ∧ Drawn0 w w')
    case atStart => exact ⟨(0), (0), (by first | rfl | (simp; done) | (simp [*]; done)), (by first | rfl | (simp; done) | (simp [*]; done)), H', ⟨Nat.le_refl _⟩, by repeat (first | exact Drawn0.refl _ | apply Drawn0.step)⟩
    case round =>
      clear H'
      try clear c2
      try clear c2b0
      try clear c2b1
      try clear p2
      obtain ⟨x4_1, x12_1, rfl, rfl, HA, HK1, ⟨m1, rfl⟩⟩ := hrel
      cases gk with
      | zero => exact absurd HA.out (by simp [pack_Size.l0])
      | succ k1 =>
        have H := HA.out
        clear HA
        simp only [pack_Size.l0] at H
        by_cases c3 : x12_1 < (l0.length : Int)
        · rw [if_pos c3] at H
          have c3b0 : decide (x12_1 < (l0.length : Int)) = true := decide_eq_true c3
          clear c3
          by_cases c4 : 0 ≤ x12_1
          · rw [if_pos c4] at H
            have c4b0 : decide (0 ≤ x12_1) = true := decide_eq_true c4
            clear c4
            by_cases c5 : x12_1 < (l0.length : Int)
            · rw [if_pos c5] at H
              have c5b0 : decide (x12_1 < (l0.length : Int)) = true := decide_eq_true c5
              clear c5
              by_cases c6 : (rd l0 x12_1) < 1
              · rw [if_pos c6] at H
                have c6b0 : decide ((rd l0 x12_1) < 1) = true := decide_eq_true c6
                clear c6
                simp only [Option.some.injEq, Prod.mk.injEq] at H
                obtain ⟨rfl, rfl⟩ := H
                have p103 : 0 ≤ (x12_1 : Int) := of_decide_eq_true (by first | (with_reducible assumption) | assumption)
                have q103 : x12_1 < (l0.length : Int) := of_decide_eq_true (by first | (with_reducible assumption) | assumption)
                obtain ⟨ad103, e103, hx103_0⟩ := Kd.at_int HR0.out x12_1 p103 q103
                cases e103
                replace p103 := eq_true p103
                replace q103 := eq_true q103
                go_wp2
                go_ret2
                exact ⟨by first | rfl | (simp; done) | (simp [*]; done), by repeat (first | exact Drawn0.refl _ | apply Drawn0.step)⟩
              · rw [if_neg c6] at H
                have c6b0 : decide ((rd l0 x12_1) < 1) = false := decide_eq_false c6
                clear c6
                by_cases c7 : (rd l0 x12_1) > 8
                · rw [if_pos c7] at H
                  have c7b0 : decide (8 < (rd l0 x12_1)) = true := decide_eq_true c7
                  clear c7
                  simp only [Option.some.injEq, Prod.mk.injEq] at H
                  obtain ⟨rfl, rfl⟩ := H
                  have p103 : 0 ≤ (x12_1 : Int) := of_decide_eq_true (by first | (with_reducible assumption) | assumption)
                  have q103 : x12_1 < (l0.length : Int) := of_decide_eq_true (by first | (with_reducible assumption) | assumption)
                  obtain ⟨ad103, e103, hx103_0⟩ := Kd.at_int HR0.out x12_1 p103 q103
                  cases e103
                  replace p103 := eq_true p103
                  replace q103 := eq_true q103
                  go_wp2
                  go_ret2
                  exact ⟨by first | rfl | (simp; done) | (simp [*]; done), by repeat (first | exact Drawn0.refl _ | apply Drawn0.step)⟩
                · rw [if_neg c7] at H
                  have c7b0 : decide (8 < (rd l0 x12_1)) = false := decide_eq_false c7
                  clear c7
                  have H' := Aside0.mk H
                  clear H
                  have p103 : 0 ≤ (x12_1 : Int) := of_decide_eq_true (by first | (with_reducible assumption) | assumption)
                  have q103 : x12_1 < (l0.length : Int) := of_decide_eq_true (by first | (with_reducible assumption) | assumption)
                  obtain ⟨ad103, e103, hx103_0⟩ := Kd.at_int HR0.out x12_1 p103 q103
                  cases e103
                  replace p103 := eq_true p103
                  replace q103 := eq_true q103
                  go_wp2
                  go_roundg k1
                  case measure => have := HK1.out; omega
                  case rel => exact ⟨(wrap64 (x4_1 + (rd l0 x12_1))), (wrap64 (x12_1 + 1)), (by first | rfl | (simp; done) | (simp [*]; done)), (by first | rfl | (simp; done) | (simp [*]; done)), H', ⟨by have := HK1.out; omega⟩, by repeat (first | exact Drawn0.refl _ | apply Drawn0.step)⟩
            · rw [if_neg c5] at H
              exact absurd H (by simp)
          · rw [if_neg c4] at H
            exact absurd H (by simp)
        · rw [if_neg c3] at H
          have c3b0 : decide (x12_1 < (l0.length : Int)) = false := decide_eq_false c3
          clear c3
          simp only [Option.some.injEq, Prod.mk.injEq] at H
          obtain ⟨rfl, rfl⟩ := H
          go_wp2
          go_ret2
          exact ⟨by first | rfl | (simp; done) | (simp [*]; done), by repeat (first | exact Drawn0.refl _ | apply Drawn0.step)⟩
def pack_Fits.j0 : Nat → Int → Int → Bool → Option (Bool)
  | 0, _, _, _ => none
  | k + 1, x0, x1, x14 => if x14 = true then (some false) else (if x1 = 8 then (some (decide (x0 ≤ 4611686018427387904))) else (if 0 ≤ (IntKind.u64.wrap (wrap64 (8 * x1))) then (some ((shr .i64 x0 (IntKind.u64.wrap (wrap64 (8 * x1)))) == 0)) else (none)))
def pack_Fits.f (k : Nat) (a0 : Int) (a1 : Int) : Option (Bool) := if a1 < 1 then (pack_Fits.j0 k a0 a1 true) else (if a1 > 8 then (pack_Fits.j0 k a0 a1 true) else (pack_Fits.j0 k a0 a1 (decide (a0 < 0))))
theorem pack_Fits.mono_l : ∀ k, (∀ y0 y1 y2, LeO (pack_Fits.j0 k y0 y1 y2) (pack_Fits.j0 (k + 1) y0 y1 y2))
  | 0 => fun _ _ _ r h => by simp [pack_Fits.j0] at h
  | k + 1 => by
    have ih0 := pack_Fits.mono_l k
    · intro y0 y1 y2
      unfold pack_Fits.j0
      repeat' first
      | (with_reducible exact ih0 _ _ _)
      | (with_reducible exact LeO.refl _)
      | (with_reducible exact LeO.none _)
      | (with_reducible refine LeO.ite ?_ ?_)
      | (with_reducible refine LeO.bind ?_ (fun _ => ?_))
      | exact ih0 _ _ _
      | exact LeO.none _
      | refine LeO.ite ?_ ?_
      | refine LeO.bind ?_ (fun _ => ?_)
theorem pack_Fits.mono : ∀ a0 a1 k, LeO (pack_Fits.f k a0 a1) (pack_Fits.f (k + 1) a0 a1) := by
  intro a0 a1 k
  have ih0 := pack_Fits.mono_l k
  unfold pack_Fits.f
  repeat' first
      | (with_reducible exact ih0 _ _ _)
      | (with_reducible exact LeO.refl _)
      | (with_reducible exact LeO.none _)
      | (with_reducible refine LeO.ite ?_ ?_)
      | (with_reducible refine LeO.bind ?_ (fun _ => ?_))
      | exact ih0 _ _ _
      | exact LeO.none _
      | refine LeO.ite ?_ ?_
      | refine LeO.bind ?_ (fun _ => ?_)
set_option maxHeartbeats 8000000 in
set_option maxRecDepth 100000 in
theorem pack_Fits.calls (k : Nat) (a0 : Int) (a1 : Int) (r : Bool) (w : World) (h : pack_Fits.f k a0 a1 = some r) :
    Calls Try.prog 36 #[.int .i64 a0, .int .i64 a1] w fun e w' => e = .returned (.bool r) ∧ Drawn0 w w' := by
  have H : (if a1 < 1 then (pack_Fits.j0 k a0 a1 true) else (if a1 > 8 then (pack_Fits.j0 k a0 a1 true) else (pack_Fits.j0 k a0 a1 (decide (a0 < 0))))) = some r := h
  clear h
  have HC3 := Aside0.mk H
  clear H
  go_enter Try.func36, Try.ntmps36
  go_upto_region 1 with (fail)
  go_cut [14] (fun v14 wc => ∃ (kq : Nat) (x14_2 : Bool), v14 = .bool x14_2 ∧ Aside0 (pack_Fits.j0 kq a0 a1 x14_2 = some r) ∧ Aside0 (kq ≤ k) ∧ Drawn0 w wc)
  case first =>
    have H := HC3.out
    clear HC3
    by_cases c4 : a1 < 1
    · rw [if_pos c4] at H
      have c4b0 : decide (a1 < 1) = true := decide_eq_true c4
      clear c4
      (first | rw [c4b0] | (simp only [i64_w, i32_w]; rw [c4b0]) | skip)
      have H' := Aside0.mk H
      clear H
      go_wp2
      go_meet
      case rel => exact ⟨_, (true), (by first | rfl | (simp; done) | (simp [*]; done)), H', ⟨by first | omega | exact Nat.le_refl _⟩, by repeat (first | exact Drawn0.refl _ | apply Drawn0.step)⟩
    · rw [if_neg c4] at H
      have c4b0 : decide (a1 < 1) = false := decide_eq_false c4
      clear c4
      (first | rw [c4b0] | (simp only [i64_w, i32_w]; rw [c4b0]) | skip)
      by_cases c5 : a1 > 8
      · rw [if_pos c5] at H
        have c5b0 : decide (8 < a1) = true := decide_eq_true c5
        clear c5
        have H' := Aside0.mk H
        clear H
        go_wp2
        go_meet
        case rel => exact ⟨_, (true), (by first | rfl | (simp; done) | (simp [*]; done)), H', ⟨by first | omega | exact Nat.le_refl _⟩, by repeat (first | exact Drawn0.refl _ | apply Drawn0.step)⟩
      · rw [if_neg c5] at H
        have c5b0 : decide (8 < a1) = false := decide_eq_false c5
        clear c5
        have H' := Aside0.mk H
        clear H
        go_wp2
        go_meet
        case rel => exact ⟨_, (decide (a0 < 0)), (by first | rfl | (simp; done) | (simp [*]; done)), H', ⟨by first | omega | exact Nat.le_refl _⟩, by repeat (first | exact Drawn0.refl _ | apply Drawn0.step)⟩
  case rest =>
    clear HC3
    try clear p2
    try clear c3
    try clear c4
    try clear c4b0
    try clear c5
    try clear c5b0
    obtain ⟨kq, x14_2, rfl, HA, HJ2, ⟨mc2, rfl⟩⟩ := hcut
    cases kq with
    | zero => exact absurd HA.out (by simp [pack_Fits.j0])
    | succ kj2 =>
      have H := HA.out
      clear HA
      simp only [pack_Fits.j0] at H
      by_cases c6 : x14_2 = true
      · subst c6
        have H1 : (some false) = some r := by rw [if_pos rfl] at H; exact H
        clear H
        have H := H1
        clear H1
        obtain rfl := Option.some.inj H
        go_wp2
        go_ret
        exact ⟨by first | rfl | (simp; done) | (simp [*]; done), by repeat (first | exact Drawn0.refl _ | apply Drawn0.step)⟩
      · replace c6 := Bool.eq_false_iff.mpr c6
        subst c6
        have H1 : (if a1 = 8 then (some (decide (a0 ≤ 4611686018427387904))) else (if 0 ≤ (IntKind.u64.wrap (wrap64 (8 * a1))) then (some ((shr .i64 a0 (IntKind.u64.wrap (wrap64 (8 * a1)))) == 0)) else (none))) = some r := by rw [if_neg (show ¬ (false = true) by decide)] at H; exact H
        clear H
        have H := H1
        clear H1
        by_cases c7 : a1 = 8
        · rw [if_pos c7] at H
          have c7b0 : (a1 == 8) = true := beq_iff_eq.mpr c7
          have c7b1 : (a1 != 8) = false := bne_eq_false_iff_eq.mpr c7
          clear c7
          obtain rfl := Option.some.inj H
          go_wp2
          go_ret
          exact ⟨by first | rfl | (simp; done) | (simp [*]; done), by repeat (first | exact Drawn0.refl _ | apply Drawn0.step)⟩
        · rw [if_neg c7] at H
          have c7b0 : (a1 == 8) = false := beq_eq_false_iff_ne.mpr c7
          have c7b1 : (a1 != 8) = true := bne_iff_ne.mpr c7
          obtain ⟨ji8, hji8⟩ : ∃ j_ : Int, (IntKind.u64.wrap (wrap64 (8 * a1))) = j_ := ⟨_, rfl⟩
          replace H : (if 0 ≤ (ji8) then (some ((shr .i64 a0 (ji8)) == 0)) else (none)) = some r := by first | (rw [hji8] at H; exact H) | (simp only [hji8] at H ⊢; exact H)
          by_cases c9 : 0 ≤ (ji8)
          · rw [if_pos c9] at H
            have c9b0 := eq_true c9
            have c9b1 : decide (0 ≤ (ji8)) = true := decide_eq_true c9
            clear c9
            obtain ⟨ji10, hji10⟩ : ∃ j_ : Int, (shr .i64 a0 (ji8)) = j_ := ⟨_, rfl⟩
            replace H : (some ((ji10) == 0)) = some r := by first | (rw [hji10] at H; exact H) | (simp only [hji10] at H ⊢; exact H)
            have hji10_ : (a0 / 2 ^ min (ji8).toNat 64) = ji10 := hji10
            have hji10z : (ji8) ≤ 64 → (a0 / 2 ^ (ji8).toNat) = ji10 := shr_small hji10
            obtain rfl := Option.some.inj H
            go_wp2
            go_ret
            exact ⟨by first | rfl | (simp; done) | (simp only [← hji8, ← hji10] <;> (first | rfl | simp)) | (simp [*]; done), by repeat (first | exact Drawn0.refl _ | apply Drawn0.step)⟩
          · rw [if_neg c9] at H
            exact absurd H (by simp)
mutual
def pack_Put.j0 : Nat → List Int → List Int → Bool → Option (List Int × Int)
  | 0, _, _, _ => none
  | k + 1, x0, x1, x24 => if x24 = true then (some (([] : List Int), 2)) else (pack_Put.l0 k x0 ([] : List Int) x1 (x1.length : Int) 0)
def pack_Put.l0 : Nat → List Int → List Int → List Int → Int → Int → Option (List Int × Int)
  | 0, _, _, _, _, _ => none
  | k + 1, x0, x8, x25, x26, x27 => if x27 < x26 then (if 0 ≤ x27 then (if x27 < (x25.length : Int) then (if x27 < (x0.length : Int) then ((pack_Fits.f k (rd x25 x27) (rd x0 x27)).bind fun t108 => (if t108 = true then (pack_Put.l1 k x0 x8 (rd x25 x27) x25 x26 x27 (rd x0 x27) 0) else (some (([] : List Int), 2)))) else (none)) else (none)) else (none)) else (some (x8, 0))
def pack_Put.l1 : Nat → List Int → List Int → Int → List Int → Int → Int → Int → Int → Option (List Int × Int)
  | 0, _, _, _, _, _, _, _, _ => none
  | k + 1, x0, x8, x10, x25, x26, x27, x42, x43 => if x43 < x42 then (if x8.length < 140737488355328 then (pack_Put.l1 k x0 (x8 ++ [(x10) % 256]) (x10 / 256) x25 x26 x27 x42 (wrap64 (x43 + 1))) else (none)) else (pack_Put.l0 k x0 x8 x25 x26 (wrap64 (x27 + 1)))
end
def pack_Put.f (k : Nat) (l0 : List Int) (l1 : List Int) : Option (List Int × Int) := (pack_Size.f k l0).bind fun bt104 => (if bt104.2 = true then (pack_Put.j0 k l0 l1 ((l1.length : Int) != (l0.length : Int))) else (pack_Put.j0 k l0 l1 true))
theorem pack_Put.mono_l : ∀ k, (∀ y0 y1 y2, LeO (pack_Put.j0 k y0 y1 y2) (pack_Put.j0 (k + 1) y0 y1 y2)) ∧ (∀ y0 y1 y2 y3 y4, LeO (pack_Put.l0 k y0 y1 y2 y3 y4) (pack_Put.l0 (k + 1) y0 y1 y2 y3 y4)) ∧ (∀ y0 y1 y2 y3 y4 y5 y6 y7, LeO (pack_Put.l1 k y0 y1 y2 y3 y4 y5 y6 y7) (pack_Put.l1 (k + 1) y0 y1 y2 y3 y4 y5 y6 y7))
  | 0 => ⟨fun _ _ _ r h => by simp [pack_Put.j0] at h, fun _ _ _ _ _ r h => by simp [pack_Put.l0] at h, fun _ _ _ _ _ _ _ _ r h => by simp [pack_Put.l1] at h⟩
  | k + 1 => by
    obtain ⟨ih0, ih1, ih2⟩ := pack_Put.mono_l k
    refine ⟨?_, ?_, ?_⟩
    · intro y0 y1 y2
      unfold pack_Put.j0
      repeat' first
      | (with_reducible exact ih0 _ _ _)
      | (with_reducible exact ih1 _ _ _ _ _)
      | (with_reducible exact ih2 _ _ _ _ _ _ _ _)
      | (with_reducible exact pack_Fits.mono _ _ _)
      | (with_reducible exact pack_Size.mono _ _)
      | (with_reducible exact LeO.refl _)
      | (with_reducible exact LeO.none _)
      | (with_reducible refine LeO.ite ?_ ?_)
      | (with_reducible refine LeO.bind ?_ (fun _ => ?_))
      | exact ih0 _ _ _
      | exact ih1 _ _ _ _ _
      | exact ih2 _ _ _ _ _ _ _ _
      | exact pack_Fits.mono _ _ _
      | exact pack_Size.mono _ _
      | exact LeO.none _
      | refine LeO.ite ?_ ?_
      | refine LeO.bind ?_ (fun _ => ?_)
    · intro y0 y1 y2 y3 y4
      unfold pack_Put.l0
      repeat' first
      | (with_reducible exact ih0 _ _ _)
      | (with_reducible exact ih1 _ _ _ _ _)
      | (with_reducible exact ih2 _ _ _ _ _ _ _ _)
      | (with_reducible exact pack_Fits.mono _ _ _)
      | (with_reducible exact pack_Size.mono _ _)
      | (with_reducible exact LeO.refl _)
      | (with_reducible exact LeO.none _)
      | (with_reducible refine LeO.ite ?_ ?_)
      | (with_reducible refine LeO.bind ?_ (fun _ => ?_))
      | exact ih0 _ _ _
      | exact ih1 _ _ _ _ _
      | exact ih2 _ _ _ _ _ _ _ _
      | exact pack_Fits.mono _ _ _
      | exact pack_Size.mono _ _
      | exact LeO.none _
      | refine LeO.ite ?_ ?_
      | refine LeO.bind ?_ (fun _ => ?_)
    · intro y0 y1 y2 y3 y4 y5 y6 y7
      unfold pack_Put.l1
      repeat' first
      | (with_reducible exact ih0 _ _ _)
      | (with_reducible exact ih1 _ _ _ _ _)
      | (with_reducible exact ih2 _ _ _ _ _ _ _ _)
      | (with_reducible exact pack_Fits.mono _ _ _)
      | (with_reducible exact pack_Size.mono _ _)
      | (with_reducible exact LeO.refl _)
      | (with_reducible exact LeO.none _)
      | (with_reducible refine LeO.ite ?_ ?_)
      | (with_reducible refine LeO.bind ?_ (fun _ => ?_))
      | exact ih0 _ _ _
      | exact ih1 _ _ _ _ _
      | exact ih2 _ _ _ _ _ _ _ _
      | exact pack_Fits.mono _ _ _
      | exact pack_Size.mono _ _
      | exact LeO.none _
      | refine LeO.ite ?_ ?_
      | refine LeO.bind ?_ (fun _ => ?_)
theorem pack_Put.mono : ∀ a0 a1 k, LeO (pack_Put.f k a0 a1) (pack_Put.f (k + 1) a0 a1) := by
  intro a0 a1 k
  obtain ⟨ih0, ih1, ih2⟩ := pack_Put.mono_l k
  unfold pack_Put.f
  repeat' first
      | (with_reducible exact ih0 _ _ _)
      | (with_reducible exact ih1 _ _ _ _ _)
      | (with_reducible exact ih2 _ _ _ _ _ _ _ _)
      | (with_reducible exact pack_Fits.mono _ _ _)
      | (with_reducible exact pack_Size.mono _ _)
      | (with_reducible exact LeO.refl _)
      | (with_reducible exact LeO.none _)
      | (with_reducible refine LeO.ite ?_ ?_)
      | (with_reducible refine LeO.bind ?_ (fun _ => ?_))
      | exact ih0 _ _ _
      | exact ih1 _ _ _ _ _
      | exact ih2 _ _ _ _ _ _ _ _
      | exact pack_Fits.mono _ _ _
      | exact pack_Size.mono _ _
      | exact LeO.none _
      | refine LeO.ite ?_ ?_
      | refine LeO.bind ?_ (fun _ => ?_)
set_option maxHeartbeats 8000000 in
set_option maxRecDepth 100000 in
theorem pack_Put.calls (k : Nat) (A0 : Option Addr) (c0 : Nat) (l0 : List Int) (A1 : Option Addr) (c1 : Nat) (l1 : List Int) (r1 : List Int) (r2 : Int) (w : World) (hr0 : Kd.C (Kd.int .i64) w A0 l0.length l0) (hc0 : l0.length ≤ c0) (hr1 : Kd.C (Kd.int .i64) w A1 l1.length l1) (hc1 : l1.length ≤ c1) (h : pack_Put.f k l0 l1 = some (r1, r2)) :
    Calls Try.prog 32 #[.slice A0 l0.length c0, .slice A1 l1.length c1] w fun e w' => ∃ v0_ : Value, e = .returned (.tuple #[v0_, .int .i64 r2]) ∧ Kd.R (Kd.int .u8) 5 w' w.heap.size (fun _ => True) v0_ r1 ∧ Below w.heap.size w w' := by
  have HR0 := Aside0.mk hr0
  have HC0 := Aside0.mk hc0
  clear hr0 hc0
  have HR1 := Aside0.mk hr1
  have HC1 := Aside0.mk hc1
  clear hr1 hc1
  have HB := Aside0.mk (Below.refl w.heap.size w)
  have H : ((pack_Size.f k l0).bind fun bt104 => (if bt104.2 = true then (pack_Put.j0 k l0 l1 ((l1.length : Int) != (l0.length : Int))) else (pack_Put.j0 k l0 l1 true))) = some (r1, r2) := h
  clear h
  replace H := Option.bind_eq_some_iff.mp H
  obtain ⟨⟨t104, t105⟩, A30, H⟩ := H
  replace H : (if t105 = true then (pack_Put.j0 k l0 l1 ((l1.length : Int) != (l0.length : Int))) else (pack_Put.j0 k l0 l1 true)) = some (r1, r2) := H
  have A3 := Aside0.mk A30
  clear A30
  have HC4 := Aside0.mk H
  clear H
  go_enter Try.func32, Try.ntmps32
  go_upto_region 2 with (first | ((with_reducible refine gate_callee (f := 34) rfl ?_); refine goesL_ (some 13) rfl rfl Try.func34 (by kernel_rfl) rfl #[.slice A0 l0.length c0] rfl (by (try simp only [List.map_toArray, List.map_cons, List.map_nil]); first | done | rfl | (simp only [List.length_drop, List.length_take]; rfl)) ?_; (with_reducible refine (pack_Size.calls k _ _ l0 t104 t105 _ ?side1 ?side2 A3.out).mono ?_); (case side1 => repeat (first | exact HR0.out | (with_reducible refine Kd.C_alloc ?_ _) | (with_reducible refine Kd.C_drewN ?_ _) | (with_reducible refine Kd.C_drew ?_))); (case side2 => exact HC0.out); rintro e w' ⟨rfl, ⟨nd, rfl⟩⟩; refine ⟨_, rfl, ?_⟩))
  (try simp only [Act.put, List.setIfInBounds_toArray, List.set_cons_zero, List.set_cons_succ])
  go_cut [24] (fun v24 wc => ∃ (kq : Nat) (x24_3 : Bool), v24 = .bool x24_3 ∧ Aside0 (pack_Put.j0 kq l0 l1 x24_3 = some (r1, r2)) ∧ Aside0 (kq ≤ k) ∧ Aside0 (Below w.heap.size w wc))
  case first =>
    have H := HC4.out
    clear HC4
    by_cases c5 : t105 = true
    · subst c5
      have H1 : (pack_Put.j0 k l0 l1 ((l1.length : Int) != (l0.length : Int))) = some (r1, r2) := by rw [if_pos rfl] at H; exact H
      clear H
      have H := H1
      clear H1
      have H' := Aside0.mk H
      clear H
      go_wp2
      go_meet
      case rel => exact ⟨_, (((l1.length : Int) != (l0.length : Int))), (by first | rfl | (simp; done) | (simp [*]; done)), H', ⟨by first | omega | exact Nat.le_refl _⟩, ⟨by repeat (first | (with_reducible first | exact HB.out | apply below_alloc | apply pw_below_drewN | apply below_drew1) | exact HB.out)⟩⟩
    · replace c5 := Bool.eq_false_iff.mpr c5
      subst c5
      have H1 : (pack_Put.j0 k l0 l1 true) = some (r1, r2) := by rw [if_neg (show ¬ (false = true) by decide)] at H; exact H
      clear H
      have H := H1
      clear H1
      have H' := Aside0.mk H
      clear H
      go_wp2
      go_meet
      case rel => exact ⟨_, (true), (by first | rfl | (simp; done) | (simp [*]; done)), H', ⟨by first | omega | exact Nat.le_refl _⟩, ⟨by repeat (first | (with_reducible first | exact HB.out | apply below_alloc | apply pw_below_drewN | apply below_drew1) | exact HB.out)⟩⟩
  case rest =>
    clear HC4
    try clear c1
    try clear p2
    try clear c3
    try clear c5
    obtain ⟨kq, x24_3, rfl, HA, HJ3, HB⟩ := hcut
    cases kq with
    | zero => exact absurd HA.out (by simp [pack_Put.j0])
    | succ kj3 =>
      have H := HA.out
      clear HA
      simp only [pack_Put.j0] at H
      by_cases c6 : x24_3 = true
      · subst c6
        have H1 : (some (([] : List Int), 2)) = some (r1, r2) := by rw [if_pos rfl] at H; exact H
        clear H
        have H := H1
        clear H1
        simp only [Option.some.injEq, Prod.mk.injEq] at H
        obtain ⟨rfl, rfl⟩ := H
        go_wp2
        go_ret2
        exact ⟨_, by first | rfl | (simp [errW_none, errW_some] <;> rfl) | (simp [*, errW_none, errW_some] <;> rfl), by first | exact Kd.R_nil _ _ _ _ _ | exact Kd.N_nil _ _ _ _ _ | exact Kd.V_nil _ _ _ _ _ | exact Kd.Q_nil _ _ _ _ _ | exact Kd.S_nil _ _ _ _ _, by repeat (first | (with_reducible first | exact HB.out | apply below_alloc | apply pw_below_drewN | apply below_drew1) | exact HB.out)⟩
      · replace c6 := Bool.eq_false_iff.mpr c6
        subst c6
        have H1 : (pack_Put.l0 kj3 l0 ([] : List Int) l1 (l1.length : Int) 0) = some (r1, r2) := by rw [if_neg (show ¬ (false = true) by decide)] at H; exact H
        clear H
        have H := H1
        clear H1
        have H' := Aside0.mk H
        clear H
        go_wp2
        go_loopg [8, 27] kj3 (fun kq v8 v27 w' => ∃ (x8_2 : List Int) (x27_2 : Int), v27 = .int .i64 x27_2 ∧ Aside0 (pack_Put.l0 kq l0 x8_2 l1 (l1.length : Int) x27_2 = some (r1, r2)) ∧ Aside0 (kq ≤ kj3) ∧ Aside0 (Kd.R (Kd.int .u8) 5 w' w.heap.size (fun _ => True) v8 x8_2) ∧ Aside0 (Below w.heap.size w w'))
        case atStart => exact ⟨(([] : List Int)), (0), (by first | rfl | (simp; done) | (simp [*]; done)), H', ⟨Nat.le_refl _⟩, ⟨by first | exact Kd.R_nil _ _ _ _ _ | exact Kd.N_nil _ _ _ _ _ | exact Kd.V_nil _ _ _ _ _ | exact Kd.Q_nil _ _ _ _ _ | exact Kd.S_nil _ _ _ _ _⟩, ⟨by repeat (first | (with_reducible first | exact HB.out | apply below_alloc | apply pw_below_drewN | apply below_drew1) | exact HB.out)⟩⟩
        case round =>
          clear H'
          try clear c1
          try clear p2
          try clear c3
          try clear c5
          try clear c6
          try clear p2
          obtain ⟨x8_2, x27_2, rfl, HA, HK2, HO_8, HB⟩ := hrel
          cases gk with
          | zero => exact absurd HA.out (by simp [pack_Put.l0])
          | succ k2 =>
            have H := HA.out
            clear HA
            simp only [pack_Put.l0] at H
            by_cases c7 : x27_2 < (l1.length : Int)
            · rw [if_pos c7] at H
              have c7b0 : decide (x27_2 < (l1.length : Int)) = true := decide_eq_true c7
              clear c7
              by_cases c8 : 0 ≤ x27_2
              · rw [if_pos c8] at H
                have c8b0 : decide (0 ≤ x27_2) = true := decide_eq_true c8
                clear c8
                by_cases c9 : x27_2 < (l1.length : Int)
                · rw [if_pos c9] at H
                  have c9b0 : decide (x27_2 < (l1.length : Int)) = true := decide_eq_true c9
                  clear c9
                  by_cases c10 : x27_2 < (l0.length : Int)
                  · rw [if_pos c10] at H
                    have c10b0 : decide (x27_2 < (l0.length : Int)) = true := decide_eq_true c10
                    clear c10
                    replace H := Option.bind_eq_some_iff.mp H
                    obtain ⟨t108, A110, H⟩ := H
                    replace H : (if t108 = true then (pack_Put.l1 k2 l0 x8_2 (rd l1 x27_2) l1 (l1.length : Int) x27_2 (rd l0 x27_2) 0) else (some (([] : List Int), 2))) = some (r1, r2) := H
                    have A11 := Aside0.mk A110
                    clear A110
                    by_cases c12 : t108 = true
                    · subst c12
                      have H1 : (pack_Put.l1 k2 l0 x8_2 (rd l1 x27_2) l1 (l1.length : Int) x27_2 (rd l0 x27_2) 0) = some (r1, r2) := by rw [if_pos rfl] at H; exact H
                      clear H
                      have H := H1
                      clear H1
                      have H' := Aside0.mk H
                      clear H
                      have p106 : 0 ≤ (x27_2 : Int) := of_decide_eq_true (by first | (with_reducible assumption) | assumption)
                      have q106 : x27_2 < (l1.length : Int) := of_decide_eq_true (by first | (with_reducible assumption) | assumption)
                      obtain ⟨ad106, e106, hx106_0⟩ := Kd.at_int HR1.out x27_2 p106 q106
                      cases e106
                      replace hx106_0 := (HB.out.cell (World.block_lt_of_cell? w _ hx106_0)).trans hx106_0
                      replace p106 := eq_true p106
                      replace q106 := eq_true q106
                      have p107 : 0 ≤ (x27_2 : Int) := of_decide_eq_true (by first | (with_reducible assumption) | assumption)
                      have q107 : x27_2 < (l0.length : Int) := of_decide_eq_true (by first | (with_reducible assumption) | assumption)
                      obtain ⟨ad107, e107, hx107_0⟩ := Kd.at_int HR0.out x27_2 p107 q107
                      cases e107
                      replace hx107_0 := (HB.out.cell (World.block_lt_of_cell? w _ hx107_0)).trans hx107_0
                      replace p107 := eq_true p107
                      replace q107 := eq_true q107
                      go_wp2_with (first | ((with_reducible refine gate_callee (f := 36) rfl ?_); refine goesL_ (some 37) rfl rfl Try.func36 (by kernel_rfl) rfl #[.int .i64 (rd l1 x27_2), .int .i64 (rd l0 x27_2)] rfl (by (try simp only [List.map_toArray, List.map_cons, List.map_nil]); first | done | rfl | (simp only [List.length_drop, List.length_take]; rfl)) ?_; (with_reducible refine (pack_Fits.calls k2 (rd l1 x27_2) (rd l0 x27_2) true _ A11.out).mono ?_); rintro e w' ⟨rfl, ⟨nd, rfl⟩⟩; refine ⟨_, rfl, ?_⟩; have p109 : 0 ≤ (x27_2 : Int) := of_decide_eq_true (by first | (with_reducible assumption) | assumption); have q109 : x27_2 < (l0.length : Int) := of_decide_eq_true (by first | (with_reducible assumption) | assumption); obtain ⟨ad109, e109, hx109_0⟩ := Kd.at_int HR0.out x27_2 p109 q109; obtain rfl : ad107 = ad109 := (by injection e109); replace hx109_0 := (HB.out.cell (World.block_lt_of_cell? w _ hx109_0)).trans hx109_0; replace p109 := eq_true p109; replace q109 := eq_true q109))
                      go_loopg [8, 10, 43] k2 (fun kq v8 v10 v43 w' => ∃ (x8_3 : List Int) (x10_3 : Int) (x43_3 : Int), v10 = .int .i64 x10_3 ∧ v43 = .int .i64 x43_3 ∧ Aside0 (pack_Put.l1 kq l0 x8_3 x10_3 l1 (l1.length : Int) x27_2 (rd l0 x27_2) x43_3 = some (r1, r2)) ∧ Aside0 (kq ≤ k2) ∧ Aside0 (Kd.R (Kd.int .u8) 5 w' w.heap.size (fun _ => True) v8 x8_3) ∧ Aside0 (Below w.heap.size w w'))
                      case atStart => exact ⟨(x8_2), (rd l1 x27_2), (0), (by first | rfl | (simp; done) | (simp [*]; done)), (by first | rfl | (simp; done) | (simp [*]; done)), H', ⟨Nat.le_refl _⟩, ⟨by (with_reducible repeat (first | apply Kd.R_alloc | apply Kd.R_drewN | apply Kd.R_drew)); exact HO_8.out⟩, ⟨by repeat (first | (with_reducible first | exact HB.out | apply below_alloc | apply pw_below_drewN | apply below_drew1) | exact HB.out)⟩⟩
                      case round =>
                        clear H'
                        try clear c1
                        try clear p1
                        try clear q1
                        try clear hx1
                        try clear p2
                        try clear c3
                        try clear c5
                        try clear c6
                        try clear c7
                        try clear c7b0
                        try clear c8
                        try clear c8b0
                        try clear c9
                        try clear c9b0
                        try clear c10
                        try clear c10b0
                        try clear p10
                        try clear q10
                        try clear hx10
                        try clear c12
                        try clear hx106_0
                        try clear hx107_0
                        try clear hx109_0
                        try clear p106
                        try clear p107
                        try clear p109
                        try clear p2
                        try clear q106
                        try clear q107
                        try clear q109
                        obtain ⟨x8_3, x10_3, x43_3, rfl, rfl, HA, HK3, HO_8, HB⟩ := hrel
                        cases gk with
                        | zero => exact absurd HA.out (by simp [pack_Put.l1])
                        | succ k3 =>
                          have H := HA.out
                          clear HA
                          simp only [pack_Put.l1] at H
                          by_cases c13 : x43_3 < (rd l0 x27_2)
                          · rw [if_pos c13] at H
                            have c13b0 : decide (x43_3 < (rd l0 x27_2)) = true := decide_eq_true c13
                            clear c13
                            by_cases c14 : x8_3.length < 140737488355328
                            · rw [if_pos c14] at H
                              have LMc14 := Aside0.mk c14
                              clear c14
                              obtain ⟨y110, hy110⟩ : ∃ y_ : List Int, y_ = (x8_3 ++ [(x10_3) % 256]) := ⟨_, rfl⟩
                              replace H : (pack_Put.l1 k3 l0 y110 (x10_3 / 256) l1 (l1.length : Int) x27_2 (rd l0 x27_2) (wrap64 (x43_3 + 1))) = some (r1, r2) := by first | (rw [hy110]; with_reducible exact H) | (have H2_ := (Option.bind_some _ _).symm.trans H; rw [hy110]; with_reducible exact H2_) | (have H2_ := (Option.bind_some _ _).symm.trans H; with_reducible exact H2_) | with_reducible exact H | (rw [hy110]; exact H) | exact H
                              have Ny110 := Aside0.mk hy110
                              clear hy110
                              have H' := Aside0.mk H
                              clear H
                              go_wp2_with (first | ((with_reducible refine gate_builtin (b := .append) (xs := #[.tmp 45, .tmp 48]) rfl ?_); (try (refine gate_guard (by rfl) ?_; dsimp only)); at_builtin; refine Kd.R_append (Kd.int .u8) (w0 := w) w.heap.size rfl (.tmp 45) (.tmp 48) 22 5 (.int .u8 0) 1 rfl Try.underlying22 info5 rfl (by decide) (by omega) u8 x8_3 ((x10_3) % 256) [.int .u8 ((x10_3) % 256)] (fun _ => True) (fun _ => False) rfl rfl ?aP (fun _ hk => hk.elim) ?aF ?aO ?aB ?aS ?aL ?_; (case aP => exact rfl); (case aB => exact (by repeat (first | (with_reducible first | exact HB.out | apply below_alloc | apply pw_below_drewN | apply below_drew1) | exact HB.out))); (case aF => exact (fun _ _ => trivial)); (case aO => exact (by (with_reducible repeat (first | apply Kd.R_alloc | apply Kd.R_drewN | apply Kd.R_drew)); exact HO_8.out)); (case aS => exact (below_size (by repeat (first | (with_reducible first | exact HB.out | apply below_alloc | apply pw_below_drewN | apply below_drew1) | exact HB.out)))); (case aL => have := LMc14.out; omega); intro v111 w15 ho hb hg hat; rw [← Ny110.out] at ho; have n0_ := Aside0.mk (hb); have n1_ := Aside0.mk (ho); clear HB; clear HO_8; have HB := n0_; have HO112 := n1_; clear n0_ n1_; clear ho hb hg hat))
                              go_roundg k3
                              case measure => have := HJ3.out; have := HK2.out; have := HK3.out; omega
                              case rel => exact ⟨(y110), (x10_3 / 256), (wrap64 (x43_3 + 1)), (by first | rfl | (simp; done) | (simp [*]; done)), (by first | rfl | (simp; done) | (simp [*]; done)), H', ⟨by have := HJ3.out; have := HK2.out; have := HK3.out; omega⟩, ⟨by (with_reducible repeat (first | apply Kd.R_alloc | apply Kd.R_drewN | apply Kd.R_drew)); exact HO112.out⟩, ⟨by repeat (first | (with_reducible first | exact HB.out | apply below_alloc | apply pw_below_drewN | apply below_drew1) | exact HB.out)⟩⟩
                            · rw [if_neg c14] at H
                              exact absurd H (by simp)
                          · rw [if_neg c13] at H
                            have c13b0 : decide (x43_3 < (rd l0 x27_2)) = false := decide_eq_false c13
                            clear c13
                            have H' := Aside0.mk H
                            clear H
                            go_wp2
                            go_roundg k3
                            case measure => have := HJ3.out; have := HK2.out; have := HK3.out; omega
                            case rel => exact ⟨(x8_3), (wrap64 (x27_2 + 1)), (by first | rfl | (simp; done) | (simp [*]; done)), H', ⟨by have := HJ3.out; have := HK2.out; have := HK3.out; omega⟩, ⟨by (with_reducible repeat (first | apply Kd.R_alloc | apply Kd.R_drewN | apply Kd.R_drew)); exact HO_8.out⟩, ⟨by repeat (first | (with_reducible first | exact HB.out | apply below_alloc | apply pw_below_drewN | apply below_drew1) | exact HB.out)⟩⟩
                    · replace c12 := Bool.eq_false_iff.mpr c12
                      subst c12
                      have H1 : (some (([] : List Int), 2)) = some (r1, r2) := by rw [if_neg (show ¬ (false = true) by decide)] at H; exact H
                      clear H
                      have H := H1
                      clear H1
                      simp only [Option.some.injEq, Prod.mk.injEq] at H
                      obtain ⟨rfl, rfl⟩ := H
                      have p106 : 0 ≤ (x27_2 : Int) := of_decide_eq_true (by first | (with_reducible assumption) | assumption)
                      have q106 : x27_2 < (l1.length : Int) := of_decide_eq_true (by first | (with_reducible assumption) | assumption)
                      obtain ⟨ad106, e106, hx106_0⟩ := Kd.at_int HR1.out x27_2 p106 q106
                      cases e106
                      replace hx106_0 := (HB.out.cell (World.block_lt_of_cell? w _ hx106_0)).trans hx106_0
                      replace p106 := eq_true p106
                      replace q106 := eq_true q106
                      have p107 : 0 ≤ (x27_2 : Int) := of_decide_eq_true (by first | (with_reducible assumption) | assumption)
                      have q107 : x27_2 < (l0.length : Int) := of_decide_eq_true (by first | (with_reducible assumption) | assumption)
                      obtain ⟨ad107, e107, hx107_0⟩ := Kd.at_int HR0.out x27_2 p107 q107
                      cases e107
                      replace hx107_0 := (HB.out.cell (World.block_lt_of_cell? w _ hx107_0)).trans hx107_0
                      replace p107 := eq_true p107
                      replace q107 := eq_true q107
                      go_wp2_with (first | ((with_reducible refine gate_callee (f := 36) rfl ?_); refine goesL_ (some 37) rfl rfl Try.func36 (by kernel_rfl) rfl #[.int .i64 (rd l1 x27_2), .int .i64 (rd l0 x27_2)] rfl (by (try simp only [List.map_toArray, List.map_cons, List.map_nil]); first | done | rfl | (simp only [List.length_drop, List.length_take]; rfl)) ?_; (with_reducible refine (pack_Fits.calls k2 (rd l1 x27_2) (rd l0 x27_2) false _ A11.out).mono ?_); rintro e w' ⟨rfl, ⟨nd, rfl⟩⟩; refine ⟨_, rfl, ?_⟩))
                      go_ret2
                      exact ⟨_, by first | rfl | (simp [errW_none, errW_some] <;> rfl) | (simp [*, errW_none, errW_some] <;> rfl), by first | exact Kd.R_nil _ _ _ _ _ | exact Kd.N_nil _ _ _ _ _ | exact Kd.V_nil _ _ _ _ _ | exact Kd.Q_nil _ _ _ _ _ | exact Kd.S_nil _ _ _ _ _, by repeat (first | (with_reducible first | exact HB.out | apply below_alloc | apply pw_below_drewN | apply below_drew1) | exact HB.out)⟩
                  · rw [if_neg c10] at H
                    exact absurd H (by simp)
                · rw [if_neg c9] at H
                  exact absurd H (by simp)
              · rw [if_neg c8] at H
                exact absurd H (by simp)
            · rw [if_neg c7] at H
              have c7b0 : decide (x27_2 < (l1.length : Int)) = false := decide_eq_false c7
              clear c7
              simp only [Option.some.injEq, Prod.mk.injEq] at H
              obtain ⟨rfl, rfl⟩ := H
              go_wp2
              go_ret2
              exact ⟨_, by first | rfl | (simp [errW_none, errW_some] <;> rfl) | (simp [*, errW_none, errW_some] <;> rfl), by (with_reducible repeat (first | apply Kd.R_alloc | apply Kd.R_drewN | apply Kd.R_drew)); exact HO_8.out, by repeat (first | (with_reducible first | exact HB.out | apply below_alloc | apply pw_below_drewN | apply below_drew1) | exact HB.out)⟩
def incunablelaw03_awake.f (k : Nat)  : Option (Bool) := (pack_Put.f k (([2] : List Int)) (([300] : List Int))).bind fun bt119 => (if bt119.2 = 0 then ((incunableref01_Same.f k bt119.1 (([44, 1] : List Int))).bind fun t126 => (some t126)) else (some false))
theorem incunablelaw03_awake.mono : ∀ k, LeO (incunablelaw03_awake.f k ) (incunablelaw03_awake.f (k + 1) ) := by
  intro  k
  unfold incunablelaw03_awake.f
  repeat' first
      | (with_reducible exact incunableref01_Same.mono _ _ _)
      | (with_reducible exact pack_Put.mono _ _ _)
      | (with_reducible exact LeO.refl _)
      | (with_reducible exact LeO.none _)
      | (with_reducible refine LeO.ite ?_ ?_)
      | (with_reducible refine LeO.bind ?_ (fun _ => ?_))
      | exact incunableref01_Same.mono _ _ _
      | exact pack_Put.mono _ _ _
      | exact LeO.none _
      | refine LeO.ite ?_ ?_
      | refine LeO.bind ?_ (fun _ => ?_)
set_option maxHeartbeats 8000000 in
set_option maxRecDepth 100000 in
theorem incunablelaw03_awake.calls (k : Nat)  (r : Bool) (w : World) (h : incunablelaw03_awake.f k  = some r) :
    Calls Try.prog 31 #[] w fun e w' => e = .returned (.bool r) ∧ Below w.heap.size w w' := by
  have HB := Aside0.mk (Below.refl w.heap.size w)
  have H : ((pack_Put.f k (([2] : List Int)) (([300] : List Int))).bind fun bt119 => (if bt119.2 = 0 then ((incunableref01_Same.f k bt119.1 (([44, 1] : List Int))).bind fun t126 => (some t126)) else (some false))) = some r := h
  clear h
  obtain ⟨y113, hy113⟩ : ∃ y_ : List Int, y_ = (([2] : List Int)) := ⟨_, rfl⟩
  replace H : ((pack_Put.f k y113 (([300] : List Int))).bind fun bt119 => (if bt119.2 = 0 then ((incunableref01_Same.f k bt119.1 (([44, 1] : List Int))).bind fun t126 => (some t126)) else (some false))) = some r := by first | (rw [hy113]; with_reducible exact H) | (have H2_ := (Option.bind_some _ _).symm.trans H; rw [hy113]; with_reducible exact H2_) | (have H2_ := (Option.bind_some _ _).symm.trans H; with_reducible exact H2_) | with_reducible exact H | (rw [hy113]; exact H) | exact H
  have Ny113 := Aside0.mk hy113
  clear hy113
  obtain ⟨y116, hy116⟩ : ∃ y_ : List Int, y_ = (([300] : List Int)) := ⟨_, rfl⟩
  replace H : ((pack_Put.f k y113 y116).bind fun bt119 => (if bt119.2 = 0 then ((incunableref01_Same.f k bt119.1 (([44, 1] : List Int))).bind fun t126 => (some t126)) else (some false))) = some r := by first | (rw [hy116]; with_reducible exact H) | (have H2_ := (Option.bind_some _ _).symm.trans H; rw [hy116]; with_reducible exact H2_) | (have H2_ := (Option.bind_some _ _).symm.trans H; with_reducible exact H2_) | with_reducible exact H | (rw [hy116]; exact H) | exact H
  have Ny116 := Aside0.mk hy116
  clear hy116
  replace H := Option.bind_eq_some_iff.mp H
  obtain ⟨⟨t119, t120⟩, A10, H⟩ := H
  replace H : (if t120 = 0 then ((incunableref01_Same.f k t119 (([44, 1] : List Int))).bind fun t126 => (some t126)) else (some false)) = some r := H
  have A1 := Aside0.mk A10
  clear A10
  by_cases c2 : t120 = 0
  · rw [if_pos c2] at H
    have c2b0 : (t120 == 0) = true := beq_iff_eq.mpr c2
    have c2b1 : (t120 != 0) = false := bne_eq_false_iff_eq.mpr c2
    clear c2
    obtain ⟨y123, hy123⟩ : ∃ y_ : List Int, y_ = (([44, 1] : List Int)) := ⟨_, rfl⟩
    replace H : ((incunableref01_Same.f k t119 y123).bind fun t126 => (some t126)) = some r := by first | (rw [hy123]; with_reducible exact H) | (have H2_ := (Option.bind_some _ _).symm.trans H; rw [hy123]; with_reducible exact H2_) | (have H2_ := (Option.bind_some _ _).symm.trans H; with_reducible exact H2_) | with_reducible exact H | (rw [hy123]; exact H) | exact H
    have Ny123 := Aside0.mk hy123
    clear hy123
    replace H := Option.bind_eq_some_iff.mp H
    obtain ⟨t126, A30, H⟩ := H
    replace H : (some t126) = some r := H
    have A3 := Aside0.mk A30
    clear A30
    obtain rfl := Option.some.inj H
    go_enter Try.func31, Try.ntmps31
    go_wp2_with (first | ((with_reducible refine gate_dst (N := 4) rfl ?_); (try (refine gate_guard (by rfl) ?_; dsimp only)); refine Kd.R_lit (Kd.int .i64) _ 3 ?hg (N := 4) ?hd (xs := ([2] : List Int)) (inner := [.int .i64 2]) (ok := fun _ => True) (okp := fun _ => True) ?hr ?hp (fun _ hk => hk) trivial (Below.refl _ _) (Nat.le_refl _) (by simp) ?_; (case hd => rfl); (case hg => rfl); (case hr => first | (go_simp; done) | (go_simp; rfl)); (case hp => exact (Reps.one (show Kd.M (Kd.int .i64) _ _ _ 2 [.int .i64 2] from rfl) (Reps.none _ _))); intro v114 w4 ho5 hb hg_ hnew_; clear hg_ hnew_; (first | rw [← Ny113.out] at ho5 | (simp only [Int.reduceToNat] at ho5; rw [← Ny113.out] at ho5)); have n0_ := Aside0.mk (Kd.R_lower ho5 (below_size (by repeat (first | (with_reducible first | exact HB.out | apply below_alloc | apply pw_below_drewN | apply below_drew1) | exact HB.out)))); have n1_ := Aside0.mk (below_step (by repeat (first | (with_reducible first | exact HB.out | apply below_alloc | apply pw_below_drewN | apply below_drew1) | exact HB.out)) hb); clear HB; have HO115 := n0_; have HB := n1_; clear n0_ n1_; clear hb ho5) | ((with_reducible refine gate_dst (N := 5) rfl ?_); (try (refine gate_guard (by rfl) ?_; dsimp only)); refine Kd.R_lit (Kd.int .i64) _ 3 ?hg (N := 5) ?hd (xs := ([300] : List Int)) (inner := [.int .i64 300]) (ok := fun _ => True) (okp := fun _ => True) ?hr ?hp (fun _ hk => hk) trivial (Below.refl _ _) (Nat.le_refl _) (by simp) ?_; (case hd => rfl); (case hg => rfl); (case hr => first | (go_simp; done) | (go_simp; rfl)); (case hp => exact (Reps.one (show Kd.M (Kd.int .i64) _ _ _ 300 [.int .i64 300] from rfl) (Reps.none _ _))); intro v117 w6 ho7 hb hg_ hnew_; clear hg_ hnew_; (first | rw [← Ny116.out] at ho7 | (simp only [Int.reduceToNat] at ho7; rw [← Ny116.out] at ho7)); have n0_ := Aside0.mk (Kd.R_elder' (by (with_reducible repeat (first | apply Kd.R_alloc | apply Kd.R_drewN | apply Kd.R_drew)); exact HO115.out) (Kd.R_base ho7) hb); have n1_ := Aside0.mk (Kd.R_lower (Kd.R_new' ho7 (Kd.R_lt (by (with_reducible repeat (first | apply Kd.R_alloc | apply Kd.R_drewN | apply Kd.R_drew)); exact HO115.out))) (below_size (by repeat (first | (with_reducible first | exact HB.out | apply below_alloc | apply pw_below_drewN | apply below_drew1) | exact HB.out)))); have n2_ := Aside0.mk (below_step (by repeat (first | (with_reducible first | exact HB.out | apply below_alloc | apply pw_below_drewN | apply below_drew1) | exact HB.out)) hb); clear HO115; clear HB; have HO115 := n0_; have HO118 := n1_; have HB := n2_; clear n0_ n1_ n2_; clear hb ho7; obtain ⟨Ao8, co8, eo8⟩ := Kd.R_slice HO115.out; subst eo8; obtain ⟨Ao9, co9, eo9⟩ := Kd.R_slice HO118.out; subst eo9) | ((with_reducible refine gate_callee (f := 32) rfl ?_); refine goesL_ (some 6) rfl rfl Try.func32 (by kernel_rfl) rfl #[.slice Ao8 y113.length co8, .slice Ao9 y116.length co9] rfl (by (try simp only [List.map_toArray, List.map_cons, List.map_nil]); first | done | rfl | (simp only [List.length_drop, List.length_take]; rfl)) ?_; (with_reducible refine (pack_Put.calls k _ _ y113 _ _ y116 t119 t120 _ ?side1 ?side2 ?side3 ?side4 A1.out).mono ?_); (case side1 => repeat (first | exact (Kd.R_reads' HO115.out).2.2 | (with_reducible refine Kd.C_alloc ?_ _) | (with_reducible refine Kd.C_drewN ?_ _) | (with_reducible refine Kd.C_drew ?_))); (case side2 => exact (Kd.R_reads' HO115.out).2.1); (case side3 => repeat (first | exact (Kd.R_reads' HO118.out).2.2 | (with_reducible refine Kd.C_alloc ?_ _) | (with_reducible refine Kd.C_drewN ?_ _) | (with_reducible refine Kd.C_drew ?_))); (case side4 => exact (Kd.R_reads' HO118.out).2.1); rintro e w10 ⟨v121, rfl, ho0, hb⟩; refine ⟨_, rfl, ?_⟩; have n0_ := Aside0.mk (Kd.R_below (by (with_reducible repeat (first | apply Kd.R_alloc | apply Kd.R_drewN | apply Kd.R_drew)); exact HO115.out) hb); have n1_ := Aside0.mk (Kd.R_below (by (with_reducible repeat (first | apply Kd.R_alloc | apply Kd.R_drewN | apply Kd.R_drew)); exact HO118.out) hb); have n2_ := Aside0.mk (Kd.R_lower ho0 (below_size (by repeat (first | (with_reducible first | exact HB.out | apply below_alloc | apply pw_below_drewN | apply below_drew1) | exact HB.out)))); have n3_ := Aside0.mk (below_step (by repeat (first | (with_reducible first | exact HB.out | apply below_alloc | apply pw_below_drewN | apply below_drew1) | exact HB.out)) hb); clear HO115; clear HO118; clear HB; have HO115 := n0_; have HO118 := n1_; have HO122 := n2_; have HB := n3_; clear n0_ n1_ n2_ n3_; (try clear hb); (try clear hb2); (try clear hk); (try clear hi); (try clear ho0)) | ((with_reducible refine gate_dst (N := 13) rfl ?_); (try (refine gate_guard (by rfl) ?_; dsimp only)); refine Kd.R_lit (Kd.int .u8) _ 5 ?hg (N := 13) ?hd (xs := ([44, 1] : List Int)) (inner := [.int .u8 44, .int .u8 1]) (ok := fun _ => True) (okp := fun _ => True) ?hr ?hp (fun _ hk => hk) trivial (Below.refl _ _) (Nat.le_refl _) (by simp) ?_; (case hd => rfl); (case hg => rfl); (case hr => first | (go_simp; done) | (go_simp; rfl)); (case hp => exact (Reps.one (show Kd.M (Kd.int .u8) _ _ _ 44 [.int .u8 44] from rfl) (Reps.one (show Kd.M (Kd.int .u8) _ _ _ 1 [.int .u8 1] from rfl) (Reps.none _ _)))); intro v124 w11 ho12 hb hg_ hnew_; clear hg_ hnew_; (first | rw [← Ny123.out] at ho12 | (simp only [Int.reduceToNat] at ho12; rw [← Ny123.out] at ho12)); have n0_ := Aside0.mk (Kd.R_below (by (with_reducible repeat (first | apply Kd.R_alloc | apply Kd.R_drewN | apply Kd.R_drew)); exact HO115.out) hb); have n1_ := Aside0.mk (Kd.R_below (by (with_reducible repeat (first | apply Kd.R_alloc | apply Kd.R_drewN | apply Kd.R_drew)); exact HO118.out) hb); have n2_ := Aside0.mk (Kd.R_elder' (by (with_reducible repeat (first | apply Kd.R_alloc | apply Kd.R_drewN | apply Kd.R_drew)); exact HO122.out) (Kd.R_base ho12) hb); have n3_ := Aside0.mk (Kd.R_lower (Kd.R_new' ho12 (Kd.R_lt (by (with_reducible repeat (first | apply Kd.R_alloc | apply Kd.R_drewN | apply Kd.R_drew)); exact HO122.out))) (below_size (by repeat (first | (with_reducible first | exact HB.out | apply below_alloc | apply pw_below_drewN | apply below_drew1) | exact HB.out)))); have n4_ := Aside0.mk (below_step (by repeat (first | (with_reducible first | exact HB.out | apply below_alloc | apply pw_below_drewN | apply below_drew1) | exact HB.out)) hb); clear HO115; clear HO118; clear HO122; clear HB; have HO115 := n0_; have HO118 := n1_; have HO122 := n2_; have HO125 := n3_; have HB := n4_; clear n0_ n1_ n2_ n3_ n4_; clear hb ho12; obtain ⟨Ao13, co13, eo13⟩ := Kd.R_slice HO122.out; subst eo13; obtain ⟨Ao14, co14, eo14⟩ := Kd.R_slice HO125.out; subst eo14) | (go_at_call 18; (with_reducible refine (incunableref01_Same.calls k _ _ t119 _ _ y123 t126 _ ?side1 ?side2 ?side3 ?side4 A3.out).mono ?_); (case side1 => repeat (first | exact (Kd.R_reads' HO122.out).2.2 | (with_reducible refine Kd.C_alloc ?_ _) | (with_reducible refine Kd.C_drewN ?_ _) | (with_reducible refine Kd.C_drew ?_))); (case side2 => exact (Kd.R_reads' HO122.out).2.1); (case side3 => repeat (first | exact (Kd.R_reads' HO125.out).2.2 | (with_reducible refine Kd.C_alloc ?_ _) | (with_reducible refine Kd.C_drewN ?_ _) | (with_reducible refine Kd.C_drew ?_))); (case side4 => exact (Kd.R_reads' HO125.out).2.1); rintro e w' ⟨rfl, ⟨nd, rfl⟩⟩))
    go_ret
    exact ⟨by first | rfl | (simp [errW_none, errW_some] <;> rfl) | (simp [*, errW_none, errW_some] <;> rfl) | (have hz_ : ∀ z : Int, -9223372036854775808 ≤ z → z ≤ 9223372036854775807 → wrap64 z = z := (fun z h1_ h2_ => by unfold wrap64; omega); rw [hz_] <;> first | rfl | omega), by repeat (first | (with_reducible first | exact HB.out | apply below_alloc | apply pw_below_drewN | apply below_drew1) | exact HB.out)⟩
  · rw [if_neg c2] at H
    have c2b0 : (t120 == 0) = false := beq_eq_false_iff_ne.mpr c2
    have c2b1 : (t120 != 0) = true := bne_iff_ne.mpr c2
    obtain rfl := Option.some.inj H
    go_enter Try.func31, Try.ntmps31
    go_wp2_with (first | ((with_reducible refine gate_dst (N := 4) rfl ?_); (try (refine gate_guard (by rfl) ?_; dsimp only)); refine Kd.R_lit (Kd.int .i64) _ 3 ?hg (N := 4) ?hd (xs := ([2] : List Int)) (inner := [.int .i64 2]) (ok := fun _ => True) (okp := fun _ => True) ?hr ?hp (fun _ hk => hk) trivial (Below.refl _ _) (Nat.le_refl _) (by simp) ?_; (case hd => rfl); (case hg => rfl); (case hr => first | (go_simp; done) | (go_simp; rfl)); (case hp => exact (Reps.one (show Kd.M (Kd.int .i64) _ _ _ 2 [.int .i64 2] from rfl) (Reps.none _ _))); intro v114 w15 ho16 hb hg_ hnew_; clear hg_ hnew_; (first | rw [← Ny113.out] at ho16 | (simp only [Int.reduceToNat] at ho16; rw [← Ny113.out] at ho16)); have n0_ := Aside0.mk (Kd.R_lower ho16 (below_size (by repeat (first | (with_reducible first | exact HB.out | apply below_alloc | apply pw_below_drewN | apply below_drew1) | exact HB.out)))); have n1_ := Aside0.mk (below_step (by repeat (first | (with_reducible first | exact HB.out | apply below_alloc | apply pw_below_drewN | apply below_drew1) | exact HB.out)) hb); clear HB; have HO115 := n0_; have HB := n1_; clear n0_ n1_; clear hb ho16) | ((with_reducible refine gate_dst (N := 5) rfl ?_); (try (refine gate_guard (by rfl) ?_; dsimp only)); refine Kd.R_lit (Kd.int .i64) _ 3 ?hg (N := 5) ?hd (xs := ([300] : List Int)) (inner := [.int .i64 300]) (ok := fun _ => True) (okp := fun _ => True) ?hr ?hp (fun _ hk => hk) trivial (Below.refl _ _) (Nat.le_refl _) (by simp) ?_; (case hd => rfl); (case hg => rfl); (case hr => first | (go_simp; done) | (go_simp; rfl)); (case hp => exact (Reps.one (show Kd.M (Kd.int .i64) _ _ _ 300 [.int .i64 300] from rfl) (Reps.none _ _))); intro v117 w17 ho18 hb hg_ hnew_; clear hg_ hnew_; (first | rw [← Ny116.out] at ho18 | (simp only [Int.reduceToNat] at ho18; rw [← Ny116.out] at ho18)); have n0_ := Aside0.mk (Kd.R_elder' (by (with_reducible repeat (first | apply Kd.R_alloc | apply Kd.R_drewN | apply Kd.R_drew)); exact HO115.out) (Kd.R_base ho18) hb); have n1_ := Aside0.mk (Kd.R_lower (Kd.R_new' ho18 (Kd.R_lt (by (with_reducible repeat (first | apply Kd.R_alloc | apply Kd.R_drewN | apply Kd.R_drew)); exact HO115.out))) (below_size (by repeat (first | (with_reducible first | exact HB.out | apply below_alloc | apply pw_below_drewN | apply below_drew1) | exact HB.out)))); have n2_ := Aside0.mk (below_step (by repeat (first | (with_reducible first | exact HB.out | apply below_alloc | apply pw_below_drewN | apply below_drew1) | exact HB.out)) hb); clear HO115; clear HB; have HO115 := n0_; have HO118 := n1_; have HB := n2_; clear n0_ n1_ n2_; clear hb ho18; obtain ⟨Ao19, co19, eo19⟩ := Kd.R_slice HO115.out; subst eo19; obtain ⟨Ao20, co20, eo20⟩ := Kd.R_slice HO118.out; subst eo20) | ((with_reducible refine gate_callee (f := 32) rfl ?_); refine goesL_ (some 6) rfl rfl Try.func32 (by kernel_rfl) rfl #[.slice Ao19 y113.length co19, .slice Ao20 y116.length co20] rfl (by (try simp only [List.map_toArray, List.map_cons, List.map_nil]); first | done | rfl | (simp only [List.length_drop, List.length_take]; rfl)) ?_; (with_reducible refine (pack_Put.calls k _ _ y113 _ _ y116 t119 t120 _ ?side1 ?side2 ?side3 ?side4 A1.out).mono ?_); (case side1 => repeat (first | exact (Kd.R_reads' HO115.out).2.2 | (with_reducible refine Kd.C_alloc ?_ _) | (with_reducible refine Kd.C_drewN ?_ _) | (with_reducible refine Kd.C_drew ?_))); (case side2 => exact (Kd.R_reads' HO115.out).2.1); (case side3 => repeat (first | exact (Kd.R_reads' HO118.out).2.2 | (with_reducible refine Kd.C_alloc ?_ _) | (with_reducible refine Kd.C_drewN ?_ _) | (with_reducible refine Kd.C_drew ?_))); (case side4 => exact (Kd.R_reads' HO118.out).2.1); rintro e w21 ⟨v121, rfl, ho0, hb⟩; refine ⟨_, rfl, ?_⟩; have n0_ := Aside0.mk (Kd.R_below (by (with_reducible repeat (first | apply Kd.R_alloc | apply Kd.R_drewN | apply Kd.R_drew)); exact HO115.out) hb); have n1_ := Aside0.mk (Kd.R_below (by (with_reducible repeat (first | apply Kd.R_alloc | apply Kd.R_drewN | apply Kd.R_drew)); exact HO118.out) hb); have n2_ := Aside0.mk (Kd.R_lower ho0 (below_size (by repeat (first | (with_reducible first | exact HB.out | apply below_alloc | apply pw_below_drewN | apply below_drew1) | exact HB.out)))); have n3_ := Aside0.mk (below_step (by repeat (first | (with_reducible first | exact HB.out | apply below_alloc | apply pw_below_drewN | apply below_drew1) | exact HB.out)) hb); clear HO115; clear HO118; clear HB; have HO115 := n0_; have HO118 := n1_; have HO122 := n2_; have HB := n3_; clear n0_ n1_ n2_ n3_; (try clear hb); (try clear hb2); (try clear hk); (try clear hi); (try clear ho0)))
    go_ret
    exact ⟨by first | rfl | (simp [errW_none, errW_some] <;> rfl) | (simp [*, errW_none, errW_some] <;> rfl) | (have hz_ : ∀ z : Int, -9223372036854775808 ≤ z → z ≤ 9223372036854775807 → wrap64 z = z := (fun z h1_ h2_ => by unfold wrap64; omega); rw [hz_] <;> first | rfl | omega), by repeat (first | (with_reducible first | exact HB.out | apply below_alloc | apply pw_below_drewN | apply below_drew1) | exact HB.out)⟩
end Go.Proofs.Ytpedkegfefnibaa.QPackParts
namespace Go.Proofs.Ytpedkegfefnibaa.QPackParts
open Go.RowKit Go.Proofs.YtpedkegfefnibaaW.PrintWords Go.Proofs.YtpedkegfefnibaaW.PrintLast Go.Proofs.YtpedkegfefnibaaW.PrintMore
attribute [local go_sem] max2_int min2_int max_two min_two max_three min_three max_four min_four   -- for this text's walks alone
set_option linter.unusedVariables false
set_option linter.unusedSimpArgs false
def incunableref01_Ints.l0 : Nat → List Int → List Int → Int → Option (Bool)
  | 0, _, _, _ => none
  | k + 1, x0, x1, x5 => if x5 < (x0.length : Int) then (if 0 ≤ x5 then (if x5 < (x1.length : Int) then (if (rd x0 x5) = (rd x1 x5) then (incunableref01_Ints.l0 k x0 x1 (wrap64 (x5 + 1))) else (some false)) else (none)) else (none)) else (some true)
def incunableref01_Ints.f (k : Nat) (l0 : List Int) (l1 : List Int) : Option (Bool) := if (l0.length : Int) = (l1.length : Int) then (incunableref01_Ints.l0 k l0 l1 0) else (some false)
theorem incunableref01_Ints.mono_l : ∀ k, (∀ y0 y1 y2, LeO (incunableref01_Ints.l0 k y0 y1 y2) (incunableref01_Ints.l0 (k + 1) y0 y1 y2))
  | 0 => fun _ _ _ r h => by simp [incunableref01_Ints.l0] at h
  | k + 1 => by
    have ih0 := incunableref01_Ints.mono_l k
    · intro y0 y1 y2
      unfold incunableref01_Ints.l0
      repeat' first
      | (with_reducible exact ih0 _ _ _)
      | (with_reducible exact LeO.refl _)
      | (with_reducible exact LeO.none _)
      | (with_reducible refine LeO.ite ?_ ?_)
      | (with_reducible refine LeO.bind ?_ (fun _ => ?_))
      | exact ih0 _ _ _
      | exact LeO.none _
      | refine LeO.ite ?_ ?_
      | refine LeO.bind ?_ (fun _ => ?_)
theorem incunableref01_Ints.mono : ∀ a0 a1 k, LeO (incunableref01_Ints.f k a0 a1) (incunableref01_Ints.f (k + 1) a0 a1) := by
  intro a0 a1 k
  have ih0 := incunableref01_Ints.mono_l k
  unfold incunableref01_Ints.f
  repeat' first
      | (with_reducible exact ih0 _ _ _)
      | (with_reducible exact LeO.refl _)
      | (with_reducible exact LeO.none _)
      | (with_reducible refine LeO.ite ?_ ?_)
      | (with_reducible refine LeO.bind ?_ (fun _ => ?_))
      | exact ih0 _ _ _
      | exact LeO.none _
      | refine LeO.ite ?_ ?_
      | refine LeO.bind ?_ (fun _ => ?_)
set_option maxHeartbeats 8000000 in
set_option maxRecDepth 100000 in
theorem incunableref01_Ints.calls (k : Nat) (A0 : Option Addr) (c0 : Nat) (l0 : List Int) (A1 : Option Addr) (c1 : Nat) (l1 : List Int) (r : Bool) (w : World) (hr0 : Kd.C (Kd.int .i64) w A0 l0.length l0) (hc0 : l0.length ≤ c0) (hr1 : Kd.C (Kd.int .i64) w A1 l1.length l1) (hc1 : l1.length ≤ c1) (h : incunableref01_Ints.f k l0 l1 = some r) :
    Calls Try.prog 40 #[.slice A0 l0.length c0, .slice A1 l1.length c1] w fun e w' => e = .returned (.bool r) ∧ Drawn0 w w' := by
  have HR0 := Aside0.mk hr0
  have HC0 := Aside0.mk hc0
  clear hr0 hc0
  have HR1 := Aside0.mk hr1
  have HC1 := Aside0.mk hc1
  clear hr1 hc1
  have H : (if (l0.length : Int) = (l1.length : Int) then (incunableref01_Ints.l0 k l0 l1 0) else (some false)) = some r := h
  clear h
  by_cases c3 : (l0.length : Int) = (l1.length : Int)
  · rw [if_pos c3] at H
    have c3b0 : ((l0.length : Int) == (l1.length : Int)) = true := beq_iff_eq.mpr c3
    have c3b1 : ((l0.length : Int) != (l1.length : Int)) = false := bne_eq_false_iff_eq.mpr c3
    have c3b2 : (l0.length == l1.length) = true := by first | simpa using c3 | (simp at c3 ⊢; omega)
    clear c3
    have H' := Aside0.mk H
    clear H
    go_enter Try.func40, Try.ntmps40
    go_wp2
    repeat (go_quiet (fail); try go_wp2)
    go_loopg [5] k (fun kq v5 w' => ∃ (x5_1 : Int), v5 = .int .i64 x5_1 ∧ Aside0 (incunableref01_Ints.l0 kq l0 l1 x5_1 = some r) ∧ Aside0 (kq ≤ k) ∧ Drawn0 w w')
    case atStart => exact ⟨(0), (by first | rfl | (simp; done) | (simp [*]; done)), H', ⟨Nat.le_refl _⟩, by repeat (first | exact Drawn0.refl _ | apply Drawn0.step)⟩
    case round =>
      clear H'
      try clear c1
      try clear p2
      try clear c3
      try clear c3b0
      try clear c3b1
      try clear c3b2
      obtain ⟨x5_1, rfl, HA, HK1, ⟨m1, rfl⟩⟩ := hrel
      cases gk with
      | zero => exact absurd HA.out (by simp [incunableref01_Ints.l0])
      | succ k1 =>
        have H := HA.out
        clear HA
        simp only [incunableref01_Ints.l0] at H
        by_cases c4 : x5_1 < (l0.length : Int)
        · rw [if_pos c4] at H
          have c4b0 : decide (x5_1 < (l0.length : Int)) = true := decide_eq_true c4
          clear c4
          by_cases c5 : 0 ≤ x5_1
          · rw [if_pos c5] at H
            have c5b0 : decide (0 ≤ x5_1) = true := decide_eq_true c5
            clear c5
            by_cases c6 : x5_1 < (l1.length : Int)
            · rw [if_pos c6] at H
              have c6b0 : decide (x5_1 < (l1.length : Int)) = true := decide_eq_true c6
              clear c6
              by_cases c7 : (rd l0 x5_1) = (rd l1 x5_1)
              · rw [if_pos c7] at H
                have c7b0 : ((rd l0 x5_1) == (rd l1 x5_1)) = true := beq_iff_eq.mpr c7
                have c7b1 : ((rd l0 x5_1) != (rd l1 x5_1)) = false := bne_eq_false_iff_eq.mpr c7
                clear c7
                have H' := Aside0.mk H
                clear H
                have p127 : 0 ≤ (x5_1 : Int) := of_decide_eq_true (by first | (with_reducible assumption) | assumption)
                have q127 : x5_1 < (l0.length : Int) := of_decide_eq_true (by first | (with_reducible assumption) | assumption)
                obtain ⟨ad127, e127, hx127_0⟩ := Kd.at_int HR0.out x5_1 p127 q127
                cases e127
                replace p127 := eq_true p127
                replace q127 := eq_true q127
                have p128 : 0 ≤ (x5_1 : Int) := of_decide_eq_true (by first | (with_reducible assumption) | assumption)
                have q128 : x5_1 < (l1.length : Int) := of_decide_eq_true (by first | (with_reducible assumption) | assumption)
                obtain ⟨ad128, e128, hx128_0⟩ := Kd.at_int HR1.out x5_1 p128 q128
                cases e128
                replace p128 := eq_true p128
                replace q128 := eq_true q128
                go_wp2
                repeat (go_quiet (fail); try go_wp2)
                go_roundg k1
                case measure => have := HK1.out; omega
                case rel => exact ⟨(wrap64 (x5_1 + 1)), (by first | rfl | (simp; done) | (simp [*]; done)), H', ⟨by have := HK1.out; omega⟩, by repeat (first | exact Drawn0.refl _ | apply Drawn0.step)⟩
              · rw [if_neg c7] at H
                have c7b0 : ((rd l0 x5_1) == (rd l1 x5_1)) = false := beq_eq_false_iff_ne.mpr c7
                have c7b1 : ((rd l0 x5_1) != (rd l1 x5_1)) = true := bne_iff_ne.mpr c7
                obtain rfl := Option.some.inj H
                have p127 : 0 ≤ (x5_1 : Int) := of_decide_eq_true (by first | (with_reducible assumption) | assumption)
                have q127 : x5_1 < (l0.length : Int) := of_decide_eq_true (by first | (with_reducible assumption) | assumption)
                obtain ⟨ad127, e127, hx127_0⟩ := Kd.at_int HR0.out x5_1 p127 q127
                cases e127
                replace p127 := eq_true p127
                replace q127 := eq_true q127
                have p128 : 0 ≤ (x5_1 : Int) := of_decide_eq_true (by first | (with_reducible assumption) | assumption)
                have q128 : x5_1 < (l1.length : Int) := of_decide_eq_true (by first | (with_reducible assumption) | assumption)
                obtain ⟨ad128, e128, hx128_0⟩ := Kd.at_int HR1.out x5_1 p128 q128
                cases e128
                replace p128 := eq_true p128
                replace q128 := eq_true q128
                go_wp2
                repeat (go_quiet (fail); try go_wp2)
                go_ret
                exact ⟨by first | rfl | (simp; done) | (simp [*]; done), by repeat (first | exact Drawn0.refl _ | apply Drawn0.step)⟩
            · rw [if_neg c6] at H
              exact absurd H (by simp)
          · rw [if_neg c5] at H
            exact absurd H (by simp)
        · rw [if_neg c4] at H
          have c4b0 : decide (x5_1 < (l0.length : Int)) = false := decide_eq_false c4
          clear c4
          obtain rfl := Option.some.inj H
          go_wp2
          repeat (go_quiet (fail); try go_wp2)
          go_ret
          exact ⟨by first | rfl | (simp; done) | (simp [*]; done), by repeat (first | exact Drawn0.refl _ | apply Drawn0.step)⟩
  · rw [if_neg c3] at H
    have c3b0 : ((l0.length : Int) == (l1.length : Int)) = false := beq_eq_false_iff_ne.mpr c3
    have c3b1 : ((l0.length : Int) != (l1.length : Int)) = true := bne_iff_ne.mpr c3
    have c3b2 : (l0.length == l1.length) = false := by first | simpa using c3 | (simp at c3 ⊢; omega)
    obtain rfl := Option.some.inj H
    go_enter Try.func40, Try.ntmps40
    go_wp2
    repeat (go_quiet (fail); try go_wp2)
    go_ret
    exact ⟨by first | rfl | (simp; done) | (simp [*]; done), by repeat (first | exact Drawn0.refl _ | apply Drawn0.step)⟩
mutual
def pack_Take.l0 : Nat → List Int → List Int → List Int → Int → Int → Option (List Int × Int)
  | 0, _, _, _, _, _ => none
  | k + 1, x1, x8, x31, x32, x33 => if x33 < x32 then (if 0 ≤ x33 then (if x33 < (x31.length : Int) then (pack_Take.l1 k x1 x8 (rd x31 x33) 0 (wrap64 ((rd x31 x33) - 1)) x31 x32 x33) else (none)) else (none)) else (some (x8, 0))
def pack_Take.l1 : Nat → List Int → List Int → Int → Int → Int → List Int → Int → Int → Option (List Int × Int)
  | 0, _, _, _, _, _, _, _, _ => none
  | k + 1, x1, x8, x10, x11, x12, x31, x32, x33 => if x12 ≥ 0 then (if 0 ≤ x12 then (if x12 < (x1.length : Int) then (pack_Take.l1 k x1 x8 x10 (Go.bits .or .u64 (IntKind.u64.wrap (x11 * 256)) (IntKind.u64.wrap (rd x1 x12))) (wrap64 (x12 - 1)) x31 x32 x33) else (none)) else (none)) else (if x11 > 4611686018427387904 then (some (([] : List Int), 11)) else (if x8.length < 17592186044416 then (if 0 ≤ x10 then (if x10 ≤ (x1.length : Int) then (pack_Take.l0 k (x1.drop (x10 : Int).toNat) (x8 ++ [wrap64 (x11)]) x31 x32 (wrap64 (x33 + 1))) else (none)) else (none)) else (none)))
end
def pack_Take.f (k : Nat) (l0 : List Int) (l1 : List Int) : Option (List Int × Int) := (pack_Size.f k l0).bind fun bt129 => (if bt129.2 = true then (if (l1.length : Int) < bt129.1 then (some (([] : List Int), 10)) else (if (l1.length : Int) > bt129.1 then (some (([] : List Int), 13)) else (pack_Take.l0 k l1 ([] : List Int) l0 (l0.length : Int) 0))) else (some (([] : List Int), 2)))
theorem pack_Take.mono_l : ∀ k, (∀ y0 y1 y2 y3 y4, LeO (pack_Take.l0 k y0 y1 y2 y3 y4) (pack_Take.l0 (k + 1) y0 y1 y2 y3 y4)) ∧ (∀ y0 y1 y2 y3 y4 y5 y6 y7, LeO (pack_Take.l1 k y0 y1 y2 y3 y4 y5 y6 y7) (pack_Take.l1 (k + 1) y0 y1 y2 y3 y4 y5 y6 y7))
  | 0 => ⟨fun _ _ _ _ _ r h => by simp [pack_Take.l0] at h, fun _ _ _ _ _ _ _ _ r h => by simp [pack_Take.l1] at h⟩
  | k + 1 => by
    obtain ⟨ih0, ih1⟩ := pack_Take.mono_l k
    refine ⟨?_, ?_⟩
    · intro y0 y1 y2 y3 y4
      unfold pack_Take.l0
      repeat' first
      | (with_reducible exact ih0 _ _ _ _ _)
      | (with_reducible exact ih1 _ _ _ _ _ _ _ _)
      | (with_reducible exact pack_Size.mono _ _)
      | (with_reducible exact LeO.refl _)
      | (with_reducible exact LeO.none _)
      | (with_reducible refine LeO.ite ?_ ?_)
      | (with_reducible refine LeO.bind ?_ (fun _ => ?_))
      | exact ih0 _ _ _ _ _
      | exact ih1 _ _ _ _ _ _ _ _
      | exact pack_Size.mono _ _
      | exact LeO.none _
      | refine LeO.ite ?_ ?_
      | refine LeO.bind ?_ (fun _ => ?_)
    · intro y0 y1 y2 y3 y4 y5 y6 y7
      unfold pack_Take.l1
      repeat' first
      | (with_reducible exact ih0 _ _ _ _ _)
      | (with_reducible exact ih1 _ _ _ _ _ _ _ _)
      | (with_reducible exact pack_Size.mono _ _)
      | (with_reducible exact LeO.refl _)
      | (with_reducible exact LeO.none _)
      | (with_reducible refine LeO.ite ?_ ?_)
      | (with_reducible refine LeO.bind ?_ (fun _ => ?_))
      | exact ih0 _ _ _ _ _
      | exact ih1 _ _ _ _ _ _ _ _
      | exact pack_Size.mono _ _
      | exact LeO.none _
      | refine LeO.ite ?_ ?_
      | refine LeO.bind ?_ (fun _ => ?_)
theorem pack_Take.mono : ∀ a0 a1 k, LeO (pack_Take.f k a0 a1) (pack_Take.f (k + 1) a0 a1) := by
  intro a0 a1 k
  obtain ⟨ih0, ih1⟩ := pack_Take.mono_l k
  unfold pack_Take.f
  repeat' first
      | (with_reducible exact ih0 _ _ _ _ _)
      | (with_reducible exact ih1 _ _ _ _ _ _ _ _)
      | (with_reducible exact pack_Size.mono _ _)
      | (with_reducible exact LeO.refl _)
      | (with_reducible exact LeO.none _)
      | (with_reducible refine LeO.ite ?_ ?_)
      | (with_reducible refine LeO.bind ?_ (fun _ => ?_))
      | exact ih0 _ _ _ _ _
      | exact ih1 _ _ _ _ _ _ _ _
      | exact pack_Size.mono _ _
      | exact LeO.none _
      | refine LeO.ite ?_ ?_
      | refine LeO.bind ?_ (fun _ => ?_)
set_option maxHeartbeats 8000000 in
set_option maxRecDepth 100000 in
theorem pack_Take.calls (k : Nat) (A0 : Option Addr) (c0 : Nat) (l0 : List Int) (P1_ : Nat → Prop) (A1 : Option Addr) (c1 : Nat) (l1 : List Int) (r1 : List Int) (r2 : Int) (w : World) (hr0 : Kd.C (Kd.int .i64) w A0 l0.length l0) (hc0 : l0.length ≤ c0) (hs1 : Kd.V (Kd.int .u8) 5 w w.heap.size (fun k_ => P1_ k_) (.slice A1 l1.length c1) l1) (h : pack_Take.f k l0 l1 = some (r1, r2)) :
    Calls Try.prog 51 #[.slice A0 l0.length c0, .slice A1 l1.length c1] w fun e w' => ∃ v0_ : Value, e = .returned (.tuple #[v0_, .int .i64 r2]) ∧ Kd.R (Kd.int .i64) 3 w' w.heap.size (fun k_ => (w.heap.size ≤ k_)) v0_ r1 ∧ Below w.heap.size w w' := by
  have HR0 := Aside0.mk hr0
  have HC0 := Aside0.mk hc0
  clear hr0 hc0
  have HO1 := Aside0.mk (show Kd.V (Kd.int .u8) 5 w w.heap.size (fun k_ => (P1_ k_ ∨ w.heap.size ≤ k_)) (.slice A1 l1.length c1) l1 from Kd.V_mono hs1 (fun k_ hk => .inl hk))
  have HB := Aside0.mk (Below.refl w.heap.size w)
  have H : ((pack_Size.f k l0).bind fun bt129 => (if bt129.2 = true then (if (l1.length : Int) < bt129.1 then (some (([] : List Int), 10)) else (if (l1.length : Int) > bt129.1 then (some (([] : List Int), 13)) else (pack_Take.l0 k l1 ([] : List Int) l0 (l0.length : Int) 0))) else (some (([] : List Int), 2)))) = some (r1, r2) := h
  clear h
  replace H := Option.bind_eq_some_iff.mp H
  obtain ⟨⟨t129, t130⟩, A30, H⟩ := H
  replace H : (if t130 = true then (if (l1.length : Int) < t129 then (some (([] : List Int), 10)) else (if (l1.length : Int) > t129 then (some (([] : List Int), 13)) else (pack_Take.l0 k l1 ([] : List Int) l0 (l0.length : Int) 0))) else (some (([] : List Int), 2))) = some (r1, r2) := H
  have A3 := Aside0.mk A30
  clear A30
  by_cases c4 : t130 = true
  · subst c4
    have H1 : (if (l1.length : Int) < t129 then (some (([] : List Int), 10)) else (if (l1.length : Int) > t129 then (some (([] : List Int), 13)) else (pack_Take.l0 k l1 ([] : List Int) l0 (l0.length : Int) 0))) = some (r1, r2) := by rw [if_pos rfl] at H; exact H
    clear H
    have H := H1
    clear H1
    by_cases c5 : (l1.length : Int) < t129
    · rw [if_pos c5] at H
      have c5b0 : decide ((l1.length : Int) < t129) = true := decide_eq_true c5
      clear c5
      simp only [Option.some.injEq, Prod.mk.injEq] at H
      obtain ⟨rfl, rfl⟩ := H
      go_enter Try.func51, Try.ntmps51
      go_wp2_with (first | ((with_reducible refine gate_callee (f := 34) rfl ?_); refine goesL_ (some 15) rfl rfl Try.func34 (by kernel_rfl) rfl #[.slice A0 l0.length c0] rfl (by (try simp only [List.map_toArray, List.map_cons, List.map_nil]); first | done | rfl | (simp only [List.length_drop, List.length_take]; rfl)) ?_; (with_reducible refine (pack_Size.calls k _ _ l0 t129 true _ ?side1 ?side2 A3.out).mono ?_); (case side1 => repeat (first | exact HR0.out | (with_reducible refine Kd.C_alloc ?_ _) | (with_reducible refine Kd.C_drewN ?_ _) | (with_reducible refine Kd.C_drew ?_))); (case side2 => exact HC0.out); rintro e w' ⟨rfl, ⟨nd, rfl⟩⟩; refine ⟨_, rfl, ?_⟩))
      go_ret2
      exact ⟨_, by first | rfl | (simp [errW_none, errW_some] <;> rfl) | (simp [*, errW_none, errW_some] <;> rfl), by first | exact Kd.R_nil _ _ _ _ _ | exact Kd.N_nil _ _ _ _ _ | exact Kd.V_nil _ _ _ _ _ | exact Kd.Q_nil _ _ _ _ _ | exact Kd.S_nil _ _ _ _ _, by repeat (first | (with_reducible first | exact HB.out | apply below_alloc | apply pw_below_drewN | apply below_drew1) | exact HB.out)⟩
    · rw [if_neg c5] at H
      have c5b0 : decide ((l1.length : Int) < t129) = false := decide_eq_false c5
      clear c5
      by_cases c6 : (l1.length : Int) > t129
      · rw [if_pos c6] at H
        have c6b0 : decide (t129 < (l1.length : Int)) = true := decide_eq_true c6
        clear c6
        simp only [Option.some.injEq, Prod.mk.injEq] at H
        obtain ⟨rfl, rfl⟩ := H
        go_enter Try.func51, Try.ntmps51
        go_wp2_with (first | ((with_reducible refine gate_callee (f := 34) rfl ?_); refine goesL_ (some 15) rfl rfl Try.func34 (by kernel_rfl) rfl #[.slice A0 l0.length c0] rfl (by (try simp only [List.map_toArray, List.map_cons, List.map_nil]); first | done | rfl | (simp only [List.length_drop, List.length_take]; rfl)) ?_; (with_reducible refine (pack_Size.calls k _ _ l0 t129 true _ ?side1 ?side2 A3.out).mono ?_); (case side1 => repeat (first | exact HR0.out | (with_reducible refine Kd.C_alloc ?_ _) | (with_reducible refine Kd.C_drewN ?_ _) | (with_reducible refine Kd.C_drew ?_))); (case side2 => exact HC0.out); rintro e w' ⟨rfl, ⟨nd, rfl⟩⟩; refine ⟨_, rfl, ?_⟩))
        go_ret2
        exact ⟨_, by first | rfl | (simp [errW_none, errW_some] <;> rfl) | (simp [*, errW_none, errW_some] <;> rfl), by first | exact Kd.R_nil _ _ _ _ _ | exact Kd.N_nil _ _ _ _ _ | exact Kd.V_nil _ _ _ _ _ | exact Kd.Q_nil _ _ _ _ _ | exact Kd.S_nil _ _ _ _ _, by repeat (first | (with_reducible first | exact HB.out | apply below_alloc | apply pw_below_drewN | apply below_drew1) | exact HB.out)⟩
      · rw [if_neg c6] at H
        have c6b0 : decide (t129 < (l1.length : Int)) = false := decide_eq_false c6
        clear c6
        have H' := Aside0.mk H
        clear H
        go_enter Try.func51, Try.ntmps51
        go_wp2_with (first | ((with_reducible refine gate_callee (f := 34) rfl ?_); refine goesL_ (some 15) rfl rfl Try.func34 (by kernel_rfl) rfl #[.slice A0 l0.length c0] rfl (by (try simp only [List.map_toArray, List.map_cons, List.map_nil]); first | done | rfl | (simp only [List.length_drop, List.length_take]; rfl)) ?_; (with_reducible refine (pack_Size.calls k _ _ l0 t129 true _ ?side1 ?side2 A3.out).mono ?_); (case side1 => repeat (first | exact HR0.out | (with_reducible refine Kd.C_alloc ?_ _) | (with_reducible refine Kd.C_drewN ?_ _) | (with_reducible refine Kd.C_drew ?_))); (case side2 => exact HC0.out); rintro e w' ⟨rfl, ⟨nd, rfl⟩⟩; refine ⟨_, rfl, ?_⟩))
        go_loopg [1, 8, 33] k (fun kq v1 v8 v33 w' => ∃ (x1_1 : List Int) (x8_1 : List Int) (x33_1 : Int), v33 = .int .i64 x33_1 ∧ Aside0 (pack_Take.l0 kq x1_1 x8_1 l0 (l0.length : Int) x33_1 = some (r1, r2)) ∧ Aside0 (kq ≤ k) ∧ Aside0 (Kd.V (Kd.int .u8) 5 w' w.heap.size (fun k_ => (P1_ k_ ∨ w.heap.size ≤ k_) ∧ some k_ ≠ (v8 : Value).ownBlock) v1 x1_1) ∧ Aside0 (Kd.R (Kd.int .i64) 3 w' w.heap.size (fun k_ => (w.heap.size ≤ k_)) v8 x8_1) ∧ Aside0 (Below w.heap.size w w'))
        case atStart => exact ⟨(l1), (([] : List Int)), (0), (by first | rfl | (simp; done) | (simp [*]; done)), H', ⟨Nat.le_refl _⟩, ⟨by (with_reducible repeat (first | apply Kd.V_alloc | apply Kd.V_drewN | apply Kd.V_drew)); exact Kd.V_mono HO1.out (fun _ hk => ⟨hk, (by simp [Value.ownBlock])⟩)⟩, ⟨by first | exact Kd.R_nil _ _ _ _ _ | exact Kd.N_nil _ _ _ _ _ | exact Kd.V_nil _ _ _ _ _ | exact Kd.Q_nil _ _ _ _ _ | exact Kd.S_nil _ _ _ _ _⟩, ⟨by repeat (first | (with_reducible first | exact HB.out | apply below_alloc | apply pw_below_drewN | apply below_drew1) | exact HB.out)⟩⟩
        case round =>
          clear H'
          try clear c1
          try clear p2
          try clear c3
          try clear c4
          try clear c5
          try clear c5b0
          try clear c6
          try clear c6b0
          obtain ⟨x1_1, x8_1, x33_1, rfl, HA, HK1, HO_1, HO_8, HB⟩ := hrel
          cases gk with
          | zero => exact absurd HA.out (by simp [pack_Take.l0])
          | succ k1 =>
            have H := HA.out
            clear HA
            simp only [pack_Take.l0] at H
            by_cases c7 : x33_1 < (l0.length : Int)
            · rw [if_pos c7] at H
              have c7b0 : decide (x33_1 < (l0.length : Int)) = true := decide_eq_true c7
              clear c7
              by_cases c8 : 0 ≤ x33_1
              · rw [if_pos c8] at H
                have c8b0 : decide (0 ≤ x33_1) = true := decide_eq_true c8
                clear c8
                by_cases c9 : x33_1 < (l0.length : Int)
                · rw [if_pos c9] at H
                  have c9b0 : decide (x33_1 < (l0.length : Int)) = true := decide_eq_true c9
                  clear c9
                  have H' := Aside0.mk H
                  clear H
                  have p131 : 0 ≤ (x33_1 : Int) := of_decide_eq_true (by first | (with_reducible assumption) | assumption)
                  have q131 : x33_1 < (l0.length : Int) := of_decide_eq_true (by first | (with_reducible assumption) | assumption)
                  obtain ⟨ad131, e131, hx131_0⟩ := Kd.at_int HR0.out x33_1 p131 q131
                  cases e131
                  replace hx131_0 := (HB.out.cell (World.block_lt_of_cell? w _ hx131_0)).trans hx131_0
                  replace p131 := eq_true p131
                  replace q131 := eq_true q131
                  go_wp2
                  go_loopg [11, 12] k1 (fun kq v11 v12 w' => ∃ (x11_2 : Int) (x12_2 : Int), v11 = .int .u64 x11_2 ∧ v12 = .int .i64 x12_2 ∧ Aside0 (pack_Take.l1 kq x1_1 x8_1 (rd l0 x33_1) x11_2 x12_2 l0 (l0.length : Int) x33_1 = some (r1, r2)) ∧ Aside0 (kq ≤ k1) ∧ Aside0 (Kd.V (Kd.int .u8) 5 w' w.heap.size (fun k_ => (P1_ k_ ∨ w.heap.size ≤ k_) ∧ some k_ ≠ (u8 : Value).ownBlock) u1 x1_1) ∧ Aside0 (Kd.R (Kd.int .i64) 3 w' w.heap.size (fun k_ => (w.heap.size ≤ k_)) u8 x8_1) ∧ Aside0 (Below w.heap.size w w'))
                  case atStart => exact ⟨(0), (wrap64 ((rd l0 x33_1) - 1)), (by first | rfl | (simp; done) | (simp [*]; done)), (by first | rfl | (simp; done) | (simp [*]; done)), H', ⟨Nat.le_refl _⟩, ⟨by (with_reducible repeat (first | apply Kd.V_alloc | apply Kd.V_drewN | apply Kd.V_drew)); exact HO_1.out⟩, ⟨by (with_reducible repeat (first | apply Kd.R_alloc | apply Kd.R_drewN | apply Kd.R_drew)); exact HO_8.out⟩, ⟨by repeat (first | (with_reducible first | exact HB.out | apply below_alloc | apply pw_below_drewN | apply below_drew1) | exact HB.out)⟩⟩
                  case round =>
                    clear H'
                    try clear c1
                    try clear p1
                    try clear q1
                    try clear hx1
                    try clear p2
                    try clear c3
                    try clear c4
                    try clear c5
                    try clear c5b0
                    try clear c6
                    try clear c6b0
                    try clear p6
                    try clear c7
                    try clear c7b0
                    try clear c8
                    try clear c8b0
                    try clear c9
                    try clear c9b0
                    try clear hx131_0
                    try clear p131
                    try clear p2
                    try clear q131
                    obtain ⟨x11_2, x12_2, rfl, rfl, HA, HK2, HO_1, HO_8, HB⟩ := hrel
                    cases gk with
                    | zero => exact absurd HA.out (by simp [pack_Take.l1])
                    | succ k2 =>
                      have H := HA.out
                      clear HA
                      simp only [pack_Take.l1] at H
                      by_cases c10 : x12_2 ≥ 0
                      · rw [if_pos c10] at H
                        have c10b0 : decide (0 ≤ x12_2) = true := decide_eq_true c10
                        clear c10
                        by_cases c11 : 0 ≤ x12_2
                        · rw [if_pos c11] at H
                          have c11b0 : decide (0 ≤ x12_2) = true := decide_eq_true c11
                          clear c11
                          by_cases c12 : x12_2 < (x1_1.length : Int)
                          · rw [if_pos c12] at H
                            have c12b0 : decide (x12_2 < (x1_1.length : Int)) = true := decide_eq_true c12
                            clear c12
                            have H' := Aside0.mk H
                            clear H
                            obtain ⟨Ao13, co13, eo13⟩ := Kd.V_slice HO_1.out
                            subst eo13
                            have p132 : 0 ≤ (x12_2 : Int) := of_decide_eq_true (by first | (with_reducible assumption) | assumption)
                            have q132 : x12_2 < (x1_1.length : Int) := of_decide_eq_true (by first | (with_reducible assumption) | assumption)
                            obtain ⟨ad132, e132, hx132_0⟩ := Kd.at_int (Kd.V_reads' HO_1.out).2.2 x12_2 p132 q132
                            cases e132
                            replace p132 := eq_true p132
                            replace q132 := eq_true q132
                            go_wp2
                            go_roundg k2
                            case measure => have := HK1.out; have := HK2.out; omega
                            case rel => exact ⟨(Go.bits .or .u64 (IntKind.u64.wrap (x11_2 * 256)) (IntKind.u64.wrap (rd x1_1 x12_2))), (wrap64 (x12_2 - 1)), (by first | rfl | (simp; done) | (simp [*]; done)), (by first | rfl | (simp; done) | (simp [*]; done)), H', ⟨by have := HK1.out; have := HK2.out; omega⟩, ⟨by (with_reducible repeat (first | apply Kd.V_alloc | apply Kd.V_drewN | apply Kd.V_drew)); exact HO_1.out⟩, ⟨by (with_reducible repeat (first | apply Kd.R_alloc | apply Kd.R_drewN | apply Kd.R_drew)); exact HO_8.out⟩, ⟨by repeat (first | (with_reducible first | exact HB.out | apply below_alloc | apply pw_below_drewN | apply below_drew1) | exact HB.out)⟩⟩
                          · rw [if_neg c12] at H
                            exact absurd H (by simp)
                        · rw [if_neg c11] at H
                          exact absurd H (by simp)
                      · rw [if_neg c10] at H
                        have c10b0 : decide (0 ≤ x12_2) = false := decide_eq_false c10
                        clear c10
                        by_cases c14 : x11_2 > 4611686018427387904
                        · rw [if_pos c14] at H
                          have c14b0 : decide (4611686018427387904 < x11_2) = true := decide_eq_true c14
                          clear c14
                          simp only [Option.some.injEq, Prod.mk.injEq] at H
                          obtain ⟨rfl, rfl⟩ := H
                          go_wp2
                          go_ret2
                          exact ⟨_, by first | rfl | (simp [errW_none, errW_some] <;> rfl) | (simp [*, errW_none, errW_some] <;> rfl), by first | exact Kd.R_nil _ _ _ _ _ | exact Kd.N_nil _ _ _ _ _ | exact Kd.V_nil _ _ _ _ _ | exact Kd.Q_nil _ _ _ _ _ | exact Kd.S_nil _ _ _ _ _, by repeat (first | (with_reducible first | exact HB.out | apply below_alloc | apply pw_below_drewN | apply below_drew1) | exact HB.out)⟩
                        · rw [if_neg c14] at H
                          have c14b0 : decide (4611686018427387904 < x11_2) = false := decide_eq_false c14
                          clear c14
                          by_cases c15 : x8_1.length < 17592186044416
                          · rw [if_pos c15] at H
                            have LMc15 := Aside0.mk c15
                            clear c15
                            obtain ⟨y133, hy133⟩ : ∃ y_ : List Int, y_ = (x8_1 ++ [wrap64 (x11_2)]) := ⟨_, rfl⟩
                            replace H : (if 0 ≤ (rd l0 x33_1) then (if (rd l0 x33_1) ≤ (x1_1.length : Int) then (pack_Take.l0 k2 (x1_1.drop ((rd l0 x33_1) : Int).toNat) y133 l0 (l0.length : Int) (wrap64 (x33_1 + 1))) else (none)) else (none)) = some (r1, r2) := by first | (rw [hy133]; with_reducible exact H) | (have H2_ := (Option.bind_some _ _).symm.trans H; rw [hy133]; with_reducible exact H2_) | (have H2_ := (Option.bind_some _ _).symm.trans H; with_reducible exact H2_) | with_reducible exact H | (rw [hy133]; exact H) | exact H
                            have Ny133 := Aside0.mk hy133
                            clear hy133
                            by_cases c16 : 0 ≤ (rd l0 x33_1)
                            · rw [if_pos c16] at H
                              have c16b0 := eq_true c16
                              have c16b1 : decide (0 ≤ (rd l0 x33_1)) = true := decide_eq_true c16
                              clear c16
                              by_cases c17 : (rd l0 x33_1) ≤ (x1_1.length : Int)
                              · rw [if_pos c17] at H
                                have c17b0 := eq_true c17
                                have c17b1 : decide ((rd l0 x33_1) ≤ (x1_1.length : Int)) = true := decide_eq_true c17
                                clear c17
                                obtain ⟨y136, hy136⟩ : ∃ y_ : List Int, y_ = (x1_1.drop ((rd l0 x33_1) : Int).toNat) := ⟨_, rfl⟩
                                replace H : (pack_Take.l0 k2 y136 y133 l0 (l0.length : Int) (wrap64 (x33_1 + 1))) = some (r1, r2) := by first | (rw [hy136]; with_reducible exact H) | (have H2_ := (Option.bind_some _ _).symm.trans H; rw [hy136]; with_reducible exact H2_) | (have H2_ := (Option.bind_some _ _).symm.trans H; with_reducible exact H2_) | with_reducible exact H | (rw [hy136]; exact H) | exact H
                                have Ny136 := Aside0.mk hy136
                                clear hy136
                                have H' := Aside0.mk H
                                clear H
                                go_wp2_with (first | ((with_reducible refine gate_builtin (b := .append) (xs := #[.tmp 53, .tmp 56]) rfl ?_); at_builtin; refine Kd.R_append (Kd.int .i64) (w0 := w) w.heap.size rfl (.tmp 53) (.tmp 56) 35 3 (.int .i64 0) 8 rfl Try.underlying35 info3 rfl (by decide) (by omega) u8 x8_1 (wrap64 (x11_2)) [.int .i64 (wrap64 (x11_2))] (fun k_ => (w.heap.size ≤ k_)) (fun _ => False) rfl rfl ?aP (fun _ hk => hk.elim) ?aF ?aO ?aB ?aS ?aL ?_; (case aP => exact rfl); (case aB => exact (by repeat (first | (with_reducible first | exact HB.out | apply below_alloc | apply pw_below_drewN | apply below_drew1) | exact HB.out))); (case aF => exact (fun k_ hk => (Nat.le_trans (below_size (by repeat (first | (with_reducible first | exact HB.out | apply below_alloc | apply pw_below_drewN | apply below_drew1) | exact HB.out))) hk))); (case aO => exact (by (with_reducible repeat (first | apply Kd.R_alloc | apply Kd.R_drewN | apply Kd.R_drew)); exact HO_8.out)); (case aS => exact (below_size (by repeat (first | (with_reducible first | exact HB.out | apply below_alloc | apply pw_below_drewN | apply below_drew1) | exact HB.out)))); (case aL => have := LMc15.out; omega); intro v134 w18 ho hb hg hat; rw [← Ny133.out] at ho; have n0_ := Aside0.mk (Kd.V_afterv (ok := (fun k_ => (P1_ k_ ∨ w.heap.size ≤ k_))) (by (with_reducible repeat (first | apply Kd.V_alloc | apply Kd.V_drewN | apply Kd.V_drew)); exact HO_1.out) hg hat); have n1_ := Aside0.mk (hb); have n2_ := Aside0.mk (ho); clear HO_1; clear HB; clear HO_8; have HO_1 := n0_; have HB := n1_; have HO135 := n2_; clear n0_ n1_ n2_; clear ho hb hg hat; obtain ⟨Ao20, co20, eo20⟩ := Kd.V_slice HO_1.out; subst eo20; have q19 : ((rd l0 x33_1) : Int) ≤ ((x1_1.length : Int) : Int) := of_decide_eq_true (by first | (with_reducible assumption) | assumption); obtain ⟨i019, hi019, _, hsz19, _⟩ := info_parts info5; have hroom19 : x1_1.length ≤ co20 := (Kd.V_reads' HO_1.out).2.1; have hC19 : Kd.F (Kd.int .u8) _ _ Ao20 x1_1.length x1_1 := (Kd.V_at (base := w.heap.size) HO_1.out).2.2; have q019 : (0 : Int) ≤ ((rd l0 x33_1) : Int) := of_decide_eq_true (by first | (with_reducible assumption) | assumption); have hcut19 := cut_from (P := Try.prog) 22 5 .i64 Try.underlying22 hi019 1 hsz19 Ao20 x1_1.length co20 (rd l0 x33_1) q019 q19; have hr19 := Kd.F_cut (m := ((rd l0 x33_1) : Int).toNat) (c := co20) hC19 (by omega) hroom19; obtain ⟨A19, hA19⟩ : ∃ A1, A1 = (if co20 = ((rd l0 x33_1) : Int).toNat then Ao20 else (Ao20 : Option Addr).map (·.add (((rd l0 x33_1) : Int).toNat * 1))) := ⟨_, rfl⟩; obtain ⟨c19, hc19⟩ : ∃ c1, c1 = co20 - ((rd l0 x33_1) : Int).toNat := ⟨_, rfl⟩; have hy19 : y136.length = x1_1.length - ((rd l0 x33_1) : Int).toNat := (by rw [Ny136.out, List.length_drop] <;> omega); rw [show (x1_1).drop ((rd l0 x33_1) : Int).toNat = y136 from Ny136.out.symm] at hr19; replace hr19 : Kd.F (Kd.int .u8) _ _ A19 y136.length y136 := (by rw [hA19]; exact hr19); rw [← hy19, ← hA19, ← hc19] at hcut19; have HO140 := Aside0.mk (show Kd.V (Kd.int .u8) 5 _ w.heap.size _ (.slice A19 y136.length c19) y136 from Kd.V_mk (by rw [hy19, hc19]; exact Nat.sub_le_sub_right hroom19 _) hr19); have HC140 := Aside0.mk (show y136.length ≤ c19 from by rw [hy19, hc19]; exact Nat.sub_le_sub_right hroom19 _); clear hr19 hC19 hroom19 hi019 hsz19 hc19; have KY19 := Aside0.mk hy19; have KA19 := Aside0.mk hA19; clear hy19 hA19; replace q19 := eq_true q19))
                                go_roundg k2
                                case measure => have := HK1.out; have := HK2.out; omega
                                case rel => exact ⟨(y136), (y133), (wrap64 (x33_1 + 1)), (by first | rfl | (simp; done) | (simp [*]; done)), H', ⟨by have := HK1.out; have := HK2.out; omega⟩, ⟨by (with_reducible repeat (first | apply Kd.V_alloc | apply Kd.V_drewN | apply Kd.V_drew)); exact HO140.out⟩, ⟨by (with_reducible repeat (first | apply Kd.R_alloc | apply Kd.R_drewN | apply Kd.R_drew)); exact HO135.out⟩, ⟨by repeat (first | (with_reducible first | exact HB.out | apply below_alloc | apply pw_below_drewN | apply below_drew1) | exact HB.out)⟩⟩
                              · rw [if_neg c17] at H
                                exact absurd H (by simp)
                            · rw [if_neg c16] at H
                              exact absurd H (by simp)
                          · rw [if_neg c15] at H
                            exact absurd H (by simp)
                · rw [if_neg c9] at H
                  exact absurd H (by simp)
              · rw [if_neg c8] at H
                exact absurd H (by simp)
            · rw [if_neg c7] at H
              have c7b0 : decide (x33_1 < (l0.length : Int)) = false := decide_eq_false c7
              clear c7
              simp only [Option.some.injEq, Prod.mk.injEq] at H
              obtain ⟨rfl, rfl⟩ := H
              go_wp2
              go_ret2
              exact ⟨_, by first | rfl | (simp [errW_none, errW_some] <;> rfl) | (simp [*, errW_none, errW_some] <;> rfl), by (with_reducible repeat (first | apply Kd.R_alloc | apply Kd.R_drewN | apply Kd.R_drew)); exact HO_8.out, by repeat (first | (with_reducible first | exact HB.out | apply below_alloc | apply pw_below_drewN | apply below_drew1) | exact HB.out)⟩
  · replace c4 := Bool.eq_false_iff.mpr c4
    subst c4
    have H1 : (some (([] : List Int), 2)) = some (r1, r2) := by rw [if_neg (show ¬ (false = true) by decide)] at H; exact H
    clear H
    have H := H1
    clear H1
    simp only [Option.some.injEq, Prod.mk.injEq] at H
    obtain ⟨rfl, rfl⟩ := H
    go_enter Try.func51, Try.ntmps51
    go_wp2_with (first | ((with_reducible refine gate_callee (f := 34) rfl ?_); refine goesL_ (some 15) rfl rfl Try.func34 (by kernel_rfl) rfl #[.slice A0 l0.length c0] rfl (by (try simp only [List.map_toArray, List.map_cons, List.map_nil]); first | done | rfl | (simp only [List.length_drop, List.length_take]; rfl)) ?_; (with_reducible refine (pack_Size.calls k _ _ l0 t129 false _ ?side1 ?side2 A3.out).mono ?_); (case side1 => repeat (first | exact HR0.out | (with_reducible refine Kd.C_alloc ?_ _) | (with_reducible refine Kd.C_drewN ?_ _) | (with_reducible refine Kd.C_drew ?_))); (case side2 => exact HC0.out); rintro e w' ⟨rfl, ⟨nd, rfl⟩⟩; refine ⟨_, rfl, ?_⟩))
    go_ret2
    exact ⟨_, by first | rfl | (simp [errW_none, errW_some] <;> rfl) | (simp [*, errW_none, errW_some] <;> rfl), by first | exact Kd.R_nil _ _ _ _ _ | exact Kd.N_nil _ _ _ _ _ | exact Kd.V_nil _ _ _ _ _ | exact Kd.Q_nil _ _ _ _ _ | exact Kd.S_nil _ _ _ _ _, by repeat (first | (with_reducible first | exact HB.out | apply below_alloc | apply pw_below_drewN | apply below_drew1) | exact HB.out)⟩
end Go.Proofs.Ytpedkegfefnibaa.QPackParts
namespace Go.Proofs.Ytpedkegfefnibaa.QPackParts
open Go.RowKit Go.Proofs.YtpedkegfefnibaaW.PrintWords Go.Proofs.YtpedkegfefnibaaW.PrintLast Go.Proofs.YtpedkegfefnibaaW.PrintMore
attribute [local go_sem] max2_int min2_int max_two min_two max_three min_three max_four min_four   -- for this text's walks alone
set_option linter.unusedVariables false
set_option linter.unusedSimpArgs false
end Go.Proofs.Ytpedkegfefnibaa.QPackParts
namespace Go.Proofs.Ytpedkegfefnibaa.Mono
open Go.RowKit Go.Proofs.YtpedkegfefnibaaW.PrintWords Go.Proofs.YtpedkegfefnibaaW.PrintLast
set_option linter.unusedVariables false
def Ext (w w' : World) : Prop := Below w.heap.size w w'
theorem Ext.below {w w' : World} (h : Ext w w') : Below w.heap.size w w' := h
theorem Ext.refl (w : World) : Ext w w := Below.refl _ _
theorem Ext.trans {a b c : World} (h : Ext a b) (k : Ext b c) : Ext a c := below_step h k
theorem Ext.of {w w' : World} (h : Below w.heap.size w w') : Ext w w' := h
theorem c_ext {α : Type} {d : Kd α} {w w' : World} {A : Option Addr} {n : Nat} {xs : List α} (h : Kd.C d w A n xs) (e : Ext w w') : Kd.C d w' A n xs := Kd.C_below h e
theorem Ext.drew (w : World) : Ext w w.drew := below_drew1 (Below.refl _ _)
def Stable (f : Value → World → Prop) : Prop := ∀ v w w', f v w → Ext w w' → f v w'
def Is (x : Value) : Value → World → Prop := fun v _ => v = x
def RowF {α : Type} (d : Kd α) (xs : List α) (f : Value → Value) : Value → World → Prop := fun v w => ∃ A c, v = f (.slice A xs.length c) ∧ xs.length ≤ c ∧ Kd.C d w A xs.length xs
theorem stable_rowF {α : Type} (d : Kd α) (xs : List α) (f : Value → Value) : Stable (RowF d xs f) := fun _ _ _ ⟨A, c, h, hc, hC⟩ e => ⟨A, c, h, hc, Kd.C_below hC (Ext.below e)⟩
theorem stable_is (x : Value) : Stable (Is x) := fun _ _ _ h _ => h
theorem Ext.of_drewN {w w' : World} {n : Nat} (h : Ext (w.drewN n) w') : Ext w w' := Ext.trans (Ext.of (pw_below_drewN (Below.refl _ _) n)) h
def dstAt (ops : Array Oper) (i : Nat) : Option Tmp := (ops[i]?).bind (·.dst)
def edges (ops : Array Oper) (i : Nat) : List Nat := match ops[i]? with
  | some o => (o.after.toList.filter (fun e => Region.binds .any e)).map (·.on)
  | none => []
def reach (ops : Array Oper) : Nat → Nat → Nat → Bool
  | 0, _, _ => false
  | n + 1, i, j => (edges ops i).any fun e => e == j || reach ops n e j
def okOps (ops : Array Oper) : Bool :=
  (List.range ops.size).all fun i => ((edges ops i).all fun e => decide (e < i)) && (List.range ops.size).all fun j => i == j || dstAt ops i == none || dstAt ops i != dstAt ops j
section
variable {P : Program} {ops : Array Oper} {Q : Exit → Act → World → Prop}
structure Fr (ops : Array Oper) (ts : List Tmp) (a0 a : Act) : Prop where
  size : a.tmps.size = a0.tmps.size
  defers : a.defers = a0.defers
  off : ∀ t, ts.contains t = false → a.tmps[t]? = a0.tmps[t]?
def Known (ops : Array Oper) (F : Nat → Value → World → Prop) (i : Nat) (a : Act) (w : World) : Prop :=
  ∀ j t, reach ops ops.size i j = true → dstAt ops j = some t → ∃ v, a.tmps[t]? = some v ∧ F j v w
def MStep (P : Program) (ops : Array Oper) (Q : Exit → Act → World → Prop) (ts : List Tmp) (a0 : Act) (w0 : World) (F : Nat → Value → World → Prop) (i : Nat) : Prop :=
  ∀ (a : Act) (w : World), Ext w0 w → Fr ops ts a0 a → Known ops F i a w →
    ∃ oi, ops[i]? = some oi ∧ ∀ K : Act → World → Prop, (∀ v w', F i v w' → Ext w w' → K (a.put oi.dst v) w') → if Region.wanted oi (yielded ops a.tmps) = true then Oper.wp P oi a w K Q else K (a.put oi.dst undef) w
theorem msteps_nil {ts : List Tmp} {a0 : Act} {w0 : World} {F : Nat → Value → World → Prop} : ∀ i ∈ ([] : List Nat), MStep P ops Q ts a0 w0 F i := fun _ h => by cases h
theorem msteps_cons {ts : List Tmp} {a0 : Act} {w0 : World} {F : Nat → Value → World → Prop} {i : Nat} {rs : List Nat} (h : MStep P ops Q ts a0 w0 F i) (hs : ∀ j ∈ rs, MStep P ops Q ts a0 w0 F j) : ∀ j ∈ i :: rs, MStep P ops Q ts a0 w0 F j := fun j hj => by
  rcases List.mem_cons.1 hj with rfl | hj
  · exact h
  · exact hs j hj
theorem edges_lt (h : okOps ops = true) {i j : Nat} (hj : j ∈ edges ops i) : j < i := by
  by_cases hi : i < ops.size
  · have h1 := List.all_eq_true.1 h i (List.mem_range.2 hi)
    rw [Bool.and_eq_true] at h1
    simpa using List.all_eq_true.1 h1.1 j hj
  · unfold edges at hj
    rw [Array.getElem?_eq_none (by omega)] at hj
    cases hj
theorem dst_ne (h : okOps ops = true) {i j : Nat} {t : Tmp} (hi : dstAt ops i = some t) (hj : dstAt ops j = some t) : i = j := by
  have lt : ∀ {i : Nat}, dstAt ops i = some t → i < ops.size := fun {i} hi => by
    by_cases hlt : i < ops.size
    · exact hlt
    · unfold dstAt at hi
      rw [Array.getElem?_eq_none (by omega)] at hi
      cases hi
  have h1 := List.all_eq_true.1 h i (List.mem_range.2 (lt hi))
  rw [Bool.and_eq_true] at h1
  have h2 := List.all_eq_true.1 h1.2 j (List.mem_range.2 (lt hj))
  rw [hi, hj] at h2
  simpa using h2
structure Inv (ops : Array Oper) (ts : List Tmp) (a0 : Act) (w0 : World) (F : Nat → Value → World → Prop) (listed : Array Bool) (a : Act) (w : World) : Prop where
  sz : listed.size = ops.size
  ext : Ext w0 w
  fr : Fr ops ts a0 a
  val : ∀ i t, i < ops.size → listed.getD i true = true → dstAt ops i = some t → ∃ v, a.tmps[t]? = some v ∧ F i v w
  shut : ∀ i j, i < ops.size → listed.getD i true = true → j ∈ edges ops i → listed.getD j true = true
theorem known_of {ts : List Tmp} {a0 : Act} {w0 : World} {F : Nat → Value → World → Prop} {listed : Array Bool} {a : Act} {w : World} (hok : okOps ops = true) (hI : Inv ops ts a0 w0 F listed a w) : ∀ (n i j : Nat), i < ops.size → (∀ e ∈ edges ops i, listed.getD e true = true) → reach ops n i j = true → j < ops.size ∧ listed.getD j true = true := by
  intro n
  induction n with
  | zero => intro i j _ _ h; cases h
  | succ n ih =>
    intro i j hi he h
    unfold reach at h
    obtain ⟨e, hem, h⟩ := List.any_eq_true.1 h
    have hlt := edges_lt hok hem
    have hl := he e hem
    rw [Bool.or_eq_true] at h
    rcases h with h | h
    · obtain rfl := beq_iff_eq.1 h
      exact ⟨by omega, hl⟩
    · exact ih e j (by omega) (fun x hx => hI.shut e x (by omega) hl hx) h
theorem ready_edges {listed : Array Bool} (hsz : listed.size = ops.size) {i : Nat} (hok : okOps ops = true) : i ∈ Region.ready .any ops listed ↔ i < ops.size ∧ listed.getD i true = false ∧ ∀ e ∈ edges ops i, listed.getD e true = true := by
  rw [mem_ready]
  constructor
  · rintro ⟨h1, o, ho, h2⟩
    have hi := (Array.getElem?_eq_some_iff.1 ho).1
    refine ⟨hi, h1, fun e he => ?_⟩
    have hlt := edges_lt hok he
    unfold edges at he
    rw [ho] at he
    obtain ⟨x, hx, rfl⟩ := List.mem_map.1 he
    obtain ⟨hx1, hx2⟩ := List.mem_filter.1 hx
    have := h2 x (by simpa using hx1) hx2
    rw [Array.getD_eq_getD_getElem?] at this ⊢
    rw [Array.getElem?_eq_getElem (by omega)] at this ⊢
    exact this
  · rintro ⟨hi, h1, h2⟩
    refine ⟨h1, ops[i], Array.getElem?_eq_getElem hi, fun e he hb => ?_⟩
    have hm : e.on ∈ edges ops i := by
      unfold edges
      rw [Array.getElem?_eq_getElem hi]
      exact List.mem_map.2 ⟨e, List.mem_filter.2 ⟨by simpa using he, hb⟩, rfl⟩
    have hlt := edges_lt hok hm
    have := h2 _ hm
    rw [Array.getD_eq_getD_getElem?] at this ⊢
    rw [Array.getElem?_eq_getElem (by omega)] at this ⊢
    exact this
theorem mono_all {ts : List Tmp} (hts : ∀ i t, dstAt ops i = some t → ts.contains t = true) {a0 : Act} {w0 : World} {F : Nat → Value → World → Prop} (hok : okOps ops = true) (hF : ∀ i, Stable (F i)) (hs : ∀ i ∈ List.range ops.size, MStep P ops Q ts a0 w0 F i) (hdst : ∀ i t, dstAt ops i = some t → t < a0.tmps.size)
    (hend : ∀ a w, Ext w0 w → Fr ops ts a0 a → (∀ i t, dstAt ops i = some t → ∃ v, a.tmps[t]? = some v ∧ F i v w) → Q .normal a w) :
    ∀ (fuel : Nat) (listed : Array Bool) (a : Act) (w : World), listed.toList.count false = fuel → Inv ops ts a0 w0 F listed a w → wpAny P .any ops Q fuel listed a w := by
  have fin : ∀ (listed : Array Bool) (a : Act) (w : World), Inv ops ts a0 w0 F listed a w → (∀ i, i < ops.size → listed.getD i true = true) → Q .normal a w := by
    intro listed a w hI hall
    refine hend a w hI.ext hI.fr (fun i t ht => ?_)
    by_cases hi : i < ops.size
    · exact hI.val i t hi (hall i hi) ht
    · unfold dstAt at ht
      rw [Array.getElem?_eq_none (by omega)] at ht
      cases ht
  have none_ : ∀ (listed : Array Bool), listed.size = ops.size → Region.ready .any ops listed = [] → ∀ i, i < ops.size → listed.getD i true = true := by
    intro listed hsz hr i
    induction i using Nat.strongRecOn with
    | _ i ih =>
      intro hi
      cases hl : listed.getD i true with
      | true => rfl
      | false =>
        have : i ∈ Region.ready .any ops listed := (ready_edges hsz hok).2 ⟨hi, hl, fun e he => ih e (edges_lt hok he) (by have := edges_lt hok he; omega)⟩
        rw [hr] at this
        cases this
  intro fuel
  induction fuel with
  | zero =>
    intro listed a w hc hI
    have hall : ∀ i, i < ops.size → listed.getD i true = true := by
      intro i hi
      have hm := List.count_eq_zero.1 hc
      rw [Array.getD_eq_getD_getElem?, Array.getElem?_eq_getElem (by rw [hI.sz]; exact hi)]
      cases hb : listed[i]'(by rw [hI.sz]; exact hi) with
      | true => rfl
      | false => exact absurd (by rw [← hb]; exact Array.getElem_mem_toList _) hm
    refine ⟨?_, fin listed a w hI hall⟩
    refine List.eq_nil_iff_forall_not_mem.2 (fun i hi => ?_)
    obtain ⟨h1, h2, _⟩ := (ready_edges hI.sz hok).1 hi
    rw [hall i h1] at h2
    cases h2
  | succ fuel ih =>
    intro listed a w hc hI
    refine ⟨fun hr => fin listed a w hI (none_ listed hI.sz hr), fun i hi => ?_⟩
    obtain ⟨hlt, hl, he⟩ := (ready_edges hI.sz hok).1 hi
    obtain ⟨oi, hoi, hK⟩ := hs i (List.mem_range.2 hlt) a w hI.ext hI.fr (fun j t hr ht => by
      obtain ⟨h1, h2⟩ := known_of hok hI _ i j hlt he hr
      exact hI.val j t h1 h2 ht)
    refine wpOp_step hoi (fun K' hK' => hK K' (fun v w' hv hx => hK' _ _ ?_))
    have hdi : dstAt ops i = oi.dst := by unfold dstAt; rw [hoi]; rfl
    have hli : listed[i]'(by rw [hI.sz]; exact hlt) = false := by
      rw [Array.getD_eq_getD_getElem?, Array.getElem?_eq_getElem (by rw [hI.sz]; exact hlt)] at hl
      exact hl
    refine ih _ _ _ ?_ ⟨by rw [Array.size_setIfInBounds]; exact hI.sz, hI.ext.trans hx, ⟨?_, ?_, ?_⟩, ?_, ?_⟩
    · rw [Array.toList_setIfInBounds, List.count_set (h := by rw [Array.length_toList, hI.sz]; exact hlt)]
      have : listed.toList[i]'(by rw [Array.length_toList, hI.sz]; exact hlt) = false := by rw [Array.getElem_toList]; exact hli
      rw [this, hc]
      simp
    · rw [← hI.fr.size]
      unfold Act.put
      split <;> simp
    · rw [← hI.fr.defers]
      unfold Act.put
      split <;> rfl
    · intro t ht
      rw [← hI.fr.off t ht]
      cases hd : oi.dst with
      | none => rfl
      | some d =>
        have hne : d ≠ t := fun e => by have := hts i t (by rw [hdi, hd, e]); rw [ht] at this; cases this
        simp [Act.put, Array.getElem?_setIfInBounds_ne hne]
    · intro j t hj hlj htj
      by_cases hij : i = j
      · subst hij
        rw [hdi] at htj
        refine ⟨v, ?_, hv⟩
        have := hdst i t (by rw [hdi]; exact htj)
        rw [htj]
        simp [Act.put, hI.fr.size, this]
      · have hlj' : listed.getD j true = true := by rw [getD_set_ne true hij] at hlj; exact hlj
        obtain ⟨u, hu, hfu⟩ := hI.val j t hj hlj' htj
        refine ⟨u, ?_, hF j u w w' hfu hx⟩
        cases hd : oi.dst with
        | none => exact hu
        | some d =>
          have hne : d ≠ t := fun e => hij (dst_ne hok (by rw [hdi, hd, e]) htj)
          simpa [Act.put, Array.getElem?_setIfInBounds_ne hne] using hu
    · intro j e hj hlj hem
      by_cases hej : i = e
      · subst hej
        rw [Array.getD_eq_getD_getElem?]
        simp [hI.sz, hlt]
      · rw [getD_set_ne true hej]
        by_cases hij : i = j
        · subst hij
          exact he e hem
        · rw [getD_set_ne true hij] at hlj
          exact hI.shut j e hj hlj hem
def putT (a : Act) (ts : List Tmp) (val : Tmp → Value) : Act := ts.foldl (fun a t => a.put (some t) (val t)) a
theorem putT_spec (val : Tmp → Value) : ∀ (ts : List Tmp) (a : Act), (putT a ts val).tmps.size = a.tmps.size ∧ (putT a ts val).defers = a.defers ∧ (∀ t, t ∉ ts → (putT a ts val).tmps[t]? = a.tmps[t]?) ∧ (∀ t, t ∈ ts → t < a.tmps.size → (putT a ts val).tmps[t]? = some (val t))
  | [], a => ⟨rfl, rfl, fun _ _ => rfl, fun _ h => by cases h⟩
  | s :: r, a => by
    obtain ⟨h1, h2, h3, h4⟩ := putT_spec val r (a.put (some s) (val s))
    have hsz : (a.put (some s) (val s)).tmps.size = a.tmps.size := by simp [Act.put]
    refine ⟨h1.trans hsz, h2.trans rfl, fun t ht => ?_, fun t ht hlt => ?_⟩
    · rw [List.mem_cons, not_or] at ht
      refine (h3 t ht.2).trans ?_
      simp [Act.put, Array.getElem?_setIfInBounds_ne (Ne.symm ht.1)]
    · by_cases htr : t ∈ r
      · exact h4 t htr (by rw [hsz]; exact hlt)
      · rcases List.mem_cons.1 ht with rfl | h
        · refine (h3 t htr).trans ?_
          simp [Act.put, hlt]
        · exact absurd h htr
theorem mono_region {id : Nat} {a0 : Act} {w0 : World} (F : Nat → Value → World → Prop) (n : Nat) (ts : List Tmp) (hm : P.follows .mixedOrders = true) (hn : ops.size = n) (hok : okOps ops = true)
    (hts : (ops.toList.filterMap (·.dst) == ts && ts.all fun t => decide (t < a0.tmps.size)) = true) (hF : ∀ i, Stable (F i)) (hs : ∀ i ∈ List.range n, MStep P ops Q ts a0 w0 F i)
    (hend : ∀ (val : Tmp → Value) (w : World), Ext w0 w → (∀ i t, dstAt ops i = some t → F i (val t) w) → Q .normal (putT a0 ts val) w) : (Code.region id ops true).wp P Q a0 w0 := by
  subst hn
  rw [Bool.and_eq_true, beq_iff_eq] at hts
  obtain ⟨hts, hlt⟩ := hts
  have hdst : ∀ i t, dstAt ops i = some t → t ∈ ts := by
    intro i t h
    rw [← hts]
    unfold dstAt at h
    cases ho : ops[i]? with
    | none => rw [ho] at h; cases h
    | some o =>
      rw [ho] at h
      exact List.mem_filterMap.2 ⟨o, by have := Array.mem_of_getElem? ho; simpa using this, h⟩
  have hdlt : ∀ i t, dstAt ops i = some t → t < a0.tmps.size := fun i t h => by simpa using List.all_eq_true.1 hlt t (hdst i t h)
  refine wp_region_any hm (mono_all (ts := ts) (fun i t h => List.contains_iff_mem.2 (hdst i t h)) (a0 := a0) (w0 := w0.drew) (F := F) hok hF (fun i hi a w hx => hs i hi a w ((Ext.drew w0).trans hx)) hdlt ?_ _ _ _ _ ?_ ⟨by simp, Ext.refl _, ⟨rfl, rfl, fun _ _ => rfl⟩, ?_, ?_⟩)
  · intro a w hx hfr hv
    have key : a = putT a0 ts (fun t => a.tmps.getD t undef) := by
      obtain ⟨h1, h2, h3, h4⟩ := putT_spec (fun t => a.tmps.getD t undef) ts a0
      have ht : a.tmps = (putT a0 ts (fun t => a.tmps.getD t undef)).tmps := by
        refine Array.ext_getElem? (fun t => ?_)
        by_cases hmem : t ∈ ts
        · have hl : t < a0.tmps.size := by simpa using List.all_eq_true.1 hlt t hmem
          rw [h4 t hmem hl, Array.getD_eq_getD_getElem?]
          rw [Array.getElem?_eq_getElem (by rw [hfr.size]; exact hl)]
          rfl
        · rw [h3 t hmem]
          refine hfr.off t (by cases h : ts.contains t with | false => rfl | true => exact absurd (List.contains_iff_mem.1 h) hmem)
      have hd : a.defers = (putT a0 ts (fun t => a.tmps.getD t undef)).defers := by rw [h2]; exact hfr.defers
      cases a
      cases hp : putT a0 ts _
      rw [hp] at ht hd
      simp only at ht hd
      rw [ht, hd]
    rw [key]
    refine hend _ w ((Ext.drew w0).trans hx) (fun i t h => ?_)
    obtain ⟨v, h1, h2⟩ := hv i t h
    rw [Array.getD_eq_getD_getElem?, h1]
    exact h2
  · simp
  · intro i t hi h
    rw [Array.getD_eq_getD_getElem?, Array.getElem?_replicate, if_pos hi] at h
    cases h
  · intro i j hi h
    rw [Array.getD_eq_getD_getElem?, Array.getElem?_replicate, if_pos hi] at h
    cases h
end
end Go.Proofs.Ytpedkegfefnibaa.Mono
namespace Go.Proofs.Ytpedkegfefnibaa.Read
open Go.RowKit Go.Proofs.YtpedkegfefnibaaW.PrintWords
theorem v_of_c {k : IntKind} {e base : Nat} {w : World} {A : Option Addr} {c : Nat} {xs : List Int} (h : Kd.C (Kd.int k) w A xs.length xs) (hc : xs.length ≤ c) : Kd.V (Kd.int k) e w base (fun k_ => k_ < w.heap.size) (.slice A xs.length c) xs :=
  ⟨A, c, rfl, hc, Kd.C_F (Kd.heap_int k) h⟩
section
variable {P : Program}
theorem cutT {k : IntKind} (t e : TypeId) {i : TypeInfo} (ht : P.underlying t = some (.slice e)) (hi : P.info? e = some i) (hsz : i.size = 1) (A : Option Addr) (c : Nat) (xs : List Int) (m : Nat) (hm : m ≤ xs.length) (hc : xs.length ≤ c) :
    ∃ L : List Int, L = xs.take m ∧ (∀ W : World, (Instr.slice t (.slice A xs.length c) none (some (.int .i64 (m : Int))) none).run P W = .ok (.slice A L.length c) W) ∧ (∀ w : World, Kd.C (Kd.int k) w A xs.length xs → Kd.C (Kd.int k) w A L.length L) ∧ L.length ≤ c := by
  obtain ⟨h1, _, h3⟩ := print_take_of (P := P) (Value.int .u8) 0 t e .i64 ht hi hsz A c xs (m : Int) (by omega) (by omega) hc
  rw [Int.toNat_natCast] at h1 h3
  exact ⟨_, rfl, h1, fun w h => Kd.C_take h hm, h3⟩
theorem cutD {k : IntKind} (t e : TypeId) {i : TypeInfo} (ht : P.underlying t = some (.slice e)) (hi : P.info? e = some i) (hsz : i.size = 1) (A : Option Addr) (c : Nat) (xs : List Int) (m : Nat) (hm : m ≤ xs.length) (hc : xs.length ≤ c) :
    ∃ (L : List Int) (A' : Option Addr) (c' : Nat), L = xs.drop m ∧ (∀ W : World, (Instr.slice t (.slice A xs.length c) (some (.int .i64 (m : Int))) none none).run P W = .ok (.slice A' L.length c') W) ∧ (∀ w : World, Kd.C (Kd.int k) w A xs.length xs → Kd.C (Kd.int k) w A' L.length L) ∧ L.length ≤ c' := by
  obtain ⟨A', h1, h2, h3⟩ := print_drop_of (P := P) (Value.int k) 0 t e .i64 ht hi hsz A c xs (m : Int) (by omega) (by omega) hc
  rw [Int.toNat_natCast] at h1 h2 h3
  exact ⟨_, A', _, rfl, h1, fun w h => Kd.C_of_reads (h1 := fun _ => rfl) (h2 w (Kd.reads_of_C h)), h3⟩
end
end Go.Proofs.Ytpedkegfefnibaa.Read
namespace Go.Proofs.Ytpedkegfefnibaa.EvKit
open Go.RowKit Go.Proofs.YtpedkegfefnibaaW.PrintWords
theorem Ev.pos {α : Type} {c : Prop} [Decidable c] {f g : Nat → Option α} {r : α} (h : c) (k : Ev f r) : Ev (fun n => if c then f n else g n) r := by
  obtain ⟨K, k⟩ := k
  exact ⟨K, fun n hn => by simp only [if_pos h]; exact k n hn⟩
theorem Ev.neg {α : Type} {c : Prop} [Decidable c] {f g : Nat → Option α} {r : α} (h : ¬ c) (k : Ev g r) : Ev (fun n => if c then f n else g n) r := by
  obtain ⟨K, k⟩ := k
  exact ⟨K, fun n hn => by simp only [if_neg h]; exact k n hn⟩
theorem Ev.ite {α : Type} {c : Prop} [Decidable c] {f g : Nat → Option α} {r : α} (h : c → Ev f r) (k : ¬ c → Ev g r) : Ev (fun n => if c then f n else g n) r := by
  by_cases hc : c
  · exact Ev.pos hc (h hc)
  · exact Ev.neg hc (k hc)
theorem Ev.eq {α : Type} {f : Nat → Option α} {r r' : α} (k : Ev f r) (h : r = r') : Ev f r' := h ▸ k
theorem Ev.ret {α : Type} {r r' : α} (h : r = r') : Ev (fun _ => some r) r' := h ▸ Ev.now r
theorem Ev.val {α : Type} {o : Option α} {r : α} (h : o = some r) : Ev (fun _ => o) r := ⟨0, fun _ _ => h⟩
theorem rd_nat {l : List Int} {i : Nat} (h : i < l.length) : rd l (i : Int) = l[i] := by
  simp [rd, h]
theorem rd_mem {l : List Int} {i : Int} (h0 : 0 ≤ i) (h : i < (l.length : Int)) : rd l i ∈ l := by
  obtain ⟨n, rfl⟩ := Int.eq_ofNat_of_zero_le h0
  have h' : n < l.length := by exact_mod_cast h
  rw [rd_nat h']
  exact List.getElem_mem h'
theorem drop_rd {l : List Int} {i : Nat} (h : i < l.length) : l.drop i = rd l (i : Int) :: l.drop (i + 1) := by
  rw [rd_nat h]
  exact List.drop_eq_getElem_cons h
theorem w64_id {x : Int} (h0 : -9223372036854775808 ≤ x) (h : x ≤ 9223372036854775807) : wrap64 x = x := by
  unfold wrap64
  omega
theorem w64_succ {i : Nat} (h : i < 9000000000000000000) : wrap64 ((i : Int) + 1) = ((i + 1 : Nat) : Int) := by
  unfold wrap64
  omega
theorem w_u64 (n : Int) (h₀ : 0 ≤ n) (h₁ : n < 18446744073709551616) : IntKind.u64.wrap n = n := by
  simp [IntKind.wrap, IntKind.bits, IntKind.signed]
  omega
theorem wf_u8 {x : Int} (h : (Lit.int .u8 x).wf = true) : 0 ≤ x ∧ x < 256 := by
  have h1 : IntKind.u8.min = 0 := by decide
  have h2 : IntKind.u8.max = 255 := by decide
  simp only [Lit.wf, h1, h2, Bool.and_eq_true, decide_eq_true_eq] at h
  omega
end Go.Proofs.Ytpedkegfefnibaa.EvKit
namespace Go.Proofs.Ytpedkegfefnibaa.PackMath
def okSizes (l : List Int) : Bool := decide (l.length ≤ 64) && l.all (fun s => decide (1 ≤ s) && decide (s ≤ 8))
def pkSize (l : List Int) : Int × Bool := if okSizes l then (l.sum, true) else (0, false)
def pkFits (n s : Int) : Bool := decide (1 ≤ s) && decide (s ≤ 8) && decide (0 ≤ n) && decide (n ≤ 4611686018427387904) && decide (n < 256 ^ s.toNat)
def le : Nat → Int → List Int
  | 0, _ => []
  | s + 1, n => n % 256 :: le s (n / 256)
def unle : List Int → Int
  | [] => 0
  | b :: l => b + 256 * unle l
def putGo : List Int → List Int → Option (List Int)
  | [], [] => some []
  | s :: ss, n :: ns => if pkFits n s then (putGo ss ns).map (le s.toNat n ++ ·) else none
  | _, _ => none
def endPut (out : List Int) : Option (List Int) → List Int × Int
  | some b => (out ++ b, 0)
  | none => ([], 2)
def pkPut (sizes ns : List Int) : List Int × Int := if okSizes sizes then endPut [] (putGo sizes ns) else ([], 2)
def takeGo : List Int → List Int → Option (List Int)
  | [], _ => some []
  | s :: ss, b => if unle (b.take s.toNat) ≤ 4611686018427387904 then (takeGo ss (b.drop s.toNat)).map (unle (b.take s.toNat) :: ·) else none
def endTake (out : List Int) : Option (List Int) → List Int × Int
  | some l => (out ++ l, 0)
  | none => ([], 11)
def pkTake (sizes b : List Int) : List Int × Int :=
  if okSizes sizes then (if (b.length : Int) < sizes.sum then ([], 10) else if (b.length : Int) > sizes.sum then ([], 13) else endTake [] (takeGo sizes b)) else ([], 2)
theorem okSizes_iff {l : List Int} : okSizes l = true ↔ l.length ≤ 64 ∧ ∀ s ∈ l, 1 ≤ s ∧ s ≤ 8 := by
  simp [okSizes]
theorem fits_iff {n s : Int} : pkFits n s = true ↔ 1 ≤ s ∧ s ≤ 8 ∧ 0 ≤ n ∧ n ≤ 4611686018427387904 ∧ n < 256 ^ s.toNat := by
  simp [pkFits, and_assoc]
theorem le_length : ∀ (s : Nat) (n : Int), (le s n).length = s
  | 0, _ => rfl
  | s + 1, n => by simp [le, le_length s]
theorem le_byte : ∀ (s : Nat) (n : Int), ∀ x ∈ le s n, 0 ≤ x ∧ x < 256
  | 0, _ => by simp [le]
  | s + 1, n => by
    intro x hx
    rcases List.mem_cons.1 hx with rfl | hx
    · omega
    · exact le_byte s _ x hx
theorem unle_le : ∀ (s : Nat) (n : Int), 0 ≤ n → n < 256 ^ s → unle (le s n) = n
  | 0, n, h0, h => by simp at h; simp [le, unle]; omega
  | s + 1, n, h0, h => by
    have h1 : n / 256 < 256 ^ s := by
      rw [Int.pow_succ] at h
      omega
    simp only [le, unle]
    rw [unle_le s (n / 256) (by omega) h1]
    omega
theorem unle_nonneg : ∀ (l : List Int), (∀ x ∈ l, 0 ≤ x ∧ x < 256) → 0 ≤ unle l
  | [], _ => by simp [unle]
  | b :: l, h => by
    have h1 := h b (by simp)
    have h2 := unle_nonneg l fun x hx => h x (by simp [hx])
    simp only [unle]
    omega
theorem unle_append : ∀ (a b : List Int), unle (a ++ b) = unle a + 256 ^ a.length * unle b
  | [], b => by simp [unle]
  | x :: a, b => by
    simp only [List.cons_append, unle, unle_append a b, List.length_cons, Int.pow_succ]
    rw [Int.mul_add, ← Int.mul_assoc, Int.mul_comm (256 ^ a.length) 256, Int.add_assoc]
theorem sum_nonneg : ∀ {l : List Int}, (∀ s ∈ l, 1 ≤ s ∧ s ≤ 8) → (l.length : Int) ≤ l.sum ∧ l.sum ≤ 8 * l.length
  | [], _ => by simp
  | s :: l, h => by
    have h1 := h s (by simp)
    have h2 := sum_nonneg (l := l) fun x hx => h x (by simp [hx])
    simp only [List.sum_cons, List.length_cons]
    omega
theorem putGo_len : ∀ {ss ns : List Int}, ss.length ≠ ns.length → putGo ss ns = none
  | [], [], h => absurd rfl h
  | [], _ :: _, _ => rfl
  | _ :: _, [], _ => rfl
  | s :: ss, n :: ns, h => by
    simp only [putGo]
    rw [putGo_len (ss := ss) (ns := ns) (by simpa using h)]
    split <;> rfl
theorem take_of_put : ∀ {ss ns b : List Int}, (∀ s ∈ ss, 1 ≤ s ∧ s ≤ 8) → putGo ss ns = some b → takeGo ss b = some ns ∧ (b.length : Int) = ss.sum ∧ ∀ x ∈ b, 0 ≤ x ∧ x < 256
  | [], [], b, _, h => by
    simp only [putGo, Option.some.injEq] at h
    subst h
    exact ⟨rfl, rfl, by simp⟩
  | [], _ :: _, _, _, h => by simp [putGo] at h
  | _ :: _, [], _, _, h => by simp [putGo] at h
  | s :: ss, n :: ns, b, hs, h => by
    simp only [putGo] at h
    split at h
    · rename_i hf
      obtain ⟨b', hb', rfl⟩ := Option.map_eq_some_iff.1 h
      obtain ⟨h1, h2, h3⟩ := take_of_put (fun x hx => hs x (by simp [hx])) hb'
      obtain ⟨f1, f2, f3, f4, f5⟩ := fits_iff.1 hf
      have hl : (le s.toNat n).length = s.toNat := le_length _ _
      refine ⟨?_, ?_, ?_⟩
      · simp only [takeGo]
        rw [List.take_left' hl, List.drop_left' hl, unle_le _ _ f3 f5, if_pos f4, h1]
        rfl
      · rw [List.length_append, hl, List.sum_cons]
        omega
      · intro x hx
        rcases List.mem_append.1 hx with hx | hx
        · exact le_byte _ _ x hx
        · exact h3 x hx
    · cases h
theorem pkPut_ok {ss ns b : List Int} (h : pkPut ss ns = (b, 0)) : okSizes ss = true ∧ putGo ss ns = some b := by
  unfold pkPut at h
  split at h
  · rename_i hok
    cases e : putGo ss ns with
    | none => simp [e, endPut] at h
    | some b' => simp [e, endPut] at h; exact ⟨hok, by rw [h]⟩
  · simp at h
theorem back_put {ss ns b : List Int} (h : pkPut ss ns = (b, 0)) : pkTake ss b = (ns, 0) ∧ pkTake ss (b ++ [0]) = ([], 13) ∧ (∀ x ∈ b, 0 ≤ x ∧ x < 256) ∧ (b.length : Int) = ss.sum ∧ b.length ≤ 512 := by
  obtain ⟨h1, h2⟩ := pkPut_ok h
  have hk := okSizes_iff.1 h1
  obtain ⟨h3, h4, h5⟩ := take_of_put hk.2 h2
  have hs := sum_nonneg hk.2
  refine ⟨?_, ?_, h5, h4, by omega⟩
  · unfold pkTake
    rw [if_pos h1, if_neg (by omega), if_neg (by omega), h3]
    simp [endTake]
  · unfold pkTake
    rw [if_pos h1, if_neg (by simp; omega), if_pos (by simp; omega)]
end Go.Proofs.Ytpedkegfefnibaa.PackMath
namespace Go.Proofs.Ytpedkegfefnibaa.PurePackParts
open Go.RowKit Go.Proofs.Ytpedkegfefnibaa.QPackParts Go.Proofs.YtpedkegfefnibaaW.PrintWords Go.Proofs.YtpedkegfefnibaaW.PrintLast Go.Proofs.YtpedkegfefnibaaW.PrintMore Go.Proofs.Ytpedkegfefnibaa.EvKit Go.Proofs.Ytpedkegfefnibaa.PackMath
theorem size_l0 (l : List Int) (hl : l.length ≤ 64) (d : Nat) : ∀ (i : Nat) (n : Int), i + d = l.length → 0 ≤ n → n ≤ 8 * i →
    Ev (fun k => pack_Size.l0 k n l (l.length : Int) (i : Int)) (if (l.drop i).all (fun s => decide (1 ≤ s) && decide (s ≤ 8)) then (n + (l.drop i).sum, true) else (0, false)) := by
  induction d with
  | zero =>
    intro i n hi h0 h1
    refine Ev.step (fun k => pack_Size.l0.eq_2 ..) ?_
    refine Ev.neg (by omega) (Ev.ret ?_)
    rw [List.drop_of_length_le (by omega)]
    simp
  | succ d ih =>
    intro i n hi h0 h1
    refine Ev.step (fun k => pack_Size.l0.eq_2 ..) ?_
    refine Ev.pos (by omega) (Ev.pos (by omega) (Ev.pos (by omega) ?_))
    rw [drop_rd (l := l) (i := i) (by omega)]
    generalize rd l (i : Int) = s
    refine Ev.ite (fun h => Ev.ret ?_) (fun h => Ev.ite (fun h' => Ev.ret ?_) (fun h' => ?_))
    · have : ¬ 1 ≤ s := by omega
      simp [this]
    · have : ¬ s ≤ 8 := by omega
      simp [this]
    · rw [w64_succ (by omega), w64_id (by omega) (by omega)]
      refine Ev.eq (ih (i + 1) (n + s) (by omega) (by omega) (by omega)) ?_
      have e1 : 1 ≤ s := by omega
      have e2 : s ≤ 8 := by omega
      simp only [List.all_cons, List.sum_cons, e1, e2, decide_true, Bool.true_and, Int.add_assoc]
theorem size_ev (l : List Int) : Ev (fun k => pack_Size.f k l) (pkSize l) := by
  refine Ev.congr (fun k => by rw [pack_Size.f]) ?_
  refine Ev.ite (fun h => Ev.ret ?_) (fun h => ?_)
  · have : ¬ l.length ≤ 64 := by omega
    simp [pkSize, okSizes, this]
  · have h' : l.length ≤ 64 := by omega
    refine Ev.eq (size_l0 l h' l.length 0 0 (by omega) (by omega) (by omega)) ?_
    simp [pkSize, okSizes, h']
end Go.Proofs.Ytpedkegfefnibaa.PurePackParts
namespace Go.Proofs.Ytpedkegfefnibaa.PurePackParts
open Go.RowKit Go.Proofs.Ytpedkegfefnibaa.QPackParts Go.Proofs.YtpedkegfefnibaaW.PrintWords Go.Proofs.YtpedkegfefnibaaW.PrintLast Go.Proofs.YtpedkegfefnibaaW.PrintMore Go.Proofs.Ytpedkegfefnibaa.EvKit Go.Proofs.Ytpedkegfefnibaa.PackMath
theorem fits_ev (n s : Int) : Ev (fun k => pack_Fits.f k n s) (pkFits n s) := by
  refine Ev.congr (fun k => by rw [pack_Fits.f]) ?_
  refine Ev.ite (fun h => ?_) (fun h => Ev.ite (fun h' => ?_) (fun h' => ?_))
  · refine Ev.step (fun k => pack_Fits.j0.eq_2 ..) (Ev.pos rfl (Ev.ret ?_))
    have : ¬ 1 ≤ s := by omega
    simp [pkFits, this]
  · refine Ev.step (fun k => pack_Fits.j0.eq_2 ..) (Ev.pos rfl (Ev.ret ?_))
    have : ¬ s ≤ 8 := by omega
    simp [pkFits, this]
  · refine Ev.step (fun k => pack_Fits.j0.eq_2 ..) (Ev.ite (fun h0 => Ev.ret ?_) (fun h0 => ?_))
    · have h0 : n < 0 := by simpa using h0
      have : ¬ 0 ≤ n := by omega
      simp [pkFits, this]
    · have h0 : 0 ≤ n := by simpa using h0
      refine Ev.ite (fun h8 => Ev.ret ?_) (fun h8 => ?_)
      · subst h8
        rw [Bool.eq_iff_iff, fits_iff, decide_eq_true_eq]
        have e : (256 : Int) ^ (8 : Int).toNat = 18446744073709551616 := by decide
        rw [e]
        omega
      · have hs : s = 1 ∨ s = 2 ∨ s = 3 ∨ s = 4 ∨ s = 5 ∨ s = 6 ∨ s = 7 := by omega
        have hw : IntKind.u64.wrap (wrap64 (8 * s)) = 8 * s := by rw [w64_id (by omega) (by omega), w_u64 _ (by omega) (by omega)]
        rw [hw]
        refine Ev.pos (by omega) (Ev.ret ?_)
        rw [Bool.eq_iff_iff, fits_iff, beq_iff_eq]
        rcases hs with rfl | rfl | rfl | rfl | rfl | rfl | rfl
        · rw [show shr .i64 n (8 * 1) = n / 256 from by simp [shr, IntKind.bits], show (256 : Int) ^ (1 : Int).toNat = 256 from by decide]; omega
        · rw [show shr .i64 n (8 * 2) = n / 65536 from by simp [shr, IntKind.bits], show (256 : Int) ^ (2 : Int).toNat = 65536 from by decide]; omega
        · rw [show shr .i64 n (8 * 3) = n / 16777216 from by simp [shr, IntKind.bits], show (256 : Int) ^ (3 : Int).toNat = 16777216 from by decide]; omega
        · rw [show shr .i64 n (8 * 4) = n / 4294967296 from by simp [shr, IntKind.bits], show (256 : Int) ^ (4 : Int).toNat = 4294967296 from by decide]; omega
        · rw [show shr .i64 n (8 * 5) = n / 1099511627776 from by simp [shr, IntKind.bits], show (256 : Int) ^ (5 : Int).toNat = 1099511627776 from by decide]; omega
        · rw [show shr .i64 n (8 * 6) = n / 281474976710656 from by simp [shr, IntKind.bits], show (256 : Int) ^ (6 : Int).toNat = 281474976710656 from by decide]; omega
        · rw [show shr .i64 n (8 * 7) = n / 72057594037927936 from by simp [shr, IntKind.bits], show (256 : Int) ^ (7 : Int).toNat = 72057594037927936 from by decide]; omega
theorem put_l1 {sizes ns : List Int} {len i s : Int} {r : List Int × Int} (hs : s ≤ 8) (d : Nat) : ∀ (n : Int) (out : List Int) (j : Int), 0 ≤ j → j + d = s → out.length + d < 100000 →
    Ev (fun k => pack_Put.l0 k sizes (out ++ le d n) ns len (wrap64 (i + 1))) r → Ev (fun k => pack_Put.l1 k sizes out n ns len i s j) r := by
  induction d with
  | zero =>
    intro n out j h0 hj ho h
    refine Ev.step (fun k => pack_Put.l1.eq_2 ..) ?_
    refine Ev.neg (by omega) ?_
    simpa [le] using h
  | succ d ih =>
    intro n out j h0 hj ho h
    refine Ev.step (fun k => pack_Put.l1.eq_2 ..) ?_
    refine Ev.pos (by omega) (Ev.pos (by omega) ?_)
    rw [w64_id (by omega) (by omega)]
    refine ih (n / 256) (out ++ [n % 256]) (j + 1) (by omega) (by omega) (by simp; omega) ?_
    simpa [le] using h
theorem put_l0 {sizes ns : List Int} (hok : okSizes sizes = true) (hl : sizes.length = ns.length) (d : Nat) : ∀ (i : Nat) (out : List Int), i + d = ns.length → out.length ≤ 8 * i →
    Ev (fun k => pack_Put.l0 k sizes out ns (ns.length : Int) (i : Int)) (endPut out (putGo (sizes.drop i) (ns.drop i))) := by
  have hk := okSizes_iff.1 hok
  induction d with
  | zero =>
    intro i out hi ho
    refine Ev.step (fun k => pack_Put.l0.eq_2 ..) ?_
    refine Ev.neg (by omega) (Ev.ret ?_)
    rw [List.drop_of_length_le (by omega), List.drop_of_length_le (by omega)]
    simp [putGo, endPut]
  | succ d ih =>
    intro i out hi ho
    refine Ev.step (fun k => pack_Put.l0.eq_2 ..) ?_
    refine Ev.pos (by omega) (Ev.pos (by omega) (Ev.pos (by omega) (Ev.pos (by omega) ?_)))
    have hm := rd_mem (l := sizes) (i := (i : Int)) (by omega) (by omega)
    have hs := hk.2 _ hm
    rw [drop_rd (l := sizes) (i := i) (by omega), drop_rd (l := ns) (i := i) (by omega)]
    generalize hsv : rd sizes (i : Int) = s at hs ⊢
    generalize rd ns (i : Int) = n
    refine Ev.bind (fits_ev n s) ?_
    refine Ev.ite (fun h => ?_) (fun h => Ev.ret ?_)
    · refine put_l1 (by omega) s.toNat n out 0 (by omega) (by omega) (by omega) ?_
      rw [w64_succ (by omega)]
      refine Ev.eq (ih (i + 1) (out ++ le s.toNat n) (by omega) (by simp [le_length]; omega)) ?_
      simp only [putGo, h, if_true]
      cases putGo (sizes.drop (i + 1)) (ns.drop (i + 1)) <;> simp [endPut]
    · simp [putGo, h, endPut]
theorem put_ev (sizes ns : List Int) : Ev (fun k => pack_Put.f k sizes ns) (pkPut sizes ns) := by
  refine Ev.congr (fun k => by rw [pack_Put.f]) ?_
  refine Ev.bind (size_ev sizes) ?_
  refine Ev.ite (fun h => ?_) (fun h => ?_)
  · have hok : okSizes sizes = true := by
      cases e : okSizes sizes
      · simp [pkSize, e] at h
      · rfl
    refine Ev.step (fun k => pack_Put.j0.eq_2 ..) ?_
    refine Ev.ite (fun hn => Ev.ret ?_) (fun hn => ?_)
    · have hn' : sizes.length ≠ ns.length := fun e => by simp [e] at hn
      simp [pkPut, hok, putGo_len hn', endPut]
    · have hn' : sizes.length = ns.length := by
        have : ¬ ((ns.length : Int) ≠ (sizes.length : Int)) := by simpa using hn
        omega
      refine Ev.eq (put_l0 hok hn' ns.length 0 [] (by omega) (by simp)) ?_
      simp [pkPut, hok]
  · have hok : okSizes sizes = false := by
      cases e : okSizes sizes
      · rfl
      · simp [pkSize, e] at h
    refine Ev.step (fun k => pack_Put.j0.eq_2 ..) ?_
    refine Ev.pos rfl (Ev.ret ?_)
    simp [pkPut, hok]
end Go.Proofs.Ytpedkegfefnibaa.PurePackParts
namespace Go.Proofs.Ytpedkegfefnibaa.PurePackParts
open Go.RowKit Go.Proofs.Ytpedkegfefnibaa.QPackParts Go.Proofs.YtpedkegfefnibaaW.PrintWords Go.Proofs.YtpedkegfefnibaaW.PrintLast Go.Proofs.Ytpedkegfefnibaa.EvKit
theorem same_l0 (a b : List Int) (hl : a.length = b.length) (hb : a.length < 1000000000) (d : Nat) : ∀ i : Nat, i + d = a.length →
    Ev (fun k => incunableref01_Same.l0 k a b (i : Int)) (decide (a.drop i = b.drop i)) := by
  induction d with
  | zero =>
    intro i hi
    refine Ev.step (fun k => incunableref01_Same.l0.eq_2 ..) ?_
    refine Ev.neg (by omega) (Ev.ret ?_)
    rw [List.drop_of_length_le (by omega), List.drop_of_length_le (by omega)]
    rfl
  | succ d ih =>
    intro i hi
    refine Ev.step (fun k => incunableref01_Same.l0.eq_2 ..) ?_
    refine Ev.pos (by omega) (Ev.pos (by omega) (Ev.pos (by omega) ?_))
    rw [drop_rd (l := a) (i := i) (by omega), drop_rd (l := b) (i := i) (by omega)]
    refine Ev.ite (fun h => ?_) (fun h => Ev.ret ?_)
    · rw [w64_succ (by omega), h]
      refine Ev.eq (ih (i + 1) (by omega)) ?_
      simp
    · simp [h]
theorem same_ev (a b : List Int) (hb : a.length < 1000000000) : Ev (fun k => incunableref01_Same.f k a b) (decide (a = b)) := by
  refine Ev.congr (fun k => by rw [incunableref01_Same.f]) ?_
  refine Ev.ite (fun h => ?_) (fun h => Ev.ret ?_)
  · exact same_l0 a b (by omega) hb a.length 0 (by omega)
  · have : a ≠ b := fun e => h (by rw [e])
    simp [this]
end Go.Proofs.Ytpedkegfefnibaa.PurePackParts
namespace Go.Proofs.Ytpedkegfefnibaa.PurePackParts
open Go.RowKit Go.Proofs.Ytpedkegfefnibaa.QPackParts Go.Proofs.YtpedkegfefnibaaW.PrintWords Go.Proofs.YtpedkegfefnibaaW.PrintLast Go.Proofs.Ytpedkegfefnibaa.EvKit Go.Proofs.Ytpedkegfefnibaa.PackMath
theorem pack_awake_ev : Ev (fun k => incunablelaw03_awake.f k) true := by
  refine Ev.congr (fun k => by rw [incunablelaw03_awake.f]) ?_
  refine Ev.bind (put_ev [2] [300]) ?_
  have e : pkPut [2] [300] = ([44, 1], 0) := by decide
  rw [e]
  refine Ev.pos rfl (Ev.bind (same_ev [44, 1] [44, 1] (by decide)) (Ev.ret ?_))
  rfl
end Go.Proofs.Ytpedkegfefnibaa.PurePackParts
namespace Go.Proofs.Ytpedkegfefnibaa.PurePackParts
open Go.RowKit Go.Proofs.Ytpedkegfefnibaa.QPackParts Go.Proofs.YtpedkegfefnibaaW.PrintWords Go.Proofs.YtpedkegfefnibaaW.PrintLast Go.Proofs.YtpedkegfefnibaaW.PrintMore Go.Proofs.Ytpedkegfefnibaa.EvKit Go.Proofs.Ytpedkegfefnibaa.PackMath
theorem wraps_u64 (n : Int) (h₀ : 0 ≤ n) (h₁ : n < 2 ^ 64) : IntKind.u64.wrap n = n := w_u64 n h₀ (by simpa using h₁)
theorem or_byte {x b : Int} (h0 : 0 ≤ x) (h : x < 256 ^ 7) (b0 : 0 ≤ b) (b1 : b < 256) : Go.bits .or .u64 (IntKind.u64.wrap (x * 256)) (IntKind.u64.wrap b) = b + 256 * x := by
  have e : (256 : Int) ^ 7 = 72057594037927936 := by decide
  rw [e] at h
  rw [wraps_u64 (x * 256) (by omega) (by omega), wraps_u64 b (by omega) (by omega), bits_join .u64 64 (by decide) wraps_u64 8 (x * 256) b (by omega) (by omega) (by omega) b0 (by omega) (by omega)]
  omega
theorem pow7 {m : Nat} (h : m ≤ 7) : (256 : Int) ^ m ≤ 256 ^ 7 := by
  have : m = 0 ∨ m = 1 ∨ m = 2 ∨ m = 3 ∨ m = 4 ∨ m = 5 ∨ m = 6 ∨ m = 7 := by omega
  rcases this with rfl | rfl | rfl | rfl | rfl | rfl | rfl | rfl <;> decide
theorem take_succ_rd {b : List Int} {d : Nat} (h : d < b.length) : b.take (d + 1) = b.take d ++ [rd b (d : Int)] := by
  rw [List.take_succ_eq_append_getElem h, rd_nat h]
theorem take_l1 {b out l : List Int} {s len i : Int} {r : List Int × Int} (hb : ∀ x ∈ b, 0 ≤ x ∧ x < 256) (hs : s ≤ 8) (hsb : s ≤ (b.length : Int)) (d : Nat) : ∀ (x : Int) (m : Nat), (d : Int) + m = s → 0 ≤ x → x < 256 ^ m →
    Ev (fun k => (if unle (b.take d) + 256 ^ d * x > 4611686018427387904 then (some (([] : List Int), 11)) else (if out.length < 17592186044416 then (if 0 ≤ s then (if s ≤ (b.length : Int) then (pack_Take.l0 k (b.drop (s : Int).toNat) (out ++ [wrap64 (unle (b.take d) + 256 ^ d * x)]) l len (wrap64 (i + 1))) else (none)) else (none)) else (none)))) r →
    Ev (fun k => pack_Take.l1 k b out s x (wrap64 ((d : Int) - 1)) l len i) r := by
  induction d with
  | zero =>
    intro x m hm h0 h1 h
    rw [show wrap64 (((0 : Nat) : Int) - 1) = -1 from by rw [w64_id (by omega) (by omega)]; omega]
    refine Ev.step (fun k => pack_Take.l1.eq_2 ..) ?_
    refine Ev.neg (by omega) ?_
    simpa [unle] using h
  | succ d ih =>
    intro x m hm h0 h1 h
    rw [show wrap64 (((d + 1 : Nat) : Int) - 1) = (d : Int) from by rw [w64_id (by omega) (by omega)]; omega]
    refine Ev.step (fun k => pack_Take.l1.eq_2 ..) ?_
    refine Ev.pos (by omega) (Ev.pos (by omega) (Ev.pos (by omega) ?_))
    have hc := hb _ (rd_mem (l := b) (i := (d : Int)) (by omega) (by omega))
    have hx : x < 256 ^ 7 := Int.lt_of_lt_of_le h1 (pow7 (by omega))
    rw [or_byte h0 hx hc.1 hc.2]
    refine ih (rd b (d : Int) + 256 * x) (m + 1) (by omega) (by omega) (by rw [Int.pow_succ]; omega) ?_
    have e : unle (b.take (d + 1)) + 256 ^ (d + 1) * x = unle (b.take d) + 256 ^ d * (rd b (d : Int) + 256 * x) := by
      rw [take_succ_rd (by omega), unle_append, List.length_take, Nat.min_eq_left (by omega), Int.pow_succ]
      simp only [unle, Int.mul_add, Int.mul_assoc, Int.mul_zero, Int.add_zero, Int.add_assoc]
    rw [e] at h
    exact h
theorem take_l0 {l : List Int} (hok : okSizes l = true) (d : Nat) : ∀ (i : Nat) (b out : List Int), i + d = l.length → (∀ x ∈ b, 0 ≤ x ∧ x < 256) → (b.length : Int) = (l.drop i).sum → out.length ≤ i →
    Ev (fun k => pack_Take.l0 k b out l (l.length : Int) (i : Int)) (endTake out (takeGo (l.drop i) b)) := by
  have hk := okSizes_iff.1 hok
  induction d with
  | zero =>
    intro i b out hi hb hsum ho
    refine Ev.step (fun k => pack_Take.l0.eq_2 ..) ?_
    refine Ev.neg (by omega) (Ev.ret ?_)
    rw [List.drop_of_length_le (by omega)]
    simp [takeGo, endTake]
  | succ d ih =>
    intro i b out hi hb hsum ho
    refine Ev.step (fun k => pack_Take.l0.eq_2 ..) ?_
    refine Ev.pos (by omega) (Ev.pos (by omega) (Ev.pos (by omega) ?_))
    have hs := hk.2 _ (rd_mem (l := l) (i := (i : Int)) (by omega) (by omega))
    have hrest := sum_nonneg (l := l.drop (i + 1)) fun x hx => hk.2 x (List.mem_of_mem_drop hx)
    rw [drop_rd (l := l) (i := i) (by omega)] at hsum ⊢
    rw [List.sum_cons] at hsum
    generalize rd l (i : Int) = s at hs hsum ⊢
    have hd : wrap64 (s - 1) = wrap64 ((s.toNat : Int) - 1) := by rw [show (s.toNat : Int) = s by omega]
    rw [hd]
    refine take_l1 hb (by omega) (by omega) s.toNat 0 0 (by omega) (by omega) (by simp) ?_
    have hn := unle_nonneg (b.take s.toNat) fun x hx => hb x (List.mem_of_mem_take hx)
    rw [Int.mul_zero, Int.add_zero]
    refine Ev.ite (fun h => Ev.ret ?_) (fun h => ?_)
    · have h' : ¬ unle (b.take s.toNat) ≤ 4611686018427387904 := by omega
      simp [takeGo, h', endTake]
    · refine Ev.pos (by omega) (Ev.pos (by omega) (Ev.pos (by omega) ?_))
      rw [w64_succ (by omega), w64_id (by omega) (by omega)]
      refine Ev.eq (ih (i + 1) (b.drop s.toNat) (out ++ [unle (b.take s.toNat)]) (by omega) (fun x hx => hb x (List.mem_of_mem_drop hx)) (by rw [List.length_drop]; omega) (by simp; omega)) ?_
      have h' : unle (b.take s.toNat) ≤ 4611686018427387904 := by omega
      simp only [takeGo, h', if_true]
      cases takeGo (l.drop (i + 1)) (b.drop s.toNat) <;> simp [endTake]
theorem take_ev (l b : List Int) (hb : ∀ x ∈ b, 0 ≤ x ∧ x < 256) : Ev (fun k => pack_Take.f k l b) (pkTake l b) := by
  refine Ev.congr (fun k => by rw [pack_Take.f]) ?_
  refine Ev.bind (size_ev l) ?_
  refine Ev.ite (fun h => ?_) (fun h => ?_)
  · have hok : okSizes l = true := by
      cases e : okSizes l
      · simp [pkSize, e] at h
      · rfl
    have e1 : pkSize l = (l.sum, true) := by simp [pkSize, hok]
    rw [e1]
    simp only [pkTake, hok, if_true]
    refine Ev.ite (fun h1 => Ev.ret ?_) (fun h1 => Ev.ite (fun h2 => Ev.ret ?_) (fun h2 => ?_))
    · rw [if_pos h1]
    · rw [if_neg h1, if_pos h2]
    · rw [if_neg h1, if_neg h2]
      exact take_l0 hok l.length 0 b [] (by omega) hb (by simp; omega) (by simp)
  · have hok : okSizes l = false := by
      cases e : okSizes l
      · rfl
      · simp [pkSize, e] at h
    refine Ev.ret ?_
    simp [pkTake, hok]
end Go.Proofs.Ytpedkegfefnibaa.PurePackParts
namespace Go.Proofs.Ytpedkegfefnibaa.PurePackParts
open Go.RowKit Go.Proofs.Ytpedkegfefnibaa.QPackParts Go.Proofs.YtpedkegfefnibaaW.PrintWords Go.Proofs.YtpedkegfefnibaaW.PrintLast Go.Proofs.Ytpedkegfefnibaa.EvKit
theorem ints_l0 (a b : List Int) (hl : a.length = b.length) (hb : a.length < 1000000000) (d : Nat) : ∀ i : Nat, i + d = a.length →
    Ev (fun k => incunableref01_Ints.l0 k a b (i : Int)) (decide (a.drop i = b.drop i)) := by
  induction d with
  | zero =>
    intro i hi
    refine Ev.step (fun k => incunableref01_Ints.l0.eq_2 ..) ?_
    refine Ev.neg (by omega) (Ev.ret ?_)
    rw [List.drop_of_length_le (by omega), List.drop_of_length_le (by omega)]
    rfl
  | succ d ih =>
    intro i hi
    refine Ev.step (fun k => incunableref01_Ints.l0.eq_2 ..) ?_
    refine Ev.pos (by omega) (Ev.pos (by omega) (Ev.pos (by omega) ?_))
    rw [drop_rd (l := a) (i := i) (by omega), drop_rd (l := b) (i := i) (by omega)]
    refine Ev.ite (fun h => ?_) (fun h => Ev.ret ?_)
    · rw [w64_succ (by omega), h]
      refine Ev.eq (ih (i + 1) (by omega)) ?_
      simp
    · simp [h]
theorem ints_ev (a b : List Int) (hb : a.length < 1000000000) : Ev (fun k => incunableref01_Ints.f k a b) (decide (a = b)) := by
  refine Ev.congr (fun k => by rw [incunableref01_Ints.f]) ?_
  refine Ev.ite (fun h => ?_) (fun h => Ev.ret ?_)
  · exact ints_l0 a b (by omega) hb a.length 0 (by omega)
  · have : a ≠ b := fun e => h (by rw [e])
    simp [this]
end Go.Proofs.Ytpedkegfefnibaa.PurePackParts
namespace Go.Proofs.Ytpedkegfefnibaa.QPackParts
open Go.RowKit Go.Proofs.YtpedkegfefnibaaW.PrintWords Go.Proofs.YtpedkegfefnibaaW.PrintLast Go.Proofs.YtpedkegfefnibaaW.PrintMore Go.Proofs.Ytpedkegfefnibaa.Mono Go.Proofs.Ytpedkegfefnibaa.Read Go.Proofs.Ytpedkegfefnibaa.EvKit Go.Proofs.Ytpedkegfefnibaa.PackMath Go.Proofs.Ytpedkegfefnibaa.PurePackParts
set_option linter.unusedVariables false
set_option linter.unusedSimpArgs false
set_option maxHeartbeats 400000 in
theorem PackParts_long (k : Nat) (A0 : Option Addr) (c0 : Nat) (l0 : List Int) (A1 : Option Addr) (c1 : Nat) (l1 : List Int) (a2 : Int) (w : World) (hr0 : Kd.C (Kd.int .i64) w A0 l0.length l0) (hc0 : l0.length ≤ c0) (hr1 : Kd.C (Kd.int .i64) w A1 l1.length l1) (hc1 : l1.length ≤ c1) (haw : incunablelaw03_awake.f k = some true) (hlen : 60 < l0.length) : Calls Try.prog 14 #[.slice A0 l0.length c0, .slice A1 l1.length c1, .int .u8 a2] w fun e w' => e = .returned (.bool true) ∧ Below w.heap.size w w' := by
  have HR0 := Aside0.mk hr0
  have HL0 := Aside0.mk hc0
  have HR1 := Aside0.mk hr1
  have HL1 := Aside0.mk hc1
  have HAW := Aside0.mk haw
  clear hr0 hc0 hr1 hc1 haw
  have HB := Aside0.mk (Below.refl w.heap.size w)
  have d1_ : decide ((l0.length : Int) > 60) = true := decide_eq_true (by omega)
  clear hlen
  go_enter Try.func14, Try.ntmps14
  go_wp2_with (((with_reducible refine gate_callee (f := 31) rfl ?_); refine goesL_ (some 18) rfl rfl Try.func31 (by kernel_rfl) rfl #[] rfl (by (try simp only [List.map_toArray, List.map_cons, List.map_nil]); first | done | rfl) ?_; (with_reducible refine (incunablelaw03_awake.calls k true _ HAW.out).mono ?_); rintro e w1 ⟨rfl, hb⟩; refine ⟨_, rfl, ?_⟩; have n0_ := Aside0.mk (Kd.C_below (by (with_reducible repeat (first | apply Kd.C_alloc | apply Kd.C_drewN | apply Kd.C_drew)); exact HR0.out) hb); have n1_ := Aside0.mk (Kd.C_below (by (with_reducible repeat (first | apply Kd.C_alloc | apply Kd.C_drewN | apply Kd.C_drew)); exact HR1.out) hb); have nB_ := Aside0.mk (below_step (by repeat (first | (with_reducible first | exact HB.out | apply below_alloc | apply pw_below_drewN | apply below_drew1) | exact HB.out)) hb); clear HR0 HR1 HB hb; have HR0 := n0_; have HR1 := n1_; have HB := nB_; clear n0_ n1_ nB_))
  go_ret
  exact ⟨rfl, (by repeat (first | (with_reducible first | exact HB.out | apply below_alloc | apply pw_below_drewN | apply below_drew1) | exact HB.out))⟩
set_option maxHeartbeats 400000 in
theorem PackParts_ne (k : Nat) (A0 : Option Addr) (c0 : Nat) (l0 : List Int) (A1 : Option Addr) (c1 : Nat) (l1 : List Int) (a2 : Int) (w : World) (hr0 : Kd.C (Kd.int .i64) w A0 l0.length l0) (hc0 : l0.length ≤ c0) (hr1 : Kd.C (Kd.int .i64) w A1 l1.length l1) (hc1 : l1.length ≤ c1) (haw : incunablelaw03_awake.f k = some true) (hlen : l0.length ≤ 60) (hne : l0.length ≠ l1.length) : Calls Try.prog 14 #[.slice A0 l0.length c0, .slice A1 l1.length c1, .int .u8 a2] w fun e w' => e = .returned (.bool true) ∧ Below w.heap.size w w' := by
  have HR0 := Aside0.mk hr0
  have HL0 := Aside0.mk hc0
  have HR1 := Aside0.mk hr1
  have HL1 := Aside0.mk hc1
  have HAW := Aside0.mk haw
  clear hr0 hc0 hr1 hc1 haw
  have HB := Aside0.mk (Below.refl w.heap.size w)
  have d1_ : decide ((l0.length : Int) > 60) = false := decide_eq_false (by omega)
  have d2_ : ((l0.length : Int) != (l1.length : Int)) = true := by simp; omega
  clear hlen hne
  go_enter Try.func14, Try.ntmps14
  go_wp2_with (((with_reducible refine gate_callee (f := 31) rfl ?_); refine goesL_ (some 18) rfl rfl Try.func31 (by kernel_rfl) rfl #[] rfl (by (try simp only [List.map_toArray, List.map_cons, List.map_nil]); first | done | rfl) ?_; (with_reducible refine (incunablelaw03_awake.calls k true _ HAW.out).mono ?_); rintro e w1 ⟨rfl, hb⟩; refine ⟨_, rfl, ?_⟩; have n0_ := Aside0.mk (Kd.C_below (by (with_reducible repeat (first | apply Kd.C_alloc | apply Kd.C_drewN | apply Kd.C_drew)); exact HR0.out) hb); have n1_ := Aside0.mk (Kd.C_below (by (with_reducible repeat (first | apply Kd.C_alloc | apply Kd.C_drewN | apply Kd.C_drew)); exact HR1.out) hb); have nB_ := Aside0.mk (below_step (by repeat (first | (with_reducible first | exact HB.out | apply below_alloc | apply pw_below_drewN | apply below_drew1) | exact HB.out)) hb); clear HR0 HR1 HB hb; have HR0 := n0_; have HR1 := n1_; have HB := nB_; clear n0_ n1_ nB_))
  go_ret
  exact ⟨rfl, (by repeat (first | (with_reducible first | exact HB.out | apply below_alloc | apply pw_below_drewN | apply below_drew1) | exact HB.out))⟩
set_option maxRecDepth 100000 in
set_option maxHeartbeats 1600000 in
theorem PackParts_core (k : Nat) (A0 : Option Addr) (c0 : Nat) (l0 : List Int) (A1 : Option Addr) (c1 : Nat) (l1 : List Int) (a2 : Int) (q : Nat) (X X1 X2 : List Int) (e0 f0 g0 : Int) (w : World) (hr0 : Kd.C (Kd.int .i64) w A0 l0.length l0) (hc0 : l0.length ≤ c0) (hr1 : Kd.C (Kd.int .i64) w A1 l1.length l1) (hc1 : l1.length ≤ c1) (haw : incunablelaw03_awake.f k = some true) (hlen : l0.length ≤ 60) (hll : l0.length = l1.length) (ha2 : 0 ≤ a2 ∧ a2 ≤ 255) (hq : a2 % ((l0.length : Int) + 1) = (q : Int)) (hql : q ≤ l0.length)
    (hp : pack_Put.f k l0 l1 = some (X, e0)) (hp1 : pack_Put.f k (l0.take q) (l1.take q) = some (X1, f0)) (hp2 : pack_Put.f k (l0.drop q) (l1.drop q) = some (X2, g0)) (hbad : e0 ≠ 0 → f0 ≠ 0 ∨ g0 ≠ 0)
    (hgood : e0 = 0 → f0 = 0 ∧ g0 = 0 ∧ X1.length ≤ 10000 ∧ X2.length ≤ 10000 ∧ X1.length ≤ X.length ∧ incunableref01_Same.f k X (X1 ++ X2) = some true ∧ pack_Size.f k (l0.take q) = some ((X1.length : Int), true) ∧ pack_Take.f k (l0.drop q) (X.drop X1.length) = some (l1.drop q, 0) ∧ incunableref01_Ints.f k (l1.drop q) (l1.drop q) = some true) : Calls Try.prog 14 #[.slice A0 l0.length c0, .slice A1 l1.length c1, .int .u8 a2] w fun e w' => e = .returned (.bool true) ∧ Below w.heap.size w w' := by
  have HR0 := Aside0.mk hr0
  have HL0 := Aside0.mk hc0
  have HR1 := Aside0.mk hr1
  have HL1 := Aside0.mk hc1
  have HAW := Aside0.mk haw
  clear hr0 hc0 hr1 hc1 haw
  have HB := Aside0.mk (Below.refl w.heap.size w)
  obtain ⟨ii, hii, hz_, hsz, hb_⟩ := info_parts info3
  obtain ⟨S1, hS1, hT0, hT0c, hT0l⟩ := cutT (P := Try.prog) (k := .i64) 35 3 Try.underlying35 hii hsz A0 c0 l0 q hql HL0.out
  obtain ⟨N1, hN1, hT1, hT1c, hT1l⟩ := cutT (P := Try.prog) (k := .i64) 35 3 Try.underlying35 hii hsz A1 c1 l1 q (by omega) HL1.out
  obtain ⟨S2, Ad0, cd0, hS2, hD0, hD0c, hD0l⟩ := cutD (P := Try.prog) (k := .i64) 35 3 Try.underlying35 hii hsz A0 c0 l0 q hql HL0.out
  obtain ⟨N2, Ad1, cd1, hN2, hD1, hD1c, hD1l⟩ := cutD (P := Try.prog) (k := .i64) 35 3 Try.underlying35 hii hsz A1 c1 l1 q (by omega) HL1.out
  rw [← hS1, ← hN1] at hp1
  rw [← hS2, ← hN2] at hp2
  rw [← hS1, ← hS2, ← hN2] at hgood
  clear hS1 hN1 hS2 hN2 hz_ hb_ hii hsz
  have HT0 := Aside0.mk hT0
  have HT0c := Aside0.mk hT0c
  have HT0l := Aside0.mk hT0l
  have HT1 := Aside0.mk hT1
  have HT1c := Aside0.mk hT1c
  have HT1l := Aside0.mk hT1l
  have HD0 := Aside0.mk hD0
  have HD0c := Aside0.mk hD0c
  have HD0l := Aside0.mk hD0l
  have HD1 := Aside0.mk hD1
  have HD1c := Aside0.mk hD1c
  have HD1l := Aside0.mk hD1l
  have HP := Aside0.mk hp
  have HP1 := Aside0.mk hp1
  have HP2 := Aside0.mk hp2
  have HBAD := Aside0.mk hbad
  have HGOOD := Aside0.mk hgood
  clear hT0 hT0c hT0l hT1 hT1c hT1l hD0 hD0c hD0l hD1 hD1c hD1l hp hp1 hp2 hbad hgood
  have d1_ : decide ((l0.length : Int) > 60) = false := decide_eq_false (by omega)
  have d2_ : ((l0.length : Int) != (l1.length : Int)) = false := by rw [hll]; simp
  have b1_ : (l0.length : Int) ≤ 60 := by omega
  have b2_ : 0 ≤ a2 := ha2.1
  have b3_ : a2 ≤ 255 := ha2.2
  clear hlen hll ha2 hql
  have HQ := Aside0.mk hq
  clear hq
  go_enter Try.func14, Try.ntmps14
  go_upto_region 6 with (((with_reducible refine gate_callee (f := 31) rfl ?_); refine goesL_ (some 18) rfl rfl Try.func31 (by kernel_rfl) rfl #[] rfl (by (try simp only [List.map_toArray, List.map_cons, List.map_nil]); first | done | rfl) ?_; (with_reducible refine (incunablelaw03_awake.calls k true _ HAW.out).mono ?_); rintro e w1 ⟨rfl, hb⟩; refine ⟨_, rfl, ?_⟩; have n0_ := Aside0.mk (Kd.C_below (by (with_reducible repeat (first | apply Kd.C_alloc | apply Kd.C_drewN | apply Kd.C_drew)); exact HR0.out) hb); have n1_ := Aside0.mk (Kd.C_below (by (with_reducible repeat (first | apply Kd.C_alloc | apply Kd.C_drewN | apply Kd.C_drew)); exact HR1.out) hb); have nB_ := Aside0.mk (below_step (by repeat (first | (with_reducible first | exact HB.out | apply below_alloc | apply pw_below_drewN | apply below_drew1) | exact HB.out)) hb); clear HR0 HR1 HB hb; have HR0 := n0_; have HR1 := n1_; have HB := nB_; clear n0_ n1_ nB_))
  (try simp only [Act.put, List.setIfInBounds_toArray, List.set_cons_zero, List.set_cons_succ])
  simp only [HQ.out]
  clear b1_ b2_ b3_
  go_wp2_with (((with_reducible refine gate_callee (f := 32) rfl ?_); refine goesL_ (some 39) rfl rfl Try.func32 (by kernel_rfl) rfl #[.slice A0 l0.length c0, .slice A1 l1.length c1] rfl (by (try simp only [List.map_toArray, List.map_cons, List.map_nil]); first | done | rfl) ?_; (with_reducible refine (pack_Put.calls k _ _ l0 _ _ l1 X e0 _ (by (with_reducible repeat (first | apply Kd.C_alloc | apply Kd.C_drewN | apply Kd.C_drew)); exact HR0.out) HL0.out (by (with_reducible repeat (first | apply Kd.C_alloc | apply Kd.C_drewN | apply Kd.C_drew)); exact HR1.out) HL1.out HP.out).mono ?_); rintro e w2 ⟨v_, rfl, hR_, hb⟩; obtain ⟨Ax, cx, rfl, hl_, hC_⟩ := Kd.R_reads hR_; clear hR_; refine ⟨_, rfl, ?_⟩; have n0_ := Aside0.mk (Kd.C_below (by (with_reducible repeat (first | apply Kd.C_alloc | apply Kd.C_drewN | apply Kd.C_drew)); exact HR0.out) hb); have n1_ := Aside0.mk (Kd.C_below (by (with_reducible repeat (first | apply Kd.C_alloc | apply Kd.C_drewN | apply Kd.C_drew)); exact HR1.out) hb); have nB_ := Aside0.mk (below_step (by repeat (first | (with_reducible first | exact HB.out | apply below_alloc | apply pw_below_drewN | apply below_drew1) | exact HB.out)) hb); clear HR0 HR1 HB hb; have HR0 := n0_; have HR1 := n1_; have HB := nB_; clear n0_ n1_ nB_; have HCX := Aside0.mk hC_; have HLX := Aside0.mk hl_; clear hC_ hl_))
  refine mono_region (fun i => ([(Is (.slice A0 l0.length c0)), (Is (.int .i64 (q : Int))), (Is (.slice A0 S1.length c0)), (Is (.slice A1 l1.length c1)), (Is (.int .i64 (q : Int))), (Is (.slice A1 N1.length c1)), (RowF (Kd.int .u8) X1 (fun s_ => .tuple #[s_, .int .i64 f0])), (RowF (Kd.int .u8) X1 (fun s_ => .tuple #[s_, .int .i64 f0])), (RowF (Kd.int .u8) X1 (fun s_ => s_)), (Is (.int .i64 f0)), (RowF (Kd.int .u8) X1 (fun s_ => s_)), (Is (.int .i64 f0))] : List (Value → World → Prop)).getD i (fun _ _ => True)) 12 [43, 44, 45, 46, 47, 48, 49, 42, 50, 51, 10, 11] (by kernel_rfl) rfl (by kernel_rfl) (by kernel_rfl) ?_ ?_ ?_
  · intro i
    match i with
    | 0 => exact stable_is _
    | 1 => exact stable_is _
    | 2 => exact stable_is _
    | 3 => exact stable_is _
    | 4 => exact stable_is _
    | 5 => exact stable_is _
    | 6 => exact stable_rowF (Kd.int .u8) X1 (fun s_ => .tuple #[s_, .int .i64 f0])
    | 7 => exact stable_rowF (Kd.int .u8) X1 (fun s_ => .tuple #[s_, .int .i64 f0])
    | 8 => exact stable_rowF (Kd.int .u8) X1 (fun s_ => s_)
    | 9 => exact stable_is _
    | 10 => exact stable_rowF (Kd.int .u8) X1 (fun s_ => s_)
    | 11 => exact stable_is _
    | _ + 12 => exact fun _ _ _ _ _ => trivial
  · show ∀ i ∈ [0, 1, 2, 3, 4, 5, 6, 7, 8, 9, 10, 11], _
    refine msteps_cons ?_ ?_
    · intro a w' hx hfr hk
      have e0 : a.tmps[0]? = some (.slice A0 l0.length c0) := (hfr.off 0 rfl).trans rfl
      clear hk hfr
      refine ⟨_, rfl, fun K hK => ?_⟩
      refine value_ (w1 := w') (v := .slice A0 l0.length c0) (by rfl) rfl ?_ (hK _ _ (show _ = _ from rfl) (Ext.refl _))
      go_simp
      (try simp only [i64_w])
      try rfl
    refine msteps_cons ?_ ?_
    · intro a w' hx hfr hk
      have e7 : a.tmps[7]? = some (.int .i64 (q : Int)) := (hfr.off 7 rfl).trans rfl
      clear hk hfr
      refine ⟨_, rfl, fun K hK => ?_⟩
      refine value_ (w1 := w') (v := .int .i64 (q : Int)) (by rfl) rfl ?_ (hK _ _ (show _ = _ from rfl) (Ext.refl _))
      go_simp
      (try simp only [i64_w])
      try rfl
    refine msteps_cons ?_ ?_
    · intro a w' hx hfr hk
      obtain ⟨v_, e43, h_⟩ := hk 0 43 (by kernel_rfl) rfl
      replace h_ : v_ = .slice A0 l0.length c0 := h_
      subst h_
      obtain ⟨v_, e44, h_⟩ := hk 1 44 (by kernel_rfl) rfl
      replace h_ : v_ = .int .i64 (q : Int) := h_
      subst h_
      clear hk hfr
      refine ⟨_, rfl, fun K hK => ?_⟩
      have hrun := HT0.out
      refine value_ (w1 := w') (v := .slice A0 S1.length c0) (by rfl) rfl ?_ (hK _ _ (show _ = _ from rfl) (Ext.refl _))
      go_simp
      (try simp only [i64_w])
      try rfl
    refine msteps_cons ?_ ?_
    · intro a w' hx hfr hk
      have e1 : a.tmps[1]? = some (.slice A1 l1.length c1) := (hfr.off 1 rfl).trans rfl
      clear hk hfr
      refine ⟨_, rfl, fun K hK => ?_⟩
      refine value_ (w1 := w') (v := .slice A1 l1.length c1) (by rfl) rfl ?_ (hK _ _ (show _ = _ from rfl) (Ext.refl _))
      go_simp
      (try simp only [i64_w])
      try rfl
    refine msteps_cons ?_ ?_
    · intro a w' hx hfr hk
      have e7 : a.tmps[7]? = some (.int .i64 (q : Int)) := (hfr.off 7 rfl).trans rfl
      clear hk hfr
      refine ⟨_, rfl, fun K hK => ?_⟩
      refine value_ (w1 := w') (v := .int .i64 (q : Int)) (by rfl) rfl ?_ (hK _ _ (show _ = _ from rfl) (Ext.refl _))
      go_simp
      (try simp only [i64_w])
      try rfl
    refine msteps_cons ?_ ?_
    · intro a w' hx hfr hk
      obtain ⟨v_, e46, h_⟩ := hk 3 46 (by kernel_rfl) rfl
      replace h_ : v_ = .slice A1 l1.length c1 := h_
      subst h_
      obtain ⟨v_, e47, h_⟩ := hk 4 47 (by kernel_rfl) rfl
      replace h_ : v_ = .int .i64 (q : Int) := h_
      subst h_
      clear hk hfr
      refine ⟨_, rfl, fun K hK => ?_⟩
      have hrun := HT1.out
      refine value_ (w1 := w') (v := .slice A1 N1.length c1) (by rfl) rfl ?_ (hK _ _ (show _ = _ from rfl) (Ext.refl _))
      go_simp
      (try simp only [i64_w])
      try rfl
    refine msteps_cons ?_ ?_
    · intro a w' hx hfr hk
      obtain ⟨v_, e45, h_⟩ := hk 2 45 (by kernel_rfl) rfl
      replace h_ : v_ = .slice A0 S1.length c0 := h_
      subst h_
      obtain ⟨v_, e48, h_⟩ := hk 5 48 (by kernel_rfl) rfl
      replace h_ : v_ = .slice A1 N1.length c1 := h_
      subst h_
      clear hk hfr
      refine ⟨_, rfl, fun K hK => ?_⟩
      refine goes_ Try.func32 (by kernel_rfl) rfl #[.slice A0 S1.length c0, .slice A1 N1.length c1] (by rfl) rfl rfl (by simp only [List.map_toArray, List.map_cons, List.map_nil, Act.eval, Array.getD_eq_getD_getElem?, Option.getD_some, e45, e48]; first | done | rfl) ?_
      (with_reducible refine (pack_Put.calls k _ _ S1 _ _ N1 X1 f0 _ (HT0c.out _ (c_ext HR0.out hx)) HT0l.out (HT1c.out _ (c_ext HR1.out hx)) HT1l.out HP1.out).mono ?_)
      rintro e w1 ⟨v_, rfl, hR_, hb_⟩
      obtain ⟨A_, c_, rfl, hl_, hC_⟩ := Kd.R_reads hR_
      exact ⟨_, rfl, hK _ _ ⟨A_, c_, rfl, hl_, hC_⟩ hb_⟩
    refine msteps_cons ?_ ?_
    · intro a w' hx hfr hk
      obtain ⟨v_, e49, A49, c49, rfl, hc49, hC49⟩ := hk 6 49 (by kernel_rfl) rfl
      have HCr49 := Aside0.mk hC49
      have HLr49 := Aside0.mk hc49
      clear hC49 hc49
      clear hk hfr
      refine ⟨_, rfl, fun K hK => ?_⟩
      refine value_ (w1 := w') (v := .tuple #[.slice A49 X1.length c49, .int .i64 f0]) (by rfl) rfl ?_ (hK _ _ ⟨A49, c49, rfl, HLr49.out, HCr49.out⟩ (Ext.refl _))
      go_simp
      (try simp only [i64_w])
      try rfl
    refine msteps_cons ?_ ?_
    · intro a w' hx hfr hk
      obtain ⟨v_, e42, A42, c42, rfl, hc42, hC42⟩ := hk 7 42 (by kernel_rfl) rfl
      have HCr42 := Aside0.mk hC42
      have HLr42 := Aside0.mk hc42
      clear hC42 hc42
      clear hk hfr
      refine ⟨_, rfl, fun K hK => ?_⟩
      refine value_ (w1 := w') (v := .slice A42 X1.length c42) (by rfl) rfl ?_ (hK _ _ ⟨A42, c42, rfl, HLr42.out, HCr42.out⟩ (Ext.refl _))
      go_simp
      (try simp only [i64_w])
      try rfl
    refine msteps_cons ?_ ?_
    · intro a w' hx hfr hk
      obtain ⟨v_, e42, A42, c42, rfl, hc42, hC42⟩ := hk 7 42 (by kernel_rfl) rfl
      have HCr42 := Aside0.mk hC42
      have HLr42 := Aside0.mk hc42
      clear hC42 hc42
      clear hk hfr
      refine ⟨_, rfl, fun K hK => ?_⟩
      refine value_ (w1 := w') (v := .int .i64 f0) (by rfl) rfl ?_ (hK _ _ (show _ = _ from rfl) (Ext.refl _))
      go_simp
      (try simp only [i64_w])
      try rfl
    refine msteps_cons ?_ ?_
    · intro a w' hx hfr hk
      obtain ⟨v_, e50, A50, c50, rfl, hc50, hC50⟩ := hk 8 50 (by kernel_rfl) rfl
      have HCr50 := Aside0.mk hC50
      have HLr50 := Aside0.mk hc50
      clear hC50 hc50
      clear hk hfr
      refine ⟨_, rfl, fun K hK => ?_⟩
      refine value_ (w1 := w') (v := .slice A50 X1.length c50) (by rfl) rfl ?_ (hK _ _ ⟨A50, c50, rfl, HLr50.out, HCr50.out⟩ (Ext.refl _))
      go_simp
      (try simp only [i64_w])
      try rfl
    refine msteps_cons ?_ ?_
    · intro a w' hx hfr hk
      obtain ⟨v_, e51, h_⟩ := hk 9 51 (by kernel_rfl) rfl
      replace h_ : v_ = .int .i64 f0 := h_
      subst h_
      clear hk hfr
      refine ⟨_, rfl, fun K hK => ?_⟩
      refine value_ (w1 := w') (v := .int .i64 f0) (by rfl) rfl ?_ (hK _ _ (show _ = _ from rfl) (Ext.refl _))
      go_simp
      (try simp only [i64_w])
      try rfl
    exact msteps_nil
  · intro val w3 hx hF
    have e43 : val 43 = .slice A0 l0.length c0 := hF 0 43 rfl
    have e44 : val 44 = .int .i64 (q : Int) := hF 1 44 rfl
    have e45 : val 45 = .slice A0 S1.length c0 := hF 2 45 rfl
    have e46 : val 46 = .slice A1 l1.length c1 := hF 3 46 rfl
    have e47 : val 47 = .int .i64 (q : Int) := hF 4 47 rfl
    have e48 : val 48 = .slice A1 N1.length c1 := hF 5 48 rfl
    obtain ⟨A49, c49, e49, hc49, hC49⟩ := hF 6 49 rfl
    have HL49 := Aside0.mk hc49
    have HC49 := Aside0.mk hC49
    clear hc49 hC49
    obtain ⟨A42, c42, e42, hc42, hC42⟩ := hF 7 42 rfl
    have HL42 := Aside0.mk hc42
    have HC42 := Aside0.mk hC42
    clear hc42 hC42
    obtain ⟨A50, c50, e50, hc50, hC50⟩ := hF 8 50 rfl
    have HL50 := Aside0.mk hc50
    have HC50 := Aside0.mk hC50
    clear hc50 hC50
    have e51 : val 51 = .int .i64 f0 := hF 9 51 rfl
    obtain ⟨A10, c10, e10, hc10, hC10⟩ := hF 10 10 rfl
    have HL10 := Aside0.mk hc10
    have HC10 := Aside0.mk hC10
    clear hc10 hC10
    have e11 : val 11 = .int .i64 f0 := hF 11 11 rfl
    clear hF
    simp only [putT, List.foldl_cons, List.foldl_nil, Act.put, List.setIfInBounds_toArray, List.set_cons_zero, List.set_cons_succ, e43, e44, e45, e46, e47, e48, e49, e42, e50, e51, e10, e11]
    clear e43 e44 e45 e46 e47 e48 e49 e42 e50 e51 e10 e11
    have n0_ := Aside0.mk (c_ext HR0.out hx)
    have n1_ := Aside0.mk (c_ext HR1.out hx)
    have n2_ := Aside0.mk (c_ext HCX.out hx)
    have nB_ := Aside0.mk (below_step HB.out (Ext.below hx))
    clear HR0 HR1 HCX HB hx
    have HR0 := n0_
    have HR1 := n1_
    have HCX := n2_
    have HB := nB_
    clear n0_ n1_ n2_ nB_
    clear HC42 HL42 HC49 HL49 HC50 HL50
    go_wp2
    refine mono_region (fun i => ([(Is (.slice A0 l0.length c0)), (Is (.int .i64 (q : Int))), (Is (.slice Ad0 S2.length cd0)), (Is (.slice A1 l1.length c1)), (Is (.int .i64 (q : Int))), (Is (.slice Ad1 N2.length cd1)), (RowF (Kd.int .u8) X2 (fun s_ => .tuple #[s_, .int .i64 g0])), (RowF (Kd.int .u8) X2 (fun s_ => .tuple #[s_, .int .i64 g0])), (RowF (Kd.int .u8) X2 (fun s_ => s_)), (Is (.int .i64 g0)), (RowF (Kd.int .u8) X2 (fun s_ => s_)), (Is (.int .i64 g0))] : List (Value → World → Prop)).getD i (fun _ _ => True)) 12 [53, 54, 55, 56, 57, 58, 59, 52, 60, 61, 12, 13] (by kernel_rfl) rfl (by kernel_rfl) (by kernel_rfl) ?_ ?_ ?_
    · intro i
      match i with
      | 0 => exact stable_is _
      | 1 => exact stable_is _
      | 2 => exact stable_is _
      | 3 => exact stable_is _
      | 4 => exact stable_is _
      | 5 => exact stable_is _
      | 6 => exact stable_rowF (Kd.int .u8) X2 (fun s_ => .tuple #[s_, .int .i64 g0])
      | 7 => exact stable_rowF (Kd.int .u8) X2 (fun s_ => .tuple #[s_, .int .i64 g0])
      | 8 => exact stable_rowF (Kd.int .u8) X2 (fun s_ => s_)
      | 9 => exact stable_is _
      | 10 => exact stable_rowF (Kd.int .u8) X2 (fun s_ => s_)
      | 11 => exact stable_is _
      | _ + 12 => exact fun _ _ _ _ _ => trivial
    · show ∀ i ∈ [0, 1, 2, 3, 4, 5, 6, 7, 8, 9, 10, 11], _
      refine msteps_cons ?_ ?_
      · intro a w' hx hfr hk
        have e0 : a.tmps[0]? = some (.slice A0 l0.length c0) := (hfr.off 0 rfl).trans rfl
        clear hk hfr
        refine ⟨_, rfl, fun K hK => ?_⟩
        refine value_ (w1 := w') (v := .slice A0 l0.length c0) (by rfl) rfl ?_ (hK _ _ (show _ = _ from rfl) (Ext.refl _))
        go_simp
        (try simp only [i64_w])
        try rfl
      refine msteps_cons ?_ ?_
      · intro a w' hx hfr hk
        have e7 : a.tmps[7]? = some (.int .i64 (q : Int)) := (hfr.off 7 rfl).trans rfl
        clear hk hfr
        refine ⟨_, rfl, fun K hK => ?_⟩
        refine value_ (w1 := w') (v := .int .i64 (q : Int)) (by rfl) rfl ?_ (hK _ _ (show _ = _ from rfl) (Ext.refl _))
        go_simp
        (try simp only [i64_w])
        try rfl
      refine msteps_cons ?_ ?_
      · intro a w' hx hfr hk
        obtain ⟨v_, e53, h_⟩ := hk 0 53 (by kernel_rfl) rfl
        replace h_ : v_ = .slice A0 l0.length c0 := h_
        subst h_
        obtain ⟨v_, e54, h_⟩ := hk 1 54 (by kernel_rfl) rfl
        replace h_ : v_ = .int .i64 (q : Int) := h_
        subst h_
        clear hk hfr
        refine ⟨_, rfl, fun K hK => ?_⟩
        have hrun := HD0.out
        refine value_ (w1 := w') (v := .slice Ad0 S2.length cd0) (by rfl) rfl ?_ (hK _ _ (show _ = _ from rfl) (Ext.refl _))
        go_simp
        (try simp only [i64_w])
        try rfl
      refine msteps_cons ?_ ?_
      · intro a w' hx hfr hk
        have e1 : a.tmps[1]? = some (.slice A1 l1.length c1) := (hfr.off 1 rfl).trans rfl
        clear hk hfr
        refine ⟨_, rfl, fun K hK => ?_⟩
        refine value_ (w1 := w') (v := .slice A1 l1.length c1) (by rfl) rfl ?_ (hK _ _ (show _ = _ from rfl) (Ext.refl _))
        go_simp
        (try simp only [i64_w])
        try rfl
      refine msteps_cons ?_ ?_
      · intro a w' hx hfr hk
        have e7 : a.tmps[7]? = some (.int .i64 (q : Int)) := (hfr.off 7 rfl).trans rfl
        clear hk hfr
        refine ⟨_, rfl, fun K hK => ?_⟩
        refine value_ (w1 := w') (v := .int .i64 (q : Int)) (by rfl) rfl ?_ (hK _ _ (show _ = _ from rfl) (Ext.refl _))
        go_simp
        (try simp only [i64_w])
        try rfl
      refine msteps_cons ?_ ?_
      · intro a w' hx hfr hk
        obtain ⟨v_, e56, h_⟩ := hk 3 56 (by kernel_rfl) rfl
        replace h_ : v_ = .slice A1 l1.length c1 := h_
        subst h_
        obtain ⟨v_, e57, h_⟩ := hk 4 57 (by kernel_rfl) rfl
        replace h_ : v_ = .int .i64 (q : Int) := h_
        subst h_
        clear hk hfr
        refine ⟨_, rfl, fun K hK => ?_⟩
        have hrun := HD1.out
        refine value_ (w1 := w') (v := .slice Ad1 N2.length cd1) (by rfl) rfl ?_ (hK _ _ (show _ = _ from rfl) (Ext.refl _))
        go_simp
        (try simp only [i64_w])
        try rfl
      refine msteps_cons ?_ ?_
      · intro a w' hx hfr hk
        obtain ⟨v_, e55, h_⟩ := hk 2 55 (by kernel_rfl) rfl
        replace h_ : v_ = .slice Ad0 S2.length cd0 := h_
        subst h_
        obtain ⟨v_, e58, h_⟩ := hk 5 58 (by kernel_rfl) rfl
        replace h_ : v_ = .slice Ad1 N2.length cd1 := h_
        subst h_
        clear hk hfr
        refine ⟨_, rfl, fun K hK => ?_⟩
        refine goes_ Try.func32 (by kernel_rfl) rfl #[.slice Ad0 S2.length cd0, .slice Ad1 N2.length cd1] (by rfl) rfl rfl (by simp only [List.map_toArray, List.map_cons, List.map_nil, Act.eval, Array.getD_eq_getD_getElem?, Option.getD_some, e55, e58]; first | done | rfl) ?_
        (with_reducible refine (pack_Put.calls k _ _ S2 _ _ N2 X2 g0 _ (HD0c.out _ (c_ext HR0.out hx)) HD0l.out (HD1c.out _ (c_ext HR1.out hx)) HD1l.out HP2.out).mono ?_)
        rintro e w1 ⟨v_, rfl, hR_, hb_⟩
        obtain ⟨A_, c_, rfl, hl_, hC_⟩ := Kd.R_reads hR_
        exact ⟨_, rfl, hK _ _ ⟨A_, c_, rfl, hl_, hC_⟩ hb_⟩
      refine msteps_cons ?_ ?_
      · intro a w' hx hfr hk
        obtain ⟨v_, e59, A59, c59, rfl, hc59, hC59⟩ := hk 6 59 (by kernel_rfl) rfl
        have HCr59 := Aside0.mk hC59
        have HLr59 := Aside0.mk hc59
        clear hC59 hc59
        clear hk hfr
        refine ⟨_, rfl, fun K hK => ?_⟩
        refine value_ (w1 := w') (v := .tuple #[.slice A59 X2.length c59, .int .i64 g0]) (by rfl) rfl ?_ (hK _ _ ⟨A59, c59, rfl, HLr59.out, HCr59.out⟩ (Ext.refl _))
        go_simp
        (try simp only [i64_w])
        try rfl
      refine msteps_cons ?_ ?_
      · intro a w' hx hfr hk
        obtain ⟨v_, e52, A52, c52, rfl, hc52, hC52⟩ := hk 7 52 (by kernel_rfl) rfl
        have HCr52 := Aside0.mk hC52
        have HLr52 := Aside0.mk hc52
        clear hC52 hc52
        clear hk hfr
        refine ⟨_, rfl, fun K hK => ?_⟩
        refine value_ (w1 := w') (v := .slice A52 X2.length c52) (by rfl) rfl ?_ (hK _ _ ⟨A52, c52, rfl, HLr52.out, HCr52.out⟩ (Ext.refl _))
        go_simp
        (try simp only [i64_w])
        try rfl
      refine msteps_cons ?_ ?_
      · intro a w' hx hfr hk
        obtain ⟨v_, e52, A52, c52, rfl, hc52, hC52⟩ := hk 7 52 (by kernel_rfl) rfl
        have HCr52 := Aside0.mk hC52
        have HLr52 := Aside0.mk hc52
        clear hC52 hc52
        clear hk hfr
        refine ⟨_, rfl, fun K hK => ?_⟩
        refine value_ (w1 := w') (v := .int .i64 g0) (by rfl) rfl ?_ (hK _ _ (show _ = _ from rfl) (Ext.refl _))
        go_simp
        (try simp only [i64_w])
        try rfl
      refine msteps_cons ?_ ?_
      · intro a w' hx hfr hk
        obtain ⟨v_, e60, A60, c60, rfl, hc60, hC60⟩ := hk 8 60 (by kernel_rfl) rfl
        have HCr60 := Aside0.mk hC60
        have HLr60 := Aside0.mk hc60
        clear hC60 hc60
        clear hk hfr
        refine ⟨_, rfl, fun K hK => ?_⟩
        refine value_ (w1 := w') (v := .slice A60 X2.length c60) (by rfl) rfl ?_ (hK _ _ ⟨A60, c60, rfl, HLr60.out, HCr60.out⟩ (Ext.refl _))
        go_simp
        (try simp only [i64_w])
        try rfl
      refine msteps_cons ?_ ?_
      · intro a w' hx hfr hk
        obtain ⟨v_, e61, h_⟩ := hk 9 61 (by kernel_rfl) rfl
        replace h_ : v_ = .int .i64 g0 := h_
        subst h_
        clear hk hfr
        refine ⟨_, rfl, fun K hK => ?_⟩
        refine value_ (w1 := w') (v := .int .i64 g0) (by rfl) rfl ?_ (hK _ _ (show _ = _ from rfl) (Ext.refl _))
        go_simp
        (try simp only [i64_w])
        try rfl
      exact msteps_nil
    · intro val w4 hx hF
      have e53 : val 53 = .slice A0 l0.length c0 := hF 0 53 rfl
      have e54 : val 54 = .int .i64 (q : Int) := hF 1 54 rfl
      have e55 : val 55 = .slice Ad0 S2.length cd0 := hF 2 55 rfl
      have e56 : val 56 = .slice A1 l1.length c1 := hF 3 56 rfl
      have e57 : val 57 = .int .i64 (q : Int) := hF 4 57 rfl
      have e58 : val 58 = .slice Ad1 N2.length cd1 := hF 5 58 rfl
      obtain ⟨A59, c59, e59, hc59, hC59⟩ := hF 6 59 rfl
      have HL59 := Aside0.mk hc59
      have HC59 := Aside0.mk hC59
      clear hc59 hC59
      obtain ⟨A52, c52, e52, hc52, hC52⟩ := hF 7 52 rfl
      have HL52 := Aside0.mk hc52
      have HC52 := Aside0.mk hC52
      clear hc52 hC52
      obtain ⟨A60, c60, e60, hc60, hC60⟩ := hF 8 60 rfl
      have HL60 := Aside0.mk hc60
      have HC60 := Aside0.mk hC60
      clear hc60 hC60
      have e61 : val 61 = .int .i64 g0 := hF 9 61 rfl
      obtain ⟨A12, c12, e12, hc12, hC12⟩ := hF 10 12 rfl
      have HL12 := Aside0.mk hc12
      have HC12 := Aside0.mk hC12
      clear hc12 hC12
      have e13 : val 13 = .int .i64 g0 := hF 11 13 rfl
      clear hF
      simp only [putT, List.foldl_cons, List.foldl_nil, Act.put, List.setIfInBounds_toArray, List.set_cons_zero, List.set_cons_succ, e53, e54, e55, e56, e57, e58, e59, e52, e60, e61, e12, e13]
      clear e53 e54 e55 e56 e57 e58 e59 e52 e60 e61 e12 e13
      have n0_ := Aside0.mk (c_ext HR0.out hx)
      have n1_ := Aside0.mk (c_ext HR1.out hx)
      have n2_ := Aside0.mk (c_ext HCX.out hx)
      have n3_ := Aside0.mk (c_ext HC10.out hx)
      have nB_ := Aside0.mk (below_step HB.out (Ext.below hx))
      clear HR0 HR1 HCX HC10 HB hx
      have HR0 := n0_
      have HR1 := n1_
      have HCX := n2_
      have HC10 := n3_
      have HB := nB_
      clear n0_ n1_ n2_ n3_ nB_
      clear HC52 HL52 HC59 HL59 HC60 HL60
      by_cases he : e0 = 0
      · subst he
        obtain ⟨rfl, rfl, hx1, hx2, hx12, hS, hSZ, hTK, hI⟩ := HGOOD.out rfl
        have HX1n := Aside0.mk hx1
        have HX2n := Aside0.mk hx2
        have HS := Aside0.mk hS
        have HSZ := Aside0.mk hSZ
        obtain ⟨ii, hii, hz_, hsz, hb_⟩ := info_parts info5
        obtain ⟨Z, AX2, cX2, hZ, hX2, hX2c, hX2l⟩ := cutD (P := Try.prog) (k := .u8) 22 5 Try.underlying22 hii hsz Ax cx X X1.length hx12 HLX.out
        rw [← hZ] at hTK
        have HTK := Aside0.mk hTK
        have HI := Aside0.mk hI
        have HX2 := Aside0.mk hX2
        have HX2c := Aside0.mk hX2c
        have HX2l := Aside0.mk hX2l
        have HMIN : Aside0 ((X.length < X1.length) = False) := ⟨eq_false (by omega)⟩
        clear hx1 hx2 hx12 hS hSZ hTK hI hX2 hX2c hX2l hZ hii hz_ hsz hb_ HGOOD HBAD
        have hcut0 := HT0.out
        have hcut1 := HD1.out
        go_wp2_with (first | ((with_reducible refine gate_dst (N := 78) rfl ?_); (refine gate_guard (by rfl) ?_; dsimp only); refine Kd.R_lit (Kd.int .u8) w4.heap.size 5 ?hg (N := 78) ?hd (xs := ([] : List Int)) (inner := []) (ok := fun _ => True) (okp := fun _ => True) ?hr ?hp (fun _ hk => hk) trivial (Below.refl _ _) (Nat.le_refl _) (by simp) ?_; (case hd => rfl); (case hg => rfl); (case hr => first | (go_simp; done) | (go_simp; rfl)); (case hp => exact (Reps.none _ _)); intro v1 w5 ho_ hb_ hg_ hnew_; clear hg_ hnew_; have HO1 := Aside0.mk ho_; have HK_w5 := Aside0.mk hb_; clear ho_ hb_) | ((with_reducible refine gate_dst (N := 80) rfl ?_); (refine gate_guard (by rfl) ?_; dsimp only); at_builtin; refine Kd.R_append_rows (Kd.int .u8) (w0 := w4) w4.heap.size rfl (.tmp 78) (.tmp 79) 22 5 (.int .u8 0) 1 rfl Try.underlying22 info5 rfl (by decide) (by omega) v1 [] X1 _ _ _ (fun _ => True) (fun _ => False) rfl rfl ?aO ?aR (fun _ _ h => h) (fun _ h => h.elim) (fun _ _ => trivial) ?aB ?aS ?aL ?_; (case aO => exact HO1.out); (case aR => exact Kd.C_below HC10.out HK_w5.out); (case aB => exact HK_w5.out); (case aS => exact below_size HK_w5.out); (case aL => have := HX1n.out; simp; omega); intro v2 w6 ho_ hb_ hg_ hat_; clear hg_ hat_; (try rw [List.nil_append] at ho_); have HO2 := Aside0.mk ho_; have HK_w6 := Aside0.mk hb_; clear ho_ hb_) | ((with_reducible refine gate_dst (N := 82) rfl ?_); (refine gate_guard (by rfl) ?_; dsimp only); at_builtin; refine Kd.R_append_rows (Kd.int .u8) (w0 := w4) w4.heap.size rfl (.tmp 80) (.tmp 81) 22 5 (.int .u8 0) 1 rfl Try.underlying22 info5 rfl (by decide) (by omega) v2 X1 X2 _ _ _ (fun _ => True) (fun _ => False) rfl rfl ?aO ?aR (fun _ _ h => h) (fun _ h => h.elim) (fun _ _ => trivial) ?aB ?aS ?aL ?_; (case aO => exact HO2.out); (case aR => exact Kd.C_below HC12.out HK_w6.out); (case aB => exact HK_w6.out); (case aS => exact below_size HK_w6.out); (case aL => have := HX1n.out; have := HX2n.out; simp; omega); intro v3 w7 ho_ hb_ hg_ hat_; clear hg_ hat_; have HO3 := Aside0.mk ho_; have HK_w7 := Aside0.mk hb_; clear ho_ hb_) | ((with_reducible refine gate_callee (f := 18) rfl ?_); (refine gate_guard (by rfl) ?_; dsimp only); obtain ⟨A3, c3, rfl, hl_, hC_⟩ := Kd.R_reads HO3.out; refine goesL_ (some 83) rfl rfl Try.func18 (by kernel_rfl) rfl #[.slice Ax X.length cx, .slice A3 (X1 ++ X2).length c3] rfl (by (try simp only [List.map_toArray, List.map_cons, List.map_nil]); first | done | rfl) ?_; (with_reducible refine (incunableref01_Same.calls k _ _ X _ _ (X1 ++ X2) true _ (Kd.C_below HCX.out HK_w7.out) HLX.out hC_ hl_ HS.out).mono ?_); rintro e w' ⟨rfl, ⟨nd, rfl⟩⟩; refine ⟨_, rfl, ?_⟩) | ((with_reducible refine gate_callee (f := 34) rfl ?_); refine goesL_ (some 90) rfl rfl Try.func34 (by kernel_rfl) rfl #[.slice A0 S1.length c0] rfl (by (try simp only [List.map_toArray, List.map_cons, List.map_nil]); first | done | rfl) ?_; (with_reducible refine (pack_Size.calls k _ _ S1 (X1.length : Int) true _ (HT0c.out _ (Kd.C_below HR0.out (by repeat (first | (with_reducible first | exact HK_w7.out | apply below_alloc | apply pw_below_drewN | apply below_drew1) | exact HK_w7.out)))) HT0l.out HSZ.out).mono ?_); rintro e w8 ⟨rfl, ⟨nd, rfl⟩⟩; refine ⟨_, rfl, ?_⟩))
        have m0_ := Aside0.mk (Kd.C_below HR0.out (by repeat (first | (with_reducible first | exact HK_w7.out | apply below_alloc | apply pw_below_drewN | apply below_drew1) | exact HK_w7.out)))
        have m1_ := Aside0.mk (Kd.C_below HR1.out (by repeat (first | (with_reducible first | exact HK_w7.out | apply below_alloc | apply pw_below_drewN | apply below_drew1) | exact HK_w7.out)))
        have mX_ := Aside0.mk (Kd.C_below HCX.out (by repeat (first | (with_reducible first | exact HK_w7.out | apply below_alloc | apply pw_below_drewN | apply below_drew1) | exact HK_w7.out)))
        have mB_ := Aside0.mk (below_step HB.out (by repeat (first | (with_reducible first | exact HK_w7.out | apply below_alloc | apply pw_below_drewN | apply below_drew1) | exact HK_w7.out)))
        clear HR0 HR1 HCX HB HC10 HC12
        have HR0 := m0_
        have HR1 := m1_
        have HCX := mX_
        have HB := mB_
        clear m0_ m1_ mX_ mB_ HO1 HO2 HO3
        refine mono_region (fun i => ([(Is (.slice A0 l0.length c0)), (Is (.int .i64 (q : Int))), (Is (.slice Ad0 S2.length cd0)), (Is (.slice Ax X.length cx)), (Is (.int .i64 (X1.length : Int))), (Is (.slice Ax X.length cx)), (Is (.int .i64 (X.length : Int))), (Is (.int .i64 (X1.length : Int))), (Is (.slice AX2 Z.length cX2)), (RowF (Kd.int .i64) N2 (fun s_ => .tuple #[s_, .int .i64 0])), (RowF (Kd.int .i64) N2 (fun s_ => .tuple #[s_, .int .i64 0])), (RowF (Kd.int .i64) N2 (fun s_ => s_)), (Is (.int .i64 0)), (RowF (Kd.int .i64) N2 (fun s_ => s_)), (Is (.int .i64 0))] : List (Value → World → Prop)).getD i (fun _ _ => True)) 15 [94, 95, 96, 97, 98, 99, 100, 101, 102, 103, 93, 104, 105, 16, 17] (by kernel_rfl) rfl (by kernel_rfl) (by kernel_rfl) ?_ ?_ ?_
        · intro i
          match i with
          | 0 => exact stable_is _
          | 1 => exact stable_is _
          | 2 => exact stable_is _
          | 3 => exact stable_is _
          | 4 => exact stable_is _
          | 5 => exact stable_is _
          | 6 => exact stable_is _
          | 7 => exact stable_is _
          | 8 => exact stable_is _
          | 9 => exact stable_rowF (Kd.int .i64) N2 (fun s_ => .tuple #[s_, .int .i64 0])
          | 10 => exact stable_rowF (Kd.int .i64) N2 (fun s_ => .tuple #[s_, .int .i64 0])
          | 11 => exact stable_rowF (Kd.int .i64) N2 (fun s_ => s_)
          | 12 => exact stable_is _
          | 13 => exact stable_rowF (Kd.int .i64) N2 (fun s_ => s_)
          | 14 => exact stable_is _
          | _ + 15 => exact fun _ _ _ _ _ => trivial
        · show ∀ i ∈ [0, 1, 2, 3, 4, 5, 6, 7, 8, 9, 10, 11, 12, 13, 14], _
          refine msteps_cons ?_ ?_
          · intro a w' hx hfr hk
            replace hx := Ext.of_drewN hx
            have e0 : a.tmps[0]? = some (.slice A0 l0.length c0) := (hfr.off 0 rfl).trans rfl
            clear hk hfr
            refine ⟨_, rfl, fun K hK => ?_⟩
            refine value_ (w1 := w') (v := .slice A0 l0.length c0) (by rfl) rfl ?_ (hK _ _ (show _ = _ from rfl) (Ext.refl _))
            go_simp
            (try simp only [i64_w])
            try rfl
          refine msteps_cons ?_ ?_
          · intro a w' hx hfr hk
            replace hx := Ext.of_drewN hx
            have e7 : a.tmps[7]? = some (.int .i64 (q : Int)) := (hfr.off 7 rfl).trans rfl
            clear hk hfr
            refine ⟨_, rfl, fun K hK => ?_⟩
            refine value_ (w1 := w') (v := .int .i64 (q : Int)) (by rfl) rfl ?_ (hK _ _ (show _ = _ from rfl) (Ext.refl _))
            go_simp
            (try simp only [i64_w])
            try rfl
          refine msteps_cons ?_ ?_
          · intro a w' hx hfr hk
            replace hx := Ext.of_drewN hx
            obtain ⟨v_, e94, h_⟩ := hk 0 94 (by kernel_rfl) rfl
            replace h_ : v_ = .slice A0 l0.length c0 := h_
            subst h_
            obtain ⟨v_, e95, h_⟩ := hk 1 95 (by kernel_rfl) rfl
            replace h_ : v_ = .int .i64 (q : Int) := h_
            subst h_
            clear hk hfr
            refine ⟨_, rfl, fun K hK => ?_⟩
            have hrun := HD0.out
            refine value_ (w1 := w') (v := .slice Ad0 S2.length cd0) (by rfl) rfl ?_ (hK _ _ (show _ = _ from rfl) (Ext.refl _))
            go_simp
            (try simp only [i64_w])
            try rfl
          refine msteps_cons ?_ ?_
          · intro a w' hx hfr hk
            replace hx := Ext.of_drewN hx
            have e8 : a.tmps[8]? = some (.slice Ax X.length cx) := (hfr.off 8 rfl).trans rfl
            clear hk hfr
            refine ⟨_, rfl, fun K hK => ?_⟩
            refine value_ (w1 := w') (v := .slice Ax X.length cx) (by rfl) rfl ?_ (hK _ _ (show _ = _ from rfl) (Ext.refl _))
            go_simp
            (try simp only [i64_w])
            try rfl
          refine msteps_cons ?_ ?_
          · intro a w' hx hfr hk
            replace hx := Ext.of_drewN hx
            have e14 : a.tmps[14]? = some (.int .i64 (X1.length : Int)) := (hfr.off 14 rfl).trans rfl
            clear hk hfr
            refine ⟨_, rfl, fun K hK => ?_⟩
            refine value_ (w1 := w') (v := .int .i64 (X1.length : Int)) (by rfl) rfl ?_ (hK _ _ (show _ = _ from rfl) (Ext.refl _))
            go_simp
            (try simp only [i64_w])
            try rfl
          refine msteps_cons ?_ ?_
          · intro a w' hx hfr hk
            replace hx := Ext.of_drewN hx
            have e8 : a.tmps[8]? = some (.slice Ax X.length cx) := (hfr.off 8 rfl).trans rfl
            clear hk hfr
            refine ⟨_, rfl, fun K hK => ?_⟩
            refine value_ (w1 := w') (v := .slice Ax X.length cx) (by rfl) rfl ?_ (hK _ _ (show _ = _ from rfl) (Ext.refl _))
            go_simp
            (try simp only [i64_w])
            try rfl
          refine msteps_cons ?_ ?_
          · intro a w' hx hfr hk
            replace hx := Ext.of_drewN hx
            obtain ⟨v_, e99, h_⟩ := hk 5 99 (by kernel_rfl) rfl
            replace h_ : v_ = .slice Ax X.length cx := h_
            subst h_
            clear hk hfr
            refine ⟨_, rfl, fun K hK => ?_⟩
            refine value_ (w1 := w') (v := .int .i64 (X.length : Int)) (by rfl) rfl ?_ (hK _ _ (show _ = _ from rfl) (Ext.refl _))
            go_simp
            (try simp only [i64_w])
            try rfl
          refine msteps_cons ?_ ?_
          · intro a w' hx hfr hk
            replace hx := Ext.of_drewN hx
            obtain ⟨v_, e98, h_⟩ := hk 4 98 (by kernel_rfl) rfl
            replace h_ : v_ = .int .i64 (X1.length : Int) := h_
            subst h_
            obtain ⟨v_, e100, h_⟩ := hk 6 100 (by kernel_rfl) rfl
            replace h_ : v_ = .int .i64 (X.length : Int) := h_
            subst h_
            clear hk hfr
            refine ⟨_, rfl, fun K hK => ?_⟩
            have hmin := HMIN.out
            refine value_ (w1 := w') (v := .int .i64 (X1.length : Int)) (by rfl) rfl ?_ (hK _ _ (show _ = _ from rfl) (Ext.refl _))
            go_simp
            (try simp only [i64_w])
            try rfl
          refine msteps_cons ?_ ?_
          · intro a w' hx hfr hk
            replace hx := Ext.of_drewN hx
            obtain ⟨v_, e97, h_⟩ := hk 3 97 (by kernel_rfl) rfl
            replace h_ : v_ = .slice Ax X.length cx := h_
            subst h_
            obtain ⟨v_, e101, h_⟩ := hk 7 101 (by kernel_rfl) rfl
            replace h_ : v_ = .int .i64 (X1.length : Int) := h_
            subst h_
            clear hk hfr
            refine ⟨_, rfl, fun K hK => ?_⟩
            have hrun := HX2.out
            refine value_ (w1 := w') (v := .slice AX2 Z.length cX2) (by rfl) rfl ?_ (hK _ _ (show _ = _ from rfl) (Ext.refl _))
            go_simp
            (try simp only [i64_w])
            try rfl
          refine msteps_cons ?_ ?_
          · intro a w' hx hfr hk
            replace hx := Ext.of_drewN hx
            obtain ⟨v_, e96, h_⟩ := hk 2 96 (by kernel_rfl) rfl
            replace h_ : v_ = .slice Ad0 S2.length cd0 := h_
            subst h_
            obtain ⟨v_, e102, h_⟩ := hk 8 102 (by kernel_rfl) rfl
            replace h_ : v_ = .slice AX2 Z.length cX2 := h_
            subst h_
            clear hk hfr
            refine ⟨_, rfl, fun K hK => ?_⟩
            refine goes_ Try.func51 (by kernel_rfl) rfl #[.slice Ad0 S2.length cd0, .slice AX2 Z.length cX2] (by rfl) rfl rfl (by simp only [List.map_toArray, List.map_cons, List.map_nil, Act.eval, Array.getD_eq_getD_getElem?, Option.getD_some, e96, e102]; first | done | rfl) ?_
            (with_reducible refine (pack_Take.calls k _ _ S2 (fun k_ => k_ < w'.heap.size) _ _ Z N2 0 _ (HD0c.out _ (c_ext HR0.out hx)) HD0l.out (v_of_c (HX2c.out _ (c_ext HCX.out hx)) HX2l.out) HTK.out).mono ?_)
            rintro e w1 ⟨v_, rfl, hR_, hb_⟩
            obtain ⟨A_, c_, rfl, hl_, hC_⟩ := Kd.R_reads hR_
            exact ⟨_, rfl, hK _ _ ⟨A_, c_, rfl, hl_, hC_⟩ hb_⟩
          refine msteps_cons ?_ ?_
          · intro a w' hx hfr hk
            replace hx := Ext.of_drewN hx
            obtain ⟨v_, e103, A103, c103, rfl, hc103, hC103⟩ := hk 9 103 (by kernel_rfl) rfl
            have HCr103 := Aside0.mk hC103
            have HLr103 := Aside0.mk hc103
            clear hC103 hc103
            clear hk hfr
            refine ⟨_, rfl, fun K hK => ?_⟩
            refine value_ (w1 := w') (v := .tuple #[.slice A103 N2.length c103, .int .i64 0]) (by rfl) rfl ?_ (hK _ _ ⟨A103, c103, rfl, HLr103.out, HCr103.out⟩ (Ext.refl _))
            go_simp
            (try simp only [i64_w])
            try rfl
          refine msteps_cons ?_ ?_
          · intro a w' hx hfr hk
            replace hx := Ext.of_drewN hx
            obtain ⟨v_, e93, A93, c93, rfl, hc93, hC93⟩ := hk 10 93 (by kernel_rfl) rfl
            have HCr93 := Aside0.mk hC93
            have HLr93 := Aside0.mk hc93
            clear hC93 hc93
            clear hk hfr
            refine ⟨_, rfl, fun K hK => ?_⟩
            refine value_ (w1 := w') (v := .slice A93 N2.length c93) (by rfl) rfl ?_ (hK _ _ ⟨A93, c93, rfl, HLr93.out, HCr93.out⟩ (Ext.refl _))
            go_simp
            (try simp only [i64_w])
            try rfl
          refine msteps_cons ?_ ?_
          · intro a w' hx hfr hk
            replace hx := Ext.of_drewN hx
            obtain ⟨v_, e93, A93, c93, rfl, hc93, hC93⟩ := hk 10 93 (by kernel_rfl) rfl
            have HCr93 := Aside0.mk hC93
            have HLr93 := Aside0.mk hc93
            clear hC93 hc93
            clear hk hfr
            refine ⟨_, rfl, fun K hK => ?_⟩
            refine value_ (w1 := w') (v := .int .i64 0) (by rfl) rfl ?_ (hK _ _ (show _ = _ from rfl) (Ext.refl _))
            go_simp
            (try simp only [i64_w])
            try rfl
          refine msteps_cons ?_ ?_
          · intro a w' hx hfr hk
            replace hx := Ext.of_drewN hx
            obtain ⟨v_, e104, A104, c104, rfl, hc104, hC104⟩ := hk 11 104 (by kernel_rfl) rfl
            have HCr104 := Aside0.mk hC104
            have HLr104 := Aside0.mk hc104
            clear hC104 hc104
            clear hk hfr
            refine ⟨_, rfl, fun K hK => ?_⟩
            refine value_ (w1 := w') (v := .slice A104 N2.length c104) (by rfl) rfl ?_ (hK _ _ ⟨A104, c104, rfl, HLr104.out, HCr104.out⟩ (Ext.refl _))
            go_simp
            (try simp only [i64_w])
            try rfl
          refine msteps_cons ?_ ?_
          · intro a w' hx hfr hk
            replace hx := Ext.of_drewN hx
            obtain ⟨v_, e105, h_⟩ := hk 12 105 (by kernel_rfl) rfl
            replace h_ : v_ = .int .i64 0 := h_
            subst h_
            clear hk hfr
            refine ⟨_, rfl, fun K hK => ?_⟩
            refine value_ (w1 := w') (v := .int .i64 0) (by rfl) rfl ?_ (hK _ _ (show _ = _ from rfl) (Ext.refl _))
            go_simp
            (try simp only [i64_w])
            try rfl
          exact msteps_nil
        · intro val w9 hx hF
          replace hx := Ext.of_drewN hx
          have e94 : val 94 = .slice A0 l0.length c0 := hF 0 94 rfl
          have e95 : val 95 = .int .i64 (q : Int) := hF 1 95 rfl
          have e96 : val 96 = .slice Ad0 S2.length cd0 := hF 2 96 rfl
          have e97 : val 97 = .slice Ax X.length cx := hF 3 97 rfl
          have e98 : val 98 = .int .i64 (X1.length : Int) := hF 4 98 rfl
          have e99 : val 99 = .slice Ax X.length cx := hF 5 99 rfl
          have e100 : val 100 = .int .i64 (X.length : Int) := hF 6 100 rfl
          have e101 : val 101 = .int .i64 (X1.length : Int) := hF 7 101 rfl
          have e102 : val 102 = .slice AX2 Z.length cX2 := hF 8 102 rfl
          obtain ⟨A103, c103, e103, hc103, hC103⟩ := hF 9 103 rfl
          have HL103 := Aside0.mk hc103
          have HC103 := Aside0.mk hC103
          clear hc103 hC103
          obtain ⟨A93, c93, e93, hc93, hC93⟩ := hF 10 93 rfl
          have HL93 := Aside0.mk hc93
          have HC93 := Aside0.mk hC93
          clear hc93 hC93
          obtain ⟨A104, c104, e104, hc104, hC104⟩ := hF 11 104 rfl
          have HL104 := Aside0.mk hc104
          have HC104 := Aside0.mk hC104
          clear hc104 hC104
          have e105 : val 105 = .int .i64 0 := hF 12 105 rfl
          obtain ⟨A16, c16, e16, hc16, hC16⟩ := hF 13 16 rfl
          have HL16 := Aside0.mk hc16
          have HC16 := Aside0.mk hC16
          clear hc16 hC16
          have e17 : val 17 = .int .i64 0 := hF 14 17 rfl
          clear hF
          simp only [putT, List.foldl_cons, List.foldl_nil, Act.put, List.setIfInBounds_toArray, List.set_cons_zero, List.set_cons_succ, e94, e95, e96, e97, e98, e99, e100, e101, e102, e103, e93, e104, e105, e16, e17]
          clear e94 e95 e96 e97 e98 e99 e100 e101 e102 e103 e93 e104 e105 e16 e17
          have n0_ := Aside0.mk (c_ext HR1.out hx)
          have nB_ := Aside0.mk (below_step HB.out (Ext.below hx))
          clear HR1 HB hx
          have HR1 := n0_
          have HB := nB_
          clear n0_ nB_
          go_wp2_with (((with_reducible refine gate_callee (f := 40) rfl ?_); (refine gate_guard (by rfl) ?_; dsimp only); refine goesL_ (some 122) rfl rfl Try.func40 (by kernel_rfl) rfl #[.slice A16 N2.length c16, .slice Ad1 N2.length cd1] rfl (by (try simp only [List.map_toArray, List.map_cons, List.map_nil]); first | done | rfl) ?_; (with_reducible refine (incunableref01_Ints.calls k _ _ N2 _ _ N2 true _ HC16.out HL16.out (HD1c.out _ HR1.out) HD1l.out HI.out).mono ?_); rintro e w9 ⟨rfl, ⟨nd, rfl⟩⟩; refine ⟨_, rfl, ?_⟩))
          go_ret
          exact ⟨rfl, (by repeat (first | (with_reducible first | exact HB.out | apply below_alloc | apply pw_below_drewN | apply below_drew1) | exact HB.out))⟩
      · by_cases hf : f0 = 0
        · have hg := (HBAD.out he).resolve_left (fun h => h hf)
          subst hf
          have n1_ : (e0 == 0) = false := beq_eq_false_iff_ne.2 he
          have n2_ : (e0 != 0) = true := by rw [bne, n1_]; rfl
          have n3_ : (g0 == 0) = false := beq_eq_false_iff_ne.2 hg
          have n4_ : (g0 != 0) = true := by rw [bne, n3_]; rfl
          clear hg
          clear he HBAD HGOOD
          go_wp2
          go_ret
          exact ⟨rfl, HB.out⟩
        · have n1_ : (e0 == 0) = false := beq_eq_false_iff_ne.2 he
          have n2_ : (e0 != 0) = true := by rw [bne, n1_]; rfl
          have n3_ : (f0 == 0) = false := beq_eq_false_iff_ne.2 hf
          have n4_ : (f0 != 0) = true := by rw [bne, n3_]; rfl
          clear hf
          clear he HBAD HGOOD
          go_wp2
          go_ret
          exact ⟨rfl, HB.out⟩
theorem putGo_append : ∀ (s1 n1 s2 n2 : List Int), s1.length = n1.length → putGo (s1 ++ s2) (n1 ++ n2) = (putGo s1 n1).bind fun a => (putGo s2 n2).map (a ++ ·)
  | [], [], s2, n2, _ => by
    simp only [List.nil_append, putGo, Option.bind_some]
    cases putGo s2 n2 <;> rfl
  | s :: s1, n :: n1, s2, n2, h => by
    simp only [List.cons_append, putGo]
    rw [putGo_append s1 n1 s2 n2 (by simpa using h)]
    split
    · cases putGo s1 n1 with
      | none => rfl
      | some a => cases putGo s2 n2 <;> simp
    · rfl
  | [], _ :: _, _, _, h => by cases h
  | _ :: _, [], _, _, h => by cases h
theorem pkPut_of {ss ns b : List Int} (h1 : okSizes ss = true) (h2 : putGo ss ns = some b) : pkPut ss ns = (b, 0) := by
  unfold pkPut
  rw [if_pos h1, h2]
  simp [endPut]
def incunablelaw03_PackParts.f (l0 l1 : List Int) (a2 : Int) : Option Bool := if 0 ≤ a2 ∧ a2 ≤ 255 then some true else none
theorem incunablelaw03_PackParts.calls (A0 : Option Addr) (c0 : Nat) (l0 : List Int) (A1 : Option Addr) (c1 : Nat) (l1 : List Int) (a2 : Int) (r : Bool) (w : World) (hr0 : Kd.C (Kd.int .i64) w A0 l0.length l0) (hc0 : l0.length ≤ c0) (hr1 : Kd.C (Kd.int .i64) w A1 l1.length l1) (hc1 : l1.length ≤ c1) (h : incunablelaw03_PackParts.f l0 l1 a2 = some r) :
    Calls Try.prog 14 #[.slice A0 l0.length c0, .slice A1 l1.length c1, .int .u8 a2] w fun e w' => e = .returned (.bool r) ∧ Below w.heap.size w w' := by
  unfold incunablelaw03_PackParts.f at h
  split at h
  · rename_i ha
    obtain rfl := Option.some.inj h
    clear h
    obtain ⟨k1, e1⟩ := pack_awake_ev
    by_cases hlen : 60 < l0.length
    · exact PackParts_long k1 A0 c0 l0 A1 c1 l1 a2 w hr0 hc0 hr1 hc1 (e1 _ (Nat.le_refl _)) hlen
    · by_cases hne : l0.length ≠ l1.length
      · exact PackParts_ne k1 A0 c0 l0 A1 c1 l1 a2 w hr0 hc0 hr1 hc1 (e1 _ (Nat.le_refl _)) (by omega) hne
      · have hll : l0.length = l1.length := by omega
        obtain ⟨q, hq⟩ := Int.eq_ofNat_of_zero_le (Int.emod_nonneg a2 (show (l0.length : Int) + 1 ≠ 0 by omega))
        have hql : (q : Int) < (l0.length : Int) + 1 := by rw [← hq]; exact Int.emod_lt_of_pos a2 (by omega)
        have hap := putGo_append (l0.take q) (l1.take q) (l0.drop q) (l1.drop q) (by rw [List.length_take, List.length_take]; omega)
        rw [List.take_append_drop, List.take_append_drop] at hap
        have hok : okSizes l0 = true ↔ okSizes (l0.take q) = true ∧ okSizes (l0.drop q) = true := by
          rw [okSizes_iff, okSizes_iff, okSizes_iff, List.length_take, List.length_drop]
          constructor
          · rintro ⟨h1, h2⟩
            exact ⟨⟨by omega, fun s hs => h2 s (List.mem_of_mem_take hs)⟩, ⟨by omega, fun s hs => h2 s (List.mem_of_mem_drop hs)⟩⟩
          · rintro ⟨⟨h1, h2⟩, h3, h4⟩
            refine ⟨by omega, fun s hs => ?_⟩
            rw [← List.take_append_drop q l0, List.mem_append] at hs
            exact hs.elim (h2 s) (h4 s)
        obtain ⟨k2, e2⟩ := put_ev l0 l1
        obtain ⟨k3, e3⟩ := put_ev (l0.take q) (l1.take q)
        obtain ⟨k4, e4⟩ := put_ev (l0.drop q) (l1.drop q)
        by_cases hz : (pkPut l0 l1).2 = 0
        · have hX : pkPut l0 l1 = ((pkPut l0 l1).1, 0) := by rw [← hz]
          obtain ⟨h1, h2⟩ := pkPut_ok hX
          rw [hap] at h2
          obtain ⟨X1, h3, h4⟩ := Option.bind_eq_some_iff.1 h2
          obtain ⟨X2, h5, h6⟩ := Option.map_eq_some_iff.1 h4
          obtain ⟨o1, o2⟩ := hok.1 h1
          have p1 := pkPut_of o1 h3
          have p2 := pkPut_of o2 h5
          obtain ⟨_, _, b1, b2, b3⟩ := back_put p1
          obtain ⟨t1, _, t3, t4, t5⟩ := back_put p2
          rw [hX, ← h6] at e2
          rw [p1] at e3
          rw [p2] at e4
          obtain ⟨k5, e5⟩ := same_ev (X1 ++ X2) (X1 ++ X2) (by rw [List.length_append]; omega)
          obtain ⟨k6, e6⟩ := size_ev (l0.take q)
          obtain ⟨k7, e7⟩ := take_ev (l0.drop q) X2 t3
          obtain ⟨k8, e8⟩ := ints_ev (l1.drop q) (l1.drop q) (by rw [List.length_drop]; omega)
          rw [decide_eq_true rfl] at e5 e8
          have hs : pkSize (l0.take q) = ((X1.length : Int), true) := by unfold pkSize; rw [if_pos o1, b2]
          rw [hs] at e6
          rw [t1] at e7
          obtain ⟨K, hK⟩ : ∃ K, K = k1 + k2 + k3 + k4 + k5 + k6 + k7 + k8 := ⟨_, rfl⟩
          refine PackParts_core K A0 c0 l0 A1 c1 l1 a2 q (X1 ++ X2) X1 X2 0 0 0 w hr0 hc0 hr1 hc1 (e1 _ (by omega)) (by omega) hll ha hq (by omega) (e2 _ (by omega)) (e3 _ (by omega)) (e4 _ (by omega)) (fun h => absurd rfl h) (fun _ => ?_)
          refine ⟨rfl, rfl, by omega, by omega, by rw [List.length_append]; omega, e5 _ (by omega), e6 _ (by omega), ?_, e8 _ (by omega)⟩
          rw [List.drop_left]
          exact e7 _ (by omega)
        · obtain ⟨K, hK⟩ : ∃ K, K = k1 + k2 + k3 + k4 := ⟨_, rfl⟩
          refine PackParts_core K A0 c0 l0 A1 c1 l1 a2 q _ _ _ _ _ _ w hr0 hc0 hr1 hc1 (e1 _ (by omega)) (by omega) hll ha hq (by omega) (e2 _ (by omega)) (e3 _ (by omega)) (e4 _ (by omega)) (fun _ => ?_) (fun h => absurd h hz)
          by_cases hf : (pkPut (l0.take q) (l1.take q)).2 = 0
          · by_cases hg : (pkPut (l0.drop q) (l1.drop q)).2 = 0
            · exfalso
              apply hz
              obtain ⟨o1, p1⟩ := pkPut_ok (show pkPut (l0.take q) (l1.take q) = ((pkPut (l0.take q) (l1.take q)).1, 0) by rw [← hf])
              obtain ⟨o2, p2⟩ := pkPut_ok (show pkPut (l0.drop q) (l1.drop q) = ((pkPut (l0.drop q) (l1.drop q)).1, 0) by rw [← hg])
              rw [p1, p2] at hap
              rw [pkPut_of (hok.2 ⟨o1, o2⟩) hap]
            · exact Or.inr hg
          · exact Or.inl hf
  · cases h
end Go.Proofs.Ytpedkegfefnibaa.QPackParts
namespace Go.Proofs.Ytpedkegfefnibaa.OpenKit
open Go.RowKit Go.Proofs.YtpedkegfefnibaaW.PrintWords Go.ChangeShapes Go.WideShapes
def Opens {α : Type} (P : Program) (t : TypeId) (d : Kd α) (wf : α → Prop) : Prop :=
  ∀ {H : Type} (enc : TypeId × Value → H) (W : World) (spare : Nat → Bool) (held : Bool) (fuel : Nat) (cs : List Value) (x : DataW H × List MemPlace),
    DataW.trod enc P W 0 spare held fuel t cs = some x → ∃ a, d.K W a cs ∧ wf a
section
variable {P : Program} {t e : TypeId}
theorem opens_int {k : IntKind} (ht : P.underlying t = some (.int k)) : Opens P t (Kd.int k) (fun a => (Lit.int k a).wf = true) := by
  intro H enc W spare held fuel cs x h
  obtain ⟨n, rfl, _, hw⟩ := DataW.trod_int ht h
  exact ⟨n, rfl, hw⟩
theorem cells_some {W : World} {a : Addr} {n : Nat} {cs : List Value} (h : W.cells? 0 a n = some cs) : cs.length = n ∧ ∀ i u, cs[i]? = some u → W.cell? (a.add i) = some u := by
  unfold World.cells? at h
  rw [if_pos (Nat.zero_le _)] at h
  have hl := mapM_some_length h
  rw [List.length_range] at hl
  refine ⟨hl, fun i u hu => ?_⟩
  have hi : i < n := by
    rw [← hl]
    exact (List.getElem?_eq_some_iff.1 hu).1
  have := mapM_some_get h i i (by simp [hi])
  rw [this, hu]
theorem opens_slice {α : Type} [Inhabited α] {d : Kd α} {wf : α → Prop} (ht : P.underlying t = some (.slice e)) (he : Opens P e d wf) (hsz : P.cellsOf e = d.sz) :
    Opens P t (Kd.slice e d) (fun xs => xs.length ≤ maxLen ∧ ∀ x ∈ xs, wf x) := by
  intro H enc W spare held fuel cs x h
  rcases Go.Deep.open_slice ht h with ⟨rfl, _⟩ | ⟨a, len, cap, m, n, D, Pl, rfl, _, hl, hm, hmm, _, hel⟩
  · exact ⟨[], ⟨none, 0, rfl, Nat.le_refl _, ⟨rfl, Nat.zero_le _, fun h => absurd h (Nat.lt_irrefl 0)⟩⟩, Nat.zero_le _, by simp⟩
  have hlm : len ≤ m := by rw [hmm]; split <;> omega
  have hx : ∀ i, i < len → ∃ y : α, ∃ c : List Value, c.length = d.sz ∧ d.K W y c ∧ wf y ∧ ∀ j u, c[j]? = some u → W.cell? ((a.add (i * d.sz)).add j) = some u := by
    intro i hi
    obtain ⟨c, hc, hr⟩ := hel i (by omega)
    obtain ⟨y, hy, hw⟩ := he enc W spare held n c _ hr
    rw [hsz] at hc
    obtain ⟨h1, h2⟩ := cells_some hc
    exact ⟨y, c, h1, hy, hw, h2⟩
  obtain ⟨f, hf⟩ := Go.Deep.choose_lt hx
  have hlen : ((List.range len).map f).length = len := by simp
  have hmax : len ≤ maxLen := Nat.le_trans hl hm
  refine ⟨(List.range len).map f, ⟨some a, cap, by rw [hlen], by rw [hlen]; exact hl, ?_⟩, by rw [hlen]; exact hmax, ?_⟩
  · refine ⟨rfl, by rw [hlen]; exact hmax, fun _ => ⟨a, rfl, fun j p hj => ?_⟩⟩
    have hj' : j < len := by
      have := (List.getElem?_eq_some_iff.1 hj).1
      rwa [hlen] at this
    have e1 : f j = p := by simpa [hj'] using hj
    subst e1
    obtain ⟨c, h1, h2, _, h3⟩ := hf j hj'
    exact ⟨c, h1, h2, fun i u hu => by rw [← Go.Deep.add_add]; exact h3 i u hu⟩
  · intro y hy
    obtain ⟨i, hi, rfl⟩ := List.mem_map.1 hy
    obtain ⟨_, _, _, hw, _⟩ := hf i (List.mem_range.1 hi)
    exact hw
theorem sized_any {H : Type} {enc : TypeId × Value → H} {W : World} {base : Nat} {spare : Nat → Bool} {held : Bool} {a : Option Addr} {len cap : Nat} {d : DataW H} {ps : List MemPlace} {ts : List TypeId} {ds : List (DataW H)} {j : Nat}
    (hsz : (DataW.weightsEach P ts ds).all (· ≤ reachBytes) = true) (ht : ts[j]? = some t) (hd : ds[j]? = some d) (hu : P.underlying t = some (.slice e)) {B : Nat} (hB : P.bytesOf e = B)
    (h : DataW.Trod enc P W base spare held t (.slice a len cap) d ps) : len * B ≤ 140737488351232 := by
  obtain ⟨fuel, hf⟩ := h
  rcases Go.Deep.open_slice hu hf with ⟨hcs, _⟩ | ⟨x, l, c, m, n, D, Pl, hcs, _, hl, _, _, hx, _⟩
  · simp [Value.cells] at hcs
    obtain ⟨rfl, rfl, rfl⟩ := hcs
    simp
  · simp [Value.cells] at hcs
    obtain ⟨rfl, rfl, rfl⟩ := hcs
    obtain ⟨hx, _⟩ := Prod.mk.inj hx
    subst hx
    have z := sized_slice hsz ht hd hu
    rw [hB] at z
    refine Nat.le_trans (Nat.mul_le_mul_right _ ?_) z
    simp
end
end Go.Proofs.Ytpedkegfefnibaa.OpenKit
namespace Go.Proofs.Ytpedkegfefnibaa.Pure
open Go.RowKit Go.Proofs.Ytpedkegfefnibaa.QPackParts Go.Proofs.YtpedkegfefnibaaW.PrintWords
def StmPackParts : Prop := ∀ (l0 : List Int) (l1 : List Int) (a2 : Int), (l0.length * 8 ≤ 140737488351232) → ((fun xs : List Int => xs.length ≤ maxLen ∧ ∀ x ∈ xs, (fun a : Int => (Lit.int .i64 a).wf = true) x) l0) → (l1.length * 8 ≤ 140737488351232) → ((fun xs : List Int => xs.length ≤ maxLen ∧ ∀ x ∈ xs, (fun a : Int => (Lit.int .i64 a).wf = true) x) l1) → ((Lit.int .u8 a2).wf = true) → incunablelaw03_PackParts.f l0 l1 a2 = some true
end Go.Proofs.Ytpedkegfefnibaa.Pure
namespace Go.Proofs.Ytpedkegfefnibaa.Pure
open Go.RowKit Go.Proofs.Ytpedkegfefnibaa.QPackParts Go.Proofs.YtpedkegfefnibaaW.PrintWords Go.Proofs.Ytpedkegfefnibaa.EvKit
theorem PackParts : StmPackParts := by
  intro l0 l1 a2 _ _ _ _ h
  have := wf_u8 h
  unfold incunablelaw03_PackParts.f
  rw [if_pos ⟨this.1, by omega⟩]
end Go.Proofs.Ytpedkegfefnibaa.Pure
