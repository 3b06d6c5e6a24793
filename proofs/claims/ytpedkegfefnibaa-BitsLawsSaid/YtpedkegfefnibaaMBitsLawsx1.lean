/-
  Texts for the law BitsLaws, laid together by my program merge2.py; what nothing here names is left out.
-/
import Derived.Test.YtpedkegfefnibaaMBitsLawsx0
import Derived.Test.YtpedkegfefnibaaProg
import Derived.Below
import Derived.Deep.Draws
import Derived.Deep.AppendLies
import Derived.Maps.AppendAt
import Derived.OwnWalk
import Derived.Laws.BytesArg
import Derived.Laws.MakeOwn
import Derived.Laws.OwnMore
import Derived.Deep.OwnRows
import Derived.Tactics
import Derived.Lib.ConvBytes
import Derived.Laws.Slices
import Derived.WalkKit
import Derived.KernelRfl
import Derived.RowKit3
import Derived.Deep.LoopGhost
import Derived.Deep.QuietTactic
import Derived.BigQuiet
import Derived.WideLaws
import Derived.Deep.DeepCutAuto
import Derived.Deep.CutBlock
import Derived.Deep.RegionHeld3
import Derived.Laws.Rows
import Derived.Lib.AppendStr
import Derived.ArgAppend
import Derived.Laws.IdiomCopy
import Derived.OrdersHeld
import Derived.Laws.BitsLemmas
import Derived.RowKit
import Derived.WalkSpells
import Derived.Lib.SliceRun
import Derived.Lib.BufferMore
import Derived.Deep.Slices
import Derived.OpenShut
import Derived.SizedLaws
namespace Go.Proofs.Ytpedkegfefnibaa.QBitsLaws
open Go.RowKit Go.Proofs.YtpedkegfefnibaaW.PrintWords Go.Proofs.YtpedkegfefnibaaW.PrintLast Go.Proofs.YtpedkegfefnibaaW.PrintMore
attribute [local go_sem] max2_int min2_int max_two min_two max_three min_three max_four min_four   -- for this text's walks alone
set_option linter.unusedVariables false
set_option linter.unusedSimpArgs false
def errW : Option Int → Value
  | none => .nilIface
  | some c => .iface 0 (.int .i64 c)
theorem errW_none : errW none = .nilIface := rfl
theorem errW_some (c : Int) : errW (some c) = .iface 0 (.int .i64 c) := rfl
theorem info3 : (Try.prog.info? 3).map (fun i => (i.zero, i.size, i.bytes)) = some (some (.int .i64 0), 1, 8) := by kernel_rfl
theorem info5 : (Try.prog.info? 5).map (fun i => (i.zero, i.size, i.bytes)) = some (some (.int .u8 0), 1, 1) := by kernel_rfl
def rd_L1 (xs : List (List Int)) (i : Int) : (List Int) := xs.getD i.toNat ([] : List Int)
theorem at_L1 {w : World} {A : Option Addr} {n : Nat} {xs : List (List Int)} (h : Kd.C (Kd.slice 5 (Kd.int .u8)) w A n xs) (i : Int) (h0 : 0 ≤ i) (h1 : i < n) : ∃ ad A0 c0, A = some ad ∧ w.cell? (ad.add i.toNat) = some (.slice A0 (rd_L1 xs i).length c0) ∧ (rd_L1 xs i).length ≤ c0 ∧ (Kd.int .u8).C w A0 (rd_L1 xs i).length (rd_L1 xs i) := by
  obtain ⟨ad, c, e, _, hK, hc0⟩ := Kd.C_get h ([] : List Int) i h0 h1
  have hc : ∀ j u, c[j]? = some u → w.cell? (ad.add (i.toNat * 1 + j)) = some u := hc0
  obtain ⟨A0, c0, rfl, l0, g0⟩ := hK
  exact ⟨ad, A0, c0, e, by have hq := hc 0 _ rfl; rwa [Nat.mul_one, Nat.add_zero] at hq, l0, g0⟩
end Go.Proofs.Ytpedkegfefnibaa.QBitsLaws
namespace Go.Proofs.Ytpedkegfefnibaa.QBitsLaws
open Go.RowKit Go.Proofs.YtpedkegfefnibaaW.PrintWords Go.Proofs.YtpedkegfefnibaaW.PrintLast Go.Proofs.YtpedkegfefnibaaW.PrintMore
attribute [local go_sem] max2_int min2_int max_two min_two max_three min_three max_four min_four   -- for this text's walks alone
set_option linter.unusedVariables false
set_option linter.unusedSimpArgs false
def incunableref01_Same.l0 : Nat → List Int → List Int → Int → Option (Bool)
  | 0, _, _, _ => none
  | k + 1, x0, x1, x5 => if x5 < (x0.length : Int) then (if 0 ≤ x5 then (if x5 < (x1.length : Int) then (if (rd x0 x5) = (rd x1 x5) then (incunableref01_Same.l0 k x0 x1 (wrap64 (x5 + 1))) else (some false)) else (none)) else (none)) else (some true)
def incunableref01_Same.f (k : Nat) (l0 : List Int) (l1 : List Int) : Option (Bool) := if (l0.length : Int) = (l1.length : Int) then (incunableref01_Same.l0 k l0 l1 0) else (some false)
theorem incunableref01_Same.mono_l : ∀ k, (∀ y0 y1 y2, LeO (incunableref01_Same.l0 k y0 y1 y2) (incunableref01_Same.l0 (k + 1) y0 y1 y2))
  | 0 => fun _ _ _ r h => by simp [incunableref01_Same.l0] at h
  | k + 1 => by
    have ih0 := incunableref01_Same.mono_l k
    · intro y0 y1 y2
      unfold incunableref01_Same.l0
      repeat' first
      | (with_reducible exact ih0 _ _ _)
      | (with_reducible exact LeO.refl _)
      | (with_reducible exact LeO.none _)
      | (with_reducible refine LeO.ite ?_ ?_)
      | (with_reducible refine LeO.bind ?_ (fun _ => ?_))
      | exact ih0 _ _ _
      | exact LeO.none _
      | refine LeO.ite ?_ ?_
      | refine LeO.bind ?_ (fun _ => ?_)
theorem incunableref01_Same.mono : ∀ a0 a1 k, LeO (incunableref01_Same.f k a0 a1) (incunableref01_Same.f (k + 1) a0 a1) := by
  intro a0 a1 k
  have ih0 := incunableref01_Same.mono_l k
  unfold incunableref01_Same.f
  repeat' first
      | (with_reducible exact ih0 _ _ _)
      | (with_reducible exact LeO.refl _)
      | (with_reducible exact LeO.none _)
      | (with_reducible refine LeO.ite ?_ ?_)
      | (with_reducible refine LeO.bind ?_ (fun _ => ?_))
      | exact ih0 _ _ _
      | exact LeO.none _
      | refine LeO.ite ?_ ?_
      | refine LeO.bind ?_ (fun _ => ?_)
set_option maxHeartbeats 8000000 in
set_option maxRecDepth 100000 in
theorem incunableref01_Same.calls (k : Nat) (A0 : Option Addr) (c0 : Nat) (l0 : List Int) (A1 : Option Addr) (c1 : Nat) (l1 : List Int) (r : Bool) (w : World) (hr0 : Kd.C (Kd.int .u8) w A0 l0.length l0) (hc0 : l0.length ≤ c0) (hr1 : Kd.C (Kd.int .u8) w A1 l1.length l1) (hc1 : l1.length ≤ c1) (h : incunableref01_Same.f k l0 l1 = some r) :
    Calls Try.prog 18 #[.slice A0 l0.length c0, .slice A1 l1.length c1] w fun e w' => e = .returned (.bool r) ∧ Drawn0 w w' := by
  have HR0 := Aside0.mk hr0
  have HC0 := Aside0.mk hc0
  clear hr0 hc0
  have HR1 := Aside0.mk hr1
  have HC1 := Aside0.mk hc1
  clear hr1 hc1
  have H : (if (l0.length : Int) = (l1.length : Int) then (incunableref01_Same.l0 k l0 l1 0) else (some false)) = some r := h
  clear h
  by_cases c3 : (l0.length : Int) = (l1.length : Int)
  · rw [if_pos c3] at H
    have c3b0 : ((l0.length : Int) == (l1.length : Int)) = true := beq_iff_eq.mpr c3
    have c3b1 : ((l0.length : Int) != (l1.length : Int)) = false := bne_eq_false_iff_eq.mpr c3
    have c3b2 : (l0.length == l1.length) = true := by first | simpa using c3 | (simp at c3 ⊢; omega)
    clear c3
    have H' := Aside0.mk H
    clear H
    go_enter Try.func18, Try.ntmps18
    go_wp2
    repeat (go_quiet (fail); try go_wp2)
    go_loopg [5] k (fun kq v5 w' => ∃ (x5_1 : Int), v5 = .int .i64 x5_1 ∧ Aside0 (incunableref01_Same.l0 kq l0 l1 x5_1 = some r) ∧ Aside0 (kq ≤ k) ∧ Drawn0 w w')
    case atStart => exact ⟨(0), (by first | rfl | (simp; done) | (simp [*]; done)), H', ⟨Nat.le_refl _⟩, by repeat (first | exact Drawn0.refl _ | apply Drawn0.step)⟩
    case round =>
      clear H'
      try clear c1
      try clear p2
      try clear c3
      try clear c3b0
      try clear c3b1
      try clear c3b2
      obtain ⟨x5_1, rfl, HA, HK1, ⟨m1, rfl⟩⟩ := hrel
      cases gk with
      | zero => exact absurd HA.out (by simp [incunableref01_Same.l0])
      | succ k1 =>
        have H := HA.out
        clear HA
        simp only [incunableref01_Same.l0] at H
        by_cases c4 : x5_1 < (l0.length : Int)
        · rw [if_pos c4] at H
          have c4b0 : decide (x5_1 < (l0.length : Int)) = true := decide_eq_true c4
          clear c4
          by_cases c5 : 0 ≤ x5_1
          · rw [if_pos c5] at H
            have c5b0 : decide (0 ≤ x5_1) = true := decide_eq_true c5
            clear c5
            by_cases c6 : x5_1 < (l1.length : Int)
            · rw [if_pos c6] at H
              have c6b0 : decide (x5_1 < (l1.length : Int)) = true := decide_eq_true c6
              clear c6
              by_cases c7 : (rd l0 x5_1) = (rd l1 x5_1)
              · rw [if_pos c7] at H
                have c7b0 : ((rd l0 x5_1) == (rd l1 x5_1)) = true := beq_iff_eq.mpr c7
                have c7b1 : ((rd l0 x5_1) != (rd l1 x5_1)) = false := bne_eq_false_iff_eq.mpr c7
                clear c7
                have H' := Aside0.mk H
                clear H
                have p101 : 0 ≤ (x5_1 : Int) := of_decide_eq_true (by first | (with_reducible assumption) | assumption)
                have q101 : x5_1 < (l0.length : Int) := of_decide_eq_true (by first | (with_reducible assumption) | assumption)
                obtain ⟨ad101, e101, hx101_0⟩ := Kd.at_int HR0.out x5_1 p101 q101
                cases e101
                replace p101 := eq_true p101
                replace q101 := eq_true q101
                have p102 : 0 ≤ (x5_1 : Int) := of_decide_eq_true (by first | (with_reducible assumption) | assumption)
                have q102 : x5_1 < (l1.length : Int) := of_decide_eq_true (by first | (with_reducible assumption) | assumption)
                obtain ⟨ad102, e102, hx102_0⟩ := Kd.at_int HR1.out x5_1 p102 q102
                cases e102
                replace p102 := eq_true p102
                replace q102 := eq_true q102
                go_wp2
                repeat (go_quiet (fail); try go_wp2)
                go_roundg k1
                case measure => have := HK1.out; omega
                case rel => exact ⟨(wrap64 (x5_1 + 1)), (by first | rfl | (simp; done) | (simp [*]; done)), H', ⟨by have := HK1.out; omega⟩, by repeat (first | exact Drawn0.refl _ | apply Drawn0.step)⟩
              · rw [if_neg c7] at H
                have c7b0 : ((rd l0 x5_1) == (rd l1 x5_1)) = false := beq_eq_false_iff_ne.mpr c7
                have c7b1 : ((rd l0 x5_1) != (rd l1 x5_1)) = true := bne_iff_ne.mpr c7
                obtain rfl := Option.some.inj H
                have p101 : 0 ≤ (x5_1 : Int) := of_decide_eq_true (by first | (with_reducible assumption) | assumption)
                have q101 : x5_1 < (l0.length : Int) := of_decide_eq_true (by first | (with_reducible assumption) | assumption)
                obtain ⟨ad101, e101, hx101_0⟩ := Kd.at_int HR0.out x5_1 p101 q101
                cases e101
                replace p101 := eq_true p101
                replace q101 := eq_true q101
                have p102 : 0 ≤ (x5_1 : Int) := of_decide_eq_true (by first | (with_reducible assumption) | assumption)
                have q102 : x5_1 < (l1.length : Int) := of_decide_eq_true (by first | (with_reducible assumption) | assumption)
                obtain ⟨ad102, e102, hx102_0⟩ := Kd.at_int HR1.out x5_1 p102 q102
                cases e102
                replace p102 := eq_true p102
                replace q102 := eq_true q102
                go_wp2
                repeat (go_quiet (fail); try go_wp2)
                go_ret
                exact ⟨by first | rfl | (simp; done) | (simp [*]; done), by repeat (first | exact Drawn0.refl _ | apply Drawn0.step)⟩
            · rw [if_neg c6] at H
              exact absurd H (by simp)
          · rw [if_neg c5] at H
            exact absurd H (by simp)
        · rw [if_neg c4] at H
          have c4b0 : decide (x5_1 < (l0.length : Int)) = false := decide_eq_false c4
          clear c4
          obtain rfl := Option.some.inj H
          go_wp2
          repeat (go_quiet (fail); try go_wp2)
          go_ret
          exact ⟨by first | rfl | (simp; done) | (simp [*]; done), by repeat (first | exact Drawn0.refl _ | apply Drawn0.step)⟩
  · rw [if_neg c3] at H
    have c3b0 : ((l0.length : Int) == (l1.length : Int)) = false := beq_eq_false_iff_ne.mpr c3
    have c3b1 : ((l0.length : Int) != (l1.length : Int)) = true := bne_iff_ne.mpr c3
    have c3b2 : (l0.length == l1.length) = false := by first | simpa using c3 | (simp at c3 ⊢; omega)
    obtain rfl := Option.some.inj H
    go_enter Try.func18, Try.ntmps18
    go_wp2
    repeat (go_quiet (fail); try go_wp2)
    go_ret
    exact ⟨by first | rfl | (simp; done) | (simp [*]; done), by repeat (first | exact Drawn0.refl _ | apply Drawn0.step)⟩
def slices_Clone_byte_byte.f (l0 : List Int) : Option (List Int) := if l0.length < 140737488355328 then some l0 else none
set_option maxHeartbeats 1000000 in
theorem slices_Clone_byte_byte.calls (A0 : Option Addr) (c0 : Nat) (l0 : List Int) (r : List Int) (w : World) (hr0 : Kd.C (Kd.int .u8) w A0 l0.length l0) (hc0 : l0.length ≤ c0) (h : slices_Clone_byte_byte.f l0 = some r) :
    Calls Try.prog 55 #[.slice A0 l0.length c0] w fun e w' => ∃ v0_ : Value, e = .returned v0_ ∧ Kd.R (Kd.int .u8) 5 w' w.heap.size (fun _ => True) v0_ r ∧ Below w.heap.size w w' := by
  have HR0 := Aside0.mk hr0
  clear hr0
  unfold slices_Clone_byte_byte.f at h
  split at h
  · rename_i hl
    have HL := Aside0.mk hl
    clear hl
    obtain rfl := Option.some.inj h
    clear h
    cases A0 with
    | none =>
      have hnil : l0 = [] := by
        by_cases e : 0 < l0.length
        · obtain ⟨ad, e1, _⟩ := HR0.out.2.2 e
          cases e1
        · exact List.length_eq_zero_iff.1 (by omega)
      subst hnil
      have hn := fun (w : World) (n c : Nat) => Lib.run_eql_slice_nil_nil (P := Try.prog) w n c Try.underlying22
      go_enter Try.func55, Try.ntmps55
      go_wp2
      go_ret
      exact ⟨_, rfl, Kd.R_nil _ _ _ _ _, Below.refl _ _⟩
    | some a =>
      have hn := fun (w : World) (n c : Nat) => Lib.run_eql_slice_nil (P := Try.prog) w 22 5 (some a) n c 0 0 Try.underlying22
      go_enter Try.func55, Try.ntmps55
      have HB := Aside0.mk (Below.refl w.heap.size w)
      go_wp2_with (first | ((with_reducible refine gate_dst (N := 5) rfl ?_); refine Kd.R_lit (Kd.int .u8) w.heap.size 5 ?hg (N := 5) ?hd (xs := ([] : List Int)) (inner := []) (ok := fun _ => True) (okp := fun _ => True) ?hr ?hp (fun _ hk => hk) trivial HB.out (Nat.le_refl _) (by simp) ?_; (case hd => rfl); (case hg => rfl); (case hr => first | (go_simp; done) | (go_simp; rfl)); (case hp => exact (Reps.none _ _)); intro v1 w1 ho1 hb1 hg1 hnew1; clear hg1 hnew1; have HO1 := Aside0.mk ho1; have HB1 := Aside0.mk hb1; clear ho1 hb1) | ((with_reducible refine gate_builtin (b := .append) (xs := #[.tmp 5, .tmp 6]) rfl ?_); at_builtin; refine Kd.R_append_rows (Kd.int .u8) (w0 := w) w.heap.size rfl (.tmp 5) (.tmp 6) 22 5 (.int .u8 0) 1 rfl Try.underlying22 info5 rfl (by decide) (by omega) v1 [] l0 _ _ _ (fun _ => True) (fun _ => False) rfl rfl ?aO ?aR (fun _ _ h => h) (fun _ h => h.elim) (fun _ _ => trivial) ?aB ?aS ?aL ?_; (case aO => exact HO1.out); (case aR => exact Kd.C_below HR0.out HB1.out); (case aB => exact HB1.out); (case aS => exact below_size HB1.out); (case aL => have := HL.out; simp; omega); intro v2 w2 ho2 hb2 hg2 hat2; clear hg2 hat2; rw [List.nil_append] at ho2; have HO2 := Aside0.mk ho2; have HB2 := Aside0.mk hb2; clear ho2 hb2))
      go_ret
      exact ⟨_, rfl, HO2.out, HB2.out⟩
  · cases h
def bits_Flip.l0 : Nat → List Int → List Int → Int → Int → Option (List Int)
  | 0, _, _, _, _ => none
  | k + 1, x5, x10, x11, x12 => if x12 < x11 then (if 0 ≤ x12 then (if x12 < (x10.length : Int) then (if (rd x10 x12) ≥ 0 then (if (wrap64 (Int.tdiv (rd x10 x12) 8)) < (x5.length : Int) then (if 0 ≤ (wrap64 (Int.tdiv (rd x10 x12) 8)) then (if 0 ≤ (IntKind.u64.wrap (Int.tmod (rd x10 x12) 8)) then (bits_Flip.l0 k (x5.set ((wrap64 (Int.tdiv (rd x10 x12) 8)) : Int).toNat (Go.bits .xor .u8 (rd x5 (wrap64 (Int.tdiv (rd x10 x12) 8))) (shl .u8 1 (IntKind.u64.wrap (Int.tmod (rd x10 x12) 8))))) x10 x11 (wrap64 (x12 + 1))) else (none)) else (none)) else (bits_Flip.l0 k x5 x10 x11 (wrap64 (x12 + 1)))) else (bits_Flip.l0 k x5 x10 x11 (wrap64 (x12 + 1)))) else (none)) else (none)) else (some x5)
def bits_Flip.f (k : Nat) (l0 : List Int) (l1 : List Int) : Option (List Int) := (slices_Clone_byte_byte.f l0).bind fun t103 => (bits_Flip.l0 k t103 l1 (l1.length : Int) 0)
theorem bits_Flip.mono_l : ∀ k, (∀ y0 y1 y2 y3, LeO (bits_Flip.l0 k y0 y1 y2 y3) (bits_Flip.l0 (k + 1) y0 y1 y2 y3))
  | 0 => fun _ _ _ _ r h => by simp [bits_Flip.l0] at h
  | k + 1 => by
    have ih0 := bits_Flip.mono_l k
    · intro y0 y1 y2 y3
      unfold bits_Flip.l0
      repeat' first
      | (with_reducible exact ih0 _ _ _ _)
      | (with_reducible exact LeO.refl _)
      | (with_reducible exact LeO.none _)
      | (with_reducible refine LeO.ite ?_ ?_)
      | (with_reducible refine LeO.bind ?_ (fun _ => ?_))
      | exact ih0 _ _ _ _
      | exact LeO.none _
      | refine LeO.ite ?_ ?_
      | refine LeO.bind ?_ (fun _ => ?_)
theorem bits_Flip.mono : ∀ a0 a1 k, LeO (bits_Flip.f k a0 a1) (bits_Flip.f (k + 1) a0 a1) := by
  intro a0 a1 k
  have ih0 := bits_Flip.mono_l k
  unfold bits_Flip.f
  repeat' first
      | (with_reducible exact ih0 _ _ _ _)
      | (with_reducible exact LeO.refl _)
      | (with_reducible exact LeO.none _)
      | (with_reducible refine LeO.ite ?_ ?_)
      | (with_reducible refine LeO.bind ?_ (fun _ => ?_))
      | exact ih0 _ _ _ _
      | exact LeO.none _
      | refine LeO.ite ?_ ?_
      | refine LeO.bind ?_ (fun _ => ?_)
set_option maxHeartbeats 8000000 in
set_option maxRecDepth 100000 in
theorem bits_Flip.calls (k : Nat) (A0 : Option Addr) (c0 : Nat) (l0 : List Int) (A1 : Option Addr) (c1 : Nat) (l1 : List Int) (r : List Int) (w : World) (hr0 : Kd.C (Kd.int .u8) w A0 l0.length l0) (hc0 : l0.length ≤ c0) (hr1 : Kd.C (Kd.int .i64) w A1 l1.length l1) (hc1 : l1.length ≤ c1) (h : bits_Flip.f k l0 l1 = some r) :
    Calls Try.prog 26 #[.slice A0 l0.length c0, .slice A1 l1.length c1] w fun e w' => ∃ v0_ : Value, e = .returned (v0_) ∧ Kd.R (Kd.int .u8) 5 w' w.heap.size (fun _ => True) v0_ r ∧ Below w.heap.size w w' := by
  have HR0 := Aside0.mk hr0
  have HC0 := Aside0.mk hc0
  clear hr0 hc0
  have HR1 := Aside0.mk hr1
  have HC1 := Aside0.mk hc1
  clear hr1 hc1
  have HB := Aside0.mk (Below.refl w.heap.size w)
  have H : ((slices_Clone_byte_byte.f l0).bind fun t103 => (bits_Flip.l0 k t103 l1 (l1.length : Int) 0)) = some r := h
  clear h
  replace H := Option.bind_eq_some_iff.mp H
  obtain ⟨t103, A30, H⟩ := H
  replace H : (bits_Flip.l0 k t103 l1 (l1.length : Int) 0) = some r := H
  have A3 := Aside0.mk A30
  clear A30
  have H' := Aside0.mk H
  clear H
  go_enter Try.func26, Try.ntmps26
  go_wp2_with (first | ((with_reducible refine gate_callee (f := 55) rfl ?_); refine goesL_ (some 9) rfl rfl Try.func55 (by kernel_rfl) rfl #[.slice A0 l0.length c0] rfl (by (try simp only [List.map_toArray, List.map_cons, List.map_nil]); first | done | rfl | (simp only [List.length_drop, List.length_take]; rfl)) ?_; (with_reducible refine (slices_Clone_byte_byte.calls _ _ l0 t103 _ ?side1 ?side2 A3.out).mono ?_); (case side1 => repeat (first | exact HR0.out | (with_reducible refine Kd.C_alloc ?_ _) | (with_reducible refine Kd.C_drewN ?_ _) | (with_reducible refine Kd.C_drew ?_))); (case side2 => exact HC0.out); rintro e w4 ⟨v104, rfl, ho0, hb⟩; refine ⟨_, rfl, ?_⟩; have n0_ := Aside0.mk (Kd.R_lower ho0 (below_size (by repeat (first | (with_reducible first | exact HB.out | apply below_alloc | apply pw_below_drewN | apply below_drew1) | exact HB.out)))); have n1_ := Aside0.mk (below_step (by repeat (first | (with_reducible first | exact HB.out | apply below_alloc | apply pw_below_drewN | apply below_drew1) | exact HB.out)) hb); clear HB; have HO105 := n0_; have HB := n1_; clear n0_ n1_; (try clear hb); (try clear hb2); (try clear hk); (try clear hi); (try clear ho0)))
  go_loopg [12] k (fun kq v12 w' => ∃ (x5_1 : List Int) (x12_1 : Int), v12 = .int .i64 x12_1 ∧ Aside0 (bits_Flip.l0 kq x5_1 l1 (l1.length : Int) x12_1 = some r) ∧ Aside0 (kq ≤ k) ∧ Aside0 (Kd.R (Kd.int .u8) 5 w' w.heap.size (fun _ => True) v104 x5_1) ∧ Aside0 (Below w.heap.size w w'))
  case atStart => exact ⟨(t103), (0), (by first | rfl | (simp; done) | (simp [*]; done)), H', ⟨Nat.le_refl _⟩, ⟨by (with_reducible repeat (first | apply Kd.R_alloc | apply Kd.R_drewN | apply Kd.R_drew)); exact HO105.out⟩, ⟨by repeat (first | (with_reducible first | exact HB.out | apply below_alloc | apply pw_below_drewN | apply below_drew1) | exact HB.out)⟩⟩
  case round =>
    clear H'
    try clear c1
    try clear c2
    try clear p2
    obtain ⟨x5_1, x12_1, rfl, HA, HK1, HO_5, HB⟩ := hrel
    cases gk with
    | zero => exact absurd HA.out (by simp [bits_Flip.l0])
    | succ k1 =>
      have H := HA.out
      clear HA
      simp only [bits_Flip.l0] at H
      by_cases c5 : x12_1 < (l1.length : Int)
      · rw [if_pos c5] at H
        have c5b0 : decide (x12_1 < (l1.length : Int)) = true := decide_eq_true c5
        clear c5
        by_cases c6 : 0 ≤ x12_1
        · rw [if_pos c6] at H
          have c6b0 : decide (0 ≤ x12_1) = true := decide_eq_true c6
          clear c6
          by_cases c7 : x12_1 < (l1.length : Int)
          · rw [if_pos c7] at H
            have c7b0 : decide (x12_1 < (l1.length : Int)) = true := decide_eq_true c7
            clear c7
            by_cases c8 : (rd l1 x12_1) ≥ 0
            · rw [if_pos c8] at H
              have c8b0 : decide (0 ≤ (rd l1 x12_1)) = true := decide_eq_true c8
              clear c8
              by_cases c9 : (wrap64 (Int.tdiv (rd l1 x12_1) 8)) < (x5_1.length : Int)
              · rw [if_pos c9] at H
                have c9b0 : decide ((wrap64 (Int.tdiv (rd l1 x12_1) 8)) < (x5_1.length : Int)) = true := decide_eq_true c9
                clear c9
                obtain ⟨ji10, hji10⟩ : ∃ j_ : Int, (wrap64 (Int.tdiv (rd l1 x12_1) 8)) = j_ := ⟨_, rfl⟩
                replace H : (if 0 ≤ (ji10) then (if 0 ≤ (IntKind.u64.wrap (Int.tmod (rd l1 x12_1) 8)) then (bits_Flip.l0 k1 (x5_1.set ((ji10) : Int).toNat (Go.bits .xor .u8 (rd x5_1 (ji10)) (shl .u8 1 (IntKind.u64.wrap (Int.tmod (rd l1 x12_1) 8))))) l1 (l1.length : Int) (wrap64 (x12_1 + 1))) else (none)) else (none)) = some r := by first | (rw [hji10] at H; exact H) | (simp only [hji10] at H ⊢; exact H)
                (try rw [hji10] at c9b0)
                have hji10w : (IntKind.i64.wrap (Int.tdiv (rd l1 x12_1) 8)) = ji10 := (i64_w _).trans hji10
                by_cases c11 : 0 ≤ (ji10)
                · rw [if_pos c11] at H
                  have c11b0 : decide (0 ≤ (ji10)) = true := decide_eq_true c11
                  clear c11
                  obtain ⟨ji12, hji12⟩ : ∃ j_ : Int, (IntKind.u64.wrap (Int.tmod (rd l1 x12_1) 8)) = j_ := ⟨_, rfl⟩
                  replace H : (if 0 ≤ (ji12) then (bits_Flip.l0 k1 (x5_1.set ((ji10) : Int).toNat (Go.bits .xor .u8 (rd x5_1 (ji10)) (shl .u8 1 (ji12)))) l1 (l1.length : Int) (wrap64 (x12_1 + 1))) else (none)) = some r := by first | (rw [hji12] at H; exact H) | (simp only [hji12] at H ⊢; exact H)
                  by_cases c13 : 0 ≤ (ji12)
                  · rw [if_pos c13] at H
                    have c13b0 := eq_true c13
                    have c13b1 : decide (0 ≤ (ji12)) = true := decide_eq_true c13
                    clear c13
                    obtain ⟨ji14, hji14⟩ : ∃ j_ : Int, (shl .u8 1 (ji12)) = j_ := ⟨_, rfl⟩
                    replace H : (bits_Flip.l0 k1 (x5_1.set ((ji10) : Int).toNat (Go.bits .xor .u8 (rd x5_1 (ji10)) (ji14))) l1 (l1.length : Int) (wrap64 (x12_1 + 1))) = some r := by first | (rw [hji14] at H; exact H) | (simp only [hji14] at H ⊢; exact H)
                    have hji14_ : (IntKind.u8.wrap (1 * 2 ^ min (ji12).toNat 8)) = ji14 := hji14
                    have hji14z : (ji12) ≤ 8 → (IntKind.u8.wrap (1 * 2 ^ (ji12).toNat)) = ji14 := shl_small hji14
                    have hji14u : (IntKind.u8.wrap (2 ^ min (ji12).toNat 8)) = ji14 := by have h_ := hji14_; rw [Int.one_mul] at h_; exact h_
                    have hji14v : (ji12) ≤ 8 → (IntKind.u8.wrap (2 ^ (ji12).toNat)) = ji14 := fun hle_ => by have h_ := hji14z hle_; rw [Int.one_mul] at h_; exact h_
                    obtain ⟨y108, hy108⟩ : ∃ y_ : List Int, y_ = (x5_1.set ((ji10) : Int).toNat (Go.bits .xor .u8 (rd x5_1 (ji10)) (ji14))) := ⟨_, rfl⟩
                    replace H : (bits_Flip.l0 k1 y108 l1 (l1.length : Int) (wrap64 (x12_1 + 1))) = some r := by first | (rw [hy108]; with_reducible exact H) | (have H2_ := (Option.bind_some _ _).symm.trans H; rw [hy108]; with_reducible exact H2_) | (have H2_ := (Option.bind_some _ _).symm.trans H; with_reducible exact H2_) | with_reducible exact H | (rw [hy108]; exact H) | exact H
                    have Ny108 := Aside0.mk hy108
                    clear hy108
                    have H' := Aside0.mk H
                    clear H
                    have p106 : 0 ≤ (x12_1 : Int) := of_decide_eq_true (by first | (with_reducible assumption) | assumption)
                    have q106 : x12_1 < (l1.length : Int) := of_decide_eq_true (by first | (with_reducible assumption) | assumption)
                    obtain ⟨ad106, e106, hx106_0⟩ := Kd.at_int HR1.out x12_1 p106 q106
                    cases e106
                    replace hx106_0 := (HB.out.cell (World.block_lt_of_cell? w _ hx106_0)).trans hx106_0
                    replace p106 := eq_true p106
                    replace q106 := eq_true q106
                    obtain ⟨Ao16, co16, eo16⟩ := Kd.R_slice HO_5.out
                    subst eo16
                    have p107 : 0 ≤ ((ji10) : Int) := of_decide_eq_true (by first | (with_reducible assumption) | assumption)
                    have q107 : (ji10) < (x5_1.length : Int) := of_decide_eq_true (by first | (with_reducible assumption) | assumption)
                    obtain ⟨ad107, e107, hx107_0⟩ := Kd.at_int (Kd.R_reads' HO_5.out).2.2 (ji10) p107 q107
                    cases e107
                    replace p107 := eq_true p107
                    replace q107 := eq_true q107
                    have p15 : 0 ≤ ((ji10) : Int) := of_decide_eq_true (by first | (with_reducible assumption) | assumption)
                    have q15 : ((ji10) : Int) < ((x5_1.length : Int) : Int) := of_decide_eq_true (by first | (with_reducible assumption) | assumption)
                    obtain ⟨go15, co15, eo15, gb15, gl15, cl15, HG15⟩ := Kd.R_form HO_5.out (by omega)
                    (first | cases eo15 | (injection eo15 with ea_ en_ ec_; (first | subst ea_ | (injection ea_ with ea_; subst ea_)); subst ec_; clear en_))
                    have GB15 := Aside0.mk gb15
                    have GG15 := Aside0.mk HG15
                    clear gb15 gl15 HG15
                    (first | simp only [add_plain] at hx107_0 | skip)
                    obtain ⟨hx15_0, hf15_0⟩ := Kd.R_celln 0 HO_5.out ((ji10) : Int) p15 q15
                    replace p15 := eq_true p15
                    replace q15 := eq_true q15
                    have HP17 := Kd.R_putg HO_5.out ((ji10) : Int) (Go.bits .xor .u8 (rd x5_1 (ji10)) (ji14))
                    go_wp2_with (first | ((with_reducible refine gate_store (t := 5) (p := 35) rfl ?_); refine store_event (t := 5) (p := 35) (v := ?vo_w18) (w1 := (wr.setCell ⟨go15, ((ji10) : Int).toNat, none⟩ (.int .u8 (Go.bits .xor .u8 (rd x5_1 (ji10)) (ji14))))) ?hg ?ho ?hn ?hr ?_; (case ho => rfl); (case hg => rfl); (case hn => rfl); (case hr => first | (go_simp; done) | (go_simp; rfl)); intro w18 hw; have hg : wr.grownBy w18 (some go15) := (by rw [hw]; exact HP17.2); have hp_ : Kd.R (Kd.int .u8) 5 w18 w.heap.size (fun _ => True) (.slice (some ⟨go15, 0, none⟩) x5_1.length co16) y108 := (by rw [hw, Ny108.out]; exact HP17.1); clear HP17; have n0_ := Aside0.mk (hp_); have n1_ := Aside0.mk ((by rw [hw]; exact below_set (HB.out) GB15.out : Below w.heap.size w w18)); clear HO_5; clear HB; have HO_5 := n0_; have HB := n1_; clear n0_ n1_; clear hg hw hp_))
                    go_roundg k1
                    case measure => have := HK1.out; omega
                    case rel => exact ⟨(y108), (wrap64 (x12_1 + 1)), (by first | rfl | (simp; done) | (simp [*]; done)), H', ⟨by have := HK1.out; omega⟩, ⟨by (with_reducible repeat (first | apply Kd.R_alloc | apply Kd.R_drewN | apply Kd.R_drew)); exact HO_5.out⟩, ⟨by repeat (first | (with_reducible first | exact HB.out | apply below_alloc | apply pw_below_drewN | apply below_drew1) | exact HB.out)⟩⟩
                  · rw [if_neg c13] at H
                    exact absurd H (by simp)
                · rw [if_neg c11] at H
                  exact absurd H (by simp)
              · rw [if_neg c9] at H
                have c9b0 : decide ((wrap64 (Int.tdiv (rd l1 x12_1) 8)) < (x5_1.length : Int)) = false := decide_eq_false c9
                clear c9
                have H' := Aside0.mk H
                clear H
                have p106 : 0 ≤ (x12_1 : Int) := of_decide_eq_true (by first | (with_reducible assumption) | assumption)
                have q106 : x12_1 < (l1.length : Int) := of_decide_eq_true (by first | (with_reducible assumption) | assumption)
                obtain ⟨ad106, e106, hx106_0⟩ := Kd.at_int HR1.out x12_1 p106 q106
                cases e106
                replace hx106_0 := (HB.out.cell (World.block_lt_of_cell? w _ hx106_0)).trans hx106_0
                replace p106 := eq_true p106
                replace q106 := eq_true q106
                obtain ⟨Ao19, co19, eo19⟩ := Kd.R_slice HO_5.out
                subst eo19
                go_wp2
                go_roundg k1
                case measure => have := HK1.out; omega
                case rel => exact ⟨(x5_1), (wrap64 (x12_1 + 1)), (by first | rfl | (simp; done) | (simp [*]; done)), H', ⟨by have := HK1.out; omega⟩, ⟨by (with_reducible repeat (first | apply Kd.R_alloc | apply Kd.R_drewN | apply Kd.R_drew)); exact HO_5.out⟩, ⟨by repeat (first | (with_reducible first | exact HB.out | apply below_alloc | apply pw_below_drewN | apply below_drew1) | exact HB.out)⟩⟩
            · rw [if_neg c8] at H
              have c8b0 : decide (0 ≤ (rd l1 x12_1)) = false := decide_eq_false c8
              clear c8
              have H' := Aside0.mk H
              clear H
              have p106 : 0 ≤ (x12_1 : Int) := of_decide_eq_true (by first | (with_reducible assumption) | assumption)
              have q106 : x12_1 < (l1.length : Int) := of_decide_eq_true (by first | (with_reducible assumption) | assumption)
              obtain ⟨ad106, e106, hx106_0⟩ := Kd.at_int HR1.out x12_1 p106 q106
              cases e106
              replace hx106_0 := (HB.out.cell (World.block_lt_of_cell? w _ hx106_0)).trans hx106_0
              replace p106 := eq_true p106
              replace q106 := eq_true q106
              go_wp2
              go_roundg k1
              case measure => have := HK1.out; omega
              case rel => exact ⟨(x5_1), (wrap64 (x12_1 + 1)), (by first | rfl | (simp; done) | (simp [*]; done)), H', ⟨by have := HK1.out; omega⟩, ⟨by (with_reducible repeat (first | apply Kd.R_alloc | apply Kd.R_drewN | apply Kd.R_drew)); exact HO_5.out⟩, ⟨by repeat (first | (with_reducible first | exact HB.out | apply below_alloc | apply pw_below_drewN | apply below_drew1) | exact HB.out)⟩⟩
          · rw [if_neg c7] at H
            exact absurd H (by simp)
        · rw [if_neg c6] at H
          exact absurd H (by simp)
      · rw [if_neg c5] at H
        have c5b0 : decide (x12_1 < (l1.length : Int)) = false := decide_eq_false c5
        clear c5
        obtain rfl := Option.some.inj H
        go_wp2
        go_ret
        exact ⟨_, by first | rfl | (simp [errW_none, errW_some] <;> rfl) | (simp [*, errW_none, errW_some] <;> rfl), by (with_reducible repeat (first | apply Kd.R_alloc | apply Kd.R_drewN | apply Kd.R_drew)); exact HO_5.out, by repeat (first | (with_reducible first | exact HB.out | apply below_alloc | apply pw_below_drewN | apply below_drew1) | exact HB.out)⟩
def incunablelaw01_awake.f (k : Nat)  : Option (Bool) := (bits_Flip.f k (([0, 0] : List Int)) (([9] : List Int))).bind fun t115 => ((incunableref01_Same.f k t115 (([0, 2] : List Int))).bind fun t121 => (some t121))
theorem incunablelaw01_awake.mono : ∀ k, LeO (incunablelaw01_awake.f k ) (incunablelaw01_awake.f (k + 1) ) := by
  intro  k
  unfold incunablelaw01_awake.f
  repeat' first
      | (with_reducible exact bits_Flip.mono _ _ _)
      | (with_reducible exact incunableref01_Same.mono _ _ _)
      | (with_reducible exact LeO.refl _)
      | (with_reducible exact LeO.none _)
      | (with_reducible refine LeO.ite ?_ ?_)
      | (with_reducible refine LeO.bind ?_ (fun _ => ?_))
      | exact bits_Flip.mono _ _ _
      | exact incunableref01_Same.mono _ _ _
      | exact LeO.none _
      | refine LeO.ite ?_ ?_
      | refine LeO.bind ?_ (fun _ => ?_)
set_option maxHeartbeats 8000000 in
set_option maxRecDepth 100000 in
theorem incunablelaw01_awake.calls (k : Nat)  (r : Bool) (w : World) (h : incunablelaw01_awake.f k  = some r) :
    Calls Try.prog 22 #[] w fun e w' => e = .returned (.bool r) ∧ Below w.heap.size w w' := by
  have HB := Aside0.mk (Below.refl w.heap.size w)
  have H : ((bits_Flip.f k (([0, 0] : List Int)) (([9] : List Int))).bind fun t115 => ((incunableref01_Same.f k t115 (([0, 2] : List Int))).bind fun t121 => (some t121))) = some r := h
  clear h
  obtain ⟨y109, hy109⟩ : ∃ y_ : List Int, y_ = (([0, 0] : List Int)) := ⟨_, rfl⟩
  replace H : ((bits_Flip.f k y109 (([9] : List Int))).bind fun t115 => ((incunableref01_Same.f k t115 (([0, 2] : List Int))).bind fun t121 => (some t121))) = some r := by first | (rw [hy109]; with_reducible exact H) | (have H2_ := (Option.bind_some _ _).symm.trans H; rw [hy109]; with_reducible exact H2_) | (have H2_ := (Option.bind_some _ _).symm.trans H; with_reducible exact H2_) | with_reducible exact H | (rw [hy109]; exact H) | exact H
  have Ny109 := Aside0.mk hy109
  clear hy109
  obtain ⟨y112, hy112⟩ : ∃ y_ : List Int, y_ = (([9] : List Int)) := ⟨_, rfl⟩
  replace H : ((bits_Flip.f k y109 y112).bind fun t115 => ((incunableref01_Same.f k t115 (([0, 2] : List Int))).bind fun t121 => (some t121))) = some r := by first | (rw [hy112]; with_reducible exact H) | (have H2_ := (Option.bind_some _ _).symm.trans H; rw [hy112]; with_reducible exact H2_) | (have H2_ := (Option.bind_some _ _).symm.trans H; with_reducible exact H2_) | with_reducible exact H | (rw [hy112]; exact H) | exact H
  have Ny112 := Aside0.mk hy112
  clear hy112
  replace H := Option.bind_eq_some_iff.mp H
  obtain ⟨t115, A10, H⟩ := H
  replace H : ((incunableref01_Same.f k t115 (([0, 2] : List Int))).bind fun t121 => (some t121)) = some r := H
  have A1 := Aside0.mk A10
  clear A10
  obtain ⟨y118, hy118⟩ : ∃ y_ : List Int, y_ = (([0, 2] : List Int)) := ⟨_, rfl⟩
  replace H : ((incunableref01_Same.f k t115 y118).bind fun t121 => (some t121)) = some r := by first | (rw [hy118]; with_reducible exact H) | (have H2_ := (Option.bind_some _ _).symm.trans H; rw [hy118]; with_reducible exact H2_) | (have H2_ := (Option.bind_some _ _).symm.trans H; with_reducible exact H2_) | with_reducible exact H | (rw [hy118]; exact H) | exact H
  have Ny118 := Aside0.mk hy118
  clear hy118
  replace H := Option.bind_eq_some_iff.mp H
  obtain ⟨t121, A20, H⟩ := H
  replace H : (some t121) = some r := H
  have A2 := Aside0.mk A20
  clear A20
  obtain rfl := Option.some.inj H
  go_enter Try.func22, Try.ntmps22
  go_wp2_with (first | ((with_reducible refine gate_dst (N := 1) rfl ?_); refine Kd.R_lit (Kd.int .u8) _ 5 ?hg (N := 1) ?hd (xs := ([0, 0] : List Int)) (inner := [.int .u8 0, .int .u8 0]) (ok := fun _ => True) (okp := fun _ => True) ?hr ?hp (fun _ hk => hk) trivial (Below.refl _ _) (Nat.le_refl _) (by simp) ?_; (case hd => rfl); (case hg => rfl); (case hr => first | (go_simp; done) | (go_simp; rfl)); (case hp => exact (Reps.one (show Kd.M (Kd.int .u8) _ _ _ 0 [.int .u8 0] from rfl) (Reps.one (show Kd.M (Kd.int .u8) _ _ _ 0 [.int .u8 0] from rfl) (Reps.none _ _)))); intro v110 w3 ho4 hb hg_ hnew_; clear hg_ hnew_; (first | rw [← Ny109.out] at ho4 | (simp only [Int.reduceToNat] at ho4; rw [← Ny109.out] at ho4)); have n0_ := Aside0.mk (Kd.R_lower ho4 (below_size (by repeat (first | (with_reducible first | exact HB.out | apply below_alloc | apply pw_below_drewN | apply below_drew1) | exact HB.out)))); have n1_ := Aside0.mk (below_step (by repeat (first | (with_reducible first | exact HB.out | apply below_alloc | apply pw_below_drewN | apply below_drew1) | exact HB.out)) hb); clear HB; have HO111 := n0_; have HB := n1_; clear n0_ n1_; clear hb ho4) | ((with_reducible refine gate_dst (N := 2) rfl ?_); refine Kd.R_lit (Kd.int .i64) _ 3 ?hg (N := 2) ?hd (xs := ([9] : List Int)) (inner := [.int .i64 9]) (ok := fun _ => True) (okp := fun _ => True) ?hr ?hp (fun _ hk => hk) trivial (Below.refl _ _) (Nat.le_refl _) (by simp) ?_; (case hd => rfl); (case hg => rfl); (case hr => first | (go_simp; done) | (go_simp; rfl)); (case hp => exact (Reps.one (show Kd.M (Kd.int .i64) _ _ _ 9 [.int .i64 9] from rfl) (Reps.none _ _))); intro v113 w5 ho6 hb hg_ hnew_; clear hg_ hnew_; (first | rw [← Ny112.out] at ho6 | (simp only [Int.reduceToNat] at ho6; rw [← Ny112.out] at ho6)); have n0_ := Aside0.mk (Kd.R_below (by (with_reducible repeat (first | apply Kd.R_alloc | apply Kd.R_drewN | apply Kd.R_drew)); exact HO111.out) hb); have n1_ := Aside0.mk (Kd.R_lower ho6 (below_size (by repeat (first | (with_reducible first | exact HB.out | apply below_alloc | apply pw_below_drewN | apply below_drew1) | exact HB.out)))); have n2_ := Aside0.mk (below_step (by repeat (first | (with_reducible first | exact HB.out | apply below_alloc | apply pw_below_drewN | apply below_drew1) | exact HB.out)) hb); clear HO111; clear HB; have HO111 := n0_; have HO114 := n1_; have HB := n2_; clear n0_ n1_ n2_; clear hb ho6; obtain ⟨Ao7, co7, eo7⟩ := Kd.R_slice HO111.out; subst eo7; obtain ⟨Ao8, co8, eo8⟩ := Kd.R_slice HO114.out; subst eo8) | ((with_reducible refine gate_callee (f := 26) rfl ?_); refine goesL_ (some 3) rfl rfl Try.func26 (by kernel_rfl) rfl #[.slice Ao7 y109.length co7, .slice Ao8 y112.length co8] rfl (by (try simp only [List.map_toArray, List.map_cons, List.map_nil]); first | done | rfl | (simp only [List.length_drop, List.length_take]; rfl)) ?_; (with_reducible refine (bits_Flip.calls k _ _ y109 _ _ y112 t115 _ ?side1 ?side2 ?side3 ?side4 A1.out).mono ?_); (case side1 => repeat (first | exact (Kd.R_reads' HO111.out).2.2 | (with_reducible refine Kd.C_alloc ?_ _) | (with_reducible refine Kd.C_drewN ?_ _) | (with_reducible refine Kd.C_drew ?_))); (case side2 => exact (Kd.R_reads' HO111.out).2.1); (case side3 => repeat (first | exact (Kd.R_reads' HO114.out).2.2 | (with_reducible refine Kd.C_alloc ?_ _) | (with_reducible refine Kd.C_drewN ?_ _) | (with_reducible refine Kd.C_drew ?_))); (case side4 => exact (Kd.R_reads' HO114.out).2.1); rintro e w9 ⟨v116, rfl, ho0, hb⟩; refine ⟨_, rfl, ?_⟩; have n0_ := Aside0.mk (Kd.R_elder' (by (with_reducible repeat (first | apply Kd.R_alloc | apply Kd.R_drewN | apply Kd.R_drew)); exact HO111.out) (Kd.R_base ho0) hb); have n1_ := Aside0.mk (Kd.R_below (by (with_reducible repeat (first | apply Kd.R_alloc | apply Kd.R_drewN | apply Kd.R_drew)); exact HO114.out) hb); have n2_ := Aside0.mk (Kd.R_lower (Kd.R_new' ho0 (Kd.R_lt (by (with_reducible repeat (first | apply Kd.R_alloc | apply Kd.R_drewN | apply Kd.R_drew)); exact HO111.out))) (below_size (by repeat (first | (with_reducible first | exact HB.out | apply below_alloc | apply pw_below_drewN | apply below_drew1) | exact HB.out)))); have n3_ := Aside0.mk (below_step (by repeat (first | (with_reducible first | exact HB.out | apply below_alloc | apply pw_below_drewN | apply below_drew1) | exact HB.out)) hb); clear HO111; clear HO114; clear HB; have HO111 := n0_; have HO114 := n1_; have HO117 := n2_; have HB := n3_; clear n0_ n1_ n2_ n3_; (try clear hb); (try clear hb2); (try clear hk); (try clear hi); (try clear ho0)) | ((with_reducible refine gate_dst (N := 4) rfl ?_); refine Kd.R_lit (Kd.int .u8) _ 5 ?hg (N := 4) ?hd (xs := ([0, 2] : List Int)) (inner := [.int .u8 0, .int .u8 2]) (ok := fun _ => True) (okp := fun _ => True) ?hr ?hp (fun _ hk => hk) trivial (Below.refl _ _) (Nat.le_refl _) (by simp) ?_; (case hd => rfl); (case hg => rfl); (case hr => first | (go_simp; done) | (go_simp; rfl)); (case hp => exact (Reps.one (show Kd.M (Kd.int .u8) _ _ _ 0 [.int .u8 0] from rfl) (Reps.one (show Kd.M (Kd.int .u8) _ _ _ 2 [.int .u8 2] from rfl) (Reps.none _ _)))); intro v119 w10 ho11 hb hg_ hnew_; clear hg_ hnew_; (first | rw [← Ny118.out] at ho11 | (simp only [Int.reduceToNat] at ho11; rw [← Ny118.out] at ho11)); have n0_ := Aside0.mk (Kd.R_elder' (by (with_reducible repeat (first | apply Kd.R_alloc | apply Kd.R_drewN | apply Kd.R_drew)); exact HO111.out) (Kd.R_base ho11) hb); have n1_ := Aside0.mk (Kd.R_below (by (with_reducible repeat (first | apply Kd.R_alloc | apply Kd.R_drewN | apply Kd.R_drew)); exact HO114.out) hb); have n2_ := Aside0.mk (Kd.R_elder' (by (with_reducible repeat (first | apply Kd.R_alloc | apply Kd.R_drewN | apply Kd.R_drew)); exact HO117.out) (Kd.R_base ho11) hb); have n3_ := Aside0.mk (Kd.R_lower (Kd.R_new' (Kd.R_new' ho11 (Kd.R_lt (by (with_reducible repeat (first | apply Kd.R_alloc | apply Kd.R_drewN | apply Kd.R_drew)); exact HO111.out))) (Kd.R_lt (by (with_reducible repeat (first | apply Kd.R_alloc | apply Kd.R_drewN | apply Kd.R_drew)); exact HO117.out))) (below_size (by repeat (first | (with_reducible first | exact HB.out | apply below_alloc | apply pw_below_drewN | apply below_drew1) | exact HB.out)))); have n4_ := Aside0.mk (below_step (by repeat (first | (with_reducible first | exact HB.out | apply below_alloc | apply pw_below_drewN | apply below_drew1) | exact HB.out)) hb); clear HO111; clear HO114; clear HO117; clear HB; have HO111 := n0_; have HO114 := n1_; have HO117 := n2_; have HO120 := n3_; have HB := n4_; clear n0_ n1_ n2_ n3_ n4_; clear hb ho11; obtain ⟨Ao12, co12, eo12⟩ := Kd.R_slice HO117.out; subst eo12; obtain ⟨Ao13, co13, eo13⟩ := Kd.R_slice HO120.out; subst eo13) | ((with_reducible refine gate_callee (f := 18) rfl ?_); refine goesL_ (some 5) rfl rfl Try.func18 (by kernel_rfl) rfl #[.slice Ao12 t115.length co12, .slice Ao13 y118.length co13] rfl (by (try simp only [List.map_toArray, List.map_cons, List.map_nil]); first | done | rfl | (simp only [List.length_drop, List.length_take]; rfl)) ?_; (with_reducible refine (incunableref01_Same.calls k _ _ t115 _ _ y118 t121 _ ?side1 ?side2 ?side3 ?side4 A2.out).mono ?_); (case side1 => repeat (first | exact (Kd.R_reads' HO117.out).2.2 | (with_reducible refine Kd.C_alloc ?_ _) | (with_reducible refine Kd.C_drewN ?_ _) | (with_reducible refine Kd.C_drew ?_))); (case side2 => exact (Kd.R_reads' HO117.out).2.1); (case side3 => repeat (first | exact (Kd.R_reads' HO120.out).2.2 | (with_reducible refine Kd.C_alloc ?_ _) | (with_reducible refine Kd.C_drewN ?_ _) | (with_reducible refine Kd.C_drew ?_))); (case side4 => exact (Kd.R_reads' HO120.out).2.1); rintro e w' ⟨rfl, ⟨nd, rfl⟩⟩; refine ⟨_, rfl, ?_⟩))
  go_ret
  exact ⟨by first | rfl | (simp [errW_none, errW_some] <;> rfl) | (simp [*, errW_none, errW_some] <;> rfl) | (have hz_ : ∀ z : Int, -9223372036854775808 ≤ z → z ≤ 9223372036854775807 → wrap64 z = z := (fun z h1_ h2_ => by unfold wrap64; omega); rw [hz_] <;> first | rfl | omega), by repeat (first | (with_reducible first | exact HB.out | apply below_alloc | apply pw_below_drewN | apply below_drew1) | exact HB.out)⟩
def incunablelaw01_many.l0 : Nat → List (List Int) → Int → Int → Option (Bool)
  | 0, _, _, _ => none
  | k + 1, x5, x6, x7 => if x7 < x6 then (if 0 ≤ x7 then (if x7 < (x5.length : Int) then (if ((rd_L1 x5 x7).length : Int) > 500 then (some true) else (incunablelaw01_many.l0 k x5 x6 (wrap64 (x7 + 1)))) else (none)) else (none)) else (some false)
def incunablelaw01_many.f (k : Nat) (l0 : List (List Int)) : Option (Bool) := incunablelaw01_many.l0 k l0 (l0.length : Int) 0
theorem incunablelaw01_many.mono_l : ∀ k, (∀ y0 y1 y2, LeO (incunablelaw01_many.l0 k y0 y1 y2) (incunablelaw01_many.l0 (k + 1) y0 y1 y2))
  | 0 => fun _ _ _ r h => by simp [incunablelaw01_many.l0] at h
  | k + 1 => by
    have ih0 := incunablelaw01_many.mono_l k
    · intro y0 y1 y2
      unfold incunablelaw01_many.l0
      repeat' first
      | (with_reducible exact ih0 _ _ _)
      | (with_reducible exact LeO.refl _)
      | (with_reducible exact LeO.none _)
      | (with_reducible refine LeO.ite ?_ ?_)
      | (with_reducible refine LeO.bind ?_ (fun _ => ?_))
      | exact ih0 _ _ _
      | exact LeO.none _
      | refine LeO.ite ?_ ?_
      | refine LeO.bind ?_ (fun _ => ?_)
theorem incunablelaw01_many.mono : ∀ a0 k, LeO (incunablelaw01_many.f k a0) (incunablelaw01_many.f (k + 1) a0) := by
  intro a0 k
  have ih0 := incunablelaw01_many.mono_l k
  unfold incunablelaw01_many.f
  repeat' first
      | (with_reducible exact ih0 _ _ _)
      | (with_reducible exact LeO.refl _)
      | (with_reducible exact LeO.none _)
      | (with_reducible refine LeO.ite ?_ ?_)
      | (with_reducible refine LeO.bind ?_ (fun _ => ?_))
      | exact ih0 _ _ _
      | exact LeO.none _
      | refine LeO.ite ?_ ?_
      | refine LeO.bind ?_ (fun _ => ?_)
set_option maxHeartbeats 8000000 in
set_option maxRecDepth 100000 in
theorem incunablelaw01_many.calls (k : Nat) (A0 : Option Addr) (c0 : Nat) (l0 : List (List Int)) (r : Bool) (w : World) (hr0 : Kd.C (Kd.slice 5 (Kd.int .u8)) w A0 l0.length l0) (hc0 : l0.length ≤ c0) (h : incunablelaw01_many.f k l0 = some r) :
    Calls Try.prog 23 #[.slice A0 l0.length c0] w fun e w' => e = .returned (.bool r) ∧ Drawn0 w w' := by
  have HR0 := Aside0.mk hr0
  have HC0 := Aside0.mk hc0
  clear hr0 hc0
  have H : (incunablelaw01_many.l0 k l0 (l0.length : Int) 0) = some r := h
  clear h
  have H' := Aside0.mk H
  clear H
  go_enter Try.func23, Try.ntmps23
  go_wp2
  go_loopg [7] k (fun kq v7 w' => ∃ (x7_1 : Int), v7 = .int .i64 x7_1 ∧ Aside0 (incunablelaw01_many.l0 kq l0 (l0.length : Int) x7_1 = some r) ∧ Aside0 (kq ≤ k) ∧ Drawn0 w w')
  case atStart => exact ⟨(0), (by first | rfl | (simp; done) | (simp [*]; done)), H', ⟨Nat.le_refl _⟩, by repeat (first | exact Drawn0.refl _ | apply Drawn0.step)⟩
  case round =>
    clear H'
    obtain ⟨x7_1, rfl, HA, HK1, ⟨m1, rfl⟩⟩ := hrel
    cases gk with
    | zero => exact absurd HA.out (by simp [incunablelaw01_many.l0])
    | succ k1 =>
      have H := HA.out
      clear HA
      simp only [incunablelaw01_many.l0] at H
      by_cases c2 : x7_1 < (l0.length : Int)
      · rw [if_pos c2] at H
        have c2b0 : decide (x7_1 < (l0.length : Int)) = true := decide_eq_true c2
        clear c2
        by_cases c3 : 0 ≤ x7_1
        · rw [if_pos c3] at H
          have c3b0 : decide (0 ≤ x7_1) = true := decide_eq_true c3
          clear c3
          by_cases c4 : x7_1 < (l0.length : Int)
          · rw [if_pos c4] at H
            have c4b0 : decide (x7_1 < (l0.length : Int)) = true := decide_eq_true c4
            clear c4
            by_cases c5 : ((rd_L1 l0 x7_1).length : Int) > 500
            · rw [if_pos c5] at H
              have c5b0 : decide (500 < ((rd_L1 l0 x7_1).length : Int)) = true := decide_eq_true c5
              have c5b1 : decide (500 < (rd_L1 l0 x7_1).length) = true := decide_eq_true (by omega)
              clear c5
              obtain rfl := Option.some.inj H
              have p122 : 0 ≤ (x7_1 : Int) := of_decide_eq_true (by first | (with_reducible assumption) | assumption)
              have q122 : x7_1 < (l0.length : Int) := of_decide_eq_true (by first | (with_reducible assumption) | assumption)
              obtain ⟨ad122, A122_0, c122_0, e122, hx122_0, hl122_0, hi122_0⟩ := at_L1 HR0.out x7_1 p122 q122
              cases e122
              have HR122_0 := Aside0.mk hi122_0
              have HC122_0 := Aside0.mk hl122_0
              clear hi122_0 hl122_0
              replace p122 := eq_true p122
              replace q122 := eq_true q122
              go_wp2
              go_ret
              exact ⟨by first | rfl | (simp; done) | (simp [*]; done), by repeat (first | exact Drawn0.refl _ | apply Drawn0.step)⟩
            · rw [if_neg c5] at H
              have c5b0 : decide (500 < ((rd_L1 l0 x7_1).length : Int)) = false := decide_eq_false c5
              have c5b1 : decide (500 < (rd_L1 l0 x7_1).length) = false := decide_eq_false (by omega)
              clear c5
              have H' := Aside0.mk H
              clear H
              have p122 : 0 ≤ (x7_1 : Int) := of_decide_eq_true (by first | (with_reducible assumption) | assumption)
              have q122 : x7_1 < (l0.length : Int) := of_decide_eq_true (by first | (with_reducible assumption) | assumption)
              obtain ⟨ad122, A122_0, c122_0, e122, hx122_0, hl122_0, hi122_0⟩ := at_L1 HR0.out x7_1 p122 q122
              cases e122
              have HR122_0 := Aside0.mk hi122_0
              have HC122_0 := Aside0.mk hl122_0
              clear hi122_0 hl122_0
              replace p122 := eq_true p122
              replace q122 := eq_true q122
              go_wp2
              go_roundg k1
              case measure => have := HK1.out; omega
              case rel => exact ⟨(wrap64 (x7_1 + 1)), (by first | rfl | (simp; done) | (simp [*]; done)), H', ⟨by have := HK1.out; omega⟩, by repeat (first | exact Drawn0.refl _ | apply Drawn0.step)⟩
          · rw [if_neg c4] at H
            exact absurd H (by simp)
        · rw [if_neg c3] at H
          exact absurd H (by simp)
      · rw [if_neg c2] at H
        have c2b0 : decide (x7_1 < (l0.length : Int)) = false := decide_eq_false c2
        clear c2
        obtain rfl := Option.some.inj H
        go_wp2
        go_ret
        exact ⟨by first | rfl | (simp; done) | (simp [*]; done), by repeat (first | exact Drawn0.refl _ | apply Drawn0.step)⟩
def bits_Get.f (l0 : List Int) (a1 : Int) : Option (Bool) := if a1 ≥ 0 then (if (wrap64 (Int.tdiv a1 8)) < (l0.length : Int) then (if 0 ≤ (wrap64 (Int.tdiv a1 8)) then (if 0 ≤ (IntKind.u64.wrap (Int.tmod a1 8)) then (some ((Go.bits .and .u8 (shr .u8 (rd l0 (wrap64 (Int.tdiv a1 8))) (IntKind.u64.wrap (Int.tmod a1 8))) 1) == 1)) else (none)) else (none)) else (some false)) else (some false)
set_option maxHeartbeats 8000000 in
set_option maxRecDepth 100000 in
theorem bits_Get.calls (A0 : Option Addr) (c0 : Nat) (l0 : List Int) (a1 : Int) (r : Bool) (w : World) (hr0 : Kd.C (Kd.int .u8) w A0 l0.length l0) (hc0 : l0.length ≤ c0) (h : bits_Get.f l0 a1 = some r) :
    Calls Try.prog 24 #[.slice A0 l0.length c0, .int .i64 a1] w fun e w' => e = .returned (.bool r) ∧ Drawn0 w w' := by
  have HR0 := Aside0.mk hr0
  have HC0 := Aside0.mk hc0
  clear hr0 hc0
  have H : (if a1 ≥ 0 then (if (wrap64 (Int.tdiv a1 8)) < (l0.length : Int) then (if 0 ≤ (wrap64 (Int.tdiv a1 8)) then (if 0 ≤ (IntKind.u64.wrap (Int.tmod a1 8)) then (some ((Go.bits .and .u8 (shr .u8 (rd l0 (wrap64 (Int.tdiv a1 8))) (IntKind.u64.wrap (Int.tmod a1 8))) 1) == 1)) else (none)) else (none)) else (some false)) else (some false)) = some r := h
  clear h
  by_cases c3 : a1 ≥ 0
  · rw [if_pos c3] at H
    have c3b0 : decide (0 ≤ a1) = true := decide_eq_true c3
    clear c3
    by_cases c4 : (wrap64 (Int.tdiv a1 8)) < (l0.length : Int)
    · rw [if_pos c4] at H
      have c4b0 : decide ((wrap64 (Int.tdiv a1 8)) < (l0.length : Int)) = true := decide_eq_true c4
      clear c4
      obtain ⟨ji5, hji5⟩ : ∃ j_ : Int, (wrap64 (Int.tdiv a1 8)) = j_ := ⟨_, rfl⟩
      replace H : (if 0 ≤ (ji5) then (if 0 ≤ (IntKind.u64.wrap (Int.tmod a1 8)) then (some ((Go.bits .and .u8 (shr .u8 (rd l0 (ji5)) (IntKind.u64.wrap (Int.tmod a1 8))) 1) == 1)) else (none)) else (none)) = some r := by first | (rw [hji5] at H; exact H) | (simp only [hji5] at H ⊢; exact H)
      (try rw [hji5] at c4b0)
      have hji5w : (IntKind.i64.wrap (Int.tdiv a1 8)) = ji5 := (i64_w _).trans hji5
      by_cases c6 : 0 ≤ (ji5)
      · rw [if_pos c6] at H
        have c6b0 : decide (0 ≤ (ji5)) = true := decide_eq_true c6
        clear c6
        obtain ⟨ji7, hji7⟩ : ∃ j_ : Int, (IntKind.u64.wrap (Int.tmod a1 8)) = j_ := ⟨_, rfl⟩
        replace H : (if 0 ≤ (ji7) then (some ((Go.bits .and .u8 (shr .u8 (rd l0 (ji5)) (ji7)) 1) == 1)) else (none)) = some r := by first | (rw [hji7] at H; exact H) | (simp only [hji7] at H ⊢; exact H)
        by_cases c8 : 0 ≤ (ji7)
        · rw [if_pos c8] at H
          have c8b0 := eq_true c8
          have c8b1 : decide (0 ≤ (ji7)) = true := decide_eq_true c8
          clear c8
          obtain ⟨ji9, hji9⟩ : ∃ j_ : Int, (shr .u8 (rd l0 (ji5)) (ji7)) = j_ := ⟨_, rfl⟩
          replace H : (some ((Go.bits .and .u8 (ji9) 1) == 1)) = some r := by first | (rw [hji9] at H; exact H) | (simp only [hji9] at H ⊢; exact H)
          have hji9_ : ((rd l0 (ji5)) / 2 ^ min (ji7).toNat 8) = ji9 := hji9
          have hji9z : (ji7) ≤ 8 → ((rd l0 (ji5)) / 2 ^ (ji7).toNat) = ji9 := shr_small hji9
          obtain rfl := Option.some.inj H
          have p123 : 0 ≤ ((ji5) : Int) := of_decide_eq_true (by first | (with_reducible assumption) | assumption)
          have q123 : (ji5) < (l0.length : Int) := of_decide_eq_true (by first | (with_reducible assumption) | assumption)
          obtain ⟨ad123, e123, hx123_0⟩ := Kd.at_int HR0.out (ji5) p123 q123
          cases e123
          replace p123 := eq_true p123
          replace q123 := eq_true q123
          go_enter Try.func24, Try.ntmps24
          go_wp2
          go_ret
          exact ⟨by first | rfl | (simp; done) | (simp only [← hji5, ← hji7, ← hji9] <;> (first | rfl | simp)) | (simp [*]; done), by repeat (first | exact Drawn0.refl _ | apply Drawn0.step)⟩
        · rw [if_neg c8] at H
          exact absurd H (by simp)
      · rw [if_neg c6] at H
        exact absurd H (by simp)
    · rw [if_neg c4] at H
      have c4b0 : decide ((wrap64 (Int.tdiv a1 8)) < (l0.length : Int)) = false := decide_eq_false c4
      clear c4
      obtain rfl := Option.some.inj H
      go_enter Try.func24, Try.ntmps24
      go_wp2
      go_ret
      exact ⟨by first | rfl | (simp; done) | (simp [*]; done), by repeat (first | exact Drawn0.refl _ | apply Drawn0.step)⟩
  · rw [if_neg c3] at H
    have c3b0 : decide (0 ≤ a1) = false := decide_eq_false c3
    clear c3
    obtain rfl := Option.some.inj H
    go_enter Try.func24, Try.ntmps24
    go_wp2
    go_ret
    exact ⟨by first | rfl | (simp; done) | (simp [*]; done), by repeat (first | exact Drawn0.refl _ | apply Drawn0.step)⟩
def bits_OnesCount8.f (a0 : Int) : Option (Int) := if 0 ≤ a0 then (if a0 < 256 then (some (wrap64 (bt (⟨#[0, 1, 1, 2, 1, 2, 2, 3, 1, 2, 2, 3, 2, 3, 3, 4, 1, 2, 2, 3, 2, 3, 3, 4, 2, 3, 3, 4, 3, 4, 4, 5, 1, 2, 2, 3, 2, 3, 3, 4, 2, 3, 3, 4, 3, 4, 4, 5, 2, 3, 3, 4, 3, 4, 4, 5, 3, 4, 4, 5, 4, 5, 5, 6, 1, 2, 2, 3, 2, 3, 3, 4, 2, 3, 3, 4, 3, 4, 4, 5, 2, 3, 3, 4, 3, 4, 4, 5, 3, 4, 4, 5, 4, 5, 5, 6, 2, 3, 3, 4, 3, 4, 4, 5, 3, 4, 4, 5, 4, 5, 5, 6, 3, 4, 4, 5, 4, 5, 5, 6, 4, 5, 5, 6, 5, 6, 6, 7, 1, 2, 2, 3, 2, 3, 3, 4, 2, 3, 3, 4, 3, 4, 4, 5, 2, 3, 3, 4, 3, 4, 4, 5, 3, 4, 4, 5, 4, 5, 5, 6, 2, 3, 3, 4, 3, 4, 4, 5, 3, 4, 4, 5, 4, 5, 5, 6, 3, 4, 4, 5, 4, 5, 5, 6, 4, 5, 5, 6, 5, 6, 6, 7, 2, 3, 3, 4, 3, 4, 4, 5, 3, 4, 4, 5, 4, 5, 5, 6, 3, 4, 4, 5, 4, 5, 5, 6, 4, 5, 5, 6, 5, 6, 6, 7, 3, 4, 4, 5, 4, 5, 5, 6, 4, 5, 5, 6, 5, 6, 6, 7, 4, 5, 5, 6, 5, 6, 6, 7, 5, 6, 6, 7, 6, 7, 7, 8]⟩ : ByteArray) a0))) else (none)) else (none)
set_option maxHeartbeats 8000000 in
set_option maxRecDepth 100000 in
theorem bits_OnesCount8.calls (a0 : Int) (r : Int) (w : World) (h : bits_OnesCount8.f a0 = some r) :
    Calls Try.prog 57 #[.int .u8 a0] w fun e w' => e = .returned (.int .i64 r) ∧ Drawn0 w w' := by
  have H : (if 0 ≤ a0 then (if a0 < 256 then (some (wrap64 (bt (⟨#[0, 1, 1, 2, 1, 2, 2, 3, 1, 2, 2, 3, 2, 3, 3, 4, 1, 2, 2, 3, 2, 3, 3, 4, 2, 3, 3, 4, 3, 4, 4, 5, 1, 2, 2, 3, 2, 3, 3, 4, 2, 3, 3, 4, 3, 4, 4, 5, 2, 3, 3, 4, 3, 4, 4, 5, 3, 4, 4, 5, 4, 5, 5, 6, 1, 2, 2, 3, 2, 3, 3, 4, 2, 3, 3, 4, 3, 4, 4, 5, 2, 3, 3, 4, 3, 4, 4, 5, 3, 4, 4, 5, 4, 5, 5, 6, 2, 3, 3, 4, 3, 4, 4, 5, 3, 4, 4, 5, 4, 5, 5, 6, 3, 4, 4, 5, 4, 5, 5, 6, 4, 5, 5, 6, 5, 6, 6, 7, 1, 2, 2, 3, 2, 3, 3, 4, 2, 3, 3, 4, 3, 4, 4, 5, 2, 3, 3, 4, 3, 4, 4, 5, 3, 4, 4, 5, 4, 5, 5, 6, 2, 3, 3, 4, 3, 4, 4, 5, 3, 4, 4, 5, 4, 5, 5, 6, 3, 4, 4, 5, 4, 5, 5, 6, 4, 5, 5, 6, 5, 6, 6, 7, 2, 3, 3, 4, 3, 4, 4, 5, 3, 4, 4, 5, 4, 5, 5, 6, 3, 4, 4, 5, 4, 5, 5, 6, 4, 5, 5, 6, 5, 6, 6, 7, 3, 4, 4, 5, 4, 5, 5, 6, 4, 5, 5, 6, 5, 6, 6, 7, 4, 5, 5, 6, 5, 6, 6, 7, 5, 6, 6, 7, 6, 7, 7, 8]⟩ : ByteArray) a0))) else (none)) else (none)) = some r := h
  clear h
  by_cases c2 : 0 ≤ a0
  · rw [if_pos c2] at H
    have c2b0 : decide (0 ≤ a0) = true := decide_eq_true c2
    clear c2
    by_cases c3 : a0 < 256
    · rw [if_pos c3] at H
      have c3b0 : decide (a0 < 256) = true := decide_eq_true c3
      clear c3
      obtain rfl := Option.some.inj H
      have p4 : 0 ≤ (a0 : Int) := of_decide_eq_true (by first | (with_reducible assumption) | assumption)
      have q4 : a0 < (256 : Int) := of_decide_eq_true (by first | (with_reducible assumption) | assumption)
      have hx4 := bt_at (⟨#[0, 1, 1, 2, 1, 2, 2, 3, 1, 2, 2, 3, 2, 3, 3, 4, 1, 2, 2, 3, 2, 3, 3, 4, 2, 3, 3, 4, 3, 4, 4, 5, 1, 2, 2, 3, 2, 3, 3, 4, 2, 3, 3, 4, 3, 4, 4, 5, 2, 3, 3, 4, 3, 4, 4, 5, 3, 4, 4, 5, 4, 5, 5, 6, 1, 2, 2, 3, 2, 3, 3, 4, 2, 3, 3, 4, 3, 4, 4, 5, 2, 3, 3, 4, 3, 4, 4, 5, 3, 4, 4, 5, 4, 5, 5, 6, 2, 3, 3, 4, 3, 4, 4, 5, 3, 4, 4, 5, 4, 5, 5, 6, 3, 4, 4, 5, 4, 5, 5, 6, 4, 5, 5, 6, 5, 6, 6, 7, 1, 2, 2, 3, 2, 3, 3, 4, 2, 3, 3, 4, 3, 4, 4, 5, 2, 3, 3, 4, 3, 4, 4, 5, 3, 4, 4, 5, 4, 5, 5, 6, 2, 3, 3, 4, 3, 4, 4, 5, 3, 4, 4, 5, 4, 5, 5, 6, 3, 4, 4, 5, 4, 5, 5, 6, 4, 5, 5, 6, 5, 6, 6, 7, 2, 3, 3, 4, 3, 4, 4, 5, 3, 4, 4, 5, 4, 5, 5, 6, 3, 4, 4, 5, 4, 5, 5, 6, 4, 5, 5, 6, 5, 6, 6, 7, 3, 4, 4, 5, 4, 5, 5, 6, 4, 5, 5, 6, 5, 6, 6, 7, 4, 5, 5, 6, 5, 6, 6, 7, 5, 6, 6, 7, 6, 7, 7, 8]⟩ : ByteArray) a0
      replace p4 := eq_true p4
      replace q4 := eq_true q4
      go_enter Try.func57, Try.ntmps57
      go_wp2
      go_ret
      exact ⟨by first | rfl | (simp; done) | (simp [*]; done), by repeat (first | exact Drawn0.refl _ | apply Drawn0.step)⟩
    · rw [if_neg c3] at H
      exact absurd H (by simp)
  · rw [if_neg c2] at H
    exact absurd H (by simp)
def bits_Count.l0 : Nat → Int → List Int → Int → Int → Option (Int)
  | 0, _, _, _, _ => none
  | k + 1, x3, x6, x7, x8 => if x8 < x7 then (if 0 ≤ x8 then (if x8 < (x6.length : Int) then ((bits_OnesCount8.f (rd x6 x8)).bind fun t125 => (bits_Count.l0 k (wrap64 (x3 + t125)) x6 x7 (wrap64 (x8 + 1)))) else (none)) else (none)) else (some x3)
def bits_Count.f (k : Nat) (l0 : List Int) : Option (Int) := bits_Count.l0 k 0 l0 (l0.length : Int) 0
theorem bits_Count.mono_l : ∀ k, (∀ y0 y1 y2 y3, LeO (bits_Count.l0 k y0 y1 y2 y3) (bits_Count.l0 (k + 1) y0 y1 y2 y3))
  | 0 => fun _ _ _ _ r h => by simp [bits_Count.l0] at h
  | k + 1 => by
    have ih0 := bits_Count.mono_l k
    · intro y0 y1 y2 y3
      unfold bits_Count.l0
      repeat' first
      | (with_reducible exact ih0 _ _ _ _)
      | (with_reducible exact LeO.refl _)
      | (with_reducible exact LeO.none _)
      | (with_reducible refine LeO.ite ?_ ?_)
      | (with_reducible refine LeO.bind ?_ (fun _ => ?_))
      | exact ih0 _ _ _ _
      | exact LeO.none _
      | refine LeO.ite ?_ ?_
      | refine LeO.bind ?_ (fun _ => ?_)
theorem bits_Count.mono : ∀ a0 k, LeO (bits_Count.f k a0) (bits_Count.f (k + 1) a0) := by
  intro a0 k
  have ih0 := bits_Count.mono_l k
  unfold bits_Count.f
  repeat' first
      | (with_reducible exact ih0 _ _ _ _)
      | (with_reducible exact LeO.refl _)
      | (with_reducible exact LeO.none _)
      | (with_reducible refine LeO.ite ?_ ?_)
      | (with_reducible refine LeO.bind ?_ (fun _ => ?_))
      | exact ih0 _ _ _ _
      | exact LeO.none _
      | refine LeO.ite ?_ ?_
      | refine LeO.bind ?_ (fun _ => ?_)
set_option maxHeartbeats 8000000 in
set_option maxRecDepth 100000 in
theorem bits_Count.calls (k : Nat) (A0 : Option Addr) (c0 : Nat) (l0 : List Int) (r : Int) (w : World) (hr0 : Kd.C (Kd.int .u8) w A0 l0.length l0) (hc0 : l0.length ≤ c0) (h : bits_Count.f k l0 = some r) :
    Calls Try.prog 30 #[.slice A0 l0.length c0] w fun e w' => e = .returned (.int .i64 r) ∧ Drawn0 w w' := by
  have HR0 := Aside0.mk hr0
  have HC0 := Aside0.mk hc0
  clear hr0 hc0
  have H : (bits_Count.l0 k 0 l0 (l0.length : Int) 0) = some r := h
  clear h
  have H' := Aside0.mk H
  clear H
  go_enter Try.func30, Try.ntmps30
  go_wp2
  go_loopg [3, 8] k (fun kq v3 v8 w' => ∃ (x3_1 : Int) (x8_1 : Int), v3 = .int .i64 x3_1 ∧ v8 = .int .i64 x8_1 ∧ Aside0 (bits_Count.l0 kq x3_1 l0 (l0.length : Int) x8_1 = some r) ∧ Aside0 (kq ≤ k) ∧ Drawn0 w w')
  case atStart => exact ⟨(0), (0), (by first | rfl | (simp; done) | (simp [*]; done)), (by first | rfl | (simp; done) | (simp [*]; done)), H', ⟨Nat.le_refl _⟩, by repeat (first | exact Drawn0.refl _ | apply Drawn0.step)⟩
  case round =>
    clear H'
    obtain ⟨x3_1, x8_1, rfl, rfl, HA, HK1, ⟨m1, rfl⟩⟩ := hrel
    cases gk with
    | zero => exact absurd HA.out (by simp [bits_Count.l0])
    | succ k1 =>
      have H := HA.out
      clear HA
      simp only [bits_Count.l0] at H
      by_cases c2 : x8_1 < (l0.length : Int)
      · rw [if_pos c2] at H
        have c2b0 : decide (x8_1 < (l0.length : Int)) = true := decide_eq_true c2
        clear c2
        by_cases c3 : 0 ≤ x8_1
        · rw [if_pos c3] at H
          have c3b0 : decide (0 ≤ x8_1) = true := decide_eq_true c3
          clear c3
          by_cases c4 : x8_1 < (l0.length : Int)
          · rw [if_pos c4] at H
            have c4b0 : decide (x8_1 < (l0.length : Int)) = true := decide_eq_true c4
            clear c4
            replace H := Option.bind_eq_some_iff.mp H
            obtain ⟨t125, A50, H⟩ := H
            replace H : (bits_Count.l0 k1 (wrap64 (x3_1 + t125)) l0 (l0.length : Int) (wrap64 (x8_1 + 1))) = some r := H
            have A5 := Aside0.mk A50
            clear A50
            have H' := Aside0.mk H
            clear H
            have p124 : 0 ≤ (x8_1 : Int) := of_decide_eq_true (by first | (with_reducible assumption) | assumption)
            have q124 : x8_1 < (l0.length : Int) := of_decide_eq_true (by first | (with_reducible assumption) | assumption)
            obtain ⟨ad124, e124, hx124_0⟩ := Kd.at_int HR0.out x8_1 p124 q124
            cases e124
            replace p124 := eq_true p124
            replace q124 := eq_true q124
            go_wp2_with (first | ((with_reducible refine gate_callee (f := 57) rfl ?_); refine goesL_ (some 14) rfl rfl Try.func57 (by kernel_rfl) rfl #[.int .u8 (rd l0 x8_1)] rfl (by (try simp only [List.map_toArray, List.map_cons, List.map_nil]); first | done | rfl | (simp only [List.length_drop, List.length_take]; rfl)) ?_; (with_reducible refine (bits_OnesCount8.calls (rd l0 x8_1) t125 _ A5.out).mono ?_); rintro e w' ⟨rfl, ⟨nd, rfl⟩⟩; refine ⟨_, rfl, ?_⟩))
            go_roundg k1
            case measure => have := HK1.out; omega
            case rel => exact ⟨(wrap64 (x3_1 + t125)), (wrap64 (x8_1 + 1)), (by first | rfl | (simp; done) | (simp [*]; done)), (by first | rfl | (simp; done) | (simp [*]; done)), H', ⟨by have := HK1.out; omega⟩, by repeat (first | exact Drawn0.refl _ | apply Drawn0.step)⟩
          · rw [if_neg c4] at H
            exact absurd H (by simp)
        · rw [if_neg c3] at H
          exact absurd H (by simp)
      · rw [if_neg c2] at H
        have c2b0 : decide (x8_1 < (l0.length : Int)) = false := decide_eq_false c2
        clear c2
        obtain rfl := Option.some.inj H
        go_wp2
        go_ret
        exact ⟨by first | rfl | (simp; done) | (simp [*]; done), by repeat (first | exact Drawn0.refl _ | apply Drawn0.step)⟩
def bits_Zeros.f (k : Nat) (l0 : List Int) : Option (Int) := (bits_Count.f k l0).bind fun t126 => (some (wrap64 ((wrap64 (8 * (l0.length : Int))) - t126)))
theorem bits_Zeros.mono : ∀ a0 k, LeO (bits_Zeros.f k a0) (bits_Zeros.f (k + 1) a0) := by
  intro a0 k
  unfold bits_Zeros.f
  repeat' first
      | (with_reducible exact bits_Count.mono _ _)
      | (with_reducible exact LeO.refl _)
      | (with_reducible exact LeO.none _)
      | (with_reducible refine LeO.ite ?_ ?_)
      | (with_reducible refine LeO.bind ?_ (fun _ => ?_))
      | exact bits_Count.mono _ _
      | exact LeO.none _
      | refine LeO.ite ?_ ?_
      | refine LeO.bind ?_ (fun _ => ?_)
set_option maxHeartbeats 8000000 in
set_option maxRecDepth 100000 in
theorem bits_Zeros.calls (k : Nat) (A0 : Option Addr) (c0 : Nat) (l0 : List Int) (r : Int) (w : World) (hr0 : Kd.C (Kd.int .u8) w A0 l0.length l0) (hc0 : l0.length ≤ c0) (h : bits_Zeros.f k l0 = some r) :
    Calls Try.prog 28 #[.slice A0 l0.length c0] w fun e w' => e = .returned (.int .i64 r) ∧ Drawn0 w w' := by
  have HR0 := Aside0.mk hr0
  have HC0 := Aside0.mk hc0
  clear hr0 hc0
  have H : ((bits_Count.f k l0).bind fun t126 => (some (wrap64 ((wrap64 (8 * (l0.length : Int))) - t126)))) = some r := h
  clear h
  replace H := Option.bind_eq_some_iff.mp H
  obtain ⟨t126, A20, H⟩ := H
  replace H : (some (wrap64 ((wrap64 (8 * (l0.length : Int))) - t126))) = some r := H
  have A2 := Aside0.mk A20
  clear A20
  obtain rfl := Option.some.inj H
  go_enter Try.func28, Try.ntmps28
  go_wp2_with (first | ((with_reducible refine gate_callee (f := 30) rfl ?_); refine goesL_ (some 7) rfl rfl Try.func30 (by kernel_rfl) rfl #[.slice A0 l0.length c0] rfl (by (try simp only [List.map_toArray, List.map_cons, List.map_nil]); first | done | rfl | (simp only [List.length_drop, List.length_take]; rfl)) ?_; (with_reducible refine (bits_Count.calls k _ _ l0 t126 _ ?side1 ?side2 A2.out).mono ?_); (case side1 => repeat (first | exact HR0.out | (with_reducible refine Kd.C_alloc ?_ _) | (with_reducible refine Kd.C_drewN ?_ _) | (with_reducible refine Kd.C_drew ?_))); (case side2 => exact HC0.out); rintro e w' ⟨rfl, ⟨nd, rfl⟩⟩; refine ⟨_, rfl, ?_⟩))
  go_ret
  exact ⟨by first | rfl | (simp; done) | (simp [*]; done), by repeat (first | exact Drawn0.refl _ | apply Drawn0.step)⟩
end Go.Proofs.Ytpedkegfefnibaa.QBitsLaws
namespace Go.Proofs.Ytpedkegfefnibaa.QBitsLaws
open Go.RowKit Go.Proofs.YtpedkegfefnibaaW.PrintWords Go.Proofs.YtpedkegfefnibaaW.PrintLast Go.Proofs.YtpedkegfefnibaaW.PrintMore
attribute [local go_sem] max2_int min2_int max_two min_two max_three min_three max_four min_four   -- for this text's walks alone
set_option linter.unusedVariables false
set_option linter.unusedSimpArgs false
def bits_And.l0 : Nat → List Int → List Int → Int → Int → Option (List Int)
  | 0, _, _, _, _ => none
  | k + 1, x5, x17, x18, x19 => if x19 < x18 then (if 0 ≤ x19 then (if x19 < (x17.length : Int) then (if x19 < (x5.length : Int) then (bits_And.l0 k (x5.set (x19 : Int).toNat (Go.bits .and .u8 (rd x5 x19) (rd x17 x19))) x17 x18 (wrap64 (x19 + 1))) else (none)) else (none)) else (none)) else (some x5)
def bits_And.g (k : Nat) (l0 : List Int) (l1 : List Int) : Option (List Int) := (slices_Clone_byte_byte.f l0).bind fun t123 => (bits_And.l0 k t123 l1 (l1.length : Int) 0)
theorem bits_And.mono_l : ∀ k, (∀ y0 y1 y2 y3, LeO (bits_And.l0 k y0 y1 y2 y3) (bits_And.l0 (k + 1) y0 y1 y2 y3))
  | 0 => fun _ _ _ _ r h => by simp [bits_And.l0] at h
  | k + 1 => by
    have ih0 := bits_And.mono_l k
    · intro y0 y1 y2 y3
      unfold bits_And.l0
      repeat' first
      | (with_reducible exact ih0 _ _ _ _)
      | (with_reducible exact LeO.refl _)
      | (with_reducible exact LeO.none _)
      | (with_reducible refine LeO.ite ?_ ?_)
      | (with_reducible refine LeO.bind ?_ (fun _ => ?_))
      | exact ih0 _ _ _ _
      | exact LeO.none _
      | refine LeO.ite ?_ ?_
      | refine LeO.bind ?_ (fun _ => ?_)
theorem bits_And.mono_g : ∀ a0 a1 k, LeO (bits_And.g k a0 a1) (bits_And.g (k + 1) a0 a1) := by
  intro a0 a1 k
  have ih0 := bits_And.mono_l k
  unfold bits_And.g
  repeat' first
      | (with_reducible exact ih0 _ _ _ _)
      | (with_reducible exact LeO.refl _)
      | (with_reducible exact LeO.none _)
      | (with_reducible refine LeO.ite ?_ ?_)
      | (with_reducible refine LeO.bind ?_ (fun _ => ?_))
      | exact ih0 _ _ _ _
      | exact LeO.none _
      | refine LeO.ite ?_ ?_
      | refine LeO.bind ?_ (fun _ => ?_)
def bits_And.f (k : Nat) (l0 : List Int) (l1 : List Int) : Option (List Int) := if l0.length < l1.length then bits_And.g k l1 l0 else bits_And.g k l0 l1
theorem bits_And.mono : ∀ a0 a1 k, LeO (bits_And.f k a0 a1) (bits_And.f (k + 1) a0 a1) := by
  intro a0 a1 k
  unfold bits_And.f
  exact LeO.ite (bits_And.mono_g _ _ _) (bits_And.mono_g _ _ _)
set_option maxHeartbeats 8000000 in
set_option maxRecDepth 100000 in
theorem bits_And.calls_ge (k : Nat) (A0 : Option Addr) (c0 : Nat) (l0 : List Int) (A1 : Option Addr) (c1 : Nat) (l1 : List Int) (r : List Int) (w : World) (hr0 : Kd.C (Kd.int .u8) w A0 l0.length l0) (hc0 : l0.length ≤ c0) (hr1 : Kd.C (Kd.int .u8) w A1 l1.length l1) (hc1 : l1.length ≤ c1) (hge : ¬ l0.length < l1.length) (h : bits_And.g k l0 l1 = some r) :
    Calls Try.prog 38 #[.slice A0 l0.length c0, .slice A1 l1.length c1] w fun e w' => ∃ v0_ : Value, e = .returned (v0_) ∧ Kd.R (Kd.int .u8) 5 w' w.heap.size (fun _ => True) v0_ r ∧ Below w.heap.size w w' := by
  have HR0 := Aside0.mk hr0
  have HC0 := Aside0.mk hc0
  clear hr0 hc0
  have HR1 := Aside0.mk hr1
  have HC1 := Aside0.mk hc1
  clear hr1 hc1
  have HB := Aside0.mk (Below.refl w.heap.size w)
  have H : ((slices_Clone_byte_byte.f l0).bind fun t123 => (bits_And.l0 k t123 l1 (l1.length : Int) 0)) = some r := h
  clear h
  replace H := Option.bind_eq_some_iff.mp H
  obtain ⟨t123, A30, H⟩ := H
  replace H : (bits_And.l0 k t123 l1 (l1.length : Int) 0) = some r := H
  have A3 := Aside0.mk A30
  clear A30
  have H' := Aside0.mk H
  clear H
  have hT0 : decide ((l0.length : Int) < (l1.length : Int)) = false := decide_eq_false (by omega)
  have hT1 : decide (l0.length < l1.length) = false := decide_eq_false hge
  clear hge
  go_enter Try.func38, Try.ntmps38
  go_wp2_with (first | ((with_reducible refine gate_callee (f := 55) rfl ?_); refine goesL_ (some 16) rfl rfl Try.func55 (by kernel_rfl) rfl #[.slice A0 l0.length c0] rfl (by (try simp only [List.map_toArray, List.map_cons, List.map_nil]); first | done | rfl | (simp only [List.length_drop, List.length_take]; rfl)) ?_; (with_reducible refine (slices_Clone_byte_byte.calls _ _ l0 t123 _ ?side1 ?side2 A3.out).mono ?_); (case side1 => repeat (first | exact HR0.out | (with_reducible refine Kd.C_alloc ?_ _) | (with_reducible refine Kd.C_drewN ?_ _) | (with_reducible refine Kd.C_drew ?_))); (case side2 => exact HC0.out); rintro e w4 ⟨v124, rfl, ho0, hb⟩; refine ⟨_, rfl, ?_⟩; have n0_ := Aside0.mk (Kd.R_lower ho0 (below_size (by repeat (first | (with_reducible first | exact HB.out | apply below_alloc | apply pw_below_drewN | apply below_drew1) | exact HB.out)))); have n1_ := Aside0.mk (below_step (by repeat (first | (with_reducible first | exact HB.out | apply below_alloc | apply pw_below_drewN | apply below_drew1) | exact HB.out)) hb); clear HB; have HO125 := n0_; have HB := n1_; clear n0_ n1_; (try clear hb); (try clear hb2); (try clear hk); (try clear hi); (try clear ho0)))
  go_loopg [19] k (fun kq v19 w' => ∃ (x5_1 : List Int) (x19_1 : Int), v19 = .int .i64 x19_1 ∧ Aside0 (bits_And.l0 kq x5_1 l1 (l1.length : Int) x19_1 = some r) ∧ Aside0 (kq ≤ k) ∧ Aside0 (Kd.R (Kd.int .u8) 5 w' w.heap.size (fun _ => True) v124 x5_1) ∧ Aside0 (Below w.heap.size w w'))
  case atStart => exact ⟨(t123), (0), (by first | rfl | (simp; done) | (simp [*]; done)), H', ⟨Nat.le_refl _⟩, ⟨by (with_reducible repeat (first | apply Kd.R_alloc | apply Kd.R_drewN | apply Kd.R_drew)); exact HO125.out⟩, ⟨by repeat (first | (with_reducible first | exact HB.out | apply below_alloc | apply pw_below_drewN | apply below_drew1) | exact HB.out)⟩⟩
  case round =>
    clear H'
    try clear c1
    try clear p2
    try clear c3
    obtain ⟨x5_1, x19_1, rfl, HA, HK1, HO_5, HB⟩ := hrel
    cases gk with
    | zero => exact absurd HA.out (by simp [bits_And.l0])
    | succ k1 =>
      have H := HA.out
      clear HA
      simp only [bits_And.l0] at H
      by_cases c5 : x19_1 < (l1.length : Int)
      · rw [if_pos c5] at H
        have c5b0 : decide (x19_1 < (l1.length : Int)) = true := decide_eq_true c5
        clear c5
        by_cases c6 : 0 ≤ x19_1
        · rw [if_pos c6] at H
          have c6b0 : decide (0 ≤ x19_1) = true := decide_eq_true c6
          clear c6
          by_cases c7 : x19_1 < (l1.length : Int)
          · rw [if_pos c7] at H
            have c7b0 : decide (x19_1 < (l1.length : Int)) = true := decide_eq_true c7
            clear c7
            by_cases c8 : x19_1 < (x5_1.length : Int)
            · rw [if_pos c8] at H
              have c8b0 : decide (x19_1 < (x5_1.length : Int)) = true := decide_eq_true c8
              clear c8
              obtain ⟨y128, hy128⟩ : ∃ y_ : List Int, y_ = (x5_1.set (x19_1 : Int).toNat (Go.bits .and .u8 (rd x5_1 x19_1) (rd l1 x19_1))) := ⟨_, rfl⟩
              replace H : (bits_And.l0 k1 y128 l1 (l1.length : Int) (wrap64 (x19_1 + 1))) = some r := by first | (rw [hy128]; with_reducible exact H) | (have H2_ := (Option.bind_some _ _).symm.trans H; rw [hy128]; with_reducible exact H2_) | (have H2_ := (Option.bind_some _ _).symm.trans H; with_reducible exact H2_) | with_reducible exact H | (rw [hy128]; exact H) | exact H
              have Ny128 := Aside0.mk hy128
              clear hy128
              have H' := Aside0.mk H
              clear H
              have p126 : 0 ≤ (x19_1 : Int) := of_decide_eq_true (by first | (with_reducible assumption) | assumption)
              have q126 : x19_1 < (l1.length : Int) := of_decide_eq_true (by first | (with_reducible assumption) | assumption)
              obtain ⟨ad126, e126, hx126_0⟩ := Kd.at_int HR1.out x19_1 p126 q126
              cases e126
              replace hx126_0 := (HB.out.cell (World.block_lt_of_cell? w _ hx126_0)).trans hx126_0
              replace p126 := eq_true p126
              replace q126 := eq_true q126
              obtain ⟨Ao10, co10, eo10⟩ := Kd.R_slice HO_5.out
              subst eo10
              have p127 : 0 ≤ (x19_1 : Int) := of_decide_eq_true (by first | (with_reducible assumption) | assumption)
              have q127 : x19_1 < (x5_1.length : Int) := of_decide_eq_true (by first | (with_reducible assumption) | assumption)
              obtain ⟨ad127, e127, hx127_0⟩ := Kd.at_int (Kd.R_reads' HO_5.out).2.2 x19_1 p127 q127
              cases e127
              replace p127 := eq_true p127
              replace q127 := eq_true q127
              have p9 : 0 ≤ (x19_1 : Int) := of_decide_eq_true (by first | (with_reducible assumption) | assumption)
              have q9 : (x19_1 : Int) < ((x5_1.length : Int) : Int) := of_decide_eq_true (by first | (with_reducible assumption) | assumption)
              obtain ⟨go9, co9, eo9, gb9, gl9, cl9, HG9⟩ := Kd.R_form HO_5.out (by omega)
              (first | cases eo9 | (injection eo9 with ea_ en_ ec_; (first | subst ea_ | (injection ea_ with ea_; subst ea_)); subst ec_; clear en_))
              have GB9 := Aside0.mk gb9
              have GG9 := Aside0.mk HG9
              clear gb9 gl9 HG9
              (first | simp only [add_plain] at hx127_0 | skip)
              obtain ⟨hx9_0, hf9_0⟩ := Kd.R_celln 0 HO_5.out (x19_1 : Int) p9 q9
              replace p9 := eq_true p9
              replace q9 := eq_true q9
              have HP11 := Kd.R_putg HO_5.out (x19_1 : Int) (Go.bits .and .u8 (rd x5_1 x19_1) (rd l1 x19_1))
              go_wp2_with (first | ((with_reducible refine gate_store (t := 5) (p := 30) rfl ?_); refine store_event (t := 5) (p := 30) (v := ?vo_w12) (w1 := (wr.setCell ⟨go9, (x19_1 : Int).toNat, none⟩ (.int .u8 (Go.bits .and .u8 (rd x5_1 x19_1) (rd l1 x19_1))))) ?hg ?ho ?hn ?hr ?_; (case ho => rfl); (case hg => rfl); (case hn => rfl); (case hr => first | (go_simp; done) | (go_simp; rfl)); intro w12 hw; have hg : wr.grownBy w12 (some go9) := (by rw [hw]; exact HP11.2); have hp_ : Kd.R (Kd.int .u8) 5 w12 w.heap.size (fun _ => True) (.slice (some ⟨go9, 0, none⟩) x5_1.length co10) y128 := (by rw [hw, Ny128.out]; exact HP11.1); clear HP11; have n0_ := Aside0.mk (hp_); have n1_ := Aside0.mk ((by rw [hw]; exact below_set (HB.out) GB9.out : Below w.heap.size w w12)); clear HO_5; clear HB; have HO_5 := n0_; have HB := n1_; clear n0_ n1_; clear hg hw hp_))
              go_roundg k1
              case measure => have := HK1.out; omega
              case rel => exact ⟨(y128), (wrap64 (x19_1 + 1)), (by first | rfl | (simp; done) | (simp [*]; done)), H', ⟨by have := HK1.out; omega⟩, ⟨by (with_reducible repeat (first | apply Kd.R_alloc | apply Kd.R_drewN | apply Kd.R_drew)); exact HO_5.out⟩, ⟨by repeat (first | (with_reducible first | exact HB.out | apply below_alloc | apply pw_below_drewN | apply below_drew1) | exact HB.out)⟩⟩
            · rw [if_neg c8] at H
              exact absurd H (by simp)
          · rw [if_neg c7] at H
            exact absurd H (by simp)
        · rw [if_neg c6] at H
          exact absurd H (by simp)
      · rw [if_neg c5] at H
        have c5b0 : decide (x19_1 < (l1.length : Int)) = false := decide_eq_false c5
        clear c5
        obtain rfl := Option.some.inj H
        go_wp2
        go_ret
        exact ⟨_, by first | rfl | (simp [errW_none, errW_some] <;> rfl) | (simp [*, errW_none, errW_some] <;> rfl), by (with_reducible repeat (first | apply Kd.R_alloc | apply Kd.R_drewN | apply Kd.R_drew)); exact HO_5.out, by repeat (first | (with_reducible first | exact HB.out | apply below_alloc | apply pw_below_drewN | apply below_drew1) | exact HB.out)⟩
set_option maxHeartbeats 8000000 in
set_option maxRecDepth 100000 in
theorem bits_And.calls_lt (k : Nat) (A0 : Option Addr) (c0 : Nat) (l0 : List Int) (A1 : Option Addr) (c1 : Nat) (l1 : List Int) (r : List Int) (w : World) (hr0 : Kd.C (Kd.int .u8) w A0 l0.length l0) (hc0 : l0.length ≤ c0) (hr1 : Kd.C (Kd.int .u8) w A1 l1.length l1) (hc1 : l1.length ≤ c1) (hlt : l1.length < l0.length) (h : bits_And.g k l0 l1 = some r) :
    Calls Try.prog 38 #[.slice A1 l1.length c1, .slice A0 l0.length c0] w fun e w' => ∃ v0_ : Value, e = .returned (v0_) ∧ Kd.R (Kd.int .u8) 5 w' w.heap.size (fun _ => True) v0_ r ∧ Below w.heap.size w w' := by
  have HR0 := Aside0.mk hr0
  have HC0 := Aside0.mk hc0
  clear hr0 hc0
  have HR1 := Aside0.mk hr1
  have HC1 := Aside0.mk hc1
  clear hr1 hc1
  have HB := Aside0.mk (Below.refl w.heap.size w)
  have H : ((slices_Clone_byte_byte.f l0).bind fun t123 => (bits_And.l0 k t123 l1 (l1.length : Int) 0)) = some r := h
  clear h
  replace H := Option.bind_eq_some_iff.mp H
  obtain ⟨t123, A30, H⟩ := H
  replace H : (bits_And.l0 k t123 l1 (l1.length : Int) 0) = some r := H
  have A3 := Aside0.mk A30
  clear A30
  have H' := Aside0.mk H
  clear H
  have hT0 : decide ((l1.length : Int) < (l0.length : Int)) = true := decide_eq_true (by omega)
  have hT1 : decide (l1.length < l0.length) = true := decide_eq_true hlt
  clear hlt
  go_enter Try.func38, Try.ntmps38
  go_wp2_with (first | ((with_reducible refine gate_callee (f := 55) rfl ?_); refine goesL_ (some 16) rfl rfl Try.func55 (by kernel_rfl) rfl #[.slice A0 l0.length c0] rfl (by (try simp only [List.map_toArray, List.map_cons, List.map_nil]); first | done | rfl | (simp only [List.length_drop, List.length_take]; rfl)) ?_; (with_reducible refine (slices_Clone_byte_byte.calls _ _ l0 t123 _ ?side1 ?side2 A3.out).mono ?_); (case side1 => repeat (first | exact HR0.out | (with_reducible refine Kd.C_alloc ?_ _) | (with_reducible refine Kd.C_drewN ?_ _) | (with_reducible refine Kd.C_drew ?_))); (case side2 => exact HC0.out); rintro e w4 ⟨v124, rfl, ho0, hb⟩; refine ⟨_, rfl, ?_⟩; have n0_ := Aside0.mk (Kd.R_lower ho0 (below_size (by repeat (first | (with_reducible first | exact HB.out | apply below_alloc | apply pw_below_drewN | apply below_drew1) | exact HB.out)))); have n1_ := Aside0.mk (below_step (by repeat (first | (with_reducible first | exact HB.out | apply below_alloc | apply pw_below_drewN | apply below_drew1) | exact HB.out)) hb); clear HB; have HO125 := n0_; have HB := n1_; clear n0_ n1_; (try clear hb); (try clear hb2); (try clear hk); (try clear hi); (try clear ho0)))
  go_loopg [19] k (fun kq v19 w' => ∃ (x5_1 : List Int) (x19_1 : Int), v19 = .int .i64 x19_1 ∧ Aside0 (bits_And.l0 kq x5_1 l1 (l1.length : Int) x19_1 = some r) ∧ Aside0 (kq ≤ k) ∧ Aside0 (Kd.R (Kd.int .u8) 5 w' w.heap.size (fun _ => True) v124 x5_1) ∧ Aside0 (Below w.heap.size w w'))
  case atStart => exact ⟨(t123), (0), (by first | rfl | (simp; done) | (simp [*]; done)), H', ⟨Nat.le_refl _⟩, ⟨by (with_reducible repeat (first | apply Kd.R_alloc | apply Kd.R_drewN | apply Kd.R_drew)); exact HO125.out⟩, ⟨by repeat (first | (with_reducible first | exact HB.out | apply below_alloc | apply pw_below_drewN | apply below_drew1) | exact HB.out)⟩⟩
  case round =>
    clear H'
    try clear c1
    try clear p2
    try clear c3
    obtain ⟨x5_1, x19_1, rfl, HA, HK1, HO_5, HB⟩ := hrel
    cases gk with
    | zero => exact absurd HA.out (by simp [bits_And.l0])
    | succ k1 =>
      have H := HA.out
      clear HA
      simp only [bits_And.l0] at H
      by_cases c5 : x19_1 < (l1.length : Int)
      · rw [if_pos c5] at H
        have c5b0 : decide (x19_1 < (l1.length : Int)) = true := decide_eq_true c5
        clear c5
        by_cases c6 : 0 ≤ x19_1
        · rw [if_pos c6] at H
          have c6b0 : decide (0 ≤ x19_1) = true := decide_eq_true c6
          clear c6
          by_cases c7 : x19_1 < (l1.length : Int)
          · rw [if_pos c7] at H
            have c7b0 : decide (x19_1 < (l1.length : Int)) = true := decide_eq_true c7
            clear c7
            by_cases c8 : x19_1 < (x5_1.length : Int)
            · rw [if_pos c8] at H
              have c8b0 : decide (x19_1 < (x5_1.length : Int)) = true := decide_eq_true c8
              clear c8
              obtain ⟨y128, hy128⟩ : ∃ y_ : List Int, y_ = (x5_1.set (x19_1 : Int).toNat (Go.bits .and .u8 (rd x5_1 x19_1) (rd l1 x19_1))) := ⟨_, rfl⟩
              replace H : (bits_And.l0 k1 y128 l1 (l1.length : Int) (wrap64 (x19_1 + 1))) = some r := by first | (rw [hy128]; with_reducible exact H) | (have H2_ := (Option.bind_some _ _).symm.trans H; rw [hy128]; with_reducible exact H2_) | (have H2_ := (Option.bind_some _ _).symm.trans H; with_reducible exact H2_) | with_reducible exact H | (rw [hy128]; exact H) | exact H
              have Ny128 := Aside0.mk hy128
              clear hy128
              have H' := Aside0.mk H
              clear H
              have p126 : 0 ≤ (x19_1 : Int) := of_decide_eq_true (by first | (with_reducible assumption) | assumption)
              have q126 : x19_1 < (l1.length : Int) := of_decide_eq_true (by first | (with_reducible assumption) | assumption)
              obtain ⟨ad126, e126, hx126_0⟩ := Kd.at_int HR1.out x19_1 p126 q126
              cases e126
              replace hx126_0 := (HB.out.cell (World.block_lt_of_cell? w _ hx126_0)).trans hx126_0
              replace p126 := eq_true p126
              replace q126 := eq_true q126
              obtain ⟨Ao10, co10, eo10⟩ := Kd.R_slice HO_5.out
              subst eo10
              have p127 : 0 ≤ (x19_1 : Int) := of_decide_eq_true (by first | (with_reducible assumption) | assumption)
              have q127 : x19_1 < (x5_1.length : Int) := of_decide_eq_true (by first | (with_reducible assumption) | assumption)
              obtain ⟨ad127, e127, hx127_0⟩ := Kd.at_int (Kd.R_reads' HO_5.out).2.2 x19_1 p127 q127
              cases e127
              replace p127 := eq_true p127
              replace q127 := eq_true q127
              have p9 : 0 ≤ (x19_1 : Int) := of_decide_eq_true (by first | (with_reducible assumption) | assumption)
              have q9 : (x19_1 : Int) < ((x5_1.length : Int) : Int) := of_decide_eq_true (by first | (with_reducible assumption) | assumption)
              obtain ⟨go9, co9, eo9, gb9, gl9, cl9, HG9⟩ := Kd.R_form HO_5.out (by omega)
              (first | cases eo9 | (injection eo9 with ea_ en_ ec_; (first | subst ea_ | (injection ea_ with ea_; subst ea_)); subst ec_; clear en_))
              have GB9 := Aside0.mk gb9
              have GG9 := Aside0.mk HG9
              clear gb9 gl9 HG9
              (first | simp only [add_plain] at hx127_0 | skip)
              obtain ⟨hx9_0, hf9_0⟩ := Kd.R_celln 0 HO_5.out (x19_1 : Int) p9 q9
              replace p9 := eq_true p9
              replace q9 := eq_true q9
              have HP11 := Kd.R_putg HO_5.out (x19_1 : Int) (Go.bits .and .u8 (rd x5_1 x19_1) (rd l1 x19_1))
              go_wp2_with (first | ((with_reducible refine gate_store (t := 5) (p := 30) rfl ?_); refine store_event (t := 5) (p := 30) (v := ?vo_w12) (w1 := (wr.setCell ⟨go9, (x19_1 : Int).toNat, none⟩ (.int .u8 (Go.bits .and .u8 (rd x5_1 x19_1) (rd l1 x19_1))))) ?hg ?ho ?hn ?hr ?_; (case ho => rfl); (case hg => rfl); (case hn => rfl); (case hr => first | (go_simp; done) | (go_simp; rfl)); intro w12 hw; have hg : wr.grownBy w12 (some go9) := (by rw [hw]; exact HP11.2); have hp_ : Kd.R (Kd.int .u8) 5 w12 w.heap.size (fun _ => True) (.slice (some ⟨go9, 0, none⟩) x5_1.length co10) y128 := (by rw [hw, Ny128.out]; exact HP11.1); clear HP11; have n0_ := Aside0.mk (hp_); have n1_ := Aside0.mk ((by rw [hw]; exact below_set (HB.out) GB9.out : Below w.heap.size w w12)); clear HO_5; clear HB; have HO_5 := n0_; have HB := n1_; clear n0_ n1_; clear hg hw hp_))
              go_roundg k1
              case measure => have := HK1.out; omega
              case rel => exact ⟨(y128), (wrap64 (x19_1 + 1)), (by first | rfl | (simp; done) | (simp [*]; done)), H', ⟨by have := HK1.out; omega⟩, ⟨by (with_reducible repeat (first | apply Kd.R_alloc | apply Kd.R_drewN | apply Kd.R_drew)); exact HO_5.out⟩, ⟨by repeat (first | (with_reducible first | exact HB.out | apply below_alloc | apply pw_below_drewN | apply below_drew1) | exact HB.out)⟩⟩
            · rw [if_neg c8] at H
              exact absurd H (by simp)
          · rw [if_neg c7] at H
            exact absurd H (by simp)
        · rw [if_neg c6] at H
          exact absurd H (by simp)
      · rw [if_neg c5] at H
        have c5b0 : decide (x19_1 < (l1.length : Int)) = false := decide_eq_false c5
        clear c5
        obtain rfl := Option.some.inj H
        go_wp2
        go_ret
        exact ⟨_, by first | rfl | (simp [errW_none, errW_some] <;> rfl) | (simp [*, errW_none, errW_some] <;> rfl), by (with_reducible repeat (first | apply Kd.R_alloc | apply Kd.R_drewN | apply Kd.R_drew)); exact HO_5.out, by repeat (first | (with_reducible first | exact HB.out | apply below_alloc | apply pw_below_drewN | apply below_drew1) | exact HB.out)⟩
theorem bits_And.calls (k : Nat) (A0 : Option Addr) (c0 : Nat) (l0 : List Int) (A1 : Option Addr) (c1 : Nat) (l1 : List Int) (r : List Int) (w : World) (hr0 : Kd.C (Kd.int .u8) w A0 l0.length l0) (hc0 : l0.length ≤ c0) (hr1 : Kd.C (Kd.int .u8) w A1 l1.length l1) (hc1 : l1.length ≤ c1) (h : bits_And.f k l0 l1 = some r) :
    Calls Try.prog 38 #[.slice A0 l0.length c0, .slice A1 l1.length c1] w fun e w' => ∃ v0_ : Value, e = .returned (v0_) ∧ Kd.R (Kd.int .u8) 5 w' w.heap.size (fun _ => True) v0_ r ∧ Below w.heap.size w w' := by
  unfold bits_And.f at h
  split at h
  · rename_i hlt
    exact bits_And.calls_lt k A1 c1 l1 A0 c0 l0 r w hr1 hc1 hr0 hc0 hlt h
  · rename_i hge
    exact bits_And.calls_ge k A0 c0 l0 A1 c1 l1 r w hr0 hc0 hr1 hc1 hge h
def bits_TrailingZeros8.f (a0 : Int) : Option (Int) := if 0 ≤ a0 then (if a0 < 256 then (some (wrap64 (bt (⟨#[8, 0, 1, 0, 2, 0, 1, 0, 3, 0, 1, 0, 2, 0, 1, 0, 4, 0, 1, 0, 2, 0, 1, 0, 3, 0, 1, 0, 2, 0, 1, 0, 5, 0, 1, 0, 2, 0, 1, 0, 3, 0, 1, 0, 2, 0, 1, 0, 4, 0, 1, 0, 2, 0, 1, 0, 3, 0, 1, 0, 2, 0, 1, 0, 6, 0, 1, 0, 2, 0, 1, 0, 3, 0, 1, 0, 2, 0, 1, 0, 4, 0, 1, 0, 2, 0, 1, 0, 3, 0, 1, 0, 2, 0, 1, 0, 5, 0, 1, 0, 2, 0, 1, 0, 3, 0, 1, 0, 2, 0, 1, 0, 4, 0, 1, 0, 2, 0, 1, 0, 3, 0, 1, 0, 2, 0, 1, 0, 7, 0, 1, 0, 2, 0, 1, 0, 3, 0, 1, 0, 2, 0, 1, 0, 4, 0, 1, 0, 2, 0, 1, 0, 3, 0, 1, 0, 2, 0, 1, 0, 5, 0, 1, 0, 2, 0, 1, 0, 3, 0, 1, 0, 2, 0, 1, 0, 4, 0, 1, 0, 2, 0, 1, 0, 3, 0, 1, 0, 2, 0, 1, 0, 6, 0, 1, 0, 2, 0, 1, 0, 3, 0, 1, 0, 2, 0, 1, 0, 4, 0, 1, 0, 2, 0, 1, 0, 3, 0, 1, 0, 2, 0, 1, 0, 5, 0, 1, 0, 2, 0, 1, 0, 3, 0, 1, 0, 2, 0, 1, 0, 4, 0, 1, 0, 2, 0, 1, 0, 3, 0, 1, 0, 2, 0, 1, 0]⟩ : ByteArray) a0))) else (none)) else (none)
set_option maxHeartbeats 8000000 in
set_option maxRecDepth 100000 in
theorem bits_TrailingZeros8.calls (a0 : Int) (r : Int) (w : World) (h : bits_TrailingZeros8.f a0 = some r) :
    Calls Try.prog 58 #[.int .u8 a0] w fun e w' => e = .returned (.int .i64 r) ∧ Drawn0 w w' := by
  have H : (if 0 ≤ a0 then (if a0 < 256 then (some (wrap64 (bt (⟨#[8, 0, 1, 0, 2, 0, 1, 0, 3, 0, 1, 0, 2, 0, 1, 0, 4, 0, 1, 0, 2, 0, 1, 0, 3, 0, 1, 0, 2, 0, 1, 0, 5, 0, 1, 0, 2, 0, 1, 0, 3, 0, 1, 0, 2, 0, 1, 0, 4, 0, 1, 0, 2, 0, 1, 0, 3, 0, 1, 0, 2, 0, 1, 0, 6, 0, 1, 0, 2, 0, 1, 0, 3, 0, 1, 0, 2, 0, 1, 0, 4, 0, 1, 0, 2, 0, 1, 0, 3, 0, 1, 0, 2, 0, 1, 0, 5, 0, 1, 0, 2, 0, 1, 0, 3, 0, 1, 0, 2, 0, 1, 0, 4, 0, 1, 0, 2, 0, 1, 0, 3, 0, 1, 0, 2, 0, 1, 0, 7, 0, 1, 0, 2, 0, 1, 0, 3, 0, 1, 0, 2, 0, 1, 0, 4, 0, 1, 0, 2, 0, 1, 0, 3, 0, 1, 0, 2, 0, 1, 0, 5, 0, 1, 0, 2, 0, 1, 0, 3, 0, 1, 0, 2, 0, 1, 0, 4, 0, 1, 0, 2, 0, 1, 0, 3, 0, 1, 0, 2, 0, 1, 0, 6, 0, 1, 0, 2, 0, 1, 0, 3, 0, 1, 0, 2, 0, 1, 0, 4, 0, 1, 0, 2, 0, 1, 0, 3, 0, 1, 0, 2, 0, 1, 0, 5, 0, 1, 0, 2, 0, 1, 0, 3, 0, 1, 0, 2, 0, 1, 0, 4, 0, 1, 0, 2, 0, 1, 0, 3, 0, 1, 0, 2, 0, 1, 0]⟩ : ByteArray) a0))) else (none)) else (none)) = some r := h
  clear h
  by_cases c2 : 0 ≤ a0
  · rw [if_pos c2] at H
    have c2b0 : decide (0 ≤ a0) = true := decide_eq_true c2
    clear c2
    by_cases c3 : a0 < 256
    · rw [if_pos c3] at H
      have c3b0 : decide (a0 < 256) = true := decide_eq_true c3
      clear c3
      obtain rfl := Option.some.inj H
      have p4 : 0 ≤ (a0 : Int) := of_decide_eq_true (by first | (with_reducible assumption) | assumption)
      have q4 : a0 < (256 : Int) := of_decide_eq_true (by first | (with_reducible assumption) | assumption)
      have hx4 := bt_at (⟨#[8, 0, 1, 0, 2, 0, 1, 0, 3, 0, 1, 0, 2, 0, 1, 0, 4, 0, 1, 0, 2, 0, 1, 0, 3, 0, 1, 0, 2, 0, 1, 0, 5, 0, 1, 0, 2, 0, 1, 0, 3, 0, 1, 0, 2, 0, 1, 0, 4, 0, 1, 0, 2, 0, 1, 0, 3, 0, 1, 0, 2, 0, 1, 0, 6, 0, 1, 0, 2, 0, 1, 0, 3, 0, 1, 0, 2, 0, 1, 0, 4, 0, 1, 0, 2, 0, 1, 0, 3, 0, 1, 0, 2, 0, 1, 0, 5, 0, 1, 0, 2, 0, 1, 0, 3, 0, 1, 0, 2, 0, 1, 0, 4, 0, 1, 0, 2, 0, 1, 0, 3, 0, 1, 0, 2, 0, 1, 0, 7, 0, 1, 0, 2, 0, 1, 0, 3, 0, 1, 0, 2, 0, 1, 0, 4, 0, 1, 0, 2, 0, 1, 0, 3, 0, 1, 0, 2, 0, 1, 0, 5, 0, 1, 0, 2, 0, 1, 0, 3, 0, 1, 0, 2, 0, 1, 0, 4, 0, 1, 0, 2, 0, 1, 0, 3, 0, 1, 0, 2, 0, 1, 0, 6, 0, 1, 0, 2, 0, 1, 0, 3, 0, 1, 0, 2, 0, 1, 0, 4, 0, 1, 0, 2, 0, 1, 0, 3, 0, 1, 0, 2, 0, 1, 0, 5, 0, 1, 0, 2, 0, 1, 0, 3, 0, 1, 0, 2, 0, 1, 0, 4, 0, 1, 0, 2, 0, 1, 0, 3, 0, 1, 0, 2, 0, 1, 0]⟩ : ByteArray) a0
      replace p4 := eq_true p4
      replace q4 := eq_true q4
      go_enter Try.func58, Try.ntmps58
      go_wp2
      go_ret
      exact ⟨by first | rfl | (simp; done) | (simp [*]; done), by repeat (first | exact Drawn0.refl _ | apply Drawn0.step)⟩
    · rw [if_neg c3] at H
      exact absurd H (by simp)
  · rw [if_neg c2] at H
    exact absurd H (by simp)
mutual
def bits_Diff.l0 : Nat → List Int → List Int → List Int → Int → Int → Option (List Int)
  | 0, _, _, _, _, _ => none
  | k + 1, x0, x1, x5, x12, x13 => if x13 < x12 then (if 0 ≤ x13 then (if x13 < (x0.length : Int) then (if x13 < (x1.length : Int) then (bits_Diff.l1 k x0 x1 x5 x13 (Go.bits .xor .u8 (rd x0 x13) (rd x1 x13)) x12 x13) else (none)) else (none)) else (none)) else (some x5)
def bits_Diff.l1 : Nat → List Int → List Int → List Int → Int → Int → Int → Int → Option (List Int)
  | 0, _, _, _, _, _, _, _ => none
  | k + 1, x0, x1, x5, x6, x7, x12, x13 => if x7 = 0 then (bits_Diff.l0 k x0 x1 x5 x12 (wrap64 (x13 + 1))) else ((bits_TrailingZeros8.f x7).bind fun t129 => (if x5.length < 17592186044416 then (bits_Diff.l1 k x0 x1 (x5 ++ [wrap64 ((wrap64 (8 * x6)) + t129)]) x6 (Go.bits .and .u8 x7 ((x7 - 1) % 256)) x12 x13) else (none)))
end
def bits_Diff.f (k : Nat) (l0 : List Int) (l1 : List Int) : Option (List Int) := bits_Diff.l0 k l0 l1 ([] : List Int) (mn (l0.length : Int) (l1.length : Int)) 0
theorem bits_Diff.mono_l : ∀ k, (∀ y0 y1 y2 y3 y4, LeO (bits_Diff.l0 k y0 y1 y2 y3 y4) (bits_Diff.l0 (k + 1) y0 y1 y2 y3 y4)) ∧ (∀ y0 y1 y2 y3 y4 y5 y6, LeO (bits_Diff.l1 k y0 y1 y2 y3 y4 y5 y6) (bits_Diff.l1 (k + 1) y0 y1 y2 y3 y4 y5 y6))
  | 0 => ⟨fun _ _ _ _ _ r h => by simp [bits_Diff.l0] at h, fun _ _ _ _ _ _ _ r h => by simp [bits_Diff.l1] at h⟩
  | k + 1 => by
    obtain ⟨ih0, ih1⟩ := bits_Diff.mono_l k
    refine ⟨?_, ?_⟩
    · intro y0 y1 y2 y3 y4
      unfold bits_Diff.l0
      repeat' first
      | (with_reducible exact ih0 _ _ _ _ _)
      | (with_reducible exact ih1 _ _ _ _ _ _ _)
      | (with_reducible exact LeO.refl _)
      | (with_reducible exact LeO.none _)
      | (with_reducible refine LeO.ite ?_ ?_)
      | (with_reducible refine LeO.bind ?_ (fun _ => ?_))
      | exact ih0 _ _ _ _ _
      | exact ih1 _ _ _ _ _ _ _
      | exact LeO.none _
      | refine LeO.ite ?_ ?_
      | refine LeO.bind ?_ (fun _ => ?_)
    · intro y0 y1 y2 y3 y4 y5 y6
      unfold bits_Diff.l1
      repeat' first
      | (with_reducible exact ih0 _ _ _ _ _)
      | (with_reducible exact ih1 _ _ _ _ _ _ _)
      | (with_reducible exact LeO.refl _)
      | (with_reducible exact LeO.none _)
      | (with_reducible refine LeO.ite ?_ ?_)
      | (with_reducible refine LeO.bind ?_ (fun _ => ?_))
      | exact ih0 _ _ _ _ _
      | exact ih1 _ _ _ _ _ _ _
      | exact LeO.none _
      | refine LeO.ite ?_ ?_
      | refine LeO.bind ?_ (fun _ => ?_)
theorem bits_Diff.mono : ∀ a0 a1 k, LeO (bits_Diff.f k a0 a1) (bits_Diff.f (k + 1) a0 a1) := by
  intro a0 a1 k
  obtain ⟨ih0, ih1⟩ := bits_Diff.mono_l k
  unfold bits_Diff.f
  repeat' first
      | (with_reducible exact ih0 _ _ _ _ _)
      | (with_reducible exact ih1 _ _ _ _ _ _ _)
      | (with_reducible exact LeO.refl _)
      | (with_reducible exact LeO.none _)
      | (with_reducible refine LeO.ite ?_ ?_)
      | (with_reducible refine LeO.bind ?_ (fun _ => ?_))
      | exact ih0 _ _ _ _ _
      | exact ih1 _ _ _ _ _ _ _
      | exact LeO.none _
      | refine LeO.ite ?_ ?_
      | refine LeO.bind ?_ (fun _ => ?_)
set_option maxHeartbeats 8000000 in
set_option maxRecDepth 100000 in
theorem bits_Diff.calls (k : Nat) (A0 : Option Addr) (c0 : Nat) (l0 : List Int) (A1 : Option Addr) (c1 : Nat) (l1 : List Int) (r : List Int) (w : World) (hr0 : Kd.C (Kd.int .u8) w A0 l0.length l0) (hc0 : l0.length ≤ c0) (hr1 : Kd.C (Kd.int .u8) w A1 l1.length l1) (hc1 : l1.length ≤ c1) (h : bits_Diff.f k l0 l1 = some r) :
    Calls Try.prog 41 #[.slice A0 l0.length c0, .slice A1 l1.length c1] w fun e w' => ∃ v0_ : Value, e = .returned (v0_) ∧ Kd.R (Kd.int .i64) 3 w' w.heap.size (fun _ => True) v0_ r ∧ Below w.heap.size w w' := by
  have HR0 := Aside0.mk hr0
  have HC0 := Aside0.mk hc0
  clear hr0 hc0
  have HR1 := Aside0.mk hr1
  have HC1 := Aside0.mk hc1
  clear hr1 hc1
  have HB := Aside0.mk (Below.refl w.heap.size w)
  have H : (bits_Diff.l0 k l0 l1 ([] : List Int) (mn (l0.length : Int) (l1.length : Int)) 0) = some r := h
  clear h
  obtain ⟨ji3, hji3⟩ : ∃ j_ : Int, (mn (l0.length : Int) (l1.length : Int)) = j_ := ⟨_, rfl⟩
  replace H : (bits_Diff.l0 k l0 l1 ([] : List Int) ji3 0) = some r := by first | (rw [hji3] at H; exact H) | (simp only [hji3] at H ⊢; exact H)
  (try (have hji3l : 0 ≤ ji3 := by (rw [← hji3]; unfold mn; (repeat' split) <;> omega)))
  (try (have hji3m : 0 ≤ ji3 := by omega))
  have hji3_ : (if (l1.length : Int) < (l0.length : Int) then (l1.length : Int) else (l0.length : Int)) = ji3 := hji3
  have hji3N : (if l1.length < l0.length then (l1.length : Int) else (l0.length : Int)) = ji3 := by (rw [← hji3_]; split <;> split <;> omega)
  have H' := Aside0.mk H
  clear H
  go_enter Try.func41, Try.ntmps41
  go_wp2
  repeat (go_quiet (fail); try go_wp2)
  go_loopg [5, 13] k (fun kq v5 v13 w' => ∃ (x5_1 : List Int) (x13_1 : Int), v13 = .int .i64 x13_1 ∧ Aside0 (bits_Diff.l0 kq l0 l1 x5_1 ji3 x13_1 = some r) ∧ Aside0 (kq ≤ k) ∧ Aside0 (Kd.R (Kd.int .i64) 3 w' w.heap.size (fun _ => True) v5 x5_1) ∧ Aside0 (Below w.heap.size w w'))
  case atStart => exact ⟨(([] : List Int)), (0), (by first | rfl | (simp; done) | (simp [*]; done)), H', ⟨Nat.le_refl _⟩, ⟨by first | exact Kd.R_nil _ _ _ _ _ | exact Kd.N_nil _ _ _ _ _ | exact Kd.V_nil _ _ _ _ _ | exact Kd.Q_nil _ _ _ _ _ | exact Kd.S_nil _ _ _ _ _⟩, ⟨by repeat (first | (with_reducible first | exact HB.out | apply below_alloc | apply pw_below_drewN | apply below_drew1) | exact HB.out)⟩⟩
  case round =>
    clear H'
    try clear c1
    try clear p2
    obtain ⟨x5_1, x13_1, rfl, HA, HK1, HO_5, HB⟩ := hrel
    cases gk with
    | zero => exact absurd HA.out (by simp [bits_Diff.l0])
    | succ k1 =>
      have H := HA.out
      clear HA
      simp only [bits_Diff.l0] at H
      by_cases c4 : x13_1 < ji3
      · rw [if_pos c4] at H
        have c4b0 : decide (x13_1 < ji3) = true := decide_eq_true c4
        clear c4
        by_cases c5 : 0 ≤ x13_1
        · rw [if_pos c5] at H
          have c5b0 : decide (0 ≤ x13_1) = true := decide_eq_true c5
          clear c5
          by_cases c6 : x13_1 < (l0.length : Int)
          · rw [if_pos c6] at H
            have c6b0 : decide (x13_1 < (l0.length : Int)) = true := decide_eq_true c6
            clear c6
            by_cases c7 : x13_1 < (l1.length : Int)
            · rw [if_pos c7] at H
              have c7b0 : decide (x13_1 < (l1.length : Int)) = true := decide_eq_true c7
              clear c7
              have H' := Aside0.mk H
              clear H
              have p127 : 0 ≤ (x13_1 : Int) := of_decide_eq_true (by first | (with_reducible assumption) | assumption)
              have q127 : x13_1 < (l0.length : Int) := of_decide_eq_true (by first | (with_reducible assumption) | assumption)
              obtain ⟨ad127, e127, hx127_0⟩ := Kd.at_int HR0.out x13_1 p127 q127
              cases e127
              replace hx127_0 := (HB.out.cell (World.block_lt_of_cell? w _ hx127_0)).trans hx127_0
              replace p127 := eq_true p127
              replace q127 := eq_true q127
              have p128 : 0 ≤ (x13_1 : Int) := of_decide_eq_true (by first | (with_reducible assumption) | assumption)
              have q128 : x13_1 < (l1.length : Int) := of_decide_eq_true (by first | (with_reducible assumption) | assumption)
              obtain ⟨ad128, e128, hx128_0⟩ := Kd.at_int HR1.out x13_1 p128 q128
              cases e128
              replace hx128_0 := (HB.out.cell (World.block_lt_of_cell? w _ hx128_0)).trans hx128_0
              replace p128 := eq_true p128
              replace q128 := eq_true q128
              go_wp2
              repeat (go_quiet (fail); try go_wp2)
              go_loopg [5, 7] k1 (fun kq v5 v7 w' => ∃ (x5_2 : List Int) (x7_2 : Int), v7 = .int .u8 x7_2 ∧ Aside0 (bits_Diff.l1 kq l0 l1 x5_2 x13_1 x7_2 ji3 x13_1 = some r) ∧ Aside0 (kq ≤ k1) ∧ Aside0 (Kd.R (Kd.int .i64) 3 w' w.heap.size (fun _ => True) v5 x5_2) ∧ Aside0 (Below w.heap.size w w'))
              case atStart => exact ⟨(x5_1), (Go.bits .xor .u8 (rd l0 x13_1) (rd l1 x13_1)), (by first | rfl | (simp; done) | (simp [*]; done)), H', ⟨Nat.le_refl _⟩, ⟨by (with_reducible repeat (first | apply Kd.R_alloc | apply Kd.R_drewN | apply Kd.R_drew)); exact HO_5.out⟩, ⟨by repeat (first | (with_reducible first | exact HB.out | apply below_alloc | apply pw_below_drewN | apply below_drew1) | exact HB.out)⟩⟩
              case round =>
                clear H'
                try clear c1
                try clear p1
                try clear q1
                try clear hx1
                try clear p2
                try clear c4
                try clear c4b0
                try clear c5
                try clear c5b0
                try clear c6
                try clear c6b0
                try clear c7
                try clear c7b0
                try clear hx127_0
                try clear hx128_0
                try clear p127
                try clear p128
                try clear p2
                try clear q127
                try clear q128
                obtain ⟨x5_2, x7_2, rfl, HA, HK2, HO_5, HB⟩ := hrel
                cases gk with
                | zero => exact absurd HA.out (by simp [bits_Diff.l1])
                | succ k2 =>
                  have H := HA.out
                  clear HA
                  simp only [bits_Diff.l1] at H
                  by_cases c8 : x7_2 = 0
                  · rw [if_pos c8] at H
                    have c8b0 : (x7_2 == 0) = true := beq_iff_eq.mpr c8
                    have c8b1 : (x7_2 != 0) = false := bne_eq_false_iff_eq.mpr c8
                    clear c8
                    have H' := Aside0.mk H
                    clear H
                    go_wp2
                    repeat (go_quiet (fail); try go_wp2)
                    go_roundg k2
                    case measure => have := HK1.out; have := HK2.out; omega
                    case rel => exact ⟨(x5_2), (wrap64 (x13_1 + 1)), (by first | rfl | (simp; done) | (simp [*]; done)), H', ⟨by have := HK1.out; have := HK2.out; omega⟩, ⟨by (with_reducible repeat (first | apply Kd.R_alloc | apply Kd.R_drewN | apply Kd.R_drew)); exact HO_5.out⟩, ⟨by repeat (first | (with_reducible first | exact HB.out | apply below_alloc | apply pw_below_drewN | apply below_drew1) | exact HB.out)⟩⟩
                  · rw [if_neg c8] at H
                    have c8b0 : (x7_2 == 0) = false := beq_eq_false_iff_ne.mpr c8
                    have c8b1 : (x7_2 != 0) = true := bne_iff_ne.mpr c8
                    replace H := Option.bind_eq_some_iff.mp H
                    obtain ⟨t129, A90, H⟩ := H
                    replace H : (if x5_2.length < 17592186044416 then (bits_Diff.l1 k2 l0 l1 (x5_2 ++ [wrap64 ((wrap64 (8 * x13_1)) + t129)]) x13_1 (Go.bits .and .u8 x7_2 ((x7_2 - 1) % 256)) ji3 x13_1) else (none)) = some r := H
                    have A9 := Aside0.mk A90
                    clear A90
                    by_cases c10 : x5_2.length < 17592186044416
                    · rw [if_pos c10] at H
                      have LMc10 := Aside0.mk c10
                      clear c10
                      obtain ⟨y130, hy130⟩ : ∃ y_ : List Int, y_ = (x5_2 ++ [wrap64 ((wrap64 (8 * x13_1)) + t129)]) := ⟨_, rfl⟩
                      replace H : (bits_Diff.l1 k2 l0 l1 y130 x13_1 (Go.bits .and .u8 x7_2 ((x7_2 - 1) % 256)) ji3 x13_1) = some r := by first | (rw [hy130]; with_reducible exact H) | (have H2_ := (Option.bind_some _ _).symm.trans H; rw [hy130]; with_reducible exact H2_) | (have H2_ := (Option.bind_some _ _).symm.trans H; with_reducible exact H2_) | with_reducible exact H | (rw [hy130]; exact H) | exact H
                      have Ny130 := Aside0.mk hy130
                      clear hy130
                      have H' := Aside0.mk H
                      clear H
                      go_wp2_with (first | (go_at_call 58; (with_reducible refine (bits_TrailingZeros8.calls x7_2 t129 _ A9.out).mono ?_); rintro e w' ⟨rfl, ⟨nd, rfl⟩⟩; (try first | exact ⟨rfl, _, World.drewN_drewN _ _ _⟩ | exact ⟨rfl, _, Eq.trans (World.drewN_drewN _ _ _) (congrArg (World.drewN _) (Nat.add_assoc _ _ _))⟩)) | ((with_reducible refine gate_builtin (b := .append) (xs := #[.tmp 31, .tmp 37]) rfl ?_); at_builtin; refine Kd.R_append (Kd.int .i64) (w0 := w) w.heap.size rfl (.tmp 31) (.tmp 37) 35 3 (.int .i64 0) 8 rfl Try.underlying35 info3 rfl (by decide) (by omega) u5 x5_2 (wrap64 ((wrap64 (8 * x13_1)) + t129)) [.int .i64 (wrap64 ((wrap64 (8 * x13_1)) + t129))] (fun _ => True) (fun _ => False) rfl rfl ?aP (fun _ hk => hk.elim) ?aF ?aO ?aB ?aS ?aL ?_; (case aP => exact rfl); (case aB => exact (by repeat (first | (with_reducible first | exact HB.out | apply below_alloc | apply pw_below_drewN | apply below_drew1) | exact HB.out))); (case aF => exact (fun _ _ => trivial)); (case aO => exact (by (with_reducible repeat (first | apply Kd.R_alloc | apply Kd.R_drewN | apply Kd.R_drew)); exact HO_5.out)); (case aS => exact (below_size (by repeat (first | (with_reducible first | exact HB.out | apply below_alloc | apply pw_below_drewN | apply below_drew1) | exact HB.out)))); (case aL => have := LMc10.out; omega); intro v131 w11 ho hb hg hat; rw [← Ny130.out] at ho; have n0_ := Aside0.mk (hb); have n1_ := Aside0.mk (ho); clear HB; clear HO_5; have HB := n0_; have HO132 := n1_; clear n0_ n1_; clear ho hb hg hat))
                      repeat (go_quiet (first | (go_at_call 58; (with_reducible refine (bits_TrailingZeros8.calls x7_2 t129 _ A9.out).mono ?_); rintro e w' ⟨rfl, ⟨nd, rfl⟩⟩; (try first | exact ⟨rfl, _, World.drewN_drewN _ _ _⟩ | exact ⟨rfl, _, Eq.trans (World.drewN_drewN _ _ _) (congrArg (World.drewN _) (Nat.add_assoc _ _ _))⟩)) | ((with_reducible refine gate_builtin (b := .append) (xs := #[.tmp 31, .tmp 37]) rfl ?_); at_builtin; refine Kd.R_append (Kd.int .i64) (w0 := w) w.heap.size rfl (.tmp 31) (.tmp 37) 35 3 (.int .i64 0) 8 rfl Try.underlying35 info3 rfl (by decide) (by omega) u5 x5_2 (wrap64 ((wrap64 (8 * x13_1)) + t129)) [.int .i64 (wrap64 ((wrap64 (8 * x13_1)) + t129))] (fun _ => True) (fun _ => False) rfl rfl ?aP (fun _ hk => hk.elim) ?aF ?aO ?aB ?aS ?aL ?_; (case aP => exact rfl); (case aB => exact (by repeat (first | (with_reducible first | exact HB.out | apply below_alloc | apply pw_below_drewN | apply below_drew1) | exact HB.out))); (case aF => exact (fun _ _ => trivial)); (case aO => exact (by (with_reducible repeat (first | apply Kd.R_alloc | apply Kd.R_drewN | apply Kd.R_drew)); exact HO_5.out)); (case aS => exact (below_size (by repeat (first | (with_reducible first | exact HB.out | apply below_alloc | apply pw_below_drewN | apply below_drew1) | exact HB.out)))); (case aL => have := LMc10.out; omega); intro v131 w11 ho hb hg hat; rw [← Ny130.out] at ho; have n0_ := Aside0.mk (hb); have n1_ := Aside0.mk (ho); clear HB; clear HO_5; have HB := n0_; have HO132 := n1_; clear n0_ n1_; clear ho hb hg hat)); try go_wp2_with (first | (go_at_call 58; (with_reducible refine (bits_TrailingZeros8.calls x7_2 t129 _ A9.out).mono ?_); rintro e w' ⟨rfl, ⟨nd, rfl⟩⟩; (try first | exact ⟨rfl, _, World.drewN_drewN _ _ _⟩ | exact ⟨rfl, _, Eq.trans (World.drewN_drewN _ _ _) (congrArg (World.drewN _) (Nat.add_assoc _ _ _))⟩)) | ((with_reducible refine gate_builtin (b := .append) (xs := #[.tmp 31, .tmp 37]) rfl ?_); at_builtin; refine Kd.R_append (Kd.int .i64) (w0 := w) w.heap.size rfl (.tmp 31) (.tmp 37) 35 3 (.int .i64 0) 8 rfl Try.underlying35 info3 rfl (by decide) (by omega) u5 x5_2 (wrap64 ((wrap64 (8 * x13_1)) + t129)) [.int .i64 (wrap64 ((wrap64 (8 * x13_1)) + t129))] (fun _ => True) (fun _ => False) rfl rfl ?aP (fun _ hk => hk.elim) ?aF ?aO ?aB ?aS ?aL ?_; (case aP => exact rfl); (case aB => exact (by repeat (first | (with_reducible first | exact HB.out | apply below_alloc | apply pw_below_drewN | apply below_drew1) | exact HB.out))); (case aF => exact (fun _ _ => trivial)); (case aO => exact (by (with_reducible repeat (first | apply Kd.R_alloc | apply Kd.R_drewN | apply Kd.R_drew)); exact HO_5.out)); (case aS => exact (below_size (by repeat (first | (with_reducible first | exact HB.out | apply below_alloc | apply pw_below_drewN | apply below_drew1) | exact HB.out)))); (case aL => have := LMc10.out; omega); intro v131 w11 ho hb hg hat; rw [← Ny130.out] at ho; have n0_ := Aside0.mk (hb); have n1_ := Aside0.mk (ho); clear HB; clear HO_5; have HB := n0_; have HO132 := n1_; clear n0_ n1_; clear ho hb hg hat)))
                      go_roundg k2
                      case measure => have := HK1.out; have := HK2.out; omega
                      case rel => exact ⟨(y130), (Go.bits .and .u8 x7_2 ((x7_2 - 1) % 256)), (by first | rfl | (simp; done) | (simp [*]; done)), H', ⟨by have := HK1.out; have := HK2.out; omega⟩, ⟨by (with_reducible repeat (first | apply Kd.R_alloc | apply Kd.R_drewN | apply Kd.R_drew)); exact HO132.out⟩, ⟨by repeat (first | (with_reducible first | exact HB.out | apply below_alloc | apply pw_below_drewN | apply below_drew1) | exact HB.out)⟩⟩
                    · rw [if_neg c10] at H
                      exact absurd H (by simp)
            · rw [if_neg c7] at H
              exact absurd H (by simp)
          · rw [if_neg c6] at H
            exact absurd H (by simp)
        · rw [if_neg c5] at H
          exact absurd H (by simp)
      · rw [if_neg c4] at H
        have c4b0 : decide (x13_1 < ji3) = false := decide_eq_false c4
        clear c4
        obtain rfl := Option.some.inj H
        go_wp2
        repeat (go_quiet (fail); try go_wp2)
        go_ret
        exact ⟨_, by first | rfl | (simp [errW_none, errW_some] <;> rfl) | (simp only [← hji3]; first | rfl | (simp [errW_none, errW_some] <;> rfl)) | (simp [*, errW_none, errW_some] <;> rfl), by (with_reducible repeat (first | apply Kd.R_alloc | apply Kd.R_drewN | apply Kd.R_drew)); exact HO_5.out, by repeat (first | (with_reducible first | exact HB.out | apply below_alloc | apply pw_below_drewN | apply below_drew1) | exact HB.out)⟩
end Go.Proofs.Ytpedkegfefnibaa.QBitsLaws
namespace Go.Proofs.Ytpedkegfefnibaa.QBitsLaws
open Go.RowKit Go.Proofs.YtpedkegfefnibaaW.PrintWords Go.Proofs.YtpedkegfefnibaaW.PrintLast Go.Proofs.YtpedkegfefnibaaW.PrintMore
attribute [local go_sem] max2_int min2_int max_two min_two max_three min_three max_four min_four   -- for this text's walks alone
set_option linter.unusedVariables false
set_option linter.unusedSimpArgs false
end Go.Proofs.Ytpedkegfefnibaa.QBitsLaws
namespace Go.Proofs.Ytpedkegfefnibaa.Mono
open Go.RowKit Go.Proofs.YtpedkegfefnibaaW.PrintWords Go.Proofs.YtpedkegfefnibaaW.PrintLast
set_option linter.unusedVariables false
def Ext (w w' : World) : Prop := Below w.heap.size w w'
theorem Ext.refl (w : World) : Ext w w := Below.refl _ _
theorem Ext.trans {a b c : World} (h : Ext a b) (k : Ext b c) : Ext a c := below_step h k
theorem Ext.below {w w' : World} (h : Ext w w') : Below w.heap.size w w' := h
theorem c_ext {α : Type} {d : Kd α} {w w' : World} {A : Option Addr} {n : Nat} {xs : List α} (h : Kd.C d w A n xs) (e : Ext w w') : Kd.C d w' A n xs := Kd.C_below h e
theorem Ext.drew (w : World) : Ext w w.drew := below_drew1 (Below.refl _ _)
def Stable (f : Value → World → Prop) : Prop := ∀ v w w', f v w → Ext w w' → f v w'
def Is (x : Value) : Value → World → Prop := fun v _ => v = x
def Row {α : Type} (d : Kd α) (xs : List α) : Value → World → Prop := fun v w => ∃ A c, v = .slice A xs.length c ∧ xs.length ≤ c ∧ Kd.C d w A xs.length xs
theorem stable_is (x : Value) : Stable (Is x) := fun _ _ _ h _ => h
theorem stable_row {α : Type} (d : Kd α) (xs : List α) : Stable (Row d xs) := fun _ _ _ ⟨A, c, h, hc, hC⟩ e => ⟨A, c, h, hc, Kd.C_below hC e⟩
theorem Row.of_R {α : Type} {d : Kd α} {e base : Nat} {ok : Nat → Prop} {w : World} {v : Value} {xs : List α} (h : Kd.R d e w base ok v xs) : Row d xs v w := Kd.R_reads h
theorem at_nat {k : IntKind} {w : World} {A : Option Addr} {n : Nat} {xs : List Int} (h : Kd.C (Kd.int k) w A n xs) {q : Nat} (hq : q < n) : ∃ ad, A = some ad ∧ w.cell? (ad.add q) = some (.int k (rd xs (q : Int))) := by
  obtain ⟨ad, e, hc⟩ := Kd.at_int h (q : Int) (by omega) (by omega)
  exact ⟨ad, e, by simpa using hc⟩
theorem cell_ext {w w' : World} {a : Addr} {v : Value} (h : w.cell? a = some v) (e : Ext w w') : w'.cell? a = some v := pw_cell_below e h
def dstAt (ops : Array Oper) (i : Nat) : Option Tmp := (ops[i]?).bind (·.dst)
def edges (ops : Array Oper) (i : Nat) : List Nat := match ops[i]? with
  | some o => (o.after.toList.filter (fun e => Region.binds .any e)).map (·.on)
  | none => []
def reach (ops : Array Oper) : Nat → Nat → Nat → Bool
  | 0, _, _ => false
  | n + 1, i, j => (edges ops i).any fun e => e == j || reach ops n e j
def okOps (ops : Array Oper) : Bool :=
  (List.range ops.size).all fun i => ((edges ops i).all fun e => decide (e < i)) && (List.range ops.size).all fun j => i == j || dstAt ops i == none || dstAt ops i != dstAt ops j
section
variable {P : Program} {ops : Array Oper} {Q : Exit → Act → World → Prop}
structure Fr (ops : Array Oper) (ts : List Tmp) (a0 a : Act) : Prop where
  size : a.tmps.size = a0.tmps.size
  defers : a.defers = a0.defers
  off : ∀ t, ts.contains t = false → a.tmps[t]? = a0.tmps[t]?
def Known (ops : Array Oper) (F : Nat → Value → World → Prop) (i : Nat) (a : Act) (w : World) : Prop :=
  ∀ j t, reach ops ops.size i j = true → dstAt ops j = some t → ∃ v, a.tmps[t]? = some v ∧ F j v w
def MStep (P : Program) (ops : Array Oper) (Q : Exit → Act → World → Prop) (ts : List Tmp) (a0 : Act) (w0 : World) (F : Nat → Value → World → Prop) (i : Nat) : Prop :=
  ∀ (a : Act) (w : World), Ext w0 w → Fr ops ts a0 a → Known ops F i a w →
    ∃ oi, ops[i]? = some oi ∧ ∀ K : Act → World → Prop, (∀ v w', F i v w' → Ext w w' → K (a.put oi.dst v) w') → if Region.wanted oi (yielded ops a.tmps) = true then Oper.wp P oi a w K Q else K (a.put oi.dst undef) w
theorem msteps_nil {ts : List Tmp} {a0 : Act} {w0 : World} {F : Nat → Value → World → Prop} : ∀ i ∈ ([] : List Nat), MStep P ops Q ts a0 w0 F i := fun _ h => by cases h
theorem msteps_cons {ts : List Tmp} {a0 : Act} {w0 : World} {F : Nat → Value → World → Prop} {i : Nat} {rs : List Nat} (h : MStep P ops Q ts a0 w0 F i) (hs : ∀ j ∈ rs, MStep P ops Q ts a0 w0 F j) : ∀ j ∈ i :: rs, MStep P ops Q ts a0 w0 F j := fun j hj => by
  rcases List.mem_cons.1 hj with rfl | hj
  · exact h
  · exact hs j hj
theorem edges_lt (h : okOps ops = true) {i j : Nat} (hj : j ∈ edges ops i) : j < i := by
  by_cases hi : i < ops.size
  · have h1 := List.all_eq_true.1 h i (List.mem_range.2 hi)
    rw [Bool.and_eq_true] at h1
    simpa using List.all_eq_true.1 h1.1 j hj
  · unfold edges at hj
    rw [Array.getElem?_eq_none (by omega)] at hj
    cases hj
theorem dst_ne (h : okOps ops = true) {i j : Nat} {t : Tmp} (hi : dstAt ops i = some t) (hj : dstAt ops j = some t) : i = j := by
  have lt : ∀ {i : Nat}, dstAt ops i = some t → i < ops.size := fun {i} hi => by
    by_cases hlt : i < ops.size
    · exact hlt
    · unfold dstAt at hi
      rw [Array.getElem?_eq_none (by omega)] at hi
      cases hi
  have h1 := List.all_eq_true.1 h i (List.mem_range.2 (lt hi))
  rw [Bool.and_eq_true] at h1
  have h2 := List.all_eq_true.1 h1.2 j (List.mem_range.2 (lt hj))
  rw [hi, hj] at h2
  simpa using h2
structure Inv (ops : Array Oper) (ts : List Tmp) (a0 : Act) (w0 : World) (F : Nat → Value → World → Prop) (listed : Array Bool) (a : Act) (w : World) : Prop where
  sz : listed.size = ops.size
  ext : Ext w0 w
  fr : Fr ops ts a0 a
  val : ∀ i t, i < ops.size → listed.getD i true = true → dstAt ops i = some t → ∃ v, a.tmps[t]? = some v ∧ F i v w
  shut : ∀ i j, i < ops.size → listed.getD i true = true → j ∈ edges ops i → listed.getD j true = true
theorem known_of {ts : List Tmp} {a0 : Act} {w0 : World} {F : Nat → Value → World → Prop} {listed : Array Bool} {a : Act} {w : World} (hok : okOps ops = true) (hI : Inv ops ts a0 w0 F listed a w) : ∀ (n i j : Nat), i < ops.size → (∀ e ∈ edges ops i, listed.getD e true = true) → reach ops n i j = true → j < ops.size ∧ listed.getD j true = true := by
  intro n
  induction n with
  | zero => intro i j _ _ h; cases h
  | succ n ih =>
    intro i j hi he h
    unfold reach at h
    obtain ⟨e, hem, h⟩ := List.any_eq_true.1 h
    have hlt := edges_lt hok hem
    have hl := he e hem
    rw [Bool.or_eq_true] at h
    rcases h with h | h
    · obtain rfl := beq_iff_eq.1 h
      exact ⟨by omega, hl⟩
    · exact ih e j (by omega) (fun x hx => hI.shut e x (by omega) hl hx) h
theorem ready_edges {listed : Array Bool} (hsz : listed.size = ops.size) {i : Nat} (hok : okOps ops = true) : i ∈ Region.ready .any ops listed ↔ i < ops.size ∧ listed.getD i true = false ∧ ∀ e ∈ edges ops i, listed.getD e true = true := by
  rw [mem_ready]
  constructor
  · rintro ⟨h1, o, ho, h2⟩
    have hi := (Array.getElem?_eq_some_iff.1 ho).1
    refine ⟨hi, h1, fun e he => ?_⟩
    have hlt := edges_lt hok he
    unfold edges at he
    rw [ho] at he
    obtain ⟨x, hx, rfl⟩ := List.mem_map.1 he
    obtain ⟨hx1, hx2⟩ := List.mem_filter.1 hx
    have := h2 x (by simpa using hx1) hx2
    rw [Array.getD_eq_getD_getElem?] at this ⊢
    rw [Array.getElem?_eq_getElem (by omega)] at this ⊢
    exact this
  · rintro ⟨hi, h1, h2⟩
    refine ⟨h1, ops[i], Array.getElem?_eq_getElem hi, fun e he hb => ?_⟩
    have hm : e.on ∈ edges ops i := by
      unfold edges
      rw [Array.getElem?_eq_getElem hi]
      exact List.mem_map.2 ⟨e, List.mem_filter.2 ⟨by simpa using he, hb⟩, rfl⟩
    have hlt := edges_lt hok hm
    have := h2 _ hm
    rw [Array.getD_eq_getD_getElem?] at this ⊢
    rw [Array.getElem?_eq_getElem (by omega)] at this ⊢
    exact this
theorem mono_all {ts : List Tmp} (hts : ∀ i t, dstAt ops i = some t → ts.contains t = true) {a0 : Act} {w0 : World} {F : Nat → Value → World → Prop} (hok : okOps ops = true) (hF : ∀ i, Stable (F i)) (hs : ∀ i ∈ List.range ops.size, MStep P ops Q ts a0 w0 F i) (hdst : ∀ i t, dstAt ops i = some t → t < a0.tmps.size)
    (hend : ∀ a w, Ext w0 w → Fr ops ts a0 a → (∀ i t, dstAt ops i = some t → ∃ v, a.tmps[t]? = some v ∧ F i v w) → Q .normal a w) :
    ∀ (fuel : Nat) (listed : Array Bool) (a : Act) (w : World), listed.toList.count false = fuel → Inv ops ts a0 w0 F listed a w → wpAny P .any ops Q fuel listed a w := by
  have fin : ∀ (listed : Array Bool) (a : Act) (w : World), Inv ops ts a0 w0 F listed a w → (∀ i, i < ops.size → listed.getD i true = true) → Q .normal a w := by
    intro listed a w hI hall
    refine hend a w hI.ext hI.fr (fun i t ht => ?_)
    by_cases hi : i < ops.size
    · exact hI.val i t hi (hall i hi) ht
    · unfold dstAt at ht
      rw [Array.getElem?_eq_none (by omega)] at ht
      cases ht
  have none_ : ∀ (listed : Array Bool), listed.size = ops.size → Region.ready .any ops listed = [] → ∀ i, i < ops.size → listed.getD i true = true := by
    intro listed hsz hr i
    induction i using Nat.strongRecOn with
    | _ i ih =>
      intro hi
      cases hl : listed.getD i true with
      | true => rfl
      | false =>
        have : i ∈ Region.ready .any ops listed := (ready_edges hsz hok).2 ⟨hi, hl, fun e he => ih e (edges_lt hok he) (by have := edges_lt hok he; omega)⟩
        rw [hr] at this
        cases this
  intro fuel
  induction fuel with
  | zero =>
    intro listed a w hc hI
    have hall : ∀ i, i < ops.size → listed.getD i true = true := by
      intro i hi
      have hm := List.count_eq_zero.1 hc
      rw [Array.getD_eq_getD_getElem?, Array.getElem?_eq_getElem (by rw [hI.sz]; exact hi)]
      cases hb : listed[i]'(by rw [hI.sz]; exact hi) with
      | true => rfl
      | false => exact absurd (by rw [← hb]; exact Array.getElem_mem_toList _) hm
    refine ⟨?_, fin listed a w hI hall⟩
    refine List.eq_nil_iff_forall_not_mem.2 (fun i hi => ?_)
    obtain ⟨h1, h2, _⟩ := (ready_edges hI.sz hok).1 hi
    rw [hall i h1] at h2
    cases h2
  | succ fuel ih =>
    intro listed a w hc hI
    refine ⟨fun hr => fin listed a w hI (none_ listed hI.sz hr), fun i hi => ?_⟩
    obtain ⟨hlt, hl, he⟩ := (ready_edges hI.sz hok).1 hi
    obtain ⟨oi, hoi, hK⟩ := hs i (List.mem_range.2 hlt) a w hI.ext hI.fr (fun j t hr ht => by
      obtain ⟨h1, h2⟩ := known_of hok hI _ i j hlt he hr
      exact hI.val j t h1 h2 ht)
    refine wpOp_step hoi (fun K' hK' => hK K' (fun v w' hv hx => hK' _ _ ?_))
    have hdi : dstAt ops i = oi.dst := by unfold dstAt; rw [hoi]; rfl
    have hli : listed[i]'(by rw [hI.sz]; exact hlt) = false := by
      rw [Array.getD_eq_getD_getElem?, Array.getElem?_eq_getElem (by rw [hI.sz]; exact hlt)] at hl
      exact hl
    refine ih _ _ _ ?_ ⟨by rw [Array.size_setIfInBounds]; exact hI.sz, hI.ext.trans hx, ⟨?_, ?_, ?_⟩, ?_, ?_⟩
    · rw [Array.toList_setIfInBounds, List.count_set (h := by rw [Array.length_toList, hI.sz]; exact hlt)]
      have : listed.toList[i]'(by rw [Array.length_toList, hI.sz]; exact hlt) = false := by rw [Array.getElem_toList]; exact hli
      rw [this, hc]
      simp
    · rw [← hI.fr.size]
      unfold Act.put
      split <;> simp
    · rw [← hI.fr.defers]
      unfold Act.put
      split <;> rfl
    · intro t ht
      rw [← hI.fr.off t ht]
      cases hd : oi.dst with
      | none => rfl
      | some d =>
        have hne : d ≠ t := fun e => by have := hts i t (by rw [hdi, hd, e]); rw [ht] at this; cases this
        simp [Act.put, Array.getElem?_setIfInBounds_ne hne]
    · intro j t hj hlj htj
      by_cases hij : i = j
      · subst hij
        rw [hdi] at htj
        refine ⟨v, ?_, hv⟩
        have := hdst i t (by rw [hdi]; exact htj)
        rw [htj]
        simp [Act.put, hI.fr.size, this]
      · have hlj' : listed.getD j true = true := by rw [getD_set_ne true hij] at hlj; exact hlj
        obtain ⟨u, hu, hfu⟩ := hI.val j t hj hlj' htj
        refine ⟨u, ?_, hF j u w w' hfu hx⟩
        cases hd : oi.dst with
        | none => exact hu
        | some d =>
          have hne : d ≠ t := fun e => hij (dst_ne hok (by rw [hdi, hd, e]) htj)
          simpa [Act.put, Array.getElem?_setIfInBounds_ne hne] using hu
    · intro j e hj hlj hem
      by_cases hej : i = e
      · subst hej
        rw [Array.getD_eq_getD_getElem?]
        simp [hI.sz, hlt]
      · rw [getD_set_ne true hej]
        by_cases hij : i = j
        · subst hij
          exact he e hem
        · rw [getD_set_ne true hij] at hlj
          exact hI.shut j e hj hlj hem
def putT (a : Act) (ts : List Tmp) (val : Tmp → Value) : Act := ts.foldl (fun a t => a.put (some t) (val t)) a
theorem putT_spec (val : Tmp → Value) : ∀ (ts : List Tmp) (a : Act), (putT a ts val).tmps.size = a.tmps.size ∧ (putT a ts val).defers = a.defers ∧ (∀ t, t ∉ ts → (putT a ts val).tmps[t]? = a.tmps[t]?) ∧ (∀ t, t ∈ ts → t < a.tmps.size → (putT a ts val).tmps[t]? = some (val t))
  | [], a => ⟨rfl, rfl, fun _ _ => rfl, fun _ h => by cases h⟩
  | s :: r, a => by
    obtain ⟨h1, h2, h3, h4⟩ := putT_spec val r (a.put (some s) (val s))
    have hsz : (a.put (some s) (val s)).tmps.size = a.tmps.size := by simp [Act.put]
    refine ⟨h1.trans hsz, h2.trans rfl, fun t ht => ?_, fun t ht hlt => ?_⟩
    · rw [List.mem_cons, not_or] at ht
      refine (h3 t ht.2).trans ?_
      simp [Act.put, Array.getElem?_setIfInBounds_ne (Ne.symm ht.1)]
    · by_cases htr : t ∈ r
      · exact h4 t htr (by rw [hsz]; exact hlt)
      · rcases List.mem_cons.1 ht with rfl | h
        · refine (h3 t htr).trans ?_
          simp [Act.put, hlt]
        · exact absurd h htr
theorem mono_region {id : Nat} {a0 : Act} {w0 : World} (F : Nat → Value → World → Prop) (n : Nat) (ts : List Tmp) (hm : P.follows .mixedOrders = true) (hn : ops.size = n) (hok : okOps ops = true)
    (hts : (ops.toList.filterMap (·.dst) == ts && ts.all fun t => decide (t < a0.tmps.size)) = true) (hF : ∀ i, Stable (F i)) (hs : ∀ i ∈ List.range n, MStep P ops Q ts a0 w0 F i)
    (hend : ∀ (val : Tmp → Value) (w : World), Ext w0 w → (∀ i t, dstAt ops i = some t → F i (val t) w) → Q .normal (putT a0 ts val) w) : (Code.region id ops true).wp P Q a0 w0 := by
  subst hn
  rw [Bool.and_eq_true, beq_iff_eq] at hts
  obtain ⟨hts, hlt⟩ := hts
  have hdst : ∀ i t, dstAt ops i = some t → t ∈ ts := by
    intro i t h
    rw [← hts]
    unfold dstAt at h
    cases ho : ops[i]? with
    | none => rw [ho] at h; cases h
    | some o =>
      rw [ho] at h
      exact List.mem_filterMap.2 ⟨o, by have := Array.mem_of_getElem? ho; simpa using this, h⟩
  have hdlt : ∀ i t, dstAt ops i = some t → t < a0.tmps.size := fun i t h => by simpa using List.all_eq_true.1 hlt t (hdst i t h)
  refine wp_region_any hm (mono_all (ts := ts) (fun i t h => List.contains_iff_mem.2 (hdst i t h)) (a0 := a0) (w0 := w0.drew) (F := F) hok hF (fun i hi a w hx => hs i hi a w ((Ext.drew w0).trans hx)) hdlt ?_ _ _ _ _ ?_ ⟨by simp, Ext.refl _, ⟨rfl, rfl, fun _ _ => rfl⟩, ?_, ?_⟩)
  · intro a w hx hfr hv
    have key : a = putT a0 ts (fun t => a.tmps.getD t undef) := by
      obtain ⟨h1, h2, h3, h4⟩ := putT_spec (fun t => a.tmps.getD t undef) ts a0
      have ht : a.tmps = (putT a0 ts (fun t => a.tmps.getD t undef)).tmps := by
        refine Array.ext_getElem? (fun t => ?_)
        by_cases hmem : t ∈ ts
        · have hl : t < a0.tmps.size := by simpa using List.all_eq_true.1 hlt t hmem
          rw [h4 t hmem hl, Array.getD_eq_getD_getElem?]
          rw [Array.getElem?_eq_getElem (by rw [hfr.size]; exact hl)]
          rfl
        · rw [h3 t hmem]
          refine hfr.off t (by cases h : ts.contains t with | false => rfl | true => exact absurd (List.contains_iff_mem.1 h) hmem)
      have hd : a.defers = (putT a0 ts (fun t => a.tmps.getD t undef)).defers := by rw [h2]; exact hfr.defers
      cases a
      cases hp : putT a0 ts _
      rw [hp] at ht hd
      simp only at ht hd
      rw [ht, hd]
    rw [key]
    refine hend _ w ((Ext.drew w0).trans hx) (fun i t h => ?_)
    obtain ⟨v, h1, h2⟩ := hv i t h
    rw [Array.getD_eq_getD_getElem?, h1]
    exact h2
  · simp
  · intro i t hi h
    rw [Array.getD_eq_getD_getElem?, Array.getElem?_replicate, if_pos hi] at h
    cases h
  · intro i j hi h
    rw [Array.getD_eq_getD_getElem?, Array.getElem?_replicate, if_pos hi] at h
    cases h
end
end Go.Proofs.Ytpedkegfefnibaa.Mono
namespace Go.Proofs.Ytpedkegfefnibaa.Read
open Go.RowKit Go.Proofs.YtpedkegfefnibaaW.PrintWords
def IsRow {α : Type} (d : Kd α) (w : World) (v : Value) (xs : List α) : Prop := ∃ A c, v = .slice A xs.length c ∧ xs.length ≤ c ∧ Kd.C d w A xs.length xs
theorem c_of {α : Type} {d : Kd α} {w : World} {A : Option Addr} {c : Nat} {xs : List α} (h : Kd.C d w A xs.length xs) (hc : xs.length ≤ c) : IsRow d w (.slice A xs.length c) xs := ⟨A, c, rfl, hc, h⟩
theorem c3_ {α : Type} {d : Kd α} {w : World} {v0 v1 v2 : Value} {x0 x1 x2 : List α} (h0 : IsRow d w v0 x0) (h1 : IsRow d w v1 x1) (h2 : IsRow d w v2 x2) : ∀ (j : Nat) (x : List α), ([x0, x1, x2] : List (List α))[j]? = some x → ∃ v, (#[v0, v1, v2] : Array Value)[j]? = some v ∧ IsRow d w v x := by
  intro j x h
  match j, h with
  | 0, h => exact ⟨v0, rfl, by cases h; exact h0⟩
  | 1, h => exact ⟨v1, rfl, by cases h; exact h1⟩
  | 2, h => exact ⟨v2, rfl, by cases h; exact h2⟩
  | j + 3, h => cases h
theorem c_rows {α : Type} {d : Kd α} {e t g : Nat} {w : World} {cs : Array Value} {ls : List (List α)} (hb : w.heap[g]? = some (.cells cs t (0, 0))) (hsz : cs.size = ls.length) (hn : ls.length ≤ 1000000)
    (h : ∀ (j : Nat) (x : List α), ls[j]? = some x → ∃ v, cs[j]? = some v ∧ IsRow d w v x) : Kd.C (Kd.slice e d) w (some ⟨g, 0, none⟩) ls.length ls := by
  refine ⟨rfl, by omega, fun _ => ⟨_, rfl, fun j p hj => ?_⟩⟩
  obtain ⟨v, hv, A, c, rfl, hl, hC⟩ := h j p hj
  refine ⟨[_], rfl, ⟨A, c, rfl, hl, hC⟩, fun i u hu => ?_⟩
  match i, hu with
  | 0, hu =>
    cases hu
    have hz : (Kd.slice e d).sz = 1 := rfl
    rw [hz, Nat.mul_one, Nat.add_zero]
    have ha : (⟨g, 0, none⟩ : Addr).add j = ⟨g, j, none⟩ := add_plain g j
    rw [ha, blk_cell hb j]
    exact hv
  | i + 1, hu => cases hu
end Go.Proofs.Ytpedkegfefnibaa.Read
namespace Go.Proofs.Ytpedkegfefnibaa.EvKit
open Go.RowKit Go.Proofs.YtpedkegfefnibaaW.PrintWords
theorem Ev.pos {α : Type} {c : Prop} [Decidable c] {f g : Nat → Option α} {r : α} (h : c) (k : Ev f r) : Ev (fun n => if c then f n else g n) r := by
  obtain ⟨K, k⟩ := k
  exact ⟨K, fun n hn => by simp only [if_pos h]; exact k n hn⟩
theorem Ev.neg {α : Type} {c : Prop} [Decidable c] {f g : Nat → Option α} {r : α} (h : ¬ c) (k : Ev g r) : Ev (fun n => if c then f n else g n) r := by
  obtain ⟨K, k⟩ := k
  exact ⟨K, fun n hn => by simp only [if_neg h]; exact k n hn⟩
theorem Ev.ite {α : Type} {c : Prop} [Decidable c] {f g : Nat → Option α} {r : α} (h : c → Ev f r) (k : ¬ c → Ev g r) : Ev (fun n => if c then f n else g n) r := by
  by_cases hc : c
  · exact Ev.pos hc (h hc)
  · exact Ev.neg hc (k hc)
theorem Ev.eq {α : Type} {f : Nat → Option α} {r r' : α} (k : Ev f r) (h : r = r') : Ev f r' := h ▸ k
theorem Ev.ret {α : Type} {r r' : α} (h : r = r') : Ev (fun _ => some r) r' := h ▸ Ev.now r
theorem Ev.val {α : Type} {o : Option α} {r : α} (h : o = some r) : Ev (fun _ => o) r := ⟨0, fun _ _ => h⟩
theorem Ev.bindv {α β : Type} {o : Option α} {f : Nat → α → Option β} {a : α} {r : β} (h : o = some a) (k : Ev (fun n => f n a) r) : Ev (fun n => o.bind (f n)) r := by
  subst h
  exact k
theorem rd_nat {l : List Int} {i : Nat} (h : i < l.length) : rd l (i : Int) = l[i] := by
  simp [rd, h]
theorem rd_mem {l : List Int} {i : Int} (h0 : 0 ≤ i) (h : i < (l.length : Int)) : rd l i ∈ l := by
  obtain ⟨n, rfl⟩ := Int.eq_ofNat_of_zero_le h0
  have h' : n < l.length := by exact_mod_cast h
  rw [rd_nat h']
  exact List.getElem_mem h'
theorem drop_rd {l : List Int} {i : Nat} (h : i < l.length) : l.drop i = rd l (i : Int) :: l.drop (i + 1) := by
  rw [rd_nat h]
  exact List.drop_eq_getElem_cons h
theorem w64_id {x : Int} (h0 : -9223372036854775808 ≤ x) (h : x ≤ 9223372036854775807) : wrap64 x = x := by
  unfold wrap64
  omega
theorem w64_succ {i : Nat} (h : i < 9000000000000000000) : wrap64 ((i : Int) + 1) = ((i + 1 : Nat) : Int) := by
  unfold wrap64
  omega
theorem w_u64 (n : Int) (h₀ : 0 ≤ n) (h₁ : n < 18446744073709551616) : IntKind.u64.wrap n = n := by
  simp [IntKind.wrap, IntKind.bits, IntKind.signed]
  omega
theorem w_u8 (n : Int) (h₀ : 0 ≤ n) (h₁ : n < 256) : IntKind.u8.wrap n = n := by
  simp [IntKind.wrap, IntKind.bits, IntKind.signed]
  omega
theorem wf_u8 {x : Int} (h : (Lit.int .u8 x).wf = true) : 0 ≤ x ∧ x < 256 := by
  have h1 : IntKind.u8.min = 0 := by decide
  have h2 : IntKind.u8.max = 255 := by decide
  simp only [Lit.wf, h1, h2, Bool.and_eq_true, decide_eq_true_eq] at h
  omega
end Go.Proofs.Ytpedkegfefnibaa.EvKit
namespace Go.Proofs.Ytpedkegfefnibaa.BitsKit
open Go.RowKit Go.Proofs.Ytpedkegfefnibaa.EvKit
theorem xor_nat (k : IntKind) (j : Nat) (hj : j ≤ k.bits) (hk : ∀ n : Int, 0 ≤ n → n < 2 ^ j → k.wrap n = n) (a b : Nat) (ha : a < 2 ^ j) (hb : b < 2 ^ j) : Go.bits .xor k a b = ((a ^^^ b : Nat) : Int) := by
  have hp : 2 ^ j ≤ 2 ^ k.bits := Nat.pow_le_pow_right (by decide) hj
  have ha' : a % 2 ^ k.bits = a := Nat.mod_eq_of_lt (Nat.lt_of_lt_of_le ha hp)
  have hb' : b % 2 ^ k.bits = b := Nat.mod_eq_of_lt (Nat.lt_of_lt_of_le hb hp)
  simp only [Go.bits, BitVec.ofInt_natCast, BitVec.toNat_xor, BitVec.toNat_ofNat, ha', hb']
  refine hk _ (Int.natCast_nonneg _) ?_
  have := Nat.xor_lt_two_pow ha hb
  exact_mod_cast this
theorem wu8 (n : Int) (h₀ : 0 ≤ n) (h₁ : n < 2 ^ 8) : IntKind.u8.wrap n = n := w_u8 n h₀ (by simpa using h₁)
theorem xor_u8 {a b : Nat} (ha : a < 256) (hb : b < 256) : Go.bits .xor .u8 a b = ((a ^^^ b : Nat) : Int) := xor_nat .u8 8 (by decide) wu8 a b ha hb
theorem and_u8 {a b : Nat} (ha : a < 256) (hb : b < 256) : Go.bits .and .u8 a b = ((a &&& b : Nat) : Int) := (bits_nat .u8 8 (by decide) wu8 a b ha hb).1
end Go.Proofs.Ytpedkegfefnibaa.BitsKit
namespace Go.Proofs.Ytpedkegfefnibaa.CrcMath
def round (c : Nat) : Nat := c / 2 ^^^ (if c % 2 = 1 then 3988292384 else 0)
def rounds : Nat → Nat → Nat
  | 0, c => c
  | n + 1, c => rounds n (round c)
def crcStep (c b : Nat) : Nat := rounds 8 (c ^^^ b)
def run (c : Nat) (l : List Nat) : Nat := l.foldl crcStep c
def sum (l : List Nat) : Nat := 4294967295 ^^^ run 4294967295 l
def bitsOf : Nat → Nat → List Nat
  | 0, _ => []
  | n + 1, b => b % 2 :: bitsOf n (b / 2)
end Go.Proofs.Ytpedkegfefnibaa.CrcMath
namespace Go.Proofs.Ytpedkegfefnibaa.CrcMath
def bitAt (l : List Nat) (i : Nat) : Nat := l.getD (i / 8) 0 / 2 ^ (i % 8) % 2
end Go.Proofs.Ytpedkegfefnibaa.CrcMath
namespace Go.Proofs.Ytpedkegfefnibaa.BitsMath
open Go.Proofs.Ytpedkegfefnibaa.CrcMath
def flip1 (l : List Nat) (i : Int) : List Nat := if 0 ≤ i ∧ i / 8 < (l.length : Int) then l.set (i.toNat / 8) (l.getD (i.toNat / 8) 0 ^^^ 2 ^ (i.toNat % 8)) else l
def flips (l : List Nat) (at_ : List Int) : List Nat := at_.foldl flip1 l
def ones (b : Nat) : Nat := (bitsOf 8 b).sum
def count (l : List Nat) : Nat := (l.map ones).sum
theorem flip1_length (l : List Nat) (i : Int) : (flip1 l i).length = l.length := by
  unfold flip1
  split
  · exact List.length_set
  · rfl
theorem flip1_lt {l : List Nat} (h : ∀ b ∈ l, b < 256) (i : Int) : ∀ b ∈ flip1 l i, b < 256 := by
  unfold flip1
  split
  · intro b hb
    rcases List.mem_or_eq_of_mem_set hb with hb | rfl
    · exact h b hb
    · have h1 : 2 ^ (i.toNat % 8) < 2 ^ 8 := Nat.pow_lt_pow_right (by decide) (Nat.mod_lt _ (by decide))
      refine Nat.xor_lt_two_pow (n := 8) ?_ h1
      rw [List.getD_eq_getElem?_getD]
      cases e : l[i.toNat / 8]? with
      | none => decide
      | some x => exact h x (List.mem_of_getElem? e)
  · exact h
theorem ones_le (b : Nat) : ones b ≤ 8 := by
  unfold ones
  simp only [bitsOf, List.sum_cons, List.sum_nil]
  omega
theorem count_le : ∀ l : List Nat, count l ≤ 8 * l.length
  | [] => Nat.le_refl _
  | b :: l => by
    have h1 := count_le l
    have h2 := ones_le b
    unfold count at h1 ⊢
    rw [List.map_cons, List.sum_cons, List.length_cons]
    omega
theorem ones_table : ∀ b : Nat, b < 256 → ones b = [0, 1, 1, 2, 1, 2, 2, 3, 1, 2, 2, 3, 2, 3, 3, 4, 1, 2, 2, 3, 2, 3, 3, 4, 2, 3, 3, 4, 3, 4, 4, 5, 1, 2, 2, 3, 2, 3, 3, 4, 2, 3, 3, 4, 3, 4, 4, 5, 2, 3, 3, 4, 3, 4, 4, 5, 3, 4, 4, 5, 4, 5, 5, 6, 1, 2, 2, 3, 2, 3, 3, 4, 2, 3, 3, 4, 3, 4, 4, 5, 2, 3, 3, 4, 3, 4, 4, 5, 3, 4, 4, 5, 4, 5, 5, 6, 2, 3, 3, 4, 3, 4, 4, 5, 3, 4, 4, 5, 4, 5, 5, 6, 3, 4, 4, 5, 4, 5, 5, 6, 4, 5, 5, 6, 5, 6, 6, 7, 1, 2, 2, 3, 2, 3, 3, 4, 2, 3, 3, 4, 3, 4, 4, 5, 2, 3, 3, 4, 3, 4, 4, 5, 3, 4, 4, 5, 4, 5, 5, 6, 2, 3, 3, 4, 3, 4, 4, 5, 3, 4, 4, 5, 4, 5, 5, 6, 3, 4, 4, 5, 4, 5, 5, 6, 4, 5, 5, 6, 5, 6, 6, 7, 2, 3, 3, 4, 3, 4, 4, 5, 3, 4, 4, 5, 4, 5, 5, 6, 3, 4, 4, 5, 4, 5, 5, 6, 4, 5, 5, 6, 5, 6, 6, 7, 3, 4, 4, 5, 4, 5, 5, 6, 4, 5, 5, 6, 5, 6, 6, 7, 4, 5, 5, 6, 5, 6, 6, 7, 5, 6, 6, 7, 6, 7, 7, 8].getD b 0 := by
  decide +kernel
end Go.Proofs.Ytpedkegfefnibaa.BitsMath
namespace Go.Proofs.Ytpedkegfefnibaa.BitsMath
open Go.Proofs.Ytpedkegfefnibaa.CrcMath
theorem bitAt_test (l : List Nat) (i : Nat) : bitAt l i = ((l.getD (i / 8) 0).testBit (i % 8)).toNat := by
  unfold bitAt
  rw [Nat.testBit_eq_decide_div_mod_eq]
  generalize l.getD (i / 8) 0 / 2 ^ (i % 8) = q
  rcases Nat.mod_two_eq_zero_or_one q with h | h <;> rw [h] <;> rfl
end Go.Proofs.Ytpedkegfefnibaa.BitsMath
namespace Go.Proofs.Ytpedkegfefnibaa.BitsMath
open Go.Proofs.Ytpedkegfefnibaa.CrcMath
def andW (a b : List Nat) : List Nat := (List.range a.length).map fun i => if i < b.length then a.getD i 0 &&& b.getD i 0 else a.getD i 0
def andN (a b : List Nat) : List Nat := if a.length < b.length then andW b a else andW a b
theorem andW_length (a b : List Nat) : (andW a b).length = a.length := by simp [andW]
theorem andN_length (a b : List Nat) : (andN a b).length = max a.length b.length := by
  unfold andN
  split
  · rw [andW_length]; omega
  · rw [andW_length]; omega
theorem getD_lt {l : List Nat} (h : ∀ b ∈ l, b < 256) (i : Nat) : l.getD i 0 < 256 := by
  rw [List.getD_eq_getElem?_getD]
  cases e : l[i]? with
  | none => decide
  | some x => exact h x (List.mem_of_getElem? e)
theorem andW_lt {a b : List Nat} (ha : ∀ x ∈ a, x < 256) : ∀ x ∈ andW a b, x < 256 := by
  intro x hx
  obtain ⟨i, _, rfl⟩ := List.mem_map.1 hx
  have := getD_lt ha i
  split
  · exact Nat.lt_of_le_of_lt Nat.and_le_left this
  · exact this
theorem andN_lt {a b : List Nat} (ha : ∀ x ∈ a, x < 256) (hb : ∀ x ∈ b, x < 256) : ∀ x ∈ andN a b, x < 256 := by
  unfold andN
  split
  · exact andW_lt hb
  · exact andW_lt ha
theorem andW_get {a b : List Nat} {i : Nat} (hi : i < a.length) : (andW a b).getD i 0 = if i < b.length then a.getD i 0 &&& b.getD i 0 else a.getD i 0 := by
  unfold andW
  rw [List.getD_eq_getElem?_getD, List.getElem?_map, List.getElem?_range hi]
  rfl
theorem bitAt_andW {a b : List Nat} {i : Nat} (hi : i < 8 * a.length) : bitAt (andW a b) i = if i < 8 * b.length then bitAt a i * bitAt b i else bitAt a i := by
  rw [bitAt_test, bitAt_test, bitAt_test, andW_get (by omega)]
  by_cases h : i / 8 < b.length
  · rw [if_pos h, if_pos (by omega), Nat.testBit_and]
    cases (a.getD (i / 8) 0).testBit (i % 8) <;> cases (b.getD (i / 8) 0).testBit (i % 8) <;> rfl
  · rw [if_neg h, if_neg (by omega)]
theorem bitAt_andN {a b : List Nat} {i : Nat} (hi : i < 8 * max a.length b.length) :
    bitAt (andN a b) i = if 8 * a.length ≤ i then bitAt b i else if 8 * b.length ≤ i then bitAt a i else bitAt a i * bitAt b i := by
  unfold andN
  by_cases hlt : a.length < b.length
  · rw [if_pos hlt, bitAt_andW (by omega)]
    by_cases h1 : i < 8 * a.length
    · rw [if_pos h1, if_neg (by omega), if_neg (by omega), Nat.mul_comm]
    · rw [if_neg h1, if_pos (by omega)]
  · rw [if_neg hlt, bitAt_andW (by omega)]
    have ha : ¬ 8 * a.length ≤ i := by omega
    by_cases h1 : i < 8 * b.length
    · rw [if_pos h1, if_neg ha, if_neg (by omega)]
    · rw [if_neg h1, if_neg ha, if_pos (by omega)]
def lows : Nat → Nat → List Nat
  | 0, _ => []
  | n + 1, x => if x = 0 then [] else ((List.range 8).find? fun j => x / 2 ^ j % 2 = 1).getD 8 :: lows n (x &&& (x - 1))
theorem lows_eq : ∀ x : Nat, x < 256 → lows 9 x = (List.range 8).filter fun j => x / 2 ^ j % 2 = 1 := by decide +kernel
def seg (a b : List Nat) (q : Nat) : List Nat := ((List.range 8).filter fun j => (a.getD q 0 ^^^ b.getD q 0) / 2 ^ j % 2 = 1).map (8 * q + ·)
def diffN (a b : List Nat) : List Nat := (List.range (8 * min a.length b.length)).filter fun i => bitAt a i ≠ bitAt b i
theorem xor_bit (x y j : Nat) : ((x ^^^ y) / 2 ^ j % 2 = 1) ↔ (x / 2 ^ j % 2 ≠ y / 2 ^ j % 2) := by
  have h := Nat.testBit_xor (x := x) (y := y) (i := j)
  rw [Nat.testBit_eq_decide_div_mod_eq, Nat.testBit_eq_decide_div_mod_eq, Nat.testBit_eq_decide_div_mod_eq] at h
  rcases Nat.mod_two_eq_zero_or_one ((x ^^^ y) / 2 ^ j) with h1 | h1 <;> rcases Nat.mod_two_eq_zero_or_one (x / 2 ^ j) with h2 | h2 <;> rcases Nat.mod_two_eq_zero_or_one (y / 2 ^ j) with h3 | h3 <;> rw [h1, h2, h3] at h <;> simp at h <;> omega
theorem diff_segs (a b : List Nat) : ∀ m : Nat, ((List.range (8 * m)).filter fun i => bitAt a i ≠ bitAt b i) = (List.range m).flatMap (seg a b)
  | 0 => rfl
  | m + 1 => by
    rw [Nat.mul_add, Nat.mul_one, List.range_add, List.filter_append, diff_segs a b m, List.range_succ (n := m), List.flatMap_append]
    congr 1
    rw [List.flatMap_cons, List.flatMap_nil, List.append_nil, List.filter_map]
    unfold seg
    congr 1
    refine List.filter_congr fun j hj => ?_
    have hj := List.mem_range.1 hj
    show decide (bitAt a (8 * m + j) ≠ bitAt b (8 * m + j)) = _
    rw [decide_eq_decide, xor_bit]
    unfold bitAt
    rw [show (8 * m + j) / 8 = m by omega, show (8 * m + j) % 8 = j by omega]
end Go.Proofs.Ytpedkegfefnibaa.BitsMath
namespace Go.Proofs.Ytpedkegfefnibaa.NatKit
open Go.RowKit Go.Proofs.YtpedkegfefnibaaW.PrintWords Go.Proofs.Ytpedkegfefnibaa.EvKit
def nats (l : List Int) : List Nat := l.map Int.toNat
def ints (l : List Nat) : List Int := l.map Int.ofNat
theorem nats_length (l : List Int) : (nats l).length = l.length := List.length_map _
theorem nats_lt {l : List Int} (h : ∀ x ∈ l, 0 ≤ x ∧ x < 256) : ∀ b ∈ nats l, b < 256 := by
  intro b hb
  obtain ⟨x, hx, rfl⟩ := List.mem_map.1 hb
  have := h x hx
  omega
theorem ints_nats {l : List Int} (h : ∀ x ∈ l, 0 ≤ x) : ints (nats l) = l := by
  unfold ints nats
  rw [List.map_map]
  conv => rhs; rw [← List.map_id l]
  refine List.map_congr_left fun x hx => ?_
  have := h x hx
  show ((x.toNat : Nat) : Int) = x
  omega
theorem nats_ints (l : List Nat) : nats (ints l) = l := by
  unfold ints nats
  rw [List.map_map]
  conv => rhs; rw [← List.map_id l]
  exact List.map_congr_left fun x _ => rfl
theorem rd_ints {l : List Nat} {i : Nat} : rd (ints l) (i : Int) = ((l.getD i 0 : Nat) : Int) := by
  unfold rd ints
  rw [Int.toNat_natCast, List.getD_eq_getElem?_getD, List.getD_eq_getElem?_getD, List.getElem?_map]
  cases l[i]? <;> rfl
theorem rd_nats {l : List Int} (h : ∀ x ∈ l, 0 ≤ x) (i : Nat) : rd l (i : Int) = (((nats l).getD i 0 : Nat) : Int) := by
  conv => lhs; rw [← ints_nats h]
  exact rd_ints
theorem rd_ints_lt {l : List Nat} {i : Nat} (h : i < l.length) : rd (ints l) (i : Int) = ((l[i] : Nat) : Int) := by
  rw [rd_ints, List.getD_eq_getElem?_getD, List.getElem?_eq_getElem h]
  rfl
theorem ints_set (l : List Nat) (i v : Nat) : (ints l).set i (v : Int) = ints (l.set i v) := by
  unfold ints
  rw [List.map_set]
  rfl
theorem ints_length (l : List Nat) : (ints l).length = l.length := List.length_map _
theorem ints_byte {l : List Nat} (h : ∀ b ∈ l, b < 256) : ∀ x ∈ ints l, 0 ≤ x ∧ x < 256 := by
  intro x hx
  obtain ⟨b, hb, rfl⟩ := List.mem_map.1 hx
  have := h b hb
  exact ⟨Int.natCast_nonneg b, by show ((b : Nat) : Int) < 256; omega⟩
end Go.Proofs.Ytpedkegfefnibaa.NatKit
namespace Go.Proofs.Ytpedkegfefnibaa.PureBitsLaws
open Go.RowKit Go.Proofs.Ytpedkegfefnibaa.QBitsLaws Go.Proofs.YtpedkegfefnibaaW.PrintWords Go.Proofs.YtpedkegfefnibaaW.PrintLast Go.Proofs.YtpedkegfefnibaaW.PrintMore Go.Proofs.Ytpedkegfefnibaa.EvKit Go.Proofs.Ytpedkegfefnibaa.BitsKit Go.Proofs.Ytpedkegfefnibaa.CrcMath Go.Proofs.Ytpedkegfefnibaa.NatKit Go.Proofs.Ytpedkegfefnibaa.BitsMath
theorem shl_one {r : Nat} (h : r < 8) : shl .u8 1 (r : Int) = ((2 ^ r : Nat) : Int) := by
  have : r = 0 ∨ r = 1 ∨ r = 2 ∨ r = 3 ∨ r = 4 ∨ r = 5 ∨ r = 6 ∨ r = 7 := by omega
  rcases this with rfl | rfl | rfl | rfl | rfl | rfl | rfl | rfl <;> decide
theorem flip_l0 {at_ : List Int} (ha : ∀ i ∈ at_, i ≤ 9223372036854775807) (hn : at_.length < 1000000) (d : Nat) : ∀ (i : Nat) (l : List Nat), i + d = at_.length → (∀ b ∈ l, b < 256) → l.length < 1000000 →
    Ev (fun k => bits_Flip.l0 k (ints l) at_ (at_.length : Int) (i : Int)) (ints (flips l (at_.drop i))) := by
  induction d with
  | zero =>
    intro i l hi hl hln
    refine Ev.step (fun k => bits_Flip.l0.eq_2 ..) ?_
    refine Ev.neg (by omega) (Ev.ret ?_)
    rw [List.drop_of_length_le (by omega)]
    rfl
  | succ d ih =>
    intro i l hi hl hln
    refine Ev.step (fun k => bits_Flip.l0.eq_2 ..) ?_
    refine Ev.pos (by omega) ?_
    refine Ev.pos (by omega) ?_
    refine Ev.pos (by omega) ?_
    have hmax := ha _ (rd_mem (l := at_) (i := (i : Int)) (by omega) (by omega))
    rw [drop_rd (l := at_) (i := i) (by omega), w64_succ (by omega)]
    have next := fun v => ih (i + 1) (flip1 l v) (by omega) (flip1_lt hl v) (by rw [flip1_length]; exact hln)
    generalize rd at_ (i : Int) = a at hmax ⊢
    have next := next a
    show Ev _ (ints (flips (flip1 l a) (at_.drop (i + 1))))
    have hself : ¬ (0 ≤ a ∧ a / 8 < (l.length : Int)) → flip1 l a = l := fun h => by unfold flip1; rw [if_neg h]
    refine Ev.ite (fun h0 => ?_) (fun h0 => ?_)
    · obtain ⟨m, rfl⟩ := Int.eq_ofNat_of_zero_le h0
      have hw : wrap64 (Int.tdiv (m : Int) 8) = ((m / 8 : Nat) : Int) := by
        rw [Int.tdiv_eq_ediv_of_nonneg h0]
        exact w64_id (by omega) (by omega)
      have hs : IntKind.u64.wrap (Int.tmod (m : Int) 8) = ((m % 8 : Nat) : Int) := by
        rw [Int.tmod_eq_emod_of_nonneg h0]
        exact w_u64 _ (by omega) (by omega)
      rw [hw, hs, ints_length]
      clear hw hs
      refine Ev.ite (fun h1 => ?_) (fun h1 => ?_)
      · refine Ev.pos (by omega) ?_
        refine Ev.pos (by omega) ?_
        have hlt : m / 8 < l.length := by omega
        have hb := hl _ (List.getElem_mem hlt)
        have hp : 2 ^ (m % 8) < 256 := Nat.pow_lt_pow_right (n := 8) (a := 2) (by decide) (Nat.mod_lt _ (by decide))
        rw [rd_ints_lt hlt, shl_one (Nat.mod_lt _ (by decide)), xor_u8 hb hp, Int.toNat_natCast, ints_set]
        have e : flip1 l (m : Int) = l.set (m / 8) (l[m / 8] ^^^ 2 ^ (m % 8)) := by
          unfold flip1
          rw [if_pos (by omega), Int.toNat_natCast, List.getD_eq_getElem?_getD, List.getElem?_eq_getElem hlt, Option.getD_some]
        rw [← e]
        exact next
      · rw [hself (by omega)] at next ⊢
        exact next
    · rw [hself (by omega)] at next ⊢
      exact next
theorem flip_ev {l at_ : List Int} (hl : ∀ x ∈ l, 0 ≤ x ∧ x < 256) (hln : l.length < 1000000) (ha : ∀ i ∈ at_, i ≤ 9223372036854775807) (hn : at_.length < 1000000) : Ev (fun k => bits_Flip.f k l at_) (ints (flips (nats l) at_)) := by
  refine Ev.congr (fun k => by rw [bits_Flip.f]) ?_
  refine Ev.bindv (a := l) ?_ ?_
  · unfold slices_Clone_byte_byte.f
    rw [if_pos (by omega)]
  · have := flip_l0 ha hn at_.length 0 (nats l) (by omega) (nats_lt hl) (by rw [nats_length]; exact hln)
    rw [ints_nats fun x hx => (hl x hx).1] at this
    exact this
end Go.Proofs.Ytpedkegfefnibaa.PureBitsLaws
namespace Go.Proofs.Ytpedkegfefnibaa.PureBitsLaws
open Go.RowKit Go.Proofs.Ytpedkegfefnibaa.QBitsLaws Go.Proofs.YtpedkegfefnibaaW.PrintWords Go.Proofs.YtpedkegfefnibaaW.PrintLast Go.Proofs.Ytpedkegfefnibaa.EvKit
theorem same_l0 (a b : List Int) (hl : a.length = b.length) (hb : a.length < 1000000000) (d : Nat) : ∀ i : Nat, i + d = a.length →
    Ev (fun k => incunableref01_Same.l0 k a b (i : Int)) (decide (a.drop i = b.drop i)) := by
  induction d with
  | zero =>
    intro i hi
    refine Ev.step (fun k => incunableref01_Same.l0.eq_2 ..) ?_
    refine Ev.neg (by omega) (Ev.ret ?_)
    rw [List.drop_of_length_le (by omega), List.drop_of_length_le (by omega)]
    rfl
  | succ d ih =>
    intro i hi
    refine Ev.step (fun k => incunableref01_Same.l0.eq_2 ..) ?_
    refine Ev.pos (by omega) (Ev.pos (by omega) (Ev.pos (by omega) ?_))
    rw [drop_rd (l := a) (i := i) (by omega), drop_rd (l := b) (i := i) (by omega)]
    refine Ev.ite (fun h => ?_) (fun h => Ev.ret ?_)
    · rw [w64_succ (by omega), h]
      refine Ev.eq (ih (i + 1) (by omega)) ?_
      simp
    · simp [h]
theorem same_ev (a b : List Int) (hb : a.length < 1000000000) : Ev (fun k => incunableref01_Same.f k a b) (decide (a = b)) := by
  refine Ev.congr (fun k => by rw [incunableref01_Same.f]) ?_
  refine Ev.ite (fun h => ?_) (fun h => Ev.ret ?_)
  · exact same_l0 a b (by omega) hb a.length 0 (by omega)
  · have : a ≠ b := fun e => h (by rw [e])
    simp [this]
end Go.Proofs.Ytpedkegfefnibaa.PureBitsLaws
namespace Go.Proofs.Ytpedkegfefnibaa.PureBitsLaws
open Go.RowKit Go.Proofs.Ytpedkegfefnibaa.QBitsLaws Go.Proofs.YtpedkegfefnibaaW.PrintWords Go.Proofs.YtpedkegfefnibaaW.PrintLast Go.Proofs.YtpedkegfefnibaaW.PrintMore Go.Proofs.Ytpedkegfefnibaa.EvKit Go.Proofs.Ytpedkegfefnibaa.CrcMath Go.Proofs.Ytpedkegfefnibaa.NatKit Go.Proofs.Ytpedkegfefnibaa.BitsMath
theorem bits_awake_ev : Ev (fun k => incunablelaw01_awake.f k) true := by
  refine Ev.congr (fun k => by rw [incunablelaw01_awake.f]) ?_
  refine Ev.bind (flip_ev (l := [0, 0]) (at_ := [9]) (by simp) (by simp) (by simp) (by simp)) ?_
  have e : ints (flips (nats [0, 0]) [9]) = [0, 2] := by decide +kernel
  rw [e]
  exact Ev.bind (same_ev [0, 2] [0, 2] (by simp)) (Ev.ret (by simp))
theorem many_l0 (ls : List (List Int)) (hn : ls.length < 1000000) (d : Nat) : ∀ i : Nat, i + d = ls.length → Ev (fun k => incunablelaw01_many.l0 k ls (ls.length : Int) (i : Int)) ((ls.drop i).any fun l => decide (l.length > 500)) := by
  induction d with
  | zero =>
    intro i hi
    refine Ev.step (fun k => incunablelaw01_many.l0.eq_2 ..) ?_
    refine Ev.neg (by omega) (Ev.ret ?_)
    rw [List.drop_of_length_le (by omega)]
    rfl
  | succ d ih =>
    intro i hi
    have hil : i < ls.length := by omega
    have hrd : rd_L1 ls (i : Int) = ls[i] := by
      unfold rd_L1
      rw [Int.toNat_natCast, List.getD_eq_getElem?_getD, List.getElem?_eq_getElem hil]
      rfl
    have next := ih (i + 1) (by omega)
    refine Ev.step (fun k => incunablelaw01_many.l0.eq_2 ..) ?_
    refine Ev.pos (by omega) ?_
    refine Ev.pos (by omega) ?_
    refine Ev.pos (by omega) ?_
    rw [hrd, List.drop_eq_getElem_cons hil, List.any_cons, w64_succ (by omega)]
    refine Ev.ite (fun h => Ev.ret ?_) (fun h => ?_)
    · rw [decide_eq_true (show ls[i].length > 500 by omega), Bool.true_or]
    · rw [decide_eq_false (show ¬ ls[i].length > 500 by omega), Bool.false_or]
      exact next
theorem many_ev (ls : List (List Int)) (hn : ls.length < 1000000) : Ev (fun k => incunablelaw01_many.f k ls) (ls.any fun l => decide (l.length > 500)) := by
  refine Ev.congr (fun k => by rw [incunablelaw01_many.f]) ?_
  exact many_l0 ls hn ls.length 0 (by omega)
end Go.Proofs.Ytpedkegfefnibaa.PureBitsLaws
namespace Go.Proofs.Ytpedkegfefnibaa.PureBitsLaws
open Go.RowKit Go.Proofs.Ytpedkegfefnibaa.QBitsLaws Go.Proofs.YtpedkegfefnibaaW.PrintWords Go.Proofs.YtpedkegfefnibaaW.PrintLast Go.Proofs.YtpedkegfefnibaaW.PrintMore Go.Proofs.Ytpedkegfefnibaa.EvKit Go.Proofs.Ytpedkegfefnibaa.BitsKit Go.Proofs.Ytpedkegfefnibaa.CrcMath Go.Proofs.Ytpedkegfefnibaa.NatKit Go.Proofs.Ytpedkegfefnibaa.BitsMath
theorem and_l0 {b : List Int} (hb : ∀ x ∈ b, 0 ≤ x ∧ x < 256) (hbn : b.length < 1000000) (d : Nat) : ∀ (i : Nat) (l : List Nat), i + d = b.length → b.length ≤ l.length → (∀ x ∈ l, x < 256) →
    Ev (fun k => bits_And.l0 k (ints l) b (b.length : Int) (i : Int)) (ints ((List.range l.length).map fun j => if i ≤ j ∧ j < b.length then l.getD j 0 &&& (nats b).getD j 0 else l.getD j 0)) := by
  induction d with
  | zero =>
    intro i l hi hbl hl
    refine Ev.step (fun k => bits_And.l0.eq_2 ..) ?_
    refine Ev.neg (by omega) (Ev.ret ?_)
    congr 1
    apply List.ext_getElem?
    intro j
    by_cases hj : j < l.length
    · rw [List.getElem?_map, List.getElem?_range hj, Option.map_some, if_neg (by omega), List.getD_eq_getElem?_getD, List.getElem?_eq_getElem hj]
      rfl
    · rw [List.getElem?_eq_none (by omega), List.getElem?_eq_none (by simp; omega)]
  | succ d ih =>
    intro i l hi hbl hl
    have hil : i < l.length := by omega
    have hx := hl _ (List.getElem_mem hil)
    have hy := hb _ (rd_mem (l := b) (i := (i : Int)) (by omega) (by omega))
    have hr := rd_nats (l := b) (fun x hx => (hb x hx).1) i
    refine Ev.step (fun k => bits_And.l0.eq_2 ..) ?_
    refine Ev.pos (by omega) ?_
    refine Ev.pos (by omega) ?_
    refine Ev.pos (by omega) ?_
    rw [ints_length]
    refine Ev.pos (by omega) ?_
    rw [hr] at hy ⊢
    clear hr
    rw [rd_ints_lt hil, and_u8 hx (by omega), Int.toNat_natCast, ints_set, w64_succ (by omega)]
    refine Ev.eq (ih (i + 1) _ (by omega) (by rw [List.length_set]; omega) ?_) ?_
    · intro x hx'
      rcases List.mem_or_eq_of_mem_set hx' with h | rfl
      · exact hl x h
      · exact Nat.lt_of_le_of_lt Nat.and_le_left hx
    · rw [List.length_set]
      congr 1
      refine List.map_congr_left fun j hj => ?_
      have hj := List.mem_range.1 hj
      have hg : (l.set i (l[i] &&& (nats b).getD i 0)).getD j 0 = if i = j then l[i] &&& (nats b).getD i 0 else l.getD j 0 := by
        rw [List.getD_eq_getElem?_getD, List.getElem?_set]
        by_cases h : i = j
        · rw [if_pos h, if_pos h, if_pos hil]
          rfl
        · rw [if_neg h, if_neg h, List.getD_eq_getElem?_getD]
      rw [hg]
      by_cases h : i = j
      · subst h
        rw [if_pos rfl, if_neg (by omega), if_pos (by omega), List.getD_eq_getElem?_getD (l := l), List.getElem?_eq_getElem hil]
        rfl
      · rw [if_neg h]
        by_cases h2 : i + 1 ≤ j ∧ j < b.length
        · rw [if_pos h2, if_pos (by omega)]
        · rw [if_neg h2, if_neg (by omega)]
theorem and_g {a b : List Int} (ha : ∀ x ∈ a, 0 ≤ x ∧ x < 256) (hb : ∀ x ∈ b, 0 ≤ x ∧ x < 256) (han : a.length < 1000000) (h : b.length ≤ a.length) : Ev (fun k => bits_And.g k a b) (ints (andW (nats a) (nats b))) := by
  refine Ev.congr (fun k => by rw [bits_And.g]) ?_
  refine Ev.bindv (a := a) ?_ ?_
  · unfold slices_Clone_byte_byte.f
    rw [if_pos (by omega)]
  · have := and_l0 hb (by omega) b.length 0 (nats a) (by omega) (by rw [nats_length]; exact h) (nats_lt ha)
    rw [ints_nats fun x hx => (ha x hx).1] at this
    refine Ev.eq this ?_
    unfold andW
    rw [nats_length, nats_length]
    congr 1
    refine List.map_congr_left fun j _ => ?_
    by_cases hj : j < b.length
    · rw [if_pos ⟨Nat.zero_le _, hj⟩, if_pos hj]
    · rw [if_neg (fun h => hj h.2), if_neg hj]
theorem and_ev {a b : List Int} (ha : ∀ x ∈ a, 0 ≤ x ∧ x < 256) (hb : ∀ x ∈ b, 0 ≤ x ∧ x < 256) (han : a.length < 1000000) (hbn : b.length < 1000000) : Ev (fun k => bits_And.f k a b) (ints (andN (nats a) (nats b))) := by
  refine Ev.congr (fun k => by rw [bits_And.f]) ?_
  unfold andN
  rw [nats_length, nats_length]
  refine Ev.ite (fun h => ?_) (fun h => ?_)
  · rw [if_pos h]
    exact and_g hb ha hbn (by omega)
  · rw [if_neg h]
    exact and_g ha hb han (by omega)
end Go.Proofs.Ytpedkegfefnibaa.PureBitsLaws
namespace Go.Proofs.Ytpedkegfefnibaa.BitsMath
def tz (x : Nat) : Nat := ((List.range 8).find? fun j => x / 2 ^ j % 2 = 1).getD 8
theorem tz_le : ∀ x : Nat, x < 256 → tz x ≤ 8 := by decide +kernel
theorem lows_length : ∀ (n x : Nat), (lows n x).length ≤ n
  | 0, _ => Nat.le_refl _
  | n + 1, x => by
    unfold lows
    split
    · exact Nat.zero_le _
    · rw [List.length_cons]
      have := lows_length n (x &&& (x - 1))
      omega
def ends8 : Nat → Nat → Bool
  | 0, x => decide (x = 0)
  | n + 1, x => if x = 0 then true else ends8 n (x &&& (x - 1))
theorem ends8_all : ∀ x : Nat, x < 256 → ends8 9 x = true := by decide +kernel
end Go.Proofs.Ytpedkegfefnibaa.BitsMath
namespace Go.Proofs.Ytpedkegfefnibaa.PureBitsLaws
open Go.RowKit Go.Proofs.Ytpedkegfefnibaa.QBitsLaws Go.Proofs.YtpedkegfefnibaaW.PrintWords Go.Proofs.YtpedkegfefnibaaW.PrintLast Go.Proofs.YtpedkegfefnibaaW.PrintMore Go.Proofs.Ytpedkegfefnibaa.EvKit Go.Proofs.Ytpedkegfefnibaa.BitsKit Go.Proofs.Ytpedkegfefnibaa.CrcMath Go.Proofs.Ytpedkegfefnibaa.NatKit Go.Proofs.Ytpedkegfefnibaa.BitsMath
theorem tz_eq {x : Nat} (hx : x < 256) : bits_TrailingZeros8.f (x : Int) = some ((tz x : Nat) : Int) := by
  unfold bits_TrailingZeros8.f
  rw [if_pos (by omega), if_pos (by omega)]
  congr 1
  have key : ∀ b : Nat, b < 256 → bt (⟨#[8, 0, 1, 0, 2, 0, 1, 0, 3, 0, 1, 0, 2, 0, 1, 0, 4, 0, 1, 0, 2, 0, 1, 0, 3, 0, 1, 0, 2, 0, 1, 0, 5, 0, 1, 0, 2, 0, 1, 0, 3, 0, 1, 0, 2, 0, 1, 0, 4, 0, 1, 0, 2, 0, 1, 0, 3, 0, 1, 0, 2, 0, 1, 0, 6, 0, 1, 0, 2, 0, 1, 0, 3, 0, 1, 0, 2, 0, 1, 0, 4, 0, 1, 0, 2, 0, 1, 0, 3, 0, 1, 0, 2, 0, 1, 0, 5, 0, 1, 0, 2, 0, 1, 0, 3, 0, 1, 0, 2, 0, 1, 0, 4, 0, 1, 0, 2, 0, 1, 0, 3, 0, 1, 0, 2, 0, 1, 0, 7, 0, 1, 0, 2, 0, 1, 0, 3, 0, 1, 0, 2, 0, 1, 0, 4, 0, 1, 0, 2, 0, 1, 0, 3, 0, 1, 0, 2, 0, 1, 0, 5, 0, 1, 0, 2, 0, 1, 0, 3, 0, 1, 0, 2, 0, 1, 0, 4, 0, 1, 0, 2, 0, 1, 0, 3, 0, 1, 0, 2, 0, 1, 0, 6, 0, 1, 0, 2, 0, 1, 0, 3, 0, 1, 0, 2, 0, 1, 0, 4, 0, 1, 0, 2, 0, 1, 0, 3, 0, 1, 0, 2, 0, 1, 0, 5, 0, 1, 0, 2, 0, 1, 0, 3, 0, 1, 0, 2, 0, 1, 0, 4, 0, 1, 0, 2, 0, 1, 0, 3, 0, 1, 0, 2, 0, 1, 0]⟩ : ByteArray) (b : Int) = ((tz b : Nat) : Int) := by
    decide +kernel
  rw [key x hx]
  have h8 := tz_le x hx
  exact w64_id (by omega) (by omega)
theorem diff_l1 {a b : List Int} {m : Int} {q : Nat} {r : List Int} (hq : q < 1000000) (n : Nat) : ∀ (x : Nat) (out : List Int), ends8 n x = true → x < 256 → out.length + n < 17592186044416 →
    Ev (fun k => bits_Diff.l0 k a b (out ++ ints ((lows n x).map (8 * q + ·))) m (wrap64 ((q : Int) + 1))) r → Ev (fun k => bits_Diff.l1 k a b out (q : Int) (x : Int) m (q : Int)) r := by
  induction n with
  | zero =>
    intro x out he hx ho h
    have h0 : x = 0 := of_decide_eq_true he
    subst h0
    refine Ev.step (fun k => bits_Diff.l1.eq_2 ..) ?_
    refine Ev.pos rfl ?_
    have : out ++ ints ((lows 0 0).map (8 * q + ·)) = out := List.append_nil out
    rw [this] at h
    exact h
  | succ n ih =>
    intro x out he hx ho h
    refine Ev.step (fun k => bits_Diff.l1.eq_2 ..) ?_
    by_cases h0 : x = 0
    · subst h0
      refine Ev.pos rfl ?_
      have : out ++ ints ((lows (n + 1) 0).map (8 * q + ·)) = out := List.append_nil out
      rw [this] at h
      exact h
    · have h0' : ¬ (x : Int) = 0 := by omega
      refine Ev.neg h0' ?_
      refine Ev.bindv (tz_eq hx) ?_
      have ho' : out.length < 17592186044416 := by omega
      refine Ev.pos ho' ?_
      have ht := tz_le x hx
      have he' : ends8 n (x &&& (x - 1)) = true := by
        unfold ends8 at he
        rw [if_neg h0] at he
        exact he
      have hlow : lows (n + 1) x = tz x :: lows n (x &&& (x - 1)) := by
        conv => lhs; unfold lows
        rw [if_neg h0]
        rfl
      rw [hlow] at h
      clear hlow
      generalize tz x = t at ht h ⊢
      rw [w64_id (x := 8 * (q : Int)) (by omega) (by omega), w64_id (by omega) (by omega), show ((x : Int) - 1) % 256 = ((x - 1 : Nat) : Int) from by omega, and_u8 hx (by omega)]
      refine ih _ _ he' (Nat.lt_of_le_of_lt Nat.and_le_left hx) (by rw [List.length_append, List.length_singleton]; omega) ?_
      have e : out ++ [8 * (q : Int) + (t : Int)] ++ ints ((lows n (x &&& (x - 1))).map (8 * q + ·)) = out ++ ints ((t :: lows n (x &&& (x - 1))).map (8 * q + ·)) := by
        rw [List.append_assoc]
        congr 1
      rw [e]
      exact h
theorem diff_l0 {a b : List Int} (ha : ∀ x ∈ a, 0 ≤ x ∧ x < 256) (hb : ∀ x ∈ b, 0 ≤ x ∧ x < 256) (m : Nat) (hma : m ≤ a.length) (hmb : m ≤ b.length) (hm : m < 1000000) (d : Nat) : ∀ (q : Nat) (out : List Int), q + d = m → out.length ≤ 9 * q →
    Ev (fun k => bits_Diff.l0 k a b out (m : Int) (q : Int)) (out ++ ints (((List.range m).drop q).flatMap (seg (nats a) (nats b)))) := by
  induction d with
  | zero =>
    intro q out hq ho
    refine Ev.step (fun k => bits_Diff.l0.eq_2 ..) ?_
    refine Ev.neg (by omega) (Ev.ret ?_)
    rw [List.drop_of_length_le (by rw [List.length_range]; omega)]
    exact (List.append_nil out).symm
  | succ d ih =>
    intro q out hq ho
    have hx := ha _ (rd_mem (l := a) (i := (q : Int)) (by omega) (by omega))
    have hy := hb _ (rd_mem (l := b) (i := (q : Int)) (by omega) (by omega))
    have hrx := rd_nats (l := a) (fun x hx => (ha x hx).1) q
    have hry := rd_nats (l := b) (fun x hx => (hb x hx).1) q
    rw [hrx] at hx
    rw [hry] at hy
    refine Ev.step (fun k => bits_Diff.l0.eq_2 ..) ?_
    refine Ev.pos (by omega) ?_
    refine Ev.pos (by omega) ?_
    refine Ev.pos (by omega) ?_
    refine Ev.pos (by omega) ?_
    rw [hrx, hry, xor_u8 (by omega) (by omega)]
    clear hrx hry
    have hdrop : (List.range m).drop q = q :: (List.range m).drop (q + 1) := by
      rw [List.drop_eq_getElem_cons (by rw [List.length_range]; omega), List.getElem_range]
    rw [hdrop, List.flatMap_cons]
    have hseg : seg (nats a) (nats b) q = (lows 9 ((nats a).getD q 0 ^^^ (nats b).getD q 0)).map (8 * q + ·) := by
      unfold seg
      rw [lows_eq _ (Nat.xor_lt_two_pow (n := 8) (by simpa using (by omega : (nats a).getD q 0 < 256)) (by simpa using (by omega : (nats b).getD q 0 < 256)))]
    have hxl : (nats a).getD q 0 ^^^ (nats b).getD q 0 < 256 := Nat.xor_lt_two_pow (n := 8) (by omega) (by omega)
    rw [hseg]
    generalize (nats a).getD q 0 ^^^ (nats b).getD q 0 = x at hxl ⊢
    refine diff_l1 (by omega) 9 x out (ends8_all x hxl) hxl (by omega) ?_
    rw [w64_succ (by omega)]
    have hlen := lows_length 9 x
    refine Ev.eq (ih (q + 1) _ (by omega) (by rw [List.length_append, ints_length, List.length_map]; omega)) ?_
    rw [List.append_assoc]
    congr 1
    unfold ints
    rw [List.map_append]
theorem diff_ev {a b : List Int} (ha : ∀ x ∈ a, 0 ≤ x ∧ x < 256) (hb : ∀ x ∈ b, 0 ≤ x ∧ x < 256) (han : a.length < 1000000) (hbn : b.length < 1000000) : Ev (fun k => bits_Diff.f k a b) (ints (diffN (nats a) (nats b))) := by
  refine Ev.congr (fun k => by rw [bits_Diff.f]) ?_
  have hm : mn (a.length : Int) (b.length : Int) = ((min a.length b.length : Nat) : Int) := by
    unfold mn
    split <;> omega
  rw [hm]
  refine Ev.eq (diff_l0 ha hb (min a.length b.length) (by omega) (by omega) (by omega) (min a.length b.length) 0 [] (by omega) (by simp)) ?_
  unfold diffN
  rw [diff_segs, nats_length, nats_length]
  rfl
end Go.Proofs.Ytpedkegfefnibaa.PureBitsLaws
namespace Go.Proofs.Ytpedkegfefnibaa.PureBitsLaws
open Go.RowKit Go.Proofs.Ytpedkegfefnibaa.QBitsLaws Go.Proofs.YtpedkegfefnibaaW.PrintWords Go.Proofs.YtpedkegfefnibaaW.PrintLast Go.Proofs.YtpedkegfefnibaaW.PrintMore Go.Proofs.Ytpedkegfefnibaa.EvKit Go.Proofs.Ytpedkegfefnibaa.BitsKit Go.Proofs.Ytpedkegfefnibaa.CrcMath Go.Proofs.Ytpedkegfefnibaa.NatKit
def bitVal (l : List Int) (i : Int) : Int := if 0 ≤ i ∧ i / 8 < (l.length : Int) then ((bitAt (nats l) i.toNat : Nat) : Int) else -1
end Go.Proofs.Ytpedkegfefnibaa.PureBitsLaws
namespace Go.Proofs.Ytpedkegfefnibaa.PureBitsLaws
open Go.RowKit Go.Proofs.Ytpedkegfefnibaa.QBitsLaws Go.Proofs.YtpedkegfefnibaaW.PrintWords Go.Proofs.YtpedkegfefnibaaW.PrintLast Go.Proofs.YtpedkegfefnibaaW.PrintMore Go.Proofs.Ytpedkegfefnibaa.EvKit Go.Proofs.Ytpedkegfefnibaa.BitsKit Go.Proofs.Ytpedkegfefnibaa.CrcMath Go.Proofs.Ytpedkegfefnibaa.NatKit
theorem shr_u8 (x r : Nat) (h : r < 8) : shr .u8 (x : Int) (r : Int) = ((x / 2 ^ r : Nat) : Int) := by
  unfold shr
  rw [Int.toNat_natCast, show min r (IntKind.bits .u8) = r from by simp [IntKind.bits]; omega]
  exact (Int.natCast_ediv x (2 ^ r)).symm ▸ by simp
theorem get_eq {l : List Int} (hl : ∀ x ∈ l, 0 ≤ x ∧ x < 256) {i : Int} (hi : i ≤ 9223372036854775807) : bits_Get.f l i = some (bitVal l i == 1) := by
  unfold bits_Get.f bitVal
  by_cases h0 : i ≥ 0
  · rw [if_pos h0]
    have hw : wrap64 (Int.tdiv i 8) = i / 8 := by rw [Int.tdiv_eq_ediv_of_nonneg h0]; exact w64_id (by omega) (by omega)
    have hs : IntKind.u64.wrap (Int.tmod i 8) = ((i.toNat % 8 : Nat) : Int) := by
      rw [Int.tmod_eq_emod_of_nonneg h0, w_u64 _ (by omega) (by omega)]
      omega
    rw [hw, hs]
    clear hw hs
    by_cases h1 : i / 8 < (l.length : Int)
    · rw [if_pos h1, if_pos (by omega), if_pos (by omega), if_pos ⟨h0, h1⟩]
      have hr := rd_nats (l := l) (fun x hx => (hl x hx).1) (i / 8).toNat
      have hb := hl _ (rd_mem (l := l) (i := i / 8) (by omega) h1)
      rw [show (((i / 8).toNat : Nat) : Int) = i / 8 from by omega] at hr
      rw [hr] at hb ⊢
      have hq : (i / 8).toNat = i.toNat / 8 := by omega
      rw [hq] at hb ⊢
      unfold bitAt
      generalize (nats l).getD (i.toNat / 8) 0 = x at hb ⊢
      rw [shr_u8 x _ (Nat.mod_lt _ (by decide))]
      have hd : x / 2 ^ (i.toNat % 8) ≤ x := Nat.div_le_self _ _
      generalize x / 2 ^ (i.toNat % 8) = y at hd ⊢
      have e := and_u8 (a := y) (b := 1) (by omega) (by decide)
      rw [Nat.and_one_is_mod] at e
      rw [show (1 : Int) = ((1 : Nat) : Int) from rfl, e]
    · rw [if_neg h1, if_neg (fun h => h1 h.2)]
      rfl
  · rw [if_neg h0, if_neg (fun h => h0 h.1)]
    rfl
end Go.Proofs.Ytpedkegfefnibaa.PureBitsLaws
namespace Go.Proofs.Ytpedkegfefnibaa.PureBitsLaws
open Go.RowKit Go.Proofs.Ytpedkegfefnibaa.QBitsLaws Go.Proofs.YtpedkegfefnibaaW.PrintWords Go.Proofs.YtpedkegfefnibaaW.PrintLast Go.Proofs.YtpedkegfefnibaaW.PrintMore Go.Proofs.Ytpedkegfefnibaa.EvKit Go.Proofs.Ytpedkegfefnibaa.BitsKit Go.Proofs.Ytpedkegfefnibaa.CrcMath Go.Proofs.Ytpedkegfefnibaa.NatKit Go.Proofs.Ytpedkegfefnibaa.BitsMath
theorem ones_eq {b : Nat} (hb : b < 256) : bits_OnesCount8.f (b : Int) = some ((ones b : Nat) : Int) := by
  unfold bits_OnesCount8.f
  rw [if_pos (by omega), if_pos (by omega)]
  congr 1
  rw [ones_table b hb]
  have key : ∀ b : Nat, b < 256 → bt (⟨#[0, 1, 1, 2, 1, 2, 2, 3, 1, 2, 2, 3, 2, 3, 3, 4, 1, 2, 2, 3, 2, 3, 3, 4, 2, 3, 3, 4, 3, 4, 4, 5, 1, 2, 2, 3, 2, 3, 3, 4, 2, 3, 3, 4, 3, 4, 4, 5, 2, 3, 3, 4, 3, 4, 4, 5, 3, 4, 4, 5, 4, 5, 5, 6, 1, 2, 2, 3, 2, 3, 3, 4, 2, 3, 3, 4, 3, 4, 4, 5, 2, 3, 3, 4, 3, 4, 4, 5, 3, 4, 4, 5, 4, 5, 5, 6, 2, 3, 3, 4, 3, 4, 4, 5, 3, 4, 4, 5, 4, 5, 5, 6, 3, 4, 4, 5, 4, 5, 5, 6, 4, 5, 5, 6, 5, 6, 6, 7, 1, 2, 2, 3, 2, 3, 3, 4, 2, 3, 3, 4, 3, 4, 4, 5, 2, 3, 3, 4, 3, 4, 4, 5, 3, 4, 4, 5, 4, 5, 5, 6, 2, 3, 3, 4, 3, 4, 4, 5, 3, 4, 4, 5, 4, 5, 5, 6, 3, 4, 4, 5, 4, 5, 5, 6, 4, 5, 5, 6, 5, 6, 6, 7, 2, 3, 3, 4, 3, 4, 4, 5, 3, 4, 4, 5, 4, 5, 5, 6, 3, 4, 4, 5, 4, 5, 5, 6, 4, 5, 5, 6, 5, 6, 6, 7, 3, 4, 4, 5, 4, 5, 5, 6, 4, 5, 5, 6, 5, 6, 6, 7, 4, 5, 5, 6, 5, 6, 6, 7, 5, 6, 6, 7, 6, 7, 7, 8]⟩ : ByteArray) (b : Int) = (([0, 1, 1, 2, 1, 2, 2, 3, 1, 2, 2, 3, 2, 3, 3, 4, 1, 2, 2, 3, 2, 3, 3, 4, 2, 3, 3, 4, 3, 4, 4, 5, 1, 2, 2, 3, 2, 3, 3, 4, 2, 3, 3, 4, 3, 4, 4, 5, 2, 3, 3, 4, 3, 4, 4, 5, 3, 4, 4, 5, 4, 5, 5, 6, 1, 2, 2, 3, 2, 3, 3, 4, 2, 3, 3, 4, 3, 4, 4, 5, 2, 3, 3, 4, 3, 4, 4, 5, 3, 4, 4, 5, 4, 5, 5, 6, 2, 3, 3, 4, 3, 4, 4, 5, 3, 4, 4, 5, 4, 5, 5, 6, 3, 4, 4, 5, 4, 5, 5, 6, 4, 5, 5, 6, 5, 6, 6, 7, 1, 2, 2, 3, 2, 3, 3, 4, 2, 3, 3, 4, 3, 4, 4, 5, 2, 3, 3, 4, 3, 4, 4, 5, 3, 4, 4, 5, 4, 5, 5, 6, 2, 3, 3, 4, 3, 4, 4, 5, 3, 4, 4, 5, 4, 5, 5, 6, 3, 4, 4, 5, 4, 5, 5, 6, 4, 5, 5, 6, 5, 6, 6, 7, 2, 3, 3, 4, 3, 4, 4, 5, 3, 4, 4, 5, 4, 5, 5, 6, 3, 4, 4, 5, 4, 5, 5, 6, 4, 5, 5, 6, 5, 6, 6, 7, 3, 4, 4, 5, 4, 5, 5, 6, 4, 5, 5, 6, 5, 6, 6, 7, 4, 5, 5, 6, 5, 6, 6, 7, 5, 6, 6, 7, 6, 7, 7, 8].getD b 0 : Nat) : Int) := by
    decide +kernel
  rw [key b hb]
  have h8 := ones_le b
  rw [ones_table b hb] at h8
  exact w64_id (by omega) (by omega)
theorem count_l0 {l : List Int} (hl : ∀ x ∈ l, 0 ≤ x ∧ x < 256) (hn : l.length < 1000000) (d : Nat) : ∀ (n i : Nat), i + d = l.length → n ≤ 8 * i → Ev (fun k => bits_Count.l0 k (n : Int) l (l.length : Int) (i : Int)) ((n + count ((nats l).drop i) : Nat) : Int) := by
  induction d with
  | zero =>
    intro n i hi h8
    refine Ev.step (fun k => bits_Count.l0.eq_2 ..) ?_
    refine Ev.neg (by omega) (Ev.ret ?_)
    rw [List.drop_of_length_le (by rw [nats_length]; omega)]
    rfl
  | succ d ih =>
    intro n i hi h8
    have hx := hl _ (rd_mem (l := l) (i := (i : Int)) (by omega) (by omega))
    have hr := rd_nats (l := l) (fun x hx => (hl x hx).1) i
    have hb : (nats l).getD i 0 < 256 := by omega
    have ho := ones_le ((nats l).getD i 0)
    refine Ev.step (fun k => bits_Count.l0.eq_2 ..) ?_
    refine Ev.pos (by omega) ?_
    refine Ev.pos (by omega) ?_
    refine Ev.pos (by omega) ?_
    rw [hr]
    refine Ev.bindv (ones_eq hb) ?_
    clear hr hx
    rw [w64_id (by omega) (by omega), w64_succ (by omega), ← Int.natCast_add]
    refine Ev.eq (ih _ (i + 1) (by omega) (by omega)) ?_
    have hj' : i < (nats l).length := by rw [nats_length]; omega
    rw [List.drop_eq_getElem_cons hj']
    have e : (nats l).getD i 0 = (nats l)[i] := by rw [List.getD_eq_getElem?_getD, List.getElem?_eq_getElem hj']; rfl
    rw [e]
    unfold count
    rw [List.map_cons, List.sum_cons, Nat.add_assoc]
theorem count_ev {l : List Int} (hl : ∀ x ∈ l, 0 ≤ x ∧ x < 256) (hn : l.length < 1000000) : Ev (fun k => bits_Count.f k l) ((count (nats l) : Nat) : Int) := by
  refine Ev.congr (fun k => by rw [bits_Count.f]) ?_
  refine Ev.eq (count_l0 hl hn l.length 0 0 (by omega) (by omega)) ?_
  simp
theorem zeros_ev {l : List Int} (hl : ∀ x ∈ l, 0 ≤ x ∧ x < 256) (hn : l.length < 1000000) : Ev (fun k => bits_Zeros.f k l) ((8 * l.length - count (nats l) : Nat) : Int) := by
  refine Ev.congr (fun k => by rw [bits_Zeros.f]) ?_
  refine Ev.bind (count_ev hl hn) (Ev.ret ?_)
  have := count_le (nats l)
  rw [nats_length] at this
  rw [w64_id (x := 8 * (l.length : Int)) (by omega) (by omega), w64_id (by omega) (by omega)]
  omega
end Go.Proofs.Ytpedkegfefnibaa.PureBitsLaws
namespace Go.Proofs.Ytpedkegfefnibaa.BitsMath
open Go.RowKit Go.Proofs.Ytpedkegfefnibaa.CrcMath
theorem bitAt_lt2 (l : List Nat) (i : Nat) : bitAt l i < 2 := Nat.mod_lt _ (by decide)
theorem bits_ext {a b : List Nat} (ha : ∀ x ∈ a, x < 256) (hb : ∀ x ∈ b, x < 256) (hl : a.length = b.length) (h : ∀ j, j < 8 * a.length → bitAt a j = bitAt b j) : a = b := by
  refine List.ext_getElem hl (fun i h1 h2 => ?_)
  have hai := ha _ (List.getElem_mem h1)
  have hbi := hb _ (List.getElem_mem h2)
  refine Nat.eq_of_testBit_eq (fun j => ?_)
  by_cases hj : j < 8
  · have := h (8 * i + j) (by omega)
    rw [bitAt_test, bitAt_test, show (8 * i + j) / 8 = i by omega, show (8 * i + j) % 8 = j by omega, List.getD_eq_getElem?_getD, List.getD_eq_getElem?_getD, List.getElem?_eq_getElem h1, List.getElem?_eq_getElem h2, Option.getD_some, Option.getD_some] at this
    revert this
    cases a[i].testBit j <;> cases b[i].testBit j <;> decide
  · have hp : 2 ^ 8 ≤ 2 ^ j := Nat.pow_le_pow_right (by decide) (by omega)
    rw [Nat.testBit_lt_two_pow (Nat.lt_of_lt_of_le hai hp), Nat.testBit_lt_two_pow (Nat.lt_of_lt_of_le hbi hp)]
theorem mem_diffN {a b : List Nat} {j : Nat} : j ∈ diffN a b ↔ j < 8 * min a.length b.length ∧ bitAt a j ≠ bitAt b j := by
  unfold diffN
  rw [List.mem_filter, List.mem_range]
  simp
theorem andN_comm {a b : List Nat} (ha : ∀ x ∈ a, x < 256) (hb : ∀ x ∈ b, x < 256) : andN a b = andN b a := by
  refine bits_ext (andN_lt ha hb) (andN_lt hb ha) (by rw [andN_length, andN_length]; omega) (fun j hj => ?_)
  rw [andN_length] at hj
  rw [bitAt_andN hj, bitAt_andN (by omega), Nat.mul_comm (bitAt b j)]
  split <;> split <;> first | rfl | omega
theorem andN_assoc {a b c : List Nat} (ha : ∀ x ∈ a, x < 256) (hb : ∀ x ∈ b, x < 256) (hc : ∀ x ∈ c, x < 256) : andN (andN a b) c = andN a (andN b c) := by
  refine bits_ext (andN_lt (andN_lt ha hb) hc) (andN_lt ha (andN_lt hb hc)) (by rw [andN_length, andN_length, andN_length, andN_length]; omega) (fun j hj => ?_)
  rw [andN_length, andN_length] at hj
  rw [bitAt_andN (a := andN a b) (b := c) (by rw [andN_length]; exact hj), bitAt_andN (a := a) (b := andN b c) (by rw [andN_length]; omega), andN_length, andN_length]
  by_cases h1 : j < 8 * max a.length b.length
  · rw [bitAt_andN (a := a) (b := b) h1]
    by_cases h2 : j < 8 * max b.length c.length
    · rw [bitAt_andN (a := b) (b := c) h2]
      (repeat' split) <;> first | rfl | omega | exact Nat.mul_assoc _ _ _
    · (repeat' split) <;> first | rfl | omega
  · rw [if_pos (by omega)]
    by_cases h2 : j < 8 * max b.length c.length
    · rw [bitAt_andN (a := b) (b := c) h2]
      (repeat' split) <;> first | rfl | omega
    · omega
theorem andN_self {a : List Nat} (ha : ∀ x ∈ a, x < 256) : andN a a = a := by
  refine bits_ext (andN_lt ha ha) ha (by rw [andN_length]; omega) (fun j hj => ?_)
  rw [andN_length] at hj
  rw [bitAt_andN hj, if_neg (by omega), if_neg (by omega)]
  have h2 := bitAt_lt2 a j
  have h4 : bitAt a j = 0 ∨ bitAt a j = 1 := by omega
  rcases h4 with e | e <;> rw [e]
end Go.Proofs.Ytpedkegfefnibaa.BitsMath
namespace Go.Proofs.Ytpedkegfefnibaa.QBitsLaws
open Go.RowKit Go.Proofs.YtpedkegfefnibaaW.PrintWords Go.Proofs.YtpedkegfefnibaaW.PrintLast Go.Proofs.YtpedkegfefnibaaW.PrintMore Go.Proofs.Ytpedkegfefnibaa.Mono Go.Proofs.Ytpedkegfefnibaa.Read Go.Proofs.Ytpedkegfefnibaa.EvKit Go.Proofs.Ytpedkegfefnibaa.CrcMath Go.Proofs.Ytpedkegfefnibaa.NatKit Go.Proofs.Ytpedkegfefnibaa.BitsMath Go.Proofs.Ytpedkegfefnibaa.PureBitsLaws
set_option linter.unusedVariables false
set_option linter.unusedSimpArgs false
theorem many3 (k : Nat) {l0 l1 l2 : List Int} {v0 v1 v2 : Value} {g t : Nat} {b : Bool} {w : World} (h : incunablelaw01_many.f k [l0, l1, l2] = some b) (hb : w.heap[g]? = some (.cells #[v0, v1, v2] t (0, 0)))
    (h0 : IsRow (Kd.int .u8) w v0 l0) (h1 : IsRow (Kd.int .u8) w v1 l1) (h2 : IsRow (Kd.int .u8) w v2 l2) : Calls Try.prog 23 #[.slice (some ⟨g, 0, none⟩) 3 3] w fun e w' => e = .returned (.bool b) ∧ Drawn0 w w' :=
  incunablelaw01_many.calls k (some ⟨g, 0, none⟩) 3 [l0, l1, l2] b w (c_rows hb rfl (Nat.le_of_ble_eq_true rfl) (c3_ h0 h1 h2)) (Nat.le_refl 3) h
set_option maxHeartbeats 400000 in
theorem BitsLaws_many (k : Nat) (A0 : Option Addr) (c0 : Nat) (l0 : List Int) (A1 : Option Addr) (c1 : Nat) (l1 : List Int) (A2 : Option Addr) (c2 : Nat) (l2 : List Int) (w : World)
    (hr0 : Kd.C (Kd.int .u8) w A0 l0.length l0) (hc0 : l0.length ≤ c0) (hr1 : Kd.C (Kd.int .u8) w A1 l1.length l1) (hc1 : l1.length ≤ c1) (hr2 : Kd.C (Kd.int .u8) w A2 l2.length l2) (hc2 : l2.length ≤ c2)
    (haw : incunablelaw01_awake.f k = some true) (hmany : incunablelaw01_many.f k [l0, l1, l2] = some true) :
    Calls Try.prog 11 #[.slice A0 l0.length c0, .slice A1 l1.length c1, .slice A2 l2.length c2] w fun e w' => e = .returned (.bool true) ∧ Below w.heap.size w w' := by
  have HR0 := Aside0.mk hr0
  have HL0 := Aside0.mk hc0
  have HR1 := Aside0.mk hr1
  have HL1 := Aside0.mk hc1
  have HR2 := Aside0.mk hr2
  have HL2 := Aside0.mk hc2
  have HAW := Aside0.mk haw
  have HMANY := Aside0.mk hmany
  clear hr0 hc0 hr1 hc1 hr2 hc2 haw hmany
  have HB := Aside0.mk (Below.refl w.heap.size w)
  go_enter Try.func11, Try.ntmps11
  go_wp2_with (first | ((with_reducible refine gate_callee (f := 22) rfl ?_); refine goesL_ (some 12) rfl rfl Try.func22 (by kernel_rfl) rfl #[] rfl (by (try simp only [List.map_toArray, List.map_cons, List.map_nil]); first | done | rfl) ?_; (with_reducible refine (incunablelaw01_awake.calls k true _ HAW.out).mono ?_); rintro e w1 ⟨rfl, hb⟩; refine ⟨_, rfl, ?_⟩; have n0_ := Aside0.mk (Kd.C_below (by (with_reducible repeat (first | apply Kd.C_alloc | apply Kd.C_drewN | apply Kd.C_drew)); exact HR0.out) hb); have n1_ := Aside0.mk (Kd.C_below (by (with_reducible repeat (first | apply Kd.C_alloc | apply Kd.C_drewN | apply Kd.C_drew)); exact HR1.out) hb); have n2_ := Aside0.mk (Kd.C_below (by (with_reducible repeat (first | apply Kd.C_alloc | apply Kd.C_drewN | apply Kd.C_drew)); exact HR2.out) hb); have nB_ := Aside0.mk (below_step (by repeat (first | (with_reducible first | exact HB.out | apply below_alloc | apply pw_below_drewN | apply below_drew1) | exact HB.out)) hb); clear HR0 HR1 HR2 HB hb; have HR0 := n0_; have HR1 := n1_; have HR2 := n2_; have HB := nB_; clear n0_ n1_ n2_ nB_) | ((with_reducible refine gate_callee (f := 23) rfl ?_); refine goesL_ (some 18) rfl rfl Try.func23 (by kernel_rfl) rfl #[.slice (some ⟨w1.heap.size, 0, none⟩) 3 3] rfl (by (try simp only [List.map_toArray, List.map_cons, List.map_nil]); first | done | rfl) ?_; (with_reducible refine (many3 k (t := 22) HMANY.out (blk_new _ _) (c_of (by (with_reducible repeat (first | apply Kd.C_alloc | apply Kd.C_drewN | apply Kd.C_drew)); exact HR0.out) HL0.out) (c_of (by (with_reducible repeat (first | apply Kd.C_alloc | apply Kd.C_drewN | apply Kd.C_drew)); exact HR1.out) HL1.out) (c_of (by (with_reducible repeat (first | apply Kd.C_alloc | apply Kd.C_drewN | apply Kd.C_drew)); exact HR2.out) HL2.out)).mono ?_); rintro e w2 ⟨rfl, ⟨nd, rfl⟩⟩; refine ⟨_, rfl, ?_⟩))
  go_ret
  exact ⟨rfl, (by repeat (first | (with_reducible first | exact HB.out | apply below_alloc | apply pw_below_drewN | apply below_drew1) | exact HB.out))⟩
set_option maxRecDepth 100000 in
set_option maxHeartbeats 1000000 in
theorem BitsLaws_core (k : Nat) (A0 : Option Addr) (c0 : Nat) (l0 : List Int) (A1 : Option Addr) (c1 : Nat) (l1 : List Int) (A2 : Option Addr) (c2 : Nat) (l2 : List Int) (X1 X Y1 D : List Int) (z n : Int) (w : World)
    (hr0 : Kd.C (Kd.int .u8) w A0 l0.length l0) (hc0 : l0.length ≤ c0) (hr1 : Kd.C (Kd.int .u8) w A1 l1.length l1) (hc1 : l1.length ≤ c1) (hr2 : Kd.C (Kd.int .u8) w A2 l2.length l2) (hc2 : l2.length ≤ c2)
    (haw : incunablelaw01_awake.f k = some true) (hmany : incunablelaw01_many.f k [l0, l1, l2] = some false)
    (h1 : bits_And.f k l0 l1 = some X1) (h2 : bits_And.f k X1 l2 = some X) (h3 : bits_And.f k l1 l2 = some Y1) (h4 : bits_And.f k l0 Y1 = some X) (h5 : bits_And.f k l1 l0 = some X1) (h6 : bits_And.f k l0 l0 = some l0)
    (h7 : bits_Diff.f k l0 l1 = some D) (h8 : bits_Diff.f k l1 l0 = some D) (h9 : bits_Diff.f k l0 l0 = some []) (h10 : bits_Zeros.f k l0 = some z) (h11 : bits_Count.f k l0 = some n) (hz0 : 0 ≤ z ∧ z ≤ 100000) (hn0 : 0 ≤ n ∧ n ≤ 100000) (hzn : z + n = 8 * (l0.length : Int)) (hl0 : l0.length ≤ 10000) (hD : D.length ≤ 100000)
    (hget : ∀ q : Nat, q < D.length → ∃ b, bits_Get.f l0 (rd D (q : Int)) = some b ∧ bits_Get.f l1 (rd D (q : Int)) = some (!b)) :
    Calls Try.prog 11 #[.slice A0 l0.length c0, .slice A1 l1.length c1, .slice A2 l2.length c2] w fun e w' => e = .returned (.bool true) ∧ Below w.heap.size w w' := by
  have HR0 := Aside0.mk hr0
  have HL0 := Aside0.mk hc0
  have HR1 := Aside0.mk hr1
  have HL1 := Aside0.mk hc1
  have HR2 := Aside0.mk hr2
  have HL2 := Aside0.mk hc2
  have HAW := Aside0.mk haw
  have HMANY := Aside0.mk hmany
  clear hr0 hc0 hr1 hc1 hr2 hc2 haw hmany
  have HB := Aside0.mk (Below.refl w.heap.size w)
  have HA1 := Aside0.mk h1
  have HA2 := Aside0.mk h2
  have HA3 := Aside0.mk h3
  have HA4 := Aside0.mk h4
  have HA5 := Aside0.mk h5
  have HA6 := Aside0.mk h6
  have HD1 := Aside0.mk h7
  have HD2 := Aside0.mk h8
  have HD3 := Aside0.mk h9
  have HZ := Aside0.mk h10
  have HCN := Aside0.mk h11
  have HZN := Aside0.mk hzn
  have HGET := Aside0.mk hget
  have HDL := Aside0.mk hD
  have HI0 := Aside0.mk hl0
  have z1 : 0 ≤ z := hz0.1
  have z2 : z ≤ 100000 := hz0.2
  have z3 : 0 ≤ n := hn0.1
  have z4 : n ≤ 100000 := hn0.2
  have z5 : (l0.length : Int) ≤ 10000 := by omega
  have z6 : decide (z + n = 8 * (l0.length : Int)) = true := decide_eq_true hzn
  have z7 : (z + n == 8 * (l0.length : Int)) = true := beq_iff_eq.2 hzn
  have z8 : (z + n != 8 * (l0.length : Int)) = false := by rw [bne, z7]; rfl
  clear h1 h2 h3 h4 h5 h6 h7 h8 h9 h10 h11 hzn hget hD hl0 hz0 hn0
  go_enter Try.func11, Try.ntmps11
  go_wp2_with (first | ((with_reducible refine gate_callee (f := 22) rfl ?_); refine goesL_ (some 12) rfl rfl Try.func22 (by kernel_rfl) rfl #[] rfl (by (try simp only [List.map_toArray, List.map_cons, List.map_nil]); first | done | rfl) ?_; (with_reducible refine (incunablelaw01_awake.calls k true _ HAW.out).mono ?_); rintro e w1 ⟨rfl, hb⟩; refine ⟨_, rfl, ?_⟩; have n0_ := Aside0.mk (Kd.C_below (by (with_reducible repeat (first | apply Kd.C_alloc | apply Kd.C_drewN | apply Kd.C_drew)); exact HR0.out) hb); have n1_ := Aside0.mk (Kd.C_below (by (with_reducible repeat (first | apply Kd.C_alloc | apply Kd.C_drewN | apply Kd.C_drew)); exact HR1.out) hb); have n2_ := Aside0.mk (Kd.C_below (by (with_reducible repeat (first | apply Kd.C_alloc | apply Kd.C_drewN | apply Kd.C_drew)); exact HR2.out) hb); have nB_ := Aside0.mk (below_step (by repeat (first | (with_reducible first | exact HB.out | apply below_alloc | apply pw_below_drewN | apply below_drew1) | exact HB.out)) hb); clear HR0 HR1 HR2 HB hb; have HR0 := n0_; have HR1 := n1_; have HR2 := n2_; have HB := nB_; clear n0_ n1_ n2_ nB_) | ((with_reducible refine gate_callee (f := 23) rfl ?_); refine goesL_ (some 18) rfl rfl Try.func23 (by kernel_rfl) rfl #[.slice (some ⟨w1.heap.size, 0, none⟩) 3 3] rfl (by (try simp only [List.map_toArray, List.map_cons, List.map_nil]); first | done | rfl) ?_; (with_reducible refine (many3 k (t := 22) HMANY.out (blk_new _ _) (c_of (by (with_reducible repeat (first | apply Kd.C_alloc | apply Kd.C_drewN | apply Kd.C_drew)); exact HR0.out) HL0.out) (c_of (by (with_reducible repeat (first | apply Kd.C_alloc | apply Kd.C_drewN | apply Kd.C_drew)); exact HR1.out) HL1.out) (c_of (by (with_reducible repeat (first | apply Kd.C_alloc | apply Kd.C_drewN | apply Kd.C_drew)); exact HR2.out) HL2.out)).mono ?_); rintro e w2 ⟨rfl, ⟨nd, rfl⟩⟩; refine ⟨_, rfl, ?_⟩) | ((with_reducible refine gate_callee (f := 38) rfl ?_); refine goesL_ (some 21) rfl rfl Try.func38 (by kernel_rfl) rfl #[.slice A0 l0.length c0, .slice A1 l1.length c1] rfl (by (try simp only [List.map_toArray, List.map_cons, List.map_nil]); first | done | rfl) ?_; (with_reducible refine (bits_And.calls k _ _ l0 _ _ l1 _ _ (by (with_reducible repeat (first | apply Kd.C_alloc | apply Kd.C_drewN | apply Kd.C_drew)); exact HR0.out) HL0.out (by (with_reducible repeat (first | apply Kd.C_alloc | apply Kd.C_drewN | apply Kd.C_drew)); exact HR1.out) HL1.out HA1.out).mono ?_); rintro e w3 ⟨v_, rfl, hR_, hb⟩; obtain ⟨Ax1, cx1, rfl, hl_, hC_⟩ := Kd.R_reads hR_; clear hR_; refine ⟨_, rfl, ?_⟩; have n0_ := Aside0.mk (Kd.C_below (by (with_reducible repeat (first | apply Kd.C_alloc | apply Kd.C_drewN | apply Kd.C_drew)); exact HR0.out) hb); have n1_ := Aside0.mk (Kd.C_below (by (with_reducible repeat (first | apply Kd.C_alloc | apply Kd.C_drewN | apply Kd.C_drew)); exact HR1.out) hb); have n2_ := Aside0.mk (Kd.C_below (by (with_reducible repeat (first | apply Kd.C_alloc | apply Kd.C_drewN | apply Kd.C_drew)); exact HR2.out) hb); have nB_ := Aside0.mk (below_step (by repeat (first | (with_reducible first | exact HB.out | apply below_alloc | apply pw_below_drewN | apply below_drew1) | exact HB.out)) hb); clear HR0 HR1 HR2 HB hb; have HR0 := n0_; have HR1 := n1_; have HR2 := n2_; have HB := nB_; clear n0_ n1_ n2_ nB_; have HC1 := Aside0.mk hC_; have HM1 := Aside0.mk hl_; clear hC_ hl_) | ((with_reducible refine gate_callee (f := 38) rfl ?_); refine goesL_ (some 23) rfl rfl Try.func38 (by kernel_rfl) rfl #[.slice Ax1 X1.length cx1, .slice A2 l2.length c2] rfl (by (try simp only [List.map_toArray, List.map_cons, List.map_nil]); first | done | rfl) ?_; (with_reducible refine (bits_And.calls k _ _ X1 _ _ l2 _ _ (by (with_reducible repeat (first | apply Kd.C_alloc | apply Kd.C_drewN | apply Kd.C_drew)); exact HC1.out) HM1.out (by (with_reducible repeat (first | apply Kd.C_alloc | apply Kd.C_drewN | apply Kd.C_drew)); exact HR2.out) HL2.out HA2.out).mono ?_); rintro e w4 ⟨v_, rfl, hR_, hb⟩; obtain ⟨Ax2, cx2, rfl, hl_, hC_⟩ := Kd.R_reads hR_; clear hR_; refine ⟨_, rfl, ?_⟩; have n0_ := Aside0.mk (Kd.C_below (by (with_reducible repeat (first | apply Kd.C_alloc | apply Kd.C_drewN | apply Kd.C_drew)); exact HR0.out) hb); have n1_ := Aside0.mk (Kd.C_below (by (with_reducible repeat (first | apply Kd.C_alloc | apply Kd.C_drewN | apply Kd.C_drew)); exact HR1.out) hb); have n2_ := Aside0.mk (Kd.C_below (by (with_reducible repeat (first | apply Kd.C_alloc | apply Kd.C_drewN | apply Kd.C_drew)); exact HR2.out) hb); have n3_ := Aside0.mk (Kd.C_below (by (with_reducible repeat (first | apply Kd.C_alloc | apply Kd.C_drewN | apply Kd.C_drew)); exact HC1.out) hb); have nB_ := Aside0.mk (below_step (by repeat (first | (with_reducible first | exact HB.out | apply below_alloc | apply pw_below_drewN | apply below_drew1) | exact HB.out)) hb); clear HR0 HR1 HR2 HC1 HB hb; have HR0 := n0_; have HR1 := n1_; have HR2 := n2_; have HC1 := n3_; have HB := nB_; clear n0_ n1_ n2_ n3_ nB_; have HC2 := Aside0.mk hC_; have HM2 := Aside0.mk hl_; clear hC_ hl_) | ((with_reducible refine gate_callee (f := 38) rfl ?_); refine goesL_ (some 27) rfl rfl Try.func38 (by kernel_rfl) rfl #[.slice A1 l1.length c1, .slice A2 l2.length c2] rfl (by (try simp only [List.map_toArray, List.map_cons, List.map_nil]); first | done | rfl) ?_; (with_reducible refine (bits_And.calls k _ _ l1 _ _ l2 _ _ (by (with_reducible repeat (first | apply Kd.C_alloc | apply Kd.C_drewN | apply Kd.C_drew)); exact HR1.out) HL1.out (by (with_reducible repeat (first | apply Kd.C_alloc | apply Kd.C_drewN | apply Kd.C_drew)); exact HR2.out) HL2.out HA3.out).mono ?_); rintro e w5 ⟨v_, rfl, hR_, hb⟩; obtain ⟨Ax3, cx3, rfl, hl_, hC_⟩ := Kd.R_reads hR_; clear hR_; refine ⟨_, rfl, ?_⟩; have n0_ := Aside0.mk (Kd.C_below (by (with_reducible repeat (first | apply Kd.C_alloc | apply Kd.C_drewN | apply Kd.C_drew)); exact HR0.out) hb); have n1_ := Aside0.mk (Kd.C_below (by (with_reducible repeat (first | apply Kd.C_alloc | apply Kd.C_drewN | apply Kd.C_drew)); exact HR1.out) hb); have n2_ := Aside0.mk (Kd.C_below (by (with_reducible repeat (first | apply Kd.C_alloc | apply Kd.C_drewN | apply Kd.C_drew)); exact HR2.out) hb); have n3_ := Aside0.mk (Kd.C_below (by (with_reducible repeat (first | apply Kd.C_alloc | apply Kd.C_drewN | apply Kd.C_drew)); exact HC1.out) hb); have n4_ := Aside0.mk (Kd.C_below (by (with_reducible repeat (first | apply Kd.C_alloc | apply Kd.C_drewN | apply Kd.C_drew)); exact HC2.out) hb); have nB_ := Aside0.mk (below_step (by repeat (first | (with_reducible first | exact HB.out | apply below_alloc | apply pw_below_drewN | apply below_drew1) | exact HB.out)) hb); clear HR0 HR1 HR2 HC1 HC2 HB hb; have HR0 := n0_; have HR1 := n1_; have HR2 := n2_; have HC1 := n3_; have HC2 := n4_; have HB := nB_; clear n0_ n1_ n2_ n3_ n4_ nB_; have HC3 := Aside0.mk hC_; have HM3 := Aside0.mk hl_; clear hC_ hl_) | ((with_reducible refine gate_callee (f := 38) rfl ?_); refine goesL_ (some 28) rfl rfl Try.func38 (by kernel_rfl) rfl #[.slice A0 l0.length c0, .slice Ax3 Y1.length cx3] rfl (by (try simp only [List.map_toArray, List.map_cons, List.map_nil]); first | done | rfl) ?_; (with_reducible refine (bits_And.calls k _ _ l0 _ _ Y1 _ _ (by (with_reducible repeat (first | apply Kd.C_alloc | apply Kd.C_drewN | apply Kd.C_drew)); exact HR0.out) HL0.out (by (with_reducible repeat (first | apply Kd.C_alloc | apply Kd.C_drewN | apply Kd.C_drew)); exact HC3.out) HM3.out HA4.out).mono ?_); rintro e w6 ⟨v_, rfl, hR_, hb⟩; obtain ⟨Ax4, cx4, rfl, hl_, hC_⟩ := Kd.R_reads hR_; clear hR_; refine ⟨_, rfl, ?_⟩; have n0_ := Aside0.mk (Kd.C_below (by (with_reducible repeat (first | apply Kd.C_alloc | apply Kd.C_drewN | apply Kd.C_drew)); exact HR0.out) hb); have n1_ := Aside0.mk (Kd.C_below (by (with_reducible repeat (first | apply Kd.C_alloc | apply Kd.C_drewN | apply Kd.C_drew)); exact HR1.out) hb); have n2_ := Aside0.mk (Kd.C_below (by (with_reducible repeat (first | apply Kd.C_alloc | apply Kd.C_drewN | apply Kd.C_drew)); exact HR2.out) hb); have n3_ := Aside0.mk (Kd.C_below (by (with_reducible repeat (first | apply Kd.C_alloc | apply Kd.C_drewN | apply Kd.C_drew)); exact HC1.out) hb); have n4_ := Aside0.mk (Kd.C_below (by (with_reducible repeat (first | apply Kd.C_alloc | apply Kd.C_drewN | apply Kd.C_drew)); exact HC2.out) hb); have n5_ := Aside0.mk (Kd.C_below (by (with_reducible repeat (first | apply Kd.C_alloc | apply Kd.C_drewN | apply Kd.C_drew)); exact HC3.out) hb); have nB_ := Aside0.mk (below_step (by repeat (first | (with_reducible first | exact HB.out | apply below_alloc | apply pw_below_drewN | apply below_drew1) | exact HB.out)) hb); clear HR0 HR1 HR2 HC1 HC2 HC3 HB hb; have HR0 := n0_; have HR1 := n1_; have HR2 := n2_; have HC1 := n3_; have HC2 := n4_; have HC3 := n5_; have HB := nB_; clear n0_ n1_ n2_ n3_ n4_ n5_ nB_; have HC4 := Aside0.mk hC_; have HM4 := Aside0.mk hl_; clear hC_ hl_))
  refine mono_region (fun i => ([(Is (.slice A0 l0.length c0)), (Is (.slice A1 l1.length c1)), (Row (Kd.int .u8) X1), (Is (.string (strOfNums X1))), (Is (.slice A1 l1.length c1)), (Is (.slice A0 l0.length c0)), (Row (Kd.int .u8) X1), (Is (.string (strOfNums X1))), (Is (.bool false)), (Is (.bool false)), (Is (.slice Ax2 X.length cx2)), (Is (.string (strOfNums X))), (Is (.slice Ax4 X.length cx4)), (Is (.string (strOfNums X))), (Is (.bool false)), (Is (.bool false)), (Is (.bool false)), (Is (.slice A0 l0.length c0)), (Is (.slice A0 l0.length c0)), (Row (Kd.int .u8) l0), (Is (.string (strOfNums l0))), (Is (.slice A0 l0.length c0)), (Is (.string (strOfNums l0))), (Is (.bool false)), (Is (.bool false))] : List (Value → World → Prop)).getD i (fun _ _ => True)) 25 [29, 30, 31, 32, 33, 34, 35, 36, 37, 38, 39, 40, 41, 42, 43, 44, 45, 46, 47, 48, 49, 50, 51, 52, 53] (by kernel_rfl) rfl (by kernel_rfl) (by kernel_rfl) ?_ ?_ ?_
  · intro i
    match i with
    | 0 => exact stable_is _
    | 1 => exact stable_is _
    | 2 => exact stable_row _ _
    | 3 => exact stable_is _
    | 4 => exact stable_is _
    | 5 => exact stable_is _
    | 6 => exact stable_row _ _
    | 7 => exact stable_is _
    | 8 => exact stable_is _
    | 9 => exact stable_is _
    | 10 => exact stable_is _
    | 11 => exact stable_is _
    | 12 => exact stable_is _
    | 13 => exact stable_is _
    | 14 => exact stable_is _
    | 15 => exact stable_is _
    | 16 => exact stable_is _
    | 17 => exact stable_is _
    | 18 => exact stable_is _
    | 19 => exact stable_row _ _
    | 20 => exact stable_is _
    | 21 => exact stable_is _
    | 22 => exact stable_is _
    | 23 => exact stable_is _
    | 24 => exact stable_is _
    | _ + 25 => exact fun _ _ _ _ _ => trivial
  · show ∀ i ∈ [0, 1, 2, 3, 4, 5, 6, 7, 8, 9, 10, 11, 12, 13, 14, 15, 16, 17, 18, 19, 20, 21, 22, 23, 24], _
    refine msteps_cons ?_ ?_
    · intro a w' hx hfr hk
      have e0 : a.tmps[0]? = some (.slice A0 l0.length c0) := (hfr.off 0 rfl).trans rfl
      clear hk hfr
      refine ⟨_, rfl, fun K hK => ?_⟩
      refine value_ (w1 := w') (v := (.slice A0 l0.length c0)) (by rfl) rfl ?_ (hK _ _ (show _ = _ from rfl) (Ext.refl _))
      go_simp
      (try simp only [i64_w])
      try rfl
    refine msteps_cons ?_ ?_
    · intro a w' hx hfr hk
      have e1 : a.tmps[1]? = some (.slice A1 l1.length c1) := (hfr.off 1 rfl).trans rfl
      clear hk hfr
      refine ⟨_, rfl, fun K hK => ?_⟩
      refine value_ (w1 := w') (v := (.slice A1 l1.length c1)) (by rfl) rfl ?_ (hK _ _ (show _ = _ from rfl) (Ext.refl _))
      go_simp
      (try simp only [i64_w])
      try rfl
    refine msteps_cons ?_ ?_
    · intro a w' hx hfr hk
      obtain ⟨v_, e29, h_⟩ := hk 0 29 (by kernel_rfl) rfl
      replace h_ : v_ = (.slice A0 l0.length c0) := h_
      subst h_
      obtain ⟨v_, e30, h_⟩ := hk 1 30 (by kernel_rfl) rfl
      replace h_ : v_ = (.slice A1 l1.length c1) := h_
      subst h_
      clear hk hfr
      refine ⟨_, rfl, fun K hK => ?_⟩
      refine goes_ Try.func38 (by kernel_rfl) rfl #[.slice A0 l0.length c0, .slice A1 l1.length c1] (by rfl) rfl rfl (by simp only [List.map_toArray, List.map_cons, List.map_nil, Act.eval, Array.getD_eq_getD_getElem?, Option.getD_some, e29, e30]; first | done | rfl) ?_
      (with_reducible refine (bits_And.calls k _ _ l0 _ _ l1 _ _ (c_ext HR0.out hx) HL0.out (c_ext HR1.out hx) HL1.out HA1.out).mono ?_)
      rintro e w1 ⟨v_, rfl, hR_, hb_⟩
      exact ⟨_, rfl, hK _ _ (Row.of_R hR_) hb_⟩
    refine msteps_cons ?_ ?_
    · intro a w' hx hfr hk
      obtain ⟨v_, e31, A31, c31, rfl, hc31, hC31⟩ := hk 2 31 (by kernel_rfl) rfl
      have HCr31 := Aside0.mk hC31
      have HLr31 := Aside0.mk hc31
      clear hC31 hc31
      clear hk hfr
      refine ⟨_, rfl, fun K hK => ?_⟩
      have hcv := Kd.C_string (P := Try.prog) (A := A31) (c := c31) Try.underlying22 Try.underlying5 Try.underlying9 HCr31.out
      refine value_ (w1 := w') (v := (.string (strOfNums X1))) (by rfl) rfl ?_ (hK _ _ (show _ = _ from rfl) (Ext.refl _))
      go_simp
      (try simp only [i64_w])
      try rfl
    refine msteps_cons ?_ ?_
    · intro a w' hx hfr hk
      have e1 : a.tmps[1]? = some (.slice A1 l1.length c1) := (hfr.off 1 rfl).trans rfl
      clear hk hfr
      refine ⟨_, rfl, fun K hK => ?_⟩
      refine value_ (w1 := w') (v := (.slice A1 l1.length c1)) (by rfl) rfl ?_ (hK _ _ (show _ = _ from rfl) (Ext.refl _))
      go_simp
      (try simp only [i64_w])
      try rfl
    refine msteps_cons ?_ ?_
    · intro a w' hx hfr hk
      have e0 : a.tmps[0]? = some (.slice A0 l0.length c0) := (hfr.off 0 rfl).trans rfl
      clear hk hfr
      refine ⟨_, rfl, fun K hK => ?_⟩
      refine value_ (w1 := w') (v := (.slice A0 l0.length c0)) (by rfl) rfl ?_ (hK _ _ (show _ = _ from rfl) (Ext.refl _))
      go_simp
      (try simp only [i64_w])
      try rfl
    refine msteps_cons ?_ ?_
    · intro a w' hx hfr hk
      obtain ⟨v_, e33, h_⟩ := hk 4 33 (by kernel_rfl) rfl
      replace h_ : v_ = (.slice A1 l1.length c1) := h_
      subst h_
      obtain ⟨v_, e34, h_⟩ := hk 5 34 (by kernel_rfl) rfl
      replace h_ : v_ = (.slice A0 l0.length c0) := h_
      subst h_
      clear hk hfr
      refine ⟨_, rfl, fun K hK => ?_⟩
      refine goes_ Try.func38 (by kernel_rfl) rfl #[.slice A1 l1.length c1, .slice A0 l0.length c0] (by rfl) rfl rfl (by simp only [List.map_toArray, List.map_cons, List.map_nil, Act.eval, Array.getD_eq_getD_getElem?, Option.getD_some, e33, e34]; first | done | rfl) ?_
      (with_reducible refine (bits_And.calls k _ _ l1 _ _ l0 _ _ (c_ext HR1.out hx) HL1.out (c_ext HR0.out hx) HL0.out HA5.out).mono ?_)
      rintro e w1 ⟨v_, rfl, hR_, hb_⟩
      exact ⟨_, rfl, hK _ _ (Row.of_R hR_) hb_⟩
    refine msteps_cons ?_ ?_
    · intro a w' hx hfr hk
      obtain ⟨v_, e35, A35, c35, rfl, hc35, hC35⟩ := hk 6 35 (by kernel_rfl) rfl
      have HCr35 := Aside0.mk hC35
      have HLr35 := Aside0.mk hc35
      clear hC35 hc35
      clear hk hfr
      refine ⟨_, rfl, fun K hK => ?_⟩
      have hcv := Kd.C_string (P := Try.prog) (A := A35) (c := c35) Try.underlying22 Try.underlying5 Try.underlying9 HCr35.out
      refine value_ (w1 := w') (v := (.string (strOfNums X1))) (by rfl) rfl ?_ (hK _ _ (show _ = _ from rfl) (Ext.refl _))
      go_simp
      (try simp only [i64_w])
      try rfl
    refine msteps_cons ?_ ?_
    · intro a w' hx hfr hk
      obtain ⟨v_, e32, h_⟩ := hk 3 32 (by kernel_rfl) rfl
      replace h_ : v_ = (.string (strOfNums X1)) := h_
      subst h_
      obtain ⟨v_, e36, h_⟩ := hk 7 36 (by kernel_rfl) rfl
      replace h_ : v_ = (.string (strOfNums X1)) := h_
      subst h_
      clear hk hfr
      refine ⟨_, rfl, fun K hK => ?_⟩
      refine value_ (w1 := w') (v := (.bool false)) (by rfl) rfl ?_ (hK _ _ (show _ = _ from rfl) (Ext.refl _))
      go_simp
      (try simp only [i64_w])
      try rfl
    refine msteps_cons ?_ ?_
    · intro a w' hx hfr hk
      obtain ⟨v_, e37, h_⟩ := hk 8 37 (by kernel_rfl) rfl
      replace h_ : v_ = (.bool false) := h_
      subst h_
      clear hk hfr
      refine ⟨_, rfl, fun K hK => ?_⟩
      refine value_ (w1 := w') (v := (.bool false)) (by rfl) rfl ?_ (hK _ _ (show _ = _ from rfl) (Ext.refl _))
      go_simp
      (try simp only [i64_w])
      try rfl
    refine msteps_cons ?_ ?_
    · intro a w' hx hfr hk
      have e7 : a.tmps[7]? = some (.slice Ax2 X.length cx2) := (hfr.off 7 rfl).trans rfl
      obtain ⟨v_, e38, h_⟩ := hk 9 38 (by kernel_rfl) rfl
      replace h_ : v_ = (.bool false) := h_
      subst h_
      clear hk hfr
      refine ⟨_, rfl, fun K hK => ?_⟩
      refine value_ (w1 := w') (v := (.slice Ax2 X.length cx2)) (wanted_on rfl rfl rfl e38) rfl ?_ (hK _ _ (show _ = _ from rfl) (Ext.refl _))
      go_simp
      (try simp only [i64_w])
      try rfl
    refine msteps_cons ?_ ?_
    · intro a w' hx hfr hk
      obtain ⟨v_, e39, h_⟩ := hk 10 39 (by kernel_rfl) rfl
      replace h_ : v_ = (.slice Ax2 X.length cx2) := h_
      subst h_
      obtain ⟨v_, e38, h_⟩ := hk 9 38 (by kernel_rfl) rfl
      replace h_ : v_ = (.bool false) := h_
      subst h_
      clear hk hfr
      refine ⟨_, rfl, fun K hK => ?_⟩
      have hcv := Kd.C_string (P := Try.prog) (A := Ax2) (c := cx2) Try.underlying22 Try.underlying5 Try.underlying9 (c_ext HC2.out hx)
      refine value_ (w1 := w') (v := (.string (strOfNums X))) (wanted_on rfl rfl rfl e38) rfl ?_ (hK _ _ (show _ = _ from rfl) (Ext.refl _))
      go_simp
      (try simp only [i64_w])
      try rfl
    refine msteps_cons ?_ ?_
    · intro a w' hx hfr hk
      have e8 : a.tmps[8]? = some (.slice Ax4 X.length cx4) := (hfr.off 8 rfl).trans rfl
      obtain ⟨v_, e38, h_⟩ := hk 9 38 (by kernel_rfl) rfl
      replace h_ : v_ = (.bool false) := h_
      subst h_
      clear hk hfr
      refine ⟨_, rfl, fun K hK => ?_⟩
      refine value_ (w1 := w') (v := (.slice Ax4 X.length cx4)) (wanted_on rfl rfl rfl e38) rfl ?_ (hK _ _ (show _ = _ from rfl) (Ext.refl _))
      go_simp
      (try simp only [i64_w])
      try rfl
    refine msteps_cons ?_ ?_
    · intro a w' hx hfr hk
      obtain ⟨v_, e41, h_⟩ := hk 12 41 (by kernel_rfl) rfl
      replace h_ : v_ = (.slice Ax4 X.length cx4) := h_
      subst h_
      obtain ⟨v_, e38, h_⟩ := hk 9 38 (by kernel_rfl) rfl
      replace h_ : v_ = (.bool false) := h_
      subst h_
      clear hk hfr
      refine ⟨_, rfl, fun K hK => ?_⟩
      have hcv := Kd.C_string (P := Try.prog) (A := Ax4) (c := cx4) Try.underlying22 Try.underlying5 Try.underlying9 (c_ext HC4.out hx)
      refine value_ (w1 := w') (v := (.string (strOfNums X))) (wanted_on rfl rfl rfl e38) rfl ?_ (hK _ _ (show _ = _ from rfl) (Ext.refl _))
      go_simp
      (try simp only [i64_w])
      try rfl
    refine msteps_cons ?_ ?_
    · intro a w' hx hfr hk
      obtain ⟨v_, e40, h_⟩ := hk 11 40 (by kernel_rfl) rfl
      replace h_ : v_ = (.string (strOfNums X)) := h_
      subst h_
      obtain ⟨v_, e42, h_⟩ := hk 13 42 (by kernel_rfl) rfl
      replace h_ : v_ = (.string (strOfNums X)) := h_
      subst h_
      obtain ⟨v_, e38, h_⟩ := hk 9 38 (by kernel_rfl) rfl
      replace h_ : v_ = (.bool false) := h_
      subst h_
      clear hk hfr
      refine ⟨_, rfl, fun K hK => ?_⟩
      refine value_ (w1 := w') (v := (.bool false)) (wanted_on rfl rfl rfl e38) rfl ?_ (hK _ _ (show _ = _ from rfl) (Ext.refl _))
      go_simp
      (try simp only [i64_w])
      try rfl
    refine msteps_cons ?_ ?_
    · intro a w' hx hfr hk
      obtain ⟨v_, e38, h_⟩ := hk 9 38 (by kernel_rfl) rfl
      replace h_ : v_ = (.bool false) := h_
      subst h_
      obtain ⟨v_, e43, h_⟩ := hk 14 43 (by kernel_rfl) rfl
      replace h_ : v_ = (.bool false) := h_
      subst h_
      clear hk hfr
      refine ⟨_, rfl, fun K hK => ?_⟩
      refine value_ (w1 := w') (v := (.bool false)) (by rfl) rfl ?_ (hK _ _ (show _ = _ from rfl) (Ext.refl _))
      go_simp
      (try simp only [i64_w])
      try rfl
    refine msteps_cons ?_ ?_
    · intro a w' hx hfr hk
      obtain ⟨v_, e44, h_⟩ := hk 15 44 (by kernel_rfl) rfl
      replace h_ : v_ = (.bool false) := h_
      subst h_
      clear hk hfr
      refine ⟨_, rfl, fun K hK => ?_⟩
      refine value_ (w1 := w') (v := (.bool false)) (by rfl) rfl ?_ (hK _ _ (show _ = _ from rfl) (Ext.refl _))
      go_simp
      (try simp only [i64_w])
      try rfl
    refine msteps_cons ?_ ?_
    · intro a w' hx hfr hk
      have e0 : a.tmps[0]? = some (.slice A0 l0.length c0) := (hfr.off 0 rfl).trans rfl
      obtain ⟨v_, e45, h_⟩ := hk 16 45 (by kernel_rfl) rfl
      replace h_ : v_ = (.bool false) := h_
      subst h_
      clear hk hfr
      refine ⟨_, rfl, fun K hK => ?_⟩
      refine value_ (w1 := w') (v := (.slice A0 l0.length c0)) (wanted_on rfl rfl rfl e45) rfl ?_ (hK _ _ (show _ = _ from rfl) (Ext.refl _))
      go_simp
      (try simp only [i64_w])
      try rfl
    refine msteps_cons ?_ ?_
    · intro a w' hx hfr hk
      have e0 : a.tmps[0]? = some (.slice A0 l0.length c0) := (hfr.off 0 rfl).trans rfl
      obtain ⟨v_, e45, h_⟩ := hk 16 45 (by kernel_rfl) rfl
      replace h_ : v_ = (.bool false) := h_
      subst h_
      clear hk hfr
      refine ⟨_, rfl, fun K hK => ?_⟩
      refine value_ (w1 := w') (v := (.slice A0 l0.length c0)) (wanted_on rfl rfl rfl e45) rfl ?_ (hK _ _ (show _ = _ from rfl) (Ext.refl _))
      go_simp
      (try simp only [i64_w])
      try rfl
    refine msteps_cons ?_ ?_
    · intro a w' hx hfr hk
      obtain ⟨v_, e46, h_⟩ := hk 17 46 (by kernel_rfl) rfl
      replace h_ : v_ = (.slice A0 l0.length c0) := h_
      subst h_
      obtain ⟨v_, e47, h_⟩ := hk 18 47 (by kernel_rfl) rfl
      replace h_ : v_ = (.slice A0 l0.length c0) := h_
      subst h_
      obtain ⟨v_, e45, h_⟩ := hk 16 45 (by kernel_rfl) rfl
      replace h_ : v_ = (.bool false) := h_
      subst h_
      clear hk hfr
      refine ⟨_, rfl, fun K hK => ?_⟩
      refine goes_ Try.func38 (by kernel_rfl) rfl #[.slice A0 l0.length c0, .slice A0 l0.length c0] (wanted_on rfl rfl rfl e45) rfl rfl (by simp only [List.map_toArray, List.map_cons, List.map_nil, Act.eval, Array.getD_eq_getD_getElem?, Option.getD_some, e46, e47]; first | done | rfl) ?_
      (with_reducible refine (bits_And.calls k _ _ l0 _ _ l0 _ _ (c_ext HR0.out hx) HL0.out (c_ext HR0.out hx) HL0.out HA6.out).mono ?_)
      rintro e w1 ⟨v_, rfl, hR_, hb_⟩
      exact ⟨_, rfl, hK _ _ (Row.of_R hR_) hb_⟩
    refine msteps_cons ?_ ?_
    · intro a w' hx hfr hk
      obtain ⟨v_, e48, A48, c48, rfl, hc48, hC48⟩ := hk 19 48 (by kernel_rfl) rfl
      have HCr48 := Aside0.mk hC48
      have HLr48 := Aside0.mk hc48
      clear hC48 hc48
      obtain ⟨v_, e45, h_⟩ := hk 16 45 (by kernel_rfl) rfl
      replace h_ : v_ = (.bool false) := h_
      subst h_
      clear hk hfr
      refine ⟨_, rfl, fun K hK => ?_⟩
      have hcv := Kd.C_string (P := Try.prog) (A := A48) (c := c48) Try.underlying22 Try.underlying5 Try.underlying9 HCr48.out
      refine value_ (w1 := w') (v := (.string (strOfNums l0))) (wanted_on rfl rfl rfl e45) rfl ?_ (hK _ _ (show _ = _ from rfl) (Ext.refl _))
      go_simp
      (try simp only [i64_w])
      try rfl
    refine msteps_cons ?_ ?_
    · intro a w' hx hfr hk
      have e0 : a.tmps[0]? = some (.slice A0 l0.length c0) := (hfr.off 0 rfl).trans rfl
      obtain ⟨v_, e45, h_⟩ := hk 16 45 (by kernel_rfl) rfl
      replace h_ : v_ = (.bool false) := h_
      subst h_
      clear hk hfr
      refine ⟨_, rfl, fun K hK => ?_⟩
      refine value_ (w1 := w') (v := (.slice A0 l0.length c0)) (wanted_on rfl rfl rfl e45) rfl ?_ (hK _ _ (show _ = _ from rfl) (Ext.refl _))
      go_simp
      (try simp only [i64_w])
      try rfl
    refine msteps_cons ?_ ?_
    · intro a w' hx hfr hk
      obtain ⟨v_, e50, h_⟩ := hk 21 50 (by kernel_rfl) rfl
      replace h_ : v_ = (.slice A0 l0.length c0) := h_
      subst h_
      obtain ⟨v_, e45, h_⟩ := hk 16 45 (by kernel_rfl) rfl
      replace h_ : v_ = (.bool false) := h_
      subst h_
      clear hk hfr
      refine ⟨_, rfl, fun K hK => ?_⟩
      have hcv := Kd.C_string (P := Try.prog) (A := A0) (c := c0) Try.underlying22 Try.underlying5 Try.underlying9 (c_ext HR0.out hx)
      refine value_ (w1 := w') (v := (.string (strOfNums l0))) (wanted_on rfl rfl rfl e45) rfl ?_ (hK _ _ (show _ = _ from rfl) (Ext.refl _))
      go_simp
      (try simp only [i64_w])
      try rfl
    refine msteps_cons ?_ ?_
    · intro a w' hx hfr hk
      obtain ⟨v_, e49, h_⟩ := hk 20 49 (by kernel_rfl) rfl
      replace h_ : v_ = (.string (strOfNums l0)) := h_
      subst h_
      obtain ⟨v_, e51, h_⟩ := hk 22 51 (by kernel_rfl) rfl
      replace h_ : v_ = (.string (strOfNums l0)) := h_
      subst h_
      obtain ⟨v_, e45, h_⟩ := hk 16 45 (by kernel_rfl) rfl
      replace h_ : v_ = (.bool false) := h_
      subst h_
      clear hk hfr
      refine ⟨_, rfl, fun K hK => ?_⟩
      refine value_ (w1 := w') (v := (.bool false)) (wanted_on rfl rfl rfl e45) rfl ?_ (hK _ _ (show _ = _ from rfl) (Ext.refl _))
      go_simp
      (try simp only [i64_w])
      try rfl
    refine msteps_cons ?_ ?_
    · intro a w' hx hfr hk
      obtain ⟨v_, e45, h_⟩ := hk 16 45 (by kernel_rfl) rfl
      replace h_ : v_ = (.bool false) := h_
      subst h_
      obtain ⟨v_, e52, h_⟩ := hk 23 52 (by kernel_rfl) rfl
      replace h_ : v_ = (.bool false) := h_
      subst h_
      clear hk hfr
      refine ⟨_, rfl, fun K hK => ?_⟩
      refine value_ (w1 := w') (v := (.bool false)) (by rfl) rfl ?_ (hK _ _ (show _ = _ from rfl) (Ext.refl _))
      go_simp
      (try simp only [i64_w])
      try rfl
    exact msteps_nil
  · intro val w' hx hF
    have e29 : val 29 = (.slice A0 l0.length c0) := hF 0 29 rfl
    have e30 : val 30 = (.slice A1 l1.length c1) := hF 1 30 rfl
    obtain ⟨A31, c31, e31, hc31, hC31⟩ := hF 2 31 rfl
    have HL31 := Aside0.mk hc31
    have HC31 := Aside0.mk hC31
    clear hc31 hC31
    have e32 : val 32 = (.string (strOfNums X1)) := hF 3 32 rfl
    have e33 : val 33 = (.slice A1 l1.length c1) := hF 4 33 rfl
    have e34 : val 34 = (.slice A0 l0.length c0) := hF 5 34 rfl
    obtain ⟨A35, c35, e35, hc35, hC35⟩ := hF 6 35 rfl
    have HL35 := Aside0.mk hc35
    have HC35 := Aside0.mk hC35
    clear hc35 hC35
    have e36 : val 36 = (.string (strOfNums X1)) := hF 7 36 rfl
    have e37 : val 37 = (.bool false) := hF 8 37 rfl
    have e38 : val 38 = (.bool false) := hF 9 38 rfl
    have e39 : val 39 = (.slice Ax2 X.length cx2) := hF 10 39 rfl
    have e40 : val 40 = (.string (strOfNums X)) := hF 11 40 rfl
    have e41 : val 41 = (.slice Ax4 X.length cx4) := hF 12 41 rfl
    have e42 : val 42 = (.string (strOfNums X)) := hF 13 42 rfl
    have e43 : val 43 = (.bool false) := hF 14 43 rfl
    have e44 : val 44 = (.bool false) := hF 15 44 rfl
    have e45 : val 45 = (.bool false) := hF 16 45 rfl
    have e46 : val 46 = (.slice A0 l0.length c0) := hF 17 46 rfl
    have e47 : val 47 = (.slice A0 l0.length c0) := hF 18 47 rfl
    obtain ⟨A48, c48, e48, hc48, hC48⟩ := hF 19 48 rfl
    have HL48 := Aside0.mk hc48
    have HC48 := Aside0.mk hC48
    clear hc48 hC48
    have e49 : val 49 = (.string (strOfNums l0)) := hF 20 49 rfl
    have e50 : val 50 = (.slice A0 l0.length c0) := hF 21 50 rfl
    have e51 : val 51 = (.string (strOfNums l0)) := hF 22 51 rfl
    have e52 : val 52 = (.bool false) := hF 23 52 rfl
    have e53 : val 53 = (.bool false) := hF 24 53 rfl
    clear hF
    simp only [putT, List.foldl_cons, List.foldl_nil, Act.put, List.setIfInBounds_toArray, List.set_cons_zero, List.set_cons_succ, e29, e30, e31, e32, e33, e34, e35, e36, e37, e38, e39, e40, e41, e42, e43, e44, e45, e46, e47, e48, e49, e50, e51, e52, e53]
    clear e29 e30 e31 e32 e33 e34 e35 e36 e37 e38 e39 e40 e41 e42 e43 e44 e45 e46 e47 e48 e49 e50 e51 e52 e53
    have n0_ := Aside0.mk (c_ext HR0.out hx)
    have n1_ := Aside0.mk (c_ext HR1.out hx)
    have nB_ := Aside0.mk (below_step HB.out (Ext.below hx))
    clear HR0 HR1 HB hx
    have HR0 := n0_
    have HR1 := n1_
    have HB := nB_
    clear n0_ n1_ nB_
    clear HR2 HC1 HC2 HC3 HC4 HC31 HC35 HC48
    go_wp2_with (first | ((with_reducible refine gate_callee (f := 41) rfl ?_); refine goesL_ (some 56) rfl rfl Try.func41 (by kernel_rfl) rfl #[.slice A0 l0.length c0, .slice A1 l1.length c1] rfl (by (try simp only [List.map_toArray, List.map_cons, List.map_nil]); first | done | rfl) ?_; (with_reducible refine (bits_Diff.calls k _ _ l0 _ _ l1 _ _ (by (with_reducible repeat (first | apply Kd.C_alloc | apply Kd.C_drewN | apply Kd.C_drew)); exact HR0.out) HL0.out (by (with_reducible repeat (first | apply Kd.C_alloc | apply Kd.C_drewN | apply Kd.C_drew)); exact HR1.out) HL1.out HD1.out).mono ?_); rintro e w8 ⟨v_, rfl, hR_, hb⟩; obtain ⟨Ad1, cd1, rfl, hl_, hC_⟩ := Kd.R_reads hR_; clear hR_; refine ⟨_, rfl, ?_⟩; have n0_ := Aside0.mk (Kd.C_below (by (with_reducible repeat (first | apply Kd.C_alloc | apply Kd.C_drewN | apply Kd.C_drew)); exact HR0.out) hb); have n1_ := Aside0.mk (Kd.C_below (by (with_reducible repeat (first | apply Kd.C_alloc | apply Kd.C_drewN | apply Kd.C_drew)); exact HR1.out) hb); have nB_ := Aside0.mk (below_step (by repeat (first | (with_reducible first | exact HB.out | apply below_alloc | apply pw_below_drewN | apply below_drew1) | exact HB.out)) hb); clear HR0 HR1 HB hb; have HR0 := n0_; have HR1 := n1_; have HB := nB_; clear n0_ n1_ nB_; have HE1 := Aside0.mk hC_; have HN1 := Aside0.mk hl_; clear hC_ hl_) | ((with_reducible refine gate_callee (f := 41) rfl ?_); refine goesL_ (some 59) rfl rfl Try.func41 (by kernel_rfl) rfl #[.slice A1 l1.length c1, .slice A0 l0.length c0] rfl (by (try simp only [List.map_toArray, List.map_cons, List.map_nil]); first | done | rfl) ?_; (with_reducible refine (bits_Diff.calls k _ _ l1 _ _ l0 _ _ (by (with_reducible repeat (first | apply Kd.C_alloc | apply Kd.C_drewN | apply Kd.C_drew)); exact HR1.out) HL1.out (by (with_reducible repeat (first | apply Kd.C_alloc | apply Kd.C_drewN | apply Kd.C_drew)); exact HR0.out) HL0.out HD2.out).mono ?_); rintro e w9 ⟨v_, rfl, hR_, hb⟩; obtain ⟨Ad2, cd2, rfl, hl_, hC_⟩ := Kd.R_reads hR_; clear hR_; refine ⟨_, rfl, ?_⟩; have n0_ := Aside0.mk (Kd.C_below (by (with_reducible repeat (first | apply Kd.C_alloc | apply Kd.C_drewN | apply Kd.C_drew)); exact HR0.out) hb); have n1_ := Aside0.mk (Kd.C_below (by (with_reducible repeat (first | apply Kd.C_alloc | apply Kd.C_drewN | apply Kd.C_drew)); exact HR1.out) hb); have n2_ := Aside0.mk (Kd.C_below (by (with_reducible repeat (first | apply Kd.C_alloc | apply Kd.C_drewN | apply Kd.C_drew)); exact HE1.out) hb); have nB_ := Aside0.mk (below_step (by repeat (first | (with_reducible first | exact HB.out | apply below_alloc | apply pw_below_drewN | apply below_drew1) | exact HB.out)) hb); clear HR0 HR1 HE1 HB hb; have HR0 := n0_; have HR1 := n1_; have HE1 := n2_; have HB := nB_; clear n0_ n1_ n2_ nB_; have HE2 := Aside0.mk hC_; have HN2 := Aside0.mk hl_; clear hC_ hl_) | ((with_reducible refine gate_callee (f := 41) rfl ?_); (refine gate_guard (by rfl) ?_; dsimp only); refine goesL_ (some 68) rfl rfl Try.func41 (by kernel_rfl) rfl #[.slice A0 l0.length c0, .slice A0 l0.length c0] rfl (by (try simp only [List.map_toArray, List.map_cons, List.map_nil]); first | done | rfl) ?_; (with_reducible refine (bits_Diff.calls k _ _ l0 _ _ l0 _ _ (by (with_reducible repeat (first | apply Kd.C_alloc | apply Kd.C_drewN | apply Kd.C_drew)); exact HR0.out) HL0.out (by (with_reducible repeat (first | apply Kd.C_alloc | apply Kd.C_drewN | apply Kd.C_drew)); exact HR0.out) HL0.out HD3.out).mono ?_); rintro e w10 ⟨v_, rfl, hR_, hb⟩; obtain ⟨Ad3, cd3, rfl, hl_, hC_⟩ := Kd.R_reads hR_; clear hR_; refine ⟨_, rfl, ?_⟩; have n0_ := Aside0.mk (Kd.C_below (by (with_reducible repeat (first | apply Kd.C_alloc | apply Kd.C_drewN | apply Kd.C_drew)); exact HR0.out) hb); have n1_ := Aside0.mk (Kd.C_below (by (with_reducible repeat (first | apply Kd.C_alloc | apply Kd.C_drewN | apply Kd.C_drew)); exact HR1.out) hb); have n2_ := Aside0.mk (Kd.C_below (by (with_reducible repeat (first | apply Kd.C_alloc | apply Kd.C_drewN | apply Kd.C_drew)); exact HE1.out) hb); have n3_ := Aside0.mk (Kd.C_below (by (with_reducible repeat (first | apply Kd.C_alloc | apply Kd.C_drewN | apply Kd.C_drew)); exact HE2.out) hb); have nB_ := Aside0.mk (below_step (by repeat (first | (with_reducible first | exact HB.out | apply below_alloc | apply pw_below_drewN | apply below_drew1) | exact HB.out)) hb); clear HR0 HR1 HE1 HE2 HB hb; have HR0 := n0_; have HR1 := n1_; have HE1 := n2_; have HE2 := n3_; have HB := nB_; clear n0_ n1_ n2_ n3_ nB_; have HE3 := Aside0.mk hC_; have HN3 := Aside0.mk hl_; clear hC_ hl_) | ((with_reducible refine gate_callee (f := 28) rfl ?_); (refine gate_guard (by rfl) ?_; dsimp only); refine goesL_ (some 74) rfl rfl Try.func28 (by kernel_rfl) rfl #[.slice A0 l0.length c0] rfl (by (try simp only [List.map_toArray, List.map_cons, List.map_nil]); first | done | rfl) ?_; (with_reducible refine (bits_Zeros.calls k _ _ l0 z _ (by (with_reducible repeat (first | apply Kd.C_alloc | apply Kd.C_drewN | apply Kd.C_drew)); exact HR0.out) HL0.out HZ.out).mono ?_); rintro e w11 ⟨rfl, ⟨nd, rfl⟩⟩; refine ⟨_, rfl, ?_⟩) | ((with_reducible refine gate_callee (f := 30) rfl ?_); (refine gate_guard (by rfl) ?_; dsimp only); refine goesL_ (some 76) rfl rfl Try.func30 (by kernel_rfl) rfl #[.slice A0 l0.length c0] rfl (by (try simp only [List.map_toArray, List.map_cons, List.map_nil]); first | done | rfl) ?_; (with_reducible refine (bits_Count.calls k _ _ l0 n _ (by (with_reducible repeat (first | apply Kd.C_alloc | apply Kd.C_drewN | apply Kd.C_drew)); exact HR0.out) HL0.out HCN.out).mono ?_); rintro e w12 ⟨rfl, ⟨nd, rfl⟩⟩; refine ⟨_, rfl, ?_⟩))
    go_loopw [85] (fun v85 wr => ∃ q : Nat, q ≤ D.length ∧ v85 = .int .i64 (q : Int) ∧ Aside0 (Kd.C (Kd.int .u8) wr A0 l0.length l0) ∧ Aside0 (Kd.C (Kd.int .u8) wr A1 l1.length l1) ∧ Aside0 (Kd.C (Kd.int .i64) wr Ad1 D.length D) ∧ Aside0 (Kd.C (Kd.int .i64) wr Ad2 D.length D) ∧ Aside0 (Below w.heap.size w wr)) (fun v85 _ => D.length - (intOf v85).toNat)
    case atStart => exact ⟨0, Nat.zero_le _, rfl, ⟨by (with_reducible repeat (first | apply Kd.C_alloc | apply Kd.C_drewN | apply Kd.C_drew)); exact HR0.out⟩, ⟨by (with_reducible repeat (first | apply Kd.C_alloc | apply Kd.C_drewN | apply Kd.C_drew)); exact HR1.out⟩, ⟨by (with_reducible repeat (first | apply Kd.C_alloc | apply Kd.C_drewN | apply Kd.C_drew)); exact HE1.out⟩, ⟨by (with_reducible repeat (first | apply Kd.C_alloc | apply Kd.C_drewN | apply Kd.C_drew)); exact HE2.out⟩, ⟨by repeat (first | (with_reducible first | exact HB.out | apply below_alloc | apply pw_below_drewN | apply below_drew1) | exact HB.out)⟩⟩
    case round =>
      clear HR0 HR1 HE1 HE2 HB
      obtain ⟨q, hq, rfl, HR0, HR1, HE1, HE2, HB⟩ := hrel
      have hw : wrap64 ((q : Int) + 1) = (q : Int) + 1 := by have := HDL.out; unfold wrap64; omega
      by_cases hlt : q < D.length
      · obtain ⟨bq, hg1, hg2⟩ := HGET.out q hlt
        have HG1 := Aside0.mk hg1
        have HG2 := Aside0.mk hg2
        clear hg1 hg2
        obtain ⟨ad1, rfl, hx1⟩ := at_nat HE1.out hlt
        obtain ⟨ad2, rfl, hx2⟩ := at_nat HE2.out hlt
        have HQ1 := Aside0.mk (fun w' (e : Ext wr w') => cell_ext hx1 e)
        have HQ2 := Aside0.mk (fun w' (e : Ext wr w') => cell_ext hx2 e)
        clear hx1 hx2
        have HBB : Aside0 ((bq == !bq) = false) := ⟨by cases bq <;> rfl⟩
        have HQL := Aside0.mk hlt
        have d1_ : decide ((q : Int) < (D.length : Int)) = true := decide_eq_true (by omega)
        have d2_ : decide (q < D.length) = true := decide_eq_true hlt
        have d3_ : (D.length ≤ q) = False := eq_false (by omega)
        clear hq hlt
        go_wp2
        refine mono_region (fun i => ([(Is (.slice (some ad1) D.length cd1)), (Is (.int .i64 (q : Int))), (Is (.pointer (some (ad1.add q)))), (Is (.int .i64 (rd D (q : Int)))), (Is (.slice (some ad2) D.length cd2)), (Is (.int .i64 (q : Int))), (Is (.pointer (some (ad2.add q)))), (Is (.int .i64 (rd D (q : Int)))), (Is (.bool false)), (Is (.bool false)), (Is (.slice A0 l0.length c0)), (Is (.slice (some ad1) D.length cd1)), (Is (.int .i64 (q : Int))), (Is (.pointer (some (ad1.add q)))), (Is (.int .i64 (rd D (q : Int)))), (Is (.bool bq)), (Is (.slice A1 l1.length c1)), (Is (.slice (some ad1) D.length cd1)), (Is (.int .i64 (q : Int))), (Is (.pointer (some (ad1.add q)))), (Is (.int .i64 (rd D (q : Int)))), (Is (.bool (!bq))), (Is (.bool false)), (Is (.bool false))] : List (Value → World → Prop)).getD i (fun _ _ => True)) 24 [88, 89, 90, 91, 92, 93, 94, 95, 96, 97, 98, 99, 100, 101, 102, 103, 104, 105, 106, 107, 108, 109, 110, 111] (by kernel_rfl) rfl (by kernel_rfl) (by kernel_rfl) ?_ ?_ ?_
        · intro i
          match i with
          | 0 => exact stable_is _
          | 1 => exact stable_is _
          | 2 => exact stable_is _
          | 3 => exact stable_is _
          | 4 => exact stable_is _
          | 5 => exact stable_is _
          | 6 => exact stable_is _
          | 7 => exact stable_is _
          | 8 => exact stable_is _
          | 9 => exact stable_is _
          | 10 => exact stable_is _
          | 11 => exact stable_is _
          | 12 => exact stable_is _
          | 13 => exact stable_is _
          | 14 => exact stable_is _
          | 15 => exact stable_is _
          | 16 => exact stable_is _
          | 17 => exact stable_is _
          | 18 => exact stable_is _
          | 19 => exact stable_is _
          | 20 => exact stable_is _
          | 21 => exact stable_is _
          | 22 => exact stable_is _
          | 23 => exact stable_is _
          | _ + 24 => exact fun _ _ _ _ _ => trivial
        · show ∀ i ∈ [0, 1, 2, 3, 4, 5, 6, 7, 8, 9, 10, 11, 12, 13, 14, 15, 16, 17, 18, 19, 20, 21, 22, 23], _
          refine msteps_cons ?_ ?_
          · intro a w' hx hfr hk
            have e9 : a.tmps[9]? = some (.slice (some ad1) D.length cd1) := (hfr.off 9 rfl).trans rfl
            clear hk hfr
            refine ⟨_, rfl, fun K hK => ?_⟩
            refine value_ (w1 := w') (v := (.slice (some ad1) D.length cd1)) (by rfl) rfl ?_ (hK _ _ (show _ = _ from rfl) (Ext.refl _))
            go_simp
            (try simp only [i64_w])
            try rfl
          refine msteps_cons ?_ ?_
          · intro a w' hx hfr hk
            have e11 : a.tmps[11]? = some (.int .i64 (q : Int)) := (hfr.off 11 rfl).trans rfl
            clear hk hfr
            refine ⟨_, rfl, fun K hK => ?_⟩
            refine value_ (w1 := w') (v := (.int .i64 (q : Int))) (by rfl) rfl ?_ (hK _ _ (show _ = _ from rfl) (Ext.refl _))
            go_simp
            (try simp only [i64_w])
            try rfl
          refine msteps_cons ?_ ?_
          · intro a w' hx hfr hk
            obtain ⟨v_, e88, h_⟩ := hk 0 88 (by kernel_rfl) rfl
            replace h_ : v_ = (.slice (some ad1) D.length cd1) := h_
            subst h_
            obtain ⟨v_, e89, h_⟩ := hk 1 89 (by kernel_rfl) rfl
            replace h_ : v_ = (.int .i64 (q : Int)) := h_
            subst h_
            clear hk hfr
            refine ⟨_, rfl, fun K hK => ?_⟩
            refine value_ (w1 := w') (v := (.pointer (some (ad1.add q)))) (by rfl) rfl ?_ (hK _ _ (show _ = _ from rfl) (Ext.refl _))
            go_simp
            (try simp only [i64_w])
            try rfl
          refine msteps_cons ?_ ?_
          · intro a w' hx hfr hk
            obtain ⟨v_, e90, h_⟩ := hk 2 90 (by kernel_rfl) rfl
            replace h_ : v_ = (.pointer (some (ad1.add q))) := h_
            subst h_
            clear hk hfr
            refine ⟨_, rfl, fun K hK => ?_⟩
            have hcell := HQ1.out w' hx
            refine value_ (w1 := w') (v := (.int .i64 (rd D (q : Int)))) (by rfl) rfl ?_ (hK _ _ (show _ = _ from rfl) (Ext.refl _))
            go_simp
            (try simp only [i64_w])
            try rfl
          refine msteps_cons ?_ ?_
          · intro a w' hx hfr hk
            have e10 : a.tmps[10]? = some (.slice (some ad2) D.length cd2) := (hfr.off 10 rfl).trans rfl
            clear hk hfr
            refine ⟨_, rfl, fun K hK => ?_⟩
            refine value_ (w1 := w') (v := (.slice (some ad2) D.length cd2)) (by rfl) rfl ?_ (hK _ _ (show _ = _ from rfl) (Ext.refl _))
            go_simp
            (try simp only [i64_w])
            try rfl
          refine msteps_cons ?_ ?_
          · intro a w' hx hfr hk
            have e11 : a.tmps[11]? = some (.int .i64 (q : Int)) := (hfr.off 11 rfl).trans rfl
            clear hk hfr
            refine ⟨_, rfl, fun K hK => ?_⟩
            refine value_ (w1 := w') (v := (.int .i64 (q : Int))) (by rfl) rfl ?_ (hK _ _ (show _ = _ from rfl) (Ext.refl _))
            go_simp
            (try simp only [i64_w])
            try rfl
          refine msteps_cons ?_ ?_
          · intro a w' hx hfr hk
            obtain ⟨v_, e92, h_⟩ := hk 4 92 (by kernel_rfl) rfl
            replace h_ : v_ = (.slice (some ad2) D.length cd2) := h_
            subst h_
            obtain ⟨v_, e93, h_⟩ := hk 5 93 (by kernel_rfl) rfl
            replace h_ : v_ = (.int .i64 (q : Int)) := h_
            subst h_
            clear hk hfr
            refine ⟨_, rfl, fun K hK => ?_⟩
            refine value_ (w1 := w') (v := (.pointer (some (ad2.add q)))) (by rfl) rfl ?_ (hK _ _ (show _ = _ from rfl) (Ext.refl _))
            go_simp
            (try simp only [i64_w])
            try rfl
          refine msteps_cons ?_ ?_
          · intro a w' hx hfr hk
            obtain ⟨v_, e94, h_⟩ := hk 6 94 (by kernel_rfl) rfl
            replace h_ : v_ = (.pointer (some (ad2.add q))) := h_
            subst h_
            clear hk hfr
            refine ⟨_, rfl, fun K hK => ?_⟩
            have hcell := HQ2.out w' hx
            refine value_ (w1 := w') (v := (.int .i64 (rd D (q : Int)))) (by rfl) rfl ?_ (hK _ _ (show _ = _ from rfl) (Ext.refl _))
            go_simp
            (try simp only [i64_w])
            try rfl
          refine msteps_cons ?_ ?_
          · intro a w' hx hfr hk
            obtain ⟨v_, e91, h_⟩ := hk 3 91 (by kernel_rfl) rfl
            replace h_ : v_ = (.int .i64 (rd D (q : Int))) := h_
            subst h_
            obtain ⟨v_, e95, h_⟩ := hk 7 95 (by kernel_rfl) rfl
            replace h_ : v_ = (.int .i64 (rd D (q : Int))) := h_
            subst h_
            clear hk hfr
            refine ⟨_, rfl, fun K hK => ?_⟩
            refine value_ (w1 := w') (v := (.bool false)) (by rfl) rfl ?_ (hK _ _ (show _ = _ from rfl) (Ext.refl _))
            go_simp
            (try simp only [i64_w])
            try rfl
          refine msteps_cons ?_ ?_
          · intro a w' hx hfr hk
            obtain ⟨v_, e96, h_⟩ := hk 8 96 (by kernel_rfl) rfl
            replace h_ : v_ = (.bool false) := h_
            subst h_
            clear hk hfr
            refine ⟨_, rfl, fun K hK => ?_⟩
            refine value_ (w1 := w') (v := (.bool false)) (by rfl) rfl ?_ (hK _ _ (show _ = _ from rfl) (Ext.refl _))
            go_simp
            (try simp only [i64_w])
            try rfl
          refine msteps_cons ?_ ?_
          · intro a w' hx hfr hk
            have e0 : a.tmps[0]? = some (.slice A0 l0.length c0) := (hfr.off 0 rfl).trans rfl
            obtain ⟨v_, e97, h_⟩ := hk 9 97 (by kernel_rfl) rfl
            replace h_ : v_ = (.bool false) := h_
            subst h_
            clear hk hfr
            refine ⟨_, rfl, fun K hK => ?_⟩
            refine value_ (w1 := w') (v := (.slice A0 l0.length c0)) (wanted_on rfl rfl rfl e97) rfl ?_ (hK _ _ (show _ = _ from rfl) (Ext.refl _))
            go_simp
            (try simp only [i64_w])
            try rfl
          refine msteps_cons ?_ ?_
          · intro a w' hx hfr hk
            have e9 : a.tmps[9]? = some (.slice (some ad1) D.length cd1) := (hfr.off 9 rfl).trans rfl
            obtain ⟨v_, e97, h_⟩ := hk 9 97 (by kernel_rfl) rfl
            replace h_ : v_ = (.bool false) := h_
            subst h_
            clear hk hfr
            refine ⟨_, rfl, fun K hK => ?_⟩
            refine value_ (w1 := w') (v := (.slice (some ad1) D.length cd1)) (wanted_on rfl rfl rfl e97) rfl ?_ (hK _ _ (show _ = _ from rfl) (Ext.refl _))
            go_simp
            (try simp only [i64_w])
            try rfl
          refine msteps_cons ?_ ?_
          · intro a w' hx hfr hk
            have e11 : a.tmps[11]? = some (.int .i64 (q : Int)) := (hfr.off 11 rfl).trans rfl
            obtain ⟨v_, e97, h_⟩ := hk 9 97 (by kernel_rfl) rfl
            replace h_ : v_ = (.bool false) := h_
            subst h_
            clear hk hfr
            refine ⟨_, rfl, fun K hK => ?_⟩
            refine value_ (w1 := w') (v := (.int .i64 (q : Int))) (wanted_on rfl rfl rfl e97) rfl ?_ (hK _ _ (show _ = _ from rfl) (Ext.refl _))
            go_simp
            (try simp only [i64_w])
            try rfl
          refine msteps_cons ?_ ?_
          · intro a w' hx hfr hk
            obtain ⟨v_, e99, h_⟩ := hk 11 99 (by kernel_rfl) rfl
            replace h_ : v_ = (.slice (some ad1) D.length cd1) := h_
            subst h_
            obtain ⟨v_, e100, h_⟩ := hk 12 100 (by kernel_rfl) rfl
            replace h_ : v_ = (.int .i64 (q : Int)) := h_
            subst h_
            obtain ⟨v_, e97, h_⟩ := hk 9 97 (by kernel_rfl) rfl
            replace h_ : v_ = (.bool false) := h_
            subst h_
            clear hk hfr
            refine ⟨_, rfl, fun K hK => ?_⟩
            refine value_ (w1 := w') (v := (.pointer (some (ad1.add q)))) (wanted_on rfl rfl rfl e97) rfl ?_ (hK _ _ (show _ = _ from rfl) (Ext.refl _))
            go_simp
            (try simp only [i64_w])
            try rfl
          refine msteps_cons ?_ ?_
          · intro a w' hx hfr hk
            obtain ⟨v_, e101, h_⟩ := hk 13 101 (by kernel_rfl) rfl
            replace h_ : v_ = (.pointer (some (ad1.add q))) := h_
            subst h_
            obtain ⟨v_, e97, h_⟩ := hk 9 97 (by kernel_rfl) rfl
            replace h_ : v_ = (.bool false) := h_
            subst h_
            clear hk hfr
            refine ⟨_, rfl, fun K hK => ?_⟩
            have hcell := HQ1.out w' hx
            refine value_ (w1 := w') (v := (.int .i64 (rd D (q : Int)))) (wanted_on rfl rfl rfl e97) rfl ?_ (hK _ _ (show _ = _ from rfl) (Ext.refl _))
            go_simp
            (try simp only [i64_w])
            try rfl
          refine msteps_cons ?_ ?_
          · intro a w' hx hfr hk
            obtain ⟨v_, e98, h_⟩ := hk 10 98 (by kernel_rfl) rfl
            replace h_ : v_ = (.slice A0 l0.length c0) := h_
            subst h_
            obtain ⟨v_, e102, h_⟩ := hk 14 102 (by kernel_rfl) rfl
            replace h_ : v_ = (.int .i64 (rd D (q : Int))) := h_
            subst h_
            obtain ⟨v_, e97, h_⟩ := hk 9 97 (by kernel_rfl) rfl
            replace h_ : v_ = (.bool false) := h_
            subst h_
            clear hk hfr
            refine ⟨_, rfl, fun K hK => ?_⟩
            refine goes_ Try.func24 (by kernel_rfl) rfl #[.slice A0 l0.length c0, .int .i64 (rd D (q : Int))] (wanted_on rfl rfl rfl e97) rfl rfl (by simp only [List.map_toArray, List.map_cons, List.map_nil, Act.eval, Array.getD_eq_getD_getElem?, Option.getD_some, e98, e102]; first | done | rfl) ?_
            (with_reducible refine (bits_Get.calls _ _ l0 _ _ _ (c_ext HR0.out hx) HL0.out HG1.out).mono ?_)
            rintro e w1 ⟨rfl, hd_⟩
            exact ⟨_, rfl, hK _ _ (show _ = _ from rfl) hd_.below⟩
          refine msteps_cons ?_ ?_
          · intro a w' hx hfr hk
            have e1 : a.tmps[1]? = some (.slice A1 l1.length c1) := (hfr.off 1 rfl).trans rfl
            obtain ⟨v_, e97, h_⟩ := hk 9 97 (by kernel_rfl) rfl
            replace h_ : v_ = (.bool false) := h_
            subst h_
            clear hk hfr
            refine ⟨_, rfl, fun K hK => ?_⟩
            refine value_ (w1 := w') (v := (.slice A1 l1.length c1)) (wanted_on rfl rfl rfl e97) rfl ?_ (hK _ _ (show _ = _ from rfl) (Ext.refl _))
            go_simp
            (try simp only [i64_w])
            try rfl
          refine msteps_cons ?_ ?_
          · intro a w' hx hfr hk
            have e9 : a.tmps[9]? = some (.slice (some ad1) D.length cd1) := (hfr.off 9 rfl).trans rfl
            obtain ⟨v_, e97, h_⟩ := hk 9 97 (by kernel_rfl) rfl
            replace h_ : v_ = (.bool false) := h_
            subst h_
            clear hk hfr
            refine ⟨_, rfl, fun K hK => ?_⟩
            refine value_ (w1 := w') (v := (.slice (some ad1) D.length cd1)) (wanted_on rfl rfl rfl e97) rfl ?_ (hK _ _ (show _ = _ from rfl) (Ext.refl _))
            go_simp
            (try simp only [i64_w])
            try rfl
          refine msteps_cons ?_ ?_
          · intro a w' hx hfr hk
            have e11 : a.tmps[11]? = some (.int .i64 (q : Int)) := (hfr.off 11 rfl).trans rfl
            obtain ⟨v_, e97, h_⟩ := hk 9 97 (by kernel_rfl) rfl
            replace h_ : v_ = (.bool false) := h_
            subst h_
            clear hk hfr
            refine ⟨_, rfl, fun K hK => ?_⟩
            refine value_ (w1 := w') (v := (.int .i64 (q : Int))) (wanted_on rfl rfl rfl e97) rfl ?_ (hK _ _ (show _ = _ from rfl) (Ext.refl _))
            go_simp
            (try simp only [i64_w])
            try rfl
          refine msteps_cons ?_ ?_
          · intro a w' hx hfr hk
            obtain ⟨v_, e105, h_⟩ := hk 17 105 (by kernel_rfl) rfl
            replace h_ : v_ = (.slice (some ad1) D.length cd1) := h_
            subst h_
            obtain ⟨v_, e106, h_⟩ := hk 18 106 (by kernel_rfl) rfl
            replace h_ : v_ = (.int .i64 (q : Int)) := h_
            subst h_
            obtain ⟨v_, e97, h_⟩ := hk 9 97 (by kernel_rfl) rfl
            replace h_ : v_ = (.bool false) := h_
            subst h_
            clear hk hfr
            refine ⟨_, rfl, fun K hK => ?_⟩
            refine value_ (w1 := w') (v := (.pointer (some (ad1.add q)))) (wanted_on rfl rfl rfl e97) rfl ?_ (hK _ _ (show _ = _ from rfl) (Ext.refl _))
            go_simp
            (try simp only [i64_w])
            try rfl
          refine msteps_cons ?_ ?_
          · intro a w' hx hfr hk
            obtain ⟨v_, e107, h_⟩ := hk 19 107 (by kernel_rfl) rfl
            replace h_ : v_ = (.pointer (some (ad1.add q))) := h_
            subst h_
            obtain ⟨v_, e97, h_⟩ := hk 9 97 (by kernel_rfl) rfl
            replace h_ : v_ = (.bool false) := h_
            subst h_
            clear hk hfr
            refine ⟨_, rfl, fun K hK => ?_⟩
            have hcell := HQ1.out w' hx
            refine value_ (w1 := w') (v := (.int .i64 (rd D (q : Int)))) (wanted_on rfl rfl rfl e97) rfl ?_ (hK _ _ (show _ = _ from rfl) (Ext.refl _))
            go_simp
            (try simp only [i64_w])
            try rfl
          refine msteps_cons ?_ ?_
          · intro a w' hx hfr hk
            obtain ⟨v_, e104, h_⟩ := hk 16 104 (by kernel_rfl) rfl
            replace h_ : v_ = (.slice A1 l1.length c1) := h_
            subst h_
            obtain ⟨v_, e108, h_⟩ := hk 20 108 (by kernel_rfl) rfl
            replace h_ : v_ = (.int .i64 (rd D (q : Int))) := h_
            subst h_
            obtain ⟨v_, e97, h_⟩ := hk 9 97 (by kernel_rfl) rfl
            replace h_ : v_ = (.bool false) := h_
            subst h_
            clear hk hfr
            refine ⟨_, rfl, fun K hK => ?_⟩
            refine goes_ Try.func24 (by kernel_rfl) rfl #[.slice A1 l1.length c1, .int .i64 (rd D (q : Int))] (wanted_on rfl rfl rfl e97) rfl rfl (by simp only [List.map_toArray, List.map_cons, List.map_nil, Act.eval, Array.getD_eq_getD_getElem?, Option.getD_some, e104, e108]; first | done | rfl) ?_
            (with_reducible refine (bits_Get.calls _ _ l1 _ _ _ (c_ext HR1.out hx) HL1.out HG2.out).mono ?_)
            rintro e w1 ⟨rfl, hd_⟩
            exact ⟨_, rfl, hK _ _ (show _ = _ from rfl) hd_.below⟩
          refine msteps_cons ?_ ?_
          · intro a w' hx hfr hk
            obtain ⟨v_, e103, h_⟩ := hk 15 103 (by kernel_rfl) rfl
            replace h_ : v_ = (.bool bq) := h_
            subst h_
            obtain ⟨v_, e109, h_⟩ := hk 21 109 (by kernel_rfl) rfl
            replace h_ : v_ = (.bool (!bq)) := h_
            subst h_
            obtain ⟨v_, e97, h_⟩ := hk 9 97 (by kernel_rfl) rfl
            replace h_ : v_ = (.bool false) := h_
            subst h_
            clear hk hfr
            refine ⟨_, rfl, fun K hK => ?_⟩
            have hbb := HBB.out
            refine value_ (w1 := w') (v := (.bool false)) (wanted_on rfl rfl rfl e97) rfl ?_ (hK _ _ (show _ = _ from rfl) (Ext.refl _))
            go_simp
            (try simp only [i64_w])
            try rfl
          refine msteps_cons ?_ ?_
          · intro a w' hx hfr hk
            obtain ⟨v_, e97, h_⟩ := hk 9 97 (by kernel_rfl) rfl
            replace h_ : v_ = (.bool false) := h_
            subst h_
            obtain ⟨v_, e110, h_⟩ := hk 22 110 (by kernel_rfl) rfl
            replace h_ : v_ = (.bool false) := h_
            subst h_
            clear hk hfr
            refine ⟨_, rfl, fun K hK => ?_⟩
            refine value_ (w1 := w') (v := (.bool false)) (by rfl) rfl ?_ (hK _ _ (show _ = _ from rfl) (Ext.refl _))
            go_simp
            (try simp only [i64_w])
            try rfl
          exact msteps_nil
        · intro val w' hx hF
          have e88 : val 88 = (.slice (some ad1) D.length cd1) := hF 0 88 rfl
          have e89 : val 89 = (.int .i64 (q : Int)) := hF 1 89 rfl
          have e90 : val 90 = (.pointer (some (ad1.add q))) := hF 2 90 rfl
          have e91 : val 91 = (.int .i64 (rd D (q : Int))) := hF 3 91 rfl
          have e92 : val 92 = (.slice (some ad2) D.length cd2) := hF 4 92 rfl
          have e93 : val 93 = (.int .i64 (q : Int)) := hF 5 93 rfl
          have e94 : val 94 = (.pointer (some (ad2.add q))) := hF 6 94 rfl
          have e95 : val 95 = (.int .i64 (rd D (q : Int))) := hF 7 95 rfl
          have e96 : val 96 = (.bool false) := hF 8 96 rfl
          have e97 : val 97 = (.bool false) := hF 9 97 rfl
          have e98 : val 98 = (.slice A0 l0.length c0) := hF 10 98 rfl
          have e99 : val 99 = (.slice (some ad1) D.length cd1) := hF 11 99 rfl
          have e100 : val 100 = (.int .i64 (q : Int)) := hF 12 100 rfl
          have e101 : val 101 = (.pointer (some (ad1.add q))) := hF 13 101 rfl
          have e102 : val 102 = (.int .i64 (rd D (q : Int))) := hF 14 102 rfl
          have e103 : val 103 = (.bool bq) := hF 15 103 rfl
          have e104 : val 104 = (.slice A1 l1.length c1) := hF 16 104 rfl
          have e105 : val 105 = (.slice (some ad1) D.length cd1) := hF 17 105 rfl
          have e106 : val 106 = (.int .i64 (q : Int)) := hF 18 106 rfl
          have e107 : val 107 = (.pointer (some (ad1.add q))) := hF 19 107 rfl
          have e108 : val 108 = (.int .i64 (rd D (q : Int))) := hF 20 108 rfl
          have e109 : val 109 = (.bool (!bq)) := hF 21 109 rfl
          have e110 : val 110 = (.bool false) := hF 22 110 rfl
          have e111 : val 111 = (.bool false) := hF 23 111 rfl
          clear hF
          simp only [putT, List.foldl_cons, List.foldl_nil, Act.put, List.setIfInBounds_toArray, List.set_cons_zero, List.set_cons_succ, e88, e89, e90, e91, e92, e93, e94, e95, e96, e97, e98, e99, e100, e101, e102, e103, e104, e105, e106, e107, e108, e109, e110, e111]
          clear e88 e89 e90 e91 e92 e93 e94 e95 e96 e97 e98 e99 e100 e101 e102 e103 e104 e105 e106 e107 e108 e109 e110 e111
          have n0_ := Aside0.mk (c_ext HR0.out hx)
          have n1_ := Aside0.mk (c_ext HR1.out hx)
          have n2_ := Aside0.mk (c_ext HE1.out hx)
          have n3_ := Aside0.mk (c_ext HE2.out hx)
          have nB_ := Aside0.mk (below_step HB.out (Ext.below hx))
          clear HR0 HR1 HE1 HE2 HB hx
          have HR0 := n0_
          have HR1 := n1_
          have HE1 := n2_
          have HE2 := n3_
          have HB := nB_
          clear n0_ n1_ n2_ n3_ nB_
          go_wp2
          go_roundw
          case rel => exact ⟨q + 1, HQL.out, by go_num, ⟨by (with_reducible repeat (first | apply Kd.C_alloc | apply Kd.C_drewN | apply Kd.C_drew)); exact HR0.out⟩, ⟨by (with_reducible repeat (first | apply Kd.C_alloc | apply Kd.C_drewN | apply Kd.C_drew)); exact HR1.out⟩, ⟨by (with_reducible repeat (first | apply Kd.C_alloc | apply Kd.C_drewN | apply Kd.C_drew)); exact HE1.out⟩, ⟨by (with_reducible repeat (first | apply Kd.C_alloc | apply Kd.C_drewN | apply Kd.C_drew)); exact HE2.out⟩, ⟨by repeat (first | (with_reducible first | exact HB.out | apply below_alloc | apply pw_below_drewN | apply below_drew1) | exact HB.out)⟩⟩
          case measure => rw [hw]; have := HQL.out; simp only [intOf]; omega
      · obtain rfl : q = D.length := by omega
        go_wp2
        go_ret
        exact ⟨rfl, HB.out⟩
theorem diffN_self (a : List Nat) : diffN a a = [] := by
  unfold diffN
  exact List.filter_eq_nil_iff.2 (fun i _ => by simp)
theorem diffN_comm (a b : List Nat) : diffN a b = diffN b a := by
  unfold diffN
  rw [Nat.min_comm]
  refine List.filter_congr (fun i _ => ?_)
  simp [ne_comm]
def bytesOk (l : List Int) : Bool := l.all fun x => decide (0 ≤ x) && decide (x < 256)
theorem bytes_of {l : List Int} (h : bytesOk l = true) : ∀ x ∈ l, 0 ≤ x ∧ x < 256 := fun x hx => by
  have := List.all_eq_true.1 h x hx
  simpa using this
def incunablelaw01_BitsLaws.f (l0 l1 l2 : List Int) : Option Bool := if (bytesOk l0 && (bytesOk l1 && bytesOk l2)) = true then some true else none
theorem incunablelaw01_BitsLaws.calls (A0 : Option Addr) (c0 : Nat) (l0 : List Int) (A1 : Option Addr) (c1 : Nat) (l1 : List Int) (A2 : Option Addr) (c2 : Nat) (l2 : List Int) (r : Bool) (w : World) (hr0 : Kd.C (Kd.int .u8) w A0 l0.length l0) (hc0 : l0.length ≤ c0) (hr1 : Kd.C (Kd.int .u8) w A1 l1.length l1) (hc1 : l1.length ≤ c1) (hr2 : Kd.C (Kd.int .u8) w A2 l2.length l2) (hc2 : l2.length ≤ c2) (h : incunablelaw01_BitsLaws.f l0 l1 l2 = some r) :
    Calls Try.prog 11 #[.slice A0 l0.length c0, .slice A1 l1.length c1, .slice A2 l2.length c2] w fun e w' => e = .returned (.bool r) ∧ Below w.heap.size w w' := by
  unfold incunablelaw01_BitsLaws.f at h
  split at h
  · rename_i hb
    obtain rfl := Option.some.inj h
    rw [Bool.and_eq_true, Bool.and_eq_true] at hb
    have b0 := bytes_of hb.1
    have b1 := bytes_of hb.2.1
    have b2 := bytes_of hb.2.2
    obtain ⟨k1, e1⟩ := bits_awake_ev
    obtain ⟨k2, e2⟩ := many_ev [l0, l1, l2] (by show 3 < 1000000; decide)
    cases hm : [l0, l1, l2].any fun l => decide (l.length > 500) with
    | true =>
      rw [hm] at e2
      exact BitsLaws_many (max k1 k2) A0 c0 l0 A1 c1 l1 A2 c2 l2 w hr0 hc0 hr1 hc1 hr2 hc2 (e1 _ (by omega)) (e2 _ (by omega))
    | false =>
      rw [hm] at e2
      simp only [List.any_cons, List.any_nil, Bool.or_eq_false_iff, decide_eq_false_iff_not] at hm
      obtain ⟨m0, m1, m2, _⟩ := hm
      have n0 := nats_lt b0
      have n1 := nats_lt b1
      have n2 := nats_lt b2
      obtain ⟨k3, e3⟩ := and_ev b0 b1 (by omega) (by omega)
      obtain ⟨k4, e4⟩ := and_ev (ints_byte (andN_lt n0 n1)) b2 (by rw [ints_length, andN_length, nats_length, nats_length]; omega) (by omega)
      obtain ⟨k5, e5⟩ := and_ev b1 b2 (by omega) (by omega)
      obtain ⟨k6, e6⟩ := and_ev b0 (ints_byte (andN_lt n1 n2)) (by omega) (by rw [ints_length, andN_length, nats_length, nats_length]; omega)
      obtain ⟨k7, e7⟩ := and_ev b1 b0 (by omega) (by omega)
      obtain ⟨k8, e8⟩ := and_ev b0 b0 (by omega) (by omega)
      obtain ⟨k9, e9⟩ := diff_ev b0 b1 (by omega) (by omega)
      obtain ⟨k10, e10⟩ := diff_ev b1 b0 (by omega) (by omega)
      obtain ⟨k11, e11⟩ := diff_ev b0 b0 (by omega) (by omega)
      obtain ⟨k12, e12⟩ := zeros_ev b0 (by omega)
      obtain ⟨k13, e13⟩ := count_ev b0 (by omega)
      rw [nats_ints] at e4 e6
      rw [← andN_assoc n0 n1 n2] at e6
      rw [andN_comm n1 n0] at e7
      rw [andN_self n0, ints_nats fun x hx => (b0 x hx).1] at e8
      rw [diffN_comm] at e10
      rw [diffN_self] at e11
      have hc := count_le (nats l0)
      rw [nats_length] at hc
      have hd : (ints (diffN (nats l0) (nats l1))).length ≤ 100000 := by
        rw [ints_length]
        have : (diffN (nats l0) (nats l1)).length ≤ (List.range (8 * min (nats l0).length (nats l1).length)).length := List.length_filter_le _ _
        rw [List.length_range, nats_length, nats_length] at this
        omega
      obtain ⟨K, hK⟩ : ∃ K, K = k1 + k2 + k3 + k4 + k5 + k6 + k7 + k8 + k9 + k10 + k11 + k12 + k13 := ⟨_, rfl⟩
      have f1 := e1 K (by clear m0 m1 m2 hc hd; omega)
      clear e1
      have f2 := e2 K (by clear m0 m1 m2 hc hd; omega)
      clear e2
      have f3 := e3 K (by clear m0 m1 m2 hc hd; omega)
      clear e3
      have f4 := e4 K (by clear m0 m1 m2 hc hd; omega)
      clear e4
      have f5 := e5 K (by clear m0 m1 m2 hc hd; omega)
      clear e5
      have f6 := e6 K (by clear m0 m1 m2 hc hd; omega)
      clear e6
      have f7 := e7 K (by clear m0 m1 m2 hc hd; omega)
      clear e7
      have f8 := e8 K (by clear m0 m1 m2 hc hd; omega)
      clear e8
      have f9 := e9 K (by clear m0 m1 m2 hc hd; omega)
      clear e9
      have f10 := e10 K (by clear m0 m1 m2 hc hd; omega)
      clear e10
      have f11 := e11 K (by clear m0 m1 m2 hc hd; omega)
      clear e11
      have f12 := e12 K (by clear m0 m1 m2 hc hd; omega)
      clear e12
      have f13 := e13 K (by clear m0 m1 m2 hc hd; omega)
      clear e13
      clear hK
      have hz : (((8 * l0.length - count (nats l0) : Nat) : Int) + ((count (nats l0) : Nat) : Int)) = 8 * (l0.length : Int) := by omega
      have hz1 : (0 : Int) ≤ ((8 * l0.length - count (nats l0) : Nat) : Int) ∧ ((8 * l0.length - count (nats l0) : Nat) : Int) ≤ 100000 := by omega
      have hz2 : (0 : Int) ≤ ((count (nats l0) : Nat) : Int) ∧ ((count (nats l0) : Nat) : Int) ≤ 100000 := by omega
      refine BitsLaws_core K A0 c0 l0 A1 c1 l1 A2 c2 l2 _ _ _ _ _ _ w hr0 hc0 hr1 hc1 hr2 hc2 f1 f2 f3 f4 f5 f6 f7 f8 f9 f10 f11 f12 f13 hz1 hz2 hz (by omega) hd (fun q hq => ?_)
      clear f1 f2 f3 f4 f5 f6 f7 f8 f9 f10 f11 f12 f13 hz hz1 hz2 hc hd
      rw [ints_length] at hq
      have hmem := List.getElem_mem hq
      obtain ⟨h1, h2⟩ := mem_diffN.1 hmem
      rw [nats_length, nats_length] at h1
      rw [rd_ints_lt hq, get_eq b0 (by omega), get_eq b1 (by omega)]
      refine ⟨_, rfl, ?_⟩
      unfold bitVal
      rw [if_pos ⟨by omega, by omega⟩, if_pos ⟨by omega, by omega⟩, Int.toNat_natCast]
      have t0 := bitAt_lt2 (nats l0) (diffN (nats l0) (nats l1))[q]
      have t1 := bitAt_lt2 (nats l1) (diffN (nats l0) (nats l1))[q]
      congr 1
      generalize bitAt (nats l0) _ = x at *
      generalize bitAt (nats l1) _ = y at *
      match x, y, t0, t1, h2 with
      | 0, 0, _, _, h2 => exact absurd rfl h2
      | 0, 1, _, _, _ => rfl
      | 1, 0, _, _, _ => rfl
      | 1, 1, _, _, h2 => exact absurd rfl h2
  · cases h
end Go.Proofs.Ytpedkegfefnibaa.QBitsLaws
namespace Go.Proofs.Ytpedkegfefnibaa.OpenKit
open Go.RowKit Go.Proofs.YtpedkegfefnibaaW.PrintWords Go.ChangeShapes Go.WideShapes
def Opens {α : Type} (P : Program) (t : TypeId) (d : Kd α) (wf : α → Prop) : Prop :=
  ∀ {H : Type} (enc : TypeId × Value → H) (W : World) (spare : Nat → Bool) (held : Bool) (fuel : Nat) (cs : List Value) (x : DataW H × List MemPlace),
    DataW.trod enc P W 0 spare held fuel t cs = some x → ∃ a, d.K W a cs ∧ wf a
section
variable {P : Program} {t e : TypeId}
theorem opens_int {k : IntKind} (ht : P.underlying t = some (.int k)) : Opens P t (Kd.int k) (fun a => (Lit.int k a).wf = true) := by
  intro H enc W spare held fuel cs x h
  obtain ⟨n, rfl, _, hw⟩ := DataW.trod_int ht h
  exact ⟨n, rfl, hw⟩
theorem cells_some {W : World} {a : Addr} {n : Nat} {cs : List Value} (h : W.cells? 0 a n = some cs) : cs.length = n ∧ ∀ i u, cs[i]? = some u → W.cell? (a.add i) = some u := by
  unfold World.cells? at h
  rw [if_pos (Nat.zero_le _)] at h
  have hl := mapM_some_length h
  rw [List.length_range] at hl
  refine ⟨hl, fun i u hu => ?_⟩
  have hi : i < n := by
    rw [← hl]
    exact (List.getElem?_eq_some_iff.1 hu).1
  have := mapM_some_get h i i (by simp [hi])
  rw [this, hu]
theorem opens_slice {α : Type} [Inhabited α] {d : Kd α} {wf : α → Prop} (ht : P.underlying t = some (.slice e)) (he : Opens P e d wf) (hsz : P.cellsOf e = d.sz) :
    Opens P t (Kd.slice e d) (fun xs => xs.length ≤ maxLen ∧ ∀ x ∈ xs, wf x) := by
  intro H enc W spare held fuel cs x h
  rcases Go.Deep.open_slice ht h with ⟨rfl, _⟩ | ⟨a, len, cap, m, n, D, Pl, rfl, _, hl, hm, hmm, _, hel⟩
  · exact ⟨[], ⟨none, 0, rfl, Nat.le_refl _, ⟨rfl, Nat.zero_le _, fun h => absurd h (Nat.lt_irrefl 0)⟩⟩, Nat.zero_le _, by simp⟩
  have hlm : len ≤ m := by rw [hmm]; split <;> omega
  have hx : ∀ i, i < len → ∃ y : α, ∃ c : List Value, c.length = d.sz ∧ d.K W y c ∧ wf y ∧ ∀ j u, c[j]? = some u → W.cell? ((a.add (i * d.sz)).add j) = some u := by
    intro i hi
    obtain ⟨c, hc, hr⟩ := hel i (by omega)
    obtain ⟨y, hy, hw⟩ := he enc W spare held n c _ hr
    rw [hsz] at hc
    obtain ⟨h1, h2⟩ := cells_some hc
    exact ⟨y, c, h1, hy, hw, h2⟩
  obtain ⟨f, hf⟩ := Go.Deep.choose_lt hx
  have hlen : ((List.range len).map f).length = len := by simp
  have hmax : len ≤ maxLen := Nat.le_trans hl hm
  refine ⟨(List.range len).map f, ⟨some a, cap, by rw [hlen], by rw [hlen]; exact hl, ?_⟩, by rw [hlen]; exact hmax, ?_⟩
  · refine ⟨rfl, by rw [hlen]; exact hmax, fun _ => ⟨a, rfl, fun j p hj => ?_⟩⟩
    have hj' : j < len := by
      have := (List.getElem?_eq_some_iff.1 hj).1
      rwa [hlen] at this
    have e1 : f j = p := by simpa [hj'] using hj
    subst e1
    obtain ⟨c, h1, h2, _, h3⟩ := hf j hj'
    exact ⟨c, h1, h2, fun i u hu => by rw [← Go.Deep.add_add]; exact h3 i u hu⟩
  · intro y hy
    obtain ⟨i, hi, rfl⟩ := List.mem_map.1 hy
    obtain ⟨_, _, _, hw, _⟩ := hf i (List.mem_range.1 hi)
    exact hw
theorem sized_any {H : Type} {enc : TypeId × Value → H} {W : World} {base : Nat} {spare : Nat → Bool} {held : Bool} {a : Option Addr} {len cap : Nat} {d : DataW H} {ps : List MemPlace} {ts : List TypeId} {ds : List (DataW H)} {j : Nat}
    (hsz : (DataW.weightsEach P ts ds).all (· ≤ reachBytes) = true) (ht : ts[j]? = some t) (hd : ds[j]? = some d) (hu : P.underlying t = some (.slice e)) {B : Nat} (hB : P.bytesOf e = B)
    (h : DataW.Trod enc P W base spare held t (.slice a len cap) d ps) : len * B ≤ 140737488351232 := by
  obtain ⟨fuel, hf⟩ := h
  rcases Go.Deep.open_slice hu hf with ⟨hcs, _⟩ | ⟨x, l, c, m, n, D, Pl, hcs, _, hl, _, _, hx, _⟩
  · simp [Value.cells] at hcs
    obtain ⟨rfl, rfl, rfl⟩ := hcs
    simp
  · simp [Value.cells] at hcs
    obtain ⟨rfl, rfl, rfl⟩ := hcs
    obtain ⟨hx, _⟩ := Prod.mk.inj hx
    subst hx
    have z := sized_slice hsz ht hd hu
    rw [hB] at z
    refine Nat.le_trans (Nat.mul_le_mul_right _ ?_) z
    simp
end
end Go.Proofs.Ytpedkegfefnibaa.OpenKit
namespace Go.Proofs.Ytpedkegfefnibaa.Pure
open Go.RowKit Go.Proofs.Ytpedkegfefnibaa.QBitsLaws Go.Proofs.YtpedkegfefnibaaW.PrintWords
def StmBitsLaws : Prop := ∀ (l0 : List Int) (l1 : List Int) (l2 : List Int), (l0.length * 1 ≤ 140737488351232) → ((fun xs : List Int => xs.length ≤ maxLen ∧ ∀ x ∈ xs, (fun a : Int => (Lit.int .u8 a).wf = true) x) l0) → (l1.length * 1 ≤ 140737488351232) → ((fun xs : List Int => xs.length ≤ maxLen ∧ ∀ x ∈ xs, (fun a : Int => (Lit.int .u8 a).wf = true) x) l1) → (l2.length * 1 ≤ 140737488351232) → ((fun xs : List Int => xs.length ≤ maxLen ∧ ∀ x ∈ xs, (fun a : Int => (Lit.int .u8 a).wf = true) x) l2) → incunablelaw01_BitsLaws.f l0 l1 l2 = some true
end Go.Proofs.Ytpedkegfefnibaa.Pure
namespace Go.Proofs.Ytpedkegfefnibaa.Pure
open Go.RowKit Go.Proofs.Ytpedkegfefnibaa.QBitsLaws Go.Proofs.YtpedkegfefnibaaW.PrintWords Go.Proofs.Ytpedkegfefnibaa.EvKit
theorem ok_bytes {l : List Int} (h : l.length ≤ maxLen ∧ ∀ x ∈ l, (Lit.int .u8 x).wf = true) : bytesOk l = true := by
  refine List.all_eq_true.2 (fun x hx => ?_)
  have := wf_u8 (h.2 x hx)
  simp [this]
theorem BitsLaws : StmBitsLaws := by
  intro l0 l1 l2 _ h0 _ h1 _ h2
  unfold incunablelaw01_BitsLaws.f
  rw [ok_bytes h0, ok_bytes h1, ok_bytes h2]
  rfl
end Go.Proofs.Ytpedkegfefnibaa.Pure
