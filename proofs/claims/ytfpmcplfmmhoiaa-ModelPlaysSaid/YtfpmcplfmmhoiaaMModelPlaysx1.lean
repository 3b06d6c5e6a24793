import Derived.Test.YtfpmcplfmmhoiaaMModelPlaysx0
import Derived.Test.YtfpmcplfmmhoiaaProg
import Derived.WalkSpells
import Derived.Lib.SliceRun
import Derived.Lib.BufferMore
import Derived.Deep.MidRow
import Derived.Maps.OwnSet
import Derived.Maps.OwnOps
import Derived.Lib.SlKeysI
import Derived.Shelf.SlGeneric
import Derived.Shelf.SlIterI.Nil
import Derived.Shelf.SortM.Plain
import Derived.Shelf.SortM.SortNone
import Derived.Ground.GgzProg
import Derived.Ground.SlgmProg
import Derived.Deep.Slices
import Derived.OpenShut
import Derived.SizedLaws
namespace Go.Proofs.Ytfpmcplfmmhoiaa.QModelFits
open Go.RowKit Go.Proofs.YtfpmcplfmmhoiaaW.PrintWords Go.Proofs.YtfpmcplfmmhoiaaW.PrintLast Go.Proofs.YtfpmcplfmmhoiaaW.PrintMore
attribute [local go_sem] max2_int min2_int max_two min_two max_three min_three max_four min_four   -- for this text's walks alone
set_option linter.unusedVariables false
set_option linter.unusedSimpArgs false
theorem info5 : (Try.prog.info? 5).map (fun i => (i.zero, i.size, i.bytes)) = some (some (.int .u8 0), 1, 1) := by kernel_rfl
end Go.Proofs.Ytfpmcplfmmhoiaa.QModelFits
namespace Go.Proofs.Ytfpmcplfmmhoiaa.QModelFits
open Go.RowKit Go.Proofs.YtfpmcplfmmhoiaaW.PrintWords Go.Proofs.YtfpmcplfmmhoiaaW.PrintLast Go.Proofs.YtfpmcplfmmhoiaaW.PrintMore
attribute [local go_sem] max2_int min2_int max_two min_two max_three min_three max_four min_four   -- for this text's walks alone
set_option linter.unusedVariables false
set_option linter.unusedSimpArgs false
def slices_Clone_byte_byte.f (l0 : List Int) : Option (List Int) := if l0.length < 140737488355328 then some l0 else none
set_option maxHeartbeats 1000000 in
theorem slices_Clone_byte_byte.calls (A0 : Option Addr) (c0 : Nat) (l0 : List Int) (r : List Int) (w : World) (hr0 : Kd.C (Kd.int .u8) w A0 l0.length l0) (hc0 : l0.length ≤ c0) (h : slices_Clone_byte_byte.f l0 = some r) :
    Calls Try.prog 16 #[.slice A0 l0.length c0] w fun e w' => ∃ v0_ : Value, e = .returned v0_ ∧ Kd.R (Kd.int .u8) 5 w' w.heap.size (fun _ => True) v0_ r ∧ Below w.heap.size w w' := by
  have HR0 := Aside0.mk hr0
  clear hr0
  unfold slices_Clone_byte_byte.f at h
  split at h
  · rename_i hl
    have HL := Aside0.mk hl
    clear hl
    obtain rfl := Option.some.inj h
    clear h
    cases A0 with
    | none =>
      have hnil : l0 = [] := by
        by_cases e : 0 < l0.length
        · obtain ⟨ad, e1, _⟩ := HR0.out.2.2 e
          cases e1
        · exact List.length_eq_zero_iff.1 (by omega)
      subst hnil
      have hn := fun (w : World) (n c : Nat) => Lib.run_eql_slice_nil_nil (P := Try.prog) w n c Try.underlying24
      go_enter Try.func16, Try.ntmps16
      go_wp2
      go_ret
      exact ⟨_, rfl, Kd.R_nil _ _ _ _ _, Below.refl _ _⟩
    | some a =>
      have hn := fun (w : World) (n c : Nat) => Lib.run_eql_slice_nil (P := Try.prog) w 24 5 (some a) n c 0 0 Try.underlying24
      go_enter Try.func16, Try.ntmps16
      have HB := Aside0.mk (Below.refl w.heap.size w)
      go_wp2_with (first | ((with_reducible refine gate_dst (N := 5) rfl ?_); refine Kd.R_lit (Kd.int .u8) w.heap.size 5 ?hg (N := 5) ?hd (xs := ([] : List Int)) (inner := []) (ok := fun _ => True) (okp := fun _ => True) ?hr ?hp (fun _ hk => hk) trivial HB.out (Nat.le_refl _) (by simp) ?_; (case hd => rfl); (case hg => rfl); (case hr => first | (go_simp; done) | (go_simp; rfl)); (case hp => exact (Reps.none _ _)); intro v1 w1 ho1 hb1 hg1 hnew1; clear hg1 hnew1; have HO1 := Aside0.mk ho1; have HB1 := Aside0.mk hb1; clear ho1 hb1) | ((with_reducible refine gate_builtin (b := .append) (xs := #[.tmp 5, .tmp 6]) rfl ?_); at_builtin; refine Kd.R_append_rows (Kd.int .u8) (w0 := w) w.heap.size rfl (.tmp 5) (.tmp 6) 24 5 (.int .u8 0) 1 rfl Try.underlying24 info5 rfl (by decide) (by omega) v1 [] l0 _ _ _ (fun _ => True) (fun _ => False) rfl rfl ?aO ?aR (fun _ _ h => h) (fun _ h => h.elim) (fun _ _ => trivial) ?aB ?aS ?aL ?_; (case aO => exact HO1.out); (case aR => exact Kd.C_below HR0.out HB1.out); (case aB => exact HB1.out); (case aS => exact below_size HB1.out); (case aL => have := HL.out; simp; omega); intro v2 w2 ho2 hb2 hg2 hat2; clear hg2 hat2; rw [List.nil_append] at ho2; have HO2 := Aside0.mk ho2; have HB2 := Aside0.mk hb2; clear ho2 hb2))
      go_ret
      exact ⟨_, rfl, HO2.out, HB2.out⟩
  · cases h
def incunableref01_Same.l0 : Nat → List Int → List Int → Int → Option (Bool)
  | 0, _, _, _ => none
  | k + 1, x0, x1, x5 => if x5 < (x0.length : Int) then (if 0 ≤ x5 then (if x5 < (x1.length : Int) then (if (rd x0 x5) = (rd x1 x5) then (incunableref01_Same.l0 k x0 x1 (wrap64 (x5 + 1))) else (some false)) else (none)) else (none)) else (some true)
def incunableref01_Same.f (k : Nat) (l0 : List Int) (l1 : List Int) : Option (Bool) := if (l0.length : Int) = (l1.length : Int) then (incunableref01_Same.l0 k l0 l1 0) else (some false)
theorem incunableref01_Same.mono_l : ∀ k, (∀ y0 y1 y2, LeO (incunableref01_Same.l0 k y0 y1 y2) (incunableref01_Same.l0 (k + 1) y0 y1 y2))
  | 0 => fun _ _ _ r h => by simp [incunableref01_Same.l0] at h
  | k + 1 => by
    have ih0 := incunableref01_Same.mono_l k
    · intro y0 y1 y2
      unfold incunableref01_Same.l0
      repeat' first
      | (with_reducible exact ih0 _ _ _)
      | (with_reducible exact LeO.refl _)
      | (with_reducible exact LeO.none _)
      | (with_reducible refine LeO.ite ?_ ?_)
      | (with_reducible refine LeO.bind ?_ (fun _ => ?_))
      | exact ih0 _ _ _
      | exact LeO.none _
      | refine LeO.ite ?_ ?_
      | refine LeO.bind ?_ (fun _ => ?_)
theorem incunableref01_Same.mono : ∀ a0 a1 k, LeO (incunableref01_Same.f k a0 a1) (incunableref01_Same.f (k + 1) a0 a1) := by
  intro a0 a1 k
  have ih0 := incunableref01_Same.mono_l k
  unfold incunableref01_Same.f
  repeat' first
      | (with_reducible exact ih0 _ _ _)
      | (with_reducible exact LeO.refl _)
      | (with_reducible exact LeO.none _)
      | (with_reducible refine LeO.ite ?_ ?_)
      | (with_reducible refine LeO.bind ?_ (fun _ => ?_))
      | exact ih0 _ _ _
      | exact LeO.none _
      | refine LeO.ite ?_ ?_
      | refine LeO.bind ?_ (fun _ => ?_)
set_option maxHeartbeats 8000000 in
set_option maxRecDepth 100000 in
theorem incunableref01_Same.calls (k : Nat) (A0 : Option Addr) (c0 : Nat) (l0 : List Int) (A1 : Option Addr) (c1 : Nat) (l1 : List Int) (r : Bool) (w : World) (hr0 : Kd.C (Kd.int .u8) w A0 l0.length l0) (hc0 : l0.length ≤ c0) (hr1 : Kd.C (Kd.int .u8) w A1 l1.length l1) (hc1 : l1.length ≤ c1) (h : incunableref01_Same.f k l0 l1 = some r) :
    Calls Try.prog 12 #[.slice A0 l0.length c0, .slice A1 l1.length c1] w fun e w' => e = .returned (.bool r) ∧ Drawn0 w w' := by
  have HR0 := Aside0.mk hr0
  have HC0 := Aside0.mk hc0
  clear hr0 hc0
  have HR1 := Aside0.mk hr1
  have HC1 := Aside0.mk hc1
  clear hr1 hc1
  have H : (if (l0.length : Int) = (l1.length : Int) then (incunableref01_Same.l0 k l0 l1 0) else (some false)) = some r := h
  clear h
  by_cases c3 : (l0.length : Int) = (l1.length : Int)
  · rw [if_pos c3] at H
    have c3b0 : ((l0.length : Int) == (l1.length : Int)) = true := beq_iff_eq.mpr c3
    have c3b1 : ((l0.length : Int) != (l1.length : Int)) = false := bne_eq_false_iff_eq.mpr c3
    have c3b2 : (l0.length == l1.length) = true := by first | simpa using c3 | (simp at c3 ⊢; omega)
    clear c3
    have H' := Aside0.mk H
    clear H
    go_enter Try.func12, Try.ntmps12
    go_wp2
    repeat (go_quiet (fail); try go_wp2)
    go_loopg [5] k (fun kq v5 w' => ∃ (x5_1 : Int), v5 = .int .i64 x5_1 ∧ Aside0 (incunableref01_Same.l0 kq l0 l1 x5_1 = some r) ∧ Aside0 (kq ≤ k) ∧ Drawn0 w w')
    case atStart => exact ⟨(0), (by first | rfl | (simp; done) | (simp [*]; done)), H', ⟨Nat.le_refl _⟩, by repeat (first | exact Drawn0.refl _ | apply Drawn0.step)⟩
    case round =>
      clear H'
      try clear c1
      try clear p2
      try clear c3
      try clear c3b0
      try clear c3b1
      try clear c3b2
      obtain ⟨x5_1, rfl, HA, HK1, ⟨m1, rfl⟩⟩ := hrel
      cases gk with
      | zero => exact absurd HA.out (by simp [incunableref01_Same.l0])
      | succ k1 =>
        have H := HA.out
        clear HA
        simp only [incunableref01_Same.l0] at H
        by_cases c4 : x5_1 < (l0.length : Int)
        · rw [if_pos c4] at H
          have c4b0 : decide (x5_1 < (l0.length : Int)) = true := decide_eq_true c4
          clear c4
          by_cases c5 : 0 ≤ x5_1
          · rw [if_pos c5] at H
            have c5b0 : decide (0 ≤ x5_1) = true := decide_eq_true c5
            clear c5
            by_cases c6 : x5_1 < (l1.length : Int)
            · rw [if_pos c6] at H
              have c6b0 : decide (x5_1 < (l1.length : Int)) = true := decide_eq_true c6
              clear c6
              by_cases c7 : (rd l0 x5_1) = (rd l1 x5_1)
              · rw [if_pos c7] at H
                have c7b0 : ((rd l0 x5_1) == (rd l1 x5_1)) = true := beq_iff_eq.mpr c7
                have c7b1 : ((rd l0 x5_1) != (rd l1 x5_1)) = false := bne_eq_false_iff_eq.mpr c7
                clear c7
                have H' := Aside0.mk H
                clear H
                have p101 : 0 ≤ (x5_1 : Int) := of_decide_eq_true (by first | (with_reducible assumption) | assumption)
                have q101 : x5_1 < (l0.length : Int) := of_decide_eq_true (by first | (with_reducible assumption) | assumption)
                obtain ⟨ad101, e101, hx101_0⟩ := Kd.at_int HR0.out x5_1 p101 q101
                cases e101
                replace p101 := eq_true p101
                replace q101 := eq_true q101
                have p102 : 0 ≤ (x5_1 : Int) := of_decide_eq_true (by first | (with_reducible assumption) | assumption)
                have q102 : x5_1 < (l1.length : Int) := of_decide_eq_true (by first | (with_reducible assumption) | assumption)
                obtain ⟨ad102, e102, hx102_0⟩ := Kd.at_int HR1.out x5_1 p102 q102
                cases e102
                replace p102 := eq_true p102
                replace q102 := eq_true q102
                go_wp2
                repeat (go_quiet (fail); try go_wp2)
                go_roundg k1
                case measure => have := HK1.out; omega
                case rel => exact ⟨(wrap64 (x5_1 + 1)), (by first | rfl | (simp; done) | (simp [*]; done)), H', ⟨by have := HK1.out; omega⟩, by repeat (first | exact Drawn0.refl _ | apply Drawn0.step)⟩
              · rw [if_neg c7] at H
                have c7b0 : ((rd l0 x5_1) == (rd l1 x5_1)) = false := beq_eq_false_iff_ne.mpr c7
                have c7b1 : ((rd l0 x5_1) != (rd l1 x5_1)) = true := bne_iff_ne.mpr c7
                obtain rfl := Option.some.inj H
                have p101 : 0 ≤ (x5_1 : Int) := of_decide_eq_true (by first | (with_reducible assumption) | assumption)
                have q101 : x5_1 < (l0.length : Int) := of_decide_eq_true (by first | (with_reducible assumption) | assumption)
                obtain ⟨ad101, e101, hx101_0⟩ := Kd.at_int HR0.out x5_1 p101 q101
                cases e101
                replace p101 := eq_true p101
                replace q101 := eq_true q101
                have p102 : 0 ≤ (x5_1 : Int) := of_decide_eq_true (by first | (with_reducible assumption) | assumption)
                have q102 : x5_1 < (l1.length : Int) := of_decide_eq_true (by first | (with_reducible assumption) | assumption)
                obtain ⟨ad102, e102, hx102_0⟩ := Kd.at_int HR1.out x5_1 p102 q102
                cases e102
                replace p102 := eq_true p102
                replace q102 := eq_true q102
                go_wp2
                repeat (go_quiet (fail); try go_wp2)
                go_ret
                exact ⟨by first | rfl | (simp; done) | (simp [*]; done), by repeat (first | exact Drawn0.refl _ | apply Drawn0.step)⟩
            · rw [if_neg c6] at H
              exact absurd H (by simp)
          · rw [if_neg c5] at H
            exact absurd H (by simp)
        · rw [if_neg c4] at H
          have c4b0 : decide (x5_1 < (l0.length : Int)) = false := decide_eq_false c4
          clear c4
          obtain rfl := Option.some.inj H
          go_wp2
          repeat (go_quiet (fail); try go_wp2)
          go_ret
          exact ⟨by first | rfl | (simp; done) | (simp [*]; done), by repeat (first | exact Drawn0.refl _ | apply Drawn0.step)⟩
  · rw [if_neg c3] at H
    have c3b0 : ((l0.length : Int) == (l1.length : Int)) = false := beq_eq_false_iff_ne.mpr c3
    have c3b1 : ((l0.length : Int) != (l1.length : Int)) = true := bne_iff_ne.mpr c3
    have c3b2 : (l0.length == l1.length) = false := by first | simpa using c3 | (simp at c3 ⊢; omega)
    obtain rfl := Option.some.inj H
    go_enter Try.func12, Try.ntmps12
    go_wp2
    repeat (go_quiet (fail); try go_wp2)
    go_ret
    exact ⟨by first | rfl | (simp; done) | (simp [*]; done), by repeat (first | exact Drawn0.refl _ | apply Drawn0.step)⟩
def cmp_isNaN_int.f (a0 : Int) : Option (Bool) := some (a0 != a0)
set_option maxHeartbeats 8000000 in
set_option maxRecDepth 100000 in
theorem cmp_isNaN_int.calls (a0 : Int) (r : Bool) (w : World) (h : cmp_isNaN_int.f a0 = some r) :
    Calls Try.prog 41 #[.int .i64 a0] w fun e w' => e = .returned (.bool r) ∧ Drawn0 w w' := by
  have H : (some (a0 != a0)) = some r := h
  clear h
  obtain rfl := Option.some.inj H
  go_enter Try.func41, Try.ntmps41
  go_wp2
  go_ret
  exact ⟨by first | rfl | (simp; done) | (simp [*]; done), by repeat (first | exact Drawn0.refl _ | apply Drawn0.step)⟩
def cmp_Less_int.f (a0 : Int) (a1 : Int) : Option (Bool) := (cmp_isNaN_int.f a0).bind fun t103 => (if t103 = true then ((cmp_isNaN_int.f a1).bind fun t104 => (if t104 = true then (some (decide (a0 < a1))) else (some true))) else (some (decide (a0 < a1))))
set_option maxHeartbeats 8000000 in
set_option maxRecDepth 100000 in
theorem cmp_Less_int.calls (a0 : Int) (a1 : Int) (r : Bool) (w : World) (h : cmp_Less_int.f a0 a1 = some r) :
    Calls Try.prog 31 #[.int .i64 a0, .int .i64 a1] w fun e w' => e = .returned (.bool r) ∧ Drawn0 w w' := by
  have H : ((cmp_isNaN_int.f a0).bind fun t103 => (if t103 = true then ((cmp_isNaN_int.f a1).bind fun t104 => (if t104 = true then (some (decide (a0 < a1))) else (some true))) else (some (decide (a0 < a1))))) = some r := h
  clear h
  replace H := Option.bind_eq_some_iff.mp H
  obtain ⟨t103, A30, H⟩ := H
  replace H : (if t103 = true then ((cmp_isNaN_int.f a1).bind fun t104 => (if t104 = true then (some (decide (a0 < a1))) else (some true))) else (some (decide (a0 < a1)))) = some r := H
  have A3 := Aside0.mk A30
  clear A30
  by_cases c4 : t103 = true
  · subst c4
    have H1 : ((cmp_isNaN_int.f a1).bind fun t104 => (if t104 = true then (some (decide (a0 < a1))) else (some true))) = some r := by rw [if_pos rfl] at H; exact H
    clear H
    have H := H1
    clear H1
    replace H := Option.bind_eq_some_iff.mp H
    obtain ⟨t104, A50, H⟩ := H
    replace H : (if t104 = true then (some (decide (a0 < a1))) else (some true)) = some r := H
    have A5 := Aside0.mk A50
    clear A50
    by_cases c6 : t104 = true
    · subst c6
      have H1 : (some (decide (a0 < a1))) = some r := by rw [if_pos rfl] at H; exact H
      clear H
      have H := H1
      clear H1
      obtain rfl := Option.some.inj H
      go_enter Try.func31, Try.ntmps31
      go_wp2_with (first | ((with_reducible refine gate_callee (f := 41) rfl ?_); refine goesL_ (some 6) rfl rfl Try.func41 (by kernel_rfl) rfl #[.int .i64 a0] rfl (by (try simp only [List.map_toArray, List.map_cons, List.map_nil]); first | done | rfl | (simp only [List.length_drop, List.length_take]; rfl)) ?_; (with_reducible refine (cmp_isNaN_int.calls a0 true _ A3.out).mono ?_); rintro e w' ⟨rfl, ⟨nd, rfl⟩⟩; refine ⟨_, rfl, ?_⟩) | (go_at_call 41; (with_reducible refine (cmp_isNaN_int.calls a1 true _ A5.out).mono ?_); rintro e w' ⟨rfl, ⟨nd, rfl⟩⟩))
      go_ret
      exact ⟨by first | rfl | (simp; done) | (simp [*]; done), by repeat (first | exact Drawn0.refl _ | apply Drawn0.step)⟩
    · replace c6 := Bool.eq_false_iff.mpr c6
      subst c6
      have H1 : (some true) = some r := by rw [if_neg (show ¬ (false = true) by decide)] at H; exact H
      clear H
      have H := H1
      clear H1
      obtain rfl := Option.some.inj H
      go_enter Try.func31, Try.ntmps31
      go_wp2_with (first | ((with_reducible refine gate_callee (f := 41) rfl ?_); refine goesL_ (some 6) rfl rfl Try.func41 (by kernel_rfl) rfl #[.int .i64 a0] rfl (by (try simp only [List.map_toArray, List.map_cons, List.map_nil]); first | done | rfl | (simp only [List.length_drop, List.length_take]; rfl)) ?_; (with_reducible refine (cmp_isNaN_int.calls a0 true _ A3.out).mono ?_); rintro e w' ⟨rfl, ⟨nd, rfl⟩⟩; refine ⟨_, rfl, ?_⟩) | (go_at_call 41; (with_reducible refine (cmp_isNaN_int.calls a1 false _ A5.out).mono ?_); rintro e w' ⟨rfl, ⟨nd, rfl⟩⟩))
      go_ret
      exact ⟨by first | rfl | (simp; done) | (simp [*]; done), by repeat (first | exact Drawn0.refl _ | apply Drawn0.step)⟩
  · replace c4 := Bool.eq_false_iff.mpr c4
    subst c4
    have H1 : (some (decide (a0 < a1))) = some r := by rw [if_neg (show ¬ (false = true) by decide)] at H; exact H
    clear H
    have H := H1
    clear H1
    obtain rfl := Option.some.inj H
    go_enter Try.func31, Try.ntmps31
    go_wp2_with (first | ((with_reducible refine gate_callee (f := 41) rfl ?_); refine goesL_ (some 6) rfl rfl Try.func41 (by kernel_rfl) rfl #[.int .i64 a0] rfl (by (try simp only [List.map_toArray, List.map_cons, List.map_nil]); first | done | rfl | (simp only [List.length_drop, List.length_take]; rfl)) ?_; (with_reducible refine (cmp_isNaN_int.calls a0 false _ A3.out).mono ?_); rintro e w' ⟨rfl, ⟨nd, rfl⟩⟩; refine ⟨_, rfl, ?_⟩))
    go_ret
    exact ⟨by first | rfl | (simp; done) | (simp [*]; done), by repeat (first | exact Drawn0.refl _ | apply Drawn0.step)⟩
end Go.Proofs.Ytfpmcplfmmhoiaa.QModelFits
namespace Go.Proofs.Ytfpmcplfmmhoiaa.Mono
open Go.RowKit Go.Proofs.YtfpmcplfmmhoiaaW.PrintWords Go.Proofs.YtfpmcplfmmhoiaaW.PrintLast
set_option linter.unusedVariables false
def Ext (w w' : World) : Prop := Below w.heap.size w w'
theorem Ext.below {w w' : World} (h : Ext w w') : Below w.heap.size w w' := h
theorem Ext.refl (w : World) : Ext w w := Below.refl _ _
theorem Ext.trans {a b c : World} (h : Ext a b) (k : Ext b c) : Ext a c := below_step h k
theorem Ext.of {w w' : World} (h : Below w.heap.size w w') : Ext w w' := h
theorem Ext.drew (w : World) : Ext w w.drew := below_drew1 (Below.refl _ _)
def Stable (f : Value → World → Prop) : Prop := ∀ v w w', f v w → Ext w w' → f v w'
def Is (x : Value) : Value → World → Prop := fun v _ => v = x
theorem stable_is (x : Value) : Stable (Is x) := fun _ _ _ h _ => h
def dstAt (ops : Array Oper) (i : Nat) : Option Tmp := (ops[i]?).bind (·.dst)
def edges (ops : Array Oper) (i : Nat) : List Nat := match ops[i]? with
  | some o => (o.after.toList.filter (fun e => Region.binds .any e)).map (·.on)
  | none => []
def reach (ops : Array Oper) : Nat → Nat → Nat → Bool
  | 0, _, _ => false
  | n + 1, i, j => (edges ops i).any fun e => e == j || reach ops n e j
def okOps (ops : Array Oper) : Bool :=
  (List.range ops.size).all fun i => ((edges ops i).all fun e => decide (e < i)) && (List.range ops.size).all fun j => i == j || dstAt ops i == none || dstAt ops i != dstAt ops j
section
variable {P : Program} {ops : Array Oper} {Q : Exit → Act → World → Prop}
structure Fr (ops : Array Oper) (ts : List Tmp) (a0 a : Act) : Prop where
  size : a.tmps.size = a0.tmps.size
  defers : a.defers = a0.defers
  off : ∀ t, ts.contains t = false → a.tmps[t]? = a0.tmps[t]?
def Known (ops : Array Oper) (F : Nat → Value → World → Prop) (i : Nat) (a : Act) (w : World) : Prop :=
  ∀ j t, reach ops ops.size i j = true → dstAt ops j = some t → ∃ v, a.tmps[t]? = some v ∧ F j v w
def MStep (P : Program) (ops : Array Oper) (Q : Exit → Act → World → Prop) (ts : List Tmp) (a0 : Act) (w0 : World) (F : Nat → Value → World → Prop) (i : Nat) : Prop :=
  ∀ (a : Act) (w : World), Ext w0 w → Fr ops ts a0 a → Known ops F i a w →
    ∃ oi, ops[i]? = some oi ∧ ∀ K : Act → World → Prop, (∀ v w', F i v w' → Ext w w' → K (a.put oi.dst v) w') → if Region.wanted oi (yielded ops a.tmps) = true then Oper.wp P oi a w K Q else K (a.put oi.dst undef) w
theorem msteps_nil {ts : List Tmp} {a0 : Act} {w0 : World} {F : Nat → Value → World → Prop} : ∀ i ∈ ([] : List Nat), MStep P ops Q ts a0 w0 F i := fun _ h => by cases h
theorem msteps_cons {ts : List Tmp} {a0 : Act} {w0 : World} {F : Nat → Value → World → Prop} {i : Nat} {rs : List Nat} (h : MStep P ops Q ts a0 w0 F i) (hs : ∀ j ∈ rs, MStep P ops Q ts a0 w0 F j) : ∀ j ∈ i :: rs, MStep P ops Q ts a0 w0 F j := fun j hj => by
  rcases List.mem_cons.1 hj with rfl | hj
  · exact h
  · exact hs j hj
theorem edges_lt (h : okOps ops = true) {i j : Nat} (hj : j ∈ edges ops i) : j < i := by
  by_cases hi : i < ops.size
  · have h1 := List.all_eq_true.1 h i (List.mem_range.2 hi)
    rw [Bool.and_eq_true] at h1
    simpa using List.all_eq_true.1 h1.1 j hj
  · unfold edges at hj
    rw [Array.getElem?_eq_none (by omega)] at hj
    cases hj
theorem dst_ne (h : okOps ops = true) {i j : Nat} {t : Tmp} (hi : dstAt ops i = some t) (hj : dstAt ops j = some t) : i = j := by
  have lt : ∀ {i : Nat}, dstAt ops i = some t → i < ops.size := fun {i} hi => by
    by_cases hlt : i < ops.size
    · exact hlt
    · unfold dstAt at hi
      rw [Array.getElem?_eq_none (by omega)] at hi
      cases hi
  have h1 := List.all_eq_true.1 h i (List.mem_range.2 (lt hi))
  rw [Bool.and_eq_true] at h1
  have h2 := List.all_eq_true.1 h1.2 j (List.mem_range.2 (lt hj))
  rw [hi, hj] at h2
  simpa using h2
theorem ready_edges {listed : Array Bool} (hsz : listed.size = ops.size) {i : Nat} (hok : okOps ops = true) : i ∈ Region.ready .any ops listed ↔ i < ops.size ∧ listed.getD i true = false ∧ ∀ e ∈ edges ops i, listed.getD e true = true := by
  rw [mem_ready]
  constructor
  · rintro ⟨h1, o, ho, h2⟩
    have hi := (Array.getElem?_eq_some_iff.1 ho).1
    refine ⟨hi, h1, fun e he => ?_⟩
    have hlt := edges_lt hok he
    unfold edges at he
    rw [ho] at he
    obtain ⟨x, hx, rfl⟩ := List.mem_map.1 he
    obtain ⟨hx1, hx2⟩ := List.mem_filter.1 hx
    have := h2 x (by simpa using hx1) hx2
    rw [Array.getD_eq_getD_getElem?] at this ⊢
    rw [Array.getElem?_eq_getElem (by omega)] at this ⊢
    exact this
  · rintro ⟨hi, h1, h2⟩
    refine ⟨h1, ops[i], Array.getElem?_eq_getElem hi, fun e he hb => ?_⟩
    have hm : e.on ∈ edges ops i := by
      unfold edges
      rw [Array.getElem?_eq_getElem hi]
      exact List.mem_map.2 ⟨e, List.mem_filter.2 ⟨by simpa using he, hb⟩, rfl⟩
    have hlt := edges_lt hok hm
    have := h2 _ hm
    rw [Array.getD_eq_getD_getElem?] at this ⊢
    rw [Array.getElem?_eq_getElem (by omega)] at this ⊢
    exact this
def putT (a : Act) (ts : List Tmp) (val : Tmp → Value) : Act := ts.foldl (fun a t => a.put (some t) (val t)) a
theorem putT_spec (val : Tmp → Value) : ∀ (ts : List Tmp) (a : Act), (putT a ts val).tmps.size = a.tmps.size ∧ (putT a ts val).defers = a.defers ∧ (∀ t, t ∉ ts → (putT a ts val).tmps[t]? = a.tmps[t]?) ∧ (∀ t, t ∈ ts → t < a.tmps.size → (putT a ts val).tmps[t]? = some (val t))
  | [], a => ⟨rfl, rfl, fun _ _ => rfl, fun _ h => by cases h⟩
  | s :: r, a => by
    obtain ⟨h1, h2, h3, h4⟩ := putT_spec val r (a.put (some s) (val s))
    have hsz : (a.put (some s) (val s)).tmps.size = a.tmps.size := by simp [Act.put]
    refine ⟨h1.trans hsz, h2.trans rfl, fun t ht => ?_, fun t ht hlt => ?_⟩
    · rw [List.mem_cons, not_or] at ht
      refine (h3 t ht.2).trans ?_
      simp [Act.put, Array.getElem?_setIfInBounds_ne (Ne.symm ht.1)]
    · by_cases htr : t ∈ r
      · exact h4 t htr (by rw [hsz]; exact hlt)
      · rcases List.mem_cons.1 ht with rfl | h
        · refine (h3 t htr).trans ?_
          simp [Act.put, hlt]
        · exact absurd h htr
def chained (ops : Array Oper) (m : Nat) : Bool := (List.range ops.size).all fun i => decide (i < m) || (List.range i).all fun j => reach ops ops.size i j
theorem chained_spec {m i j : Nat} (h : chained ops m = true) (hi : i < ops.size) (hm : m ≤ i) (hj : j < i) : reach ops ops.size i j = true := by
  have h1 := List.all_eq_true.1 h i (List.mem_range.2 hi)
  rcases Bool.or_eq_true _ _ ▸ h1 with h1 | h1
  · have := of_decide_eq_true h1
    omega
  · exact List.all_eq_true.1 h1 j (List.mem_range.2 hj)
theorem reach_listed {listed : Array Bool} (hok : okOps ops = true) (shut : ∀ i j, i < ops.size → listed.getD i true = true → j ∈ edges ops i → listed.getD j true = true) : ∀ (n i j : Nat), i < ops.size → (∀ e ∈ edges ops i, listed.getD e true = true) → reach ops n i j = true → j < ops.size ∧ listed.getD j true = true := by
  intro n
  induction n with
  | zero => intro i j _ _ h; cases h
  | succ n ih =>
    intro i j hi he h
    unfold reach at h
    obtain ⟨e, hem, h⟩ := List.any_eq_true.1 h
    have hlt := edges_lt hok hem
    have hl := he e hem
    rw [Bool.or_eq_true] at h
    rcases h with h | h
    · obtain rfl := beq_iff_eq.1 h
      exact ⟨by omega, hl⟩
    · exact ih e j (by omega) (fun x hx => shut e x (by omega) hl hx) h
theorem tail_any {m : Nat} (hok : okOps ops = true) (hch : chained ops m = true) : ∀ (d k : Nat) (listed : Array Bool) (a : Act) (w : World), k + d = ops.size → m ≤ k → listed.size = ops.size → (∀ i, i < ops.size → listed.getD i true = decide (i < k)) →
    wpList P ops Q (ops.toList.drop k) a w → wpAny P .any ops Q d listed a w := by
  intro d
  induction d with
  | zero =>
    intro k listed a w hk hm hsz hl h
    rw [List.drop_of_length_le (by rw [Array.length_toList]; omega)] at h
    refine ⟨List.eq_nil_iff_forall_not_mem.2 (fun i hi => ?_), h⟩
    obtain ⟨h1, h2, _⟩ := (ready_edges hsz hok).1 hi
    rw [hl i h1, decide_eq_true (by omega)] at h2
    cases h2
  | succ d ih =>
    intro k listed a w hk hm hsz hl h
    have hkl : k < ops.toList.length := by rw [Array.length_toList]; omega
    rw [List.drop_eq_getElem_cons hkl] at h
    have ho : ops[k]? = some (ops.toList[k]'hkl) := by
      rw [Array.getElem?_eq_getElem (by omega)]
      simp
    have shut : ∀ i j, i < ops.size → listed.getD i true = true → j ∈ edges ops i → listed.getD j true = true := by
      intro i j hi h1 hj
      rw [hl i hi] at h1
      have := of_decide_eq_true h1
      have := edges_lt hok hj
      rw [hl j (by omega)]
      exact decide_eq_true (by omega)
    refine ⟨fun hr => ?_, fun i hi => ?_⟩
    · exfalso
      have : k ∈ Region.ready .any ops listed := (ready_edges hsz hok).2 ⟨by omega, by rw [hl k (by omega)]; exact decide_eq_false (by omega), fun e he => by
        have := edges_lt hok he
        rw [hl e (by omega)]
        exact decide_eq_true (by omega)⟩
      rw [hr] at this
      cases this
    · obtain ⟨hlt, hli, he⟩ := (ready_edges hsz hok).1 hi
      have hik : i = k := by
        rw [hl i hlt] at hli
        have h1 := of_decide_eq_false hli
        by_cases hne : i = k
        · exact hne
        · obtain ⟨h2, h3⟩ := reach_listed hok shut _ i k hlt he (chained_spec hch hlt (by omega) (by omega))
          rw [hl k h2] at h3
          have := of_decide_eq_true h3
          omega
      subst hik
      have key : wpOp P ops Q i (wpList P ops Q (ops.toList.drop (i + 1))) a w := by
        unfold wpOp
        rw [ho]
        exact h
      refine wpOp_mono (fun a' w' h' => ih (i + 1) _ a' w' (by omega) (by omega) (by rw [Array.size_setIfInBounds]; exact hsz) (fun j hj => ?_) h') key
      by_cases hji : i = j
      · subst hji
        rw [Array.getD_eq_getD_getElem?]
        simp [hsz, hj]
      · rw [getD_set_ne true hji, hl j hj]
        by_cases hlt2 : j < i
        · rw [decide_eq_true hlt2, decide_eq_true (by omega)]
        · rw [decide_eq_false hlt2, decide_eq_false (by omega)]
structure InvT (ops : Array Oper) (ts : List Tmp) (m : Nat) (a0 : Act) (w0 : World) (F : Nat → Value → World → Prop) (listed : Array Bool) (a : Act) (w : World) : Prop where
  sz : listed.size = ops.size
  ext : Ext w0 w
  fr : Fr ops ts a0 a
  val : ∀ i t, i < m → listed.getD i true = true → dstAt ops i = some t → ∃ v, a.tmps[t]? = some v ∧ F i v w
  shut : ∀ i j, i < ops.size → listed.getD i true = true → j ∈ edges ops i → listed.getD j true = true
  later : ∀ i, m ≤ i → i < ops.size → listed.getD i true = false
theorem monoT_all {ts : List Tmp} {m : Nat} (hmn : m ≤ ops.size) (hts : ∀ i t, i < m → dstAt ops i = some t → ts.contains t = true) {a0 : Act} {w0 : World} {F : Nat → Value → World → Prop} (hok : okOps ops = true) (hch : chained ops m = true) (hF : ∀ i, Stable (F i)) (hs : ∀ i ∈ List.range m, MStep P ops Q ts a0 w0 F i) (hdst : ∀ i t, i < m → dstAt ops i = some t → t < a0.tmps.size)
    (hend : ∀ a w, Ext w0 w → Fr ops ts a0 a → (∀ i t, i < m → dstAt ops i = some t → ∃ v, a.tmps[t]? = some v ∧ F i v w) → wpList P ops Q (ops.toList.drop m) a w) :
    ∀ (fuel : Nat) (listed : Array Bool) (a : Act) (w : World), listed.toList.count false = fuel → InvT ops ts m a0 w0 F listed a w → wpAny P .any ops Q fuel listed a w := by
  have none_ : ∀ (listed : Array Bool), listed.size = ops.size → Region.ready .any ops listed = [] → ∀ i, i < ops.size → listed.getD i true = true := by
    intro listed hsz hr i
    induction i using Nat.strongRecOn with
    | _ i ih =>
      intro hi
      cases hl : listed.getD i true with
      | true => rfl
      | false =>
        have : i ∈ Region.ready .any ops listed := (ready_edges hsz hok).2 ⟨hi, hl, fun e he => ih e (edges_lt hok he) (by have := edges_lt hok he; omega)⟩
        rw [hr] at this
        cases this
  have fin : ∀ (listed : Array Bool) (a : Act) (w : World), InvT ops ts m a0 w0 F listed a w → (∀ i, i < ops.size → listed.getD i true = true) → Q .normal a w := by
    intro listed a w hI hall
    have hm : m = ops.size := by
      rcases Nat.lt_or_ge m ops.size with h | h
      · have h1 := hI.later m (Nat.le_refl _) h
        rw [hall m h] at h1
        cases h1
      · omega
    have := hend a w hI.ext hI.fr (fun i t hi ht => hI.val i t hi (hall i (by omega)) ht)
    rw [hm, List.drop_of_length_le (by rw [Array.length_toList]; omega)] at this
    exact this
  intro fuel
  induction fuel with
  | zero =>
    intro listed a w hc hI
    have hall : ∀ i, i < ops.size → listed.getD i true = true := by
      intro i hi
      have hm := List.count_eq_zero.1 hc
      rw [Array.getD_eq_getD_getElem?, Array.getElem?_eq_getElem (by rw [hI.sz]; exact hi)]
      cases hb : listed[i]'(by rw [hI.sz]; exact hi) with
      | true => rfl
      | false => exact absurd (by rw [← hb]; exact Array.getElem_mem_toList _) hm
    refine ⟨?_, fin listed a w hI hall⟩
    refine List.eq_nil_iff_forall_not_mem.2 (fun i hi => ?_)
    obtain ⟨h1, h2, _⟩ := (ready_edges hI.sz hok).1 hi
    rw [hall i h1] at h2
    cases h2
  | succ fuel ih =>
    intro listed a w hc hI
    by_cases hmall : ∀ i, i < m → listed.getD i true = true
    · -- the tail
      have hl : ∀ i, i < ops.size → listed.getD i true = decide (i < m) := by
        intro i hi
        by_cases h : i < m
        · rw [hmall i h, decide_eq_true h]
        · rw [hI.later i (by omega) hi, decide_eq_false h]
      have hcount : m + (fuel + 1) = ops.size := by
        have hL : listed.toList = List.replicate m true ++ List.replicate (ops.size - m) false := by
          apply List.ext_getElem?
          intro i
          by_cases hi : i < ops.size
          · have h1 := hl i hi
            rw [Array.getD_eq_getD_getElem?, Array.getElem?_eq_getElem (by rw [hI.sz]; exact hi)] at h1
            rw [Array.getElem?_toList, Array.getElem?_eq_getElem (by rw [hI.sz]; exact hi)]
            simp only [Option.getD_some] at h1
            rw [h1]
            by_cases h : i < m
            · rw [List.getElem?_append_left (by simpa using h), List.getElem?_replicate, if_pos h, decide_eq_true h]
            · rw [List.getElem?_append_right (by simpa using h), List.getElem?_replicate, List.length_replicate, if_pos (by omega), decide_eq_false h]
          · rw [List.getElem?_eq_none (by rw [Array.length_toList, hI.sz]; omega), List.getElem?_eq_none (by simp; omega)]
        rw [hL, List.count_append, List.count_replicate, List.count_replicate] at hc
        simp at hc
        omega
      exact tail_any hok hch _ m listed a w hcount (Nat.le_refl _) hI.sz hl (hend a w hI.ext hI.fr (fun i t hi ht => hI.val i t hi (hmall i hi) ht))
    refine ⟨fun hr => fin listed a w hI (none_ listed hI.sz hr), fun i hi => ?_⟩
    obtain ⟨hlt, hl, he⟩ := (ready_edges hI.sz hok).1 hi
    have him : i < m := by
      rcases Nat.lt_or_ge i m with h | h
      · exact h
      · refine absurd (fun j hj => ?_) hmall
        exact (reach_listed hok hI.shut _ i j hlt he (chained_spec hch hlt h (by omega))).2
    obtain ⟨oi, hoi, hK⟩ := hs i (List.mem_range.2 him) a w hI.ext hI.fr (fun j t hr ht => by
      obtain ⟨h1, h2⟩ := reach_listed hok hI.shut _ i j hlt he hr
      have hjm : j < m := by
        rcases Nat.lt_or_ge j m with h | h
        · exact h
        · have := hI.later j h h1
          rw [h2] at this
          cases this
      exact hI.val j t hjm h2 ht)
    refine wpOp_step hoi (fun K' hK' => hK K' (fun v w' hv hx => hK' _ _ ?_))
    have hdi : dstAt ops i = oi.dst := by unfold dstAt; rw [hoi]; rfl
    have hli : listed[i]'(by rw [hI.sz]; exact hlt) = false := by
      rw [Array.getD_eq_getD_getElem?, Array.getElem?_eq_getElem (by rw [hI.sz]; exact hlt)] at hl
      exact hl
    refine ih _ _ _ ?_ ⟨by rw [Array.size_setIfInBounds]; exact hI.sz, hI.ext.trans hx, ⟨?_, ?_, ?_⟩, ?_, ?_, ?_⟩
    · rw [Array.toList_setIfInBounds, List.count_set (h := by rw [Array.length_toList, hI.sz]; exact hlt)]
      have : listed.toList[i]'(by rw [Array.length_toList, hI.sz]; exact hlt) = false := by rw [Array.getElem_toList]; exact hli
      rw [this, hc]
      simp
    · rw [← hI.fr.size]
      unfold Act.put
      split <;> simp
    · rw [← hI.fr.defers]
      unfold Act.put
      split <;> rfl
    · intro t ht
      rw [← hI.fr.off t ht]
      cases hd : oi.dst with
      | none => rfl
      | some d =>
        have hne : d ≠ t := fun e => by have := hts i t him (by rw [hdi, hd, e]); rw [ht] at this; cases this
        simp [Act.put, Array.getElem?_setIfInBounds_ne hne]
    · intro j t hj hlj htj
      by_cases hij : i = j
      · subst hij
        rw [hdi] at htj
        refine ⟨v, ?_, hv⟩
        have := hdst i t him (by rw [hdi]; exact htj)
        rw [htj]
        simp [Act.put, hI.fr.size, this]
      · have hlj' : listed.getD j true = true := by rw [getD_set_ne true hij] at hlj; exact hlj
        obtain ⟨u, hu, hfu⟩ := hI.val j t hj hlj' htj
        refine ⟨u, ?_, hF j u w w' hfu hx⟩
        cases hd : oi.dst with
        | none => exact hu
        | some d =>
          have hne : d ≠ t := fun e => hij (dst_ne hok (by rw [hdi, hd, e]) htj)
          simpa [Act.put, Array.getElem?_setIfInBounds_ne hne] using hu
    · intro j e hj hlj hem
      by_cases hej : i = e
      · subst hej
        rw [Array.getD_eq_getD_getElem?]
        simp [hI.sz, hlt]
      · rw [getD_set_ne true hej]
        by_cases hij : i = j
        · subst hij
          exact he e hem
        · rw [getD_set_ne true hij] at hlj
          exact hI.shut j e hj hlj hem
    · intro j hj hjl
      rw [getD_set_ne true (by omega)]
      exact hI.later j hj hjl
theorem mono_region_tail {id : Nat} {a0 : Act} {w0 : World} (F : Nat → Value → World → Prop) (m : Nat) (ts : List Tmp) (rest : List Oper) (hm : P.follows .mixedOrders = true) (hn : ops.toList.drop m = rest) (hmn : m ≤ ops.size) (hok : okOps ops = true) (hch : chained ops m = true)
    (hts : ((ops.toList.take m).filterMap (·.dst) == ts && ts.all fun t => decide (t < a0.tmps.size)) = true) (hF : ∀ i, Stable (F i)) (hs : ∀ i ∈ List.range m, MStep P ops Q ts a0 w0 F i)
    (hend : ∀ (val : Tmp → Value) (w : World), Ext w0 w → (∀ i t, i < m → dstAt ops i = some t → F i (val t) w) → wpList P ops Q rest (putT a0 ts val) w) : (Code.region id ops true).wp P Q a0 w0 := by
  subst hn
  rw [Bool.and_eq_true, beq_iff_eq] at hts
  obtain ⟨hts, hlt⟩ := hts
  have hdst : ∀ i t, i < m → dstAt ops i = some t → t ∈ ts := by
    intro i t him h
    rw [← hts]
    unfold dstAt at h
    cases ho : ops[i]? with
    | none => rw [ho] at h; cases h
    | some o =>
      rw [ho] at h
      refine List.mem_filterMap.2 ⟨o, ?_, h⟩
      have h1 : ops.toList[i]? = some o := by rw [Array.getElem?_toList]; exact ho
      exact List.mem_of_getElem? (l := ops.toList.take m) (i := i) (by rw [List.getElem?_take, if_pos him]; exact h1)
  have hdlt : ∀ i t, i < m → dstAt ops i = some t → t < a0.tmps.size := fun i t him h => by simpa using List.all_eq_true.1 hlt t (hdst i t him h)
  refine wp_region_any hm (monoT_all (ts := ts) hmn (fun i t him h => List.contains_iff_mem.2 (hdst i t him h)) (a0 := a0) (w0 := w0.drew) (F := F) hok hch hF (fun i hi a w hx => hs i hi a w ((Ext.drew w0).trans hx)) hdlt ?_ _ _ _ _ ?_ ⟨by simp, Ext.refl _, ⟨rfl, rfl, fun _ _ => rfl⟩, ?_, ?_, ?_⟩)
  · intro a w hx hfr hv
    have key : a = putT a0 ts (fun t => a.tmps.getD t undef) := by
      obtain ⟨h1, h2, h3, h4⟩ := putT_spec (fun t => a.tmps.getD t undef) ts a0
      have ht : a.tmps = (putT a0 ts (fun t => a.tmps.getD t undef)).tmps := by
        refine Array.ext_getElem? (fun t => ?_)
        by_cases hmem : t ∈ ts
        · have hl : t < a0.tmps.size := by simpa using List.all_eq_true.1 hlt t hmem
          rw [h4 t hmem hl, Array.getD_eq_getD_getElem?]
          rw [Array.getElem?_eq_getElem (by rw [hfr.size]; exact hl)]
          rfl
        · rw [h3 t hmem]
          refine hfr.off t (by cases h : ts.contains t with | false => rfl | true => exact absurd (List.contains_iff_mem.1 h) hmem)
      have hd : a.defers = (putT a0 ts (fun t => a.tmps.getD t undef)).defers := by rw [h2]; exact hfr.defers
      cases a
      cases hp : putT a0 ts _
      rw [hp] at ht hd
      simp only at ht hd
      rw [ht, hd]
    rw [key]
    refine hend _ w ((Ext.drew w0).trans hx) (fun i t him h => ?_)
    obtain ⟨v, h1, h2⟩ := hv i t him h
    rw [Array.getD_eq_getD_getElem?, h1]
    exact h2
  · simp
  · intro i t hi h
    rw [Array.getD_eq_getD_getElem?, Array.getElem?_replicate, if_pos (by omega)] at h
    cases h
  · intro i j hi h
    rw [Array.getD_eq_getD_getElem?, Array.getElem?_replicate, if_pos hi] at h
    cases h
  · intro i _ hi
    rw [Array.getD_eq_getD_getElem?, Array.getElem?_replicate, if_pos hi]
    rfl
end
end Go.Proofs.Ytfpmcplfmmhoiaa.Mono
namespace Go.Proofs.Ytfpmcplfmmhoiaa.Mono
open Go.RowKit Go.Proofs.YtfpmcplfmmhoiaaW.PrintWords Go.Proofs.YtfpmcplfmmhoiaaW.PrintLast
set_option linter.unusedVariables false
section
variable {P : Program} {ops : Array Oper} {Q : Exit → Act → World → Prop}
def PStep (P : Program) (ops : Array Oper) (Q : Exit → Act → World → Prop) (ts : List Tmp) (a0 : Act) (w0 : World) (F : Nat → Value → World → Prop) (i : Nat) : Prop :=
  ∀ (a : Act) (w wf : World), Ext w0 wf → Fr ops ts a0 a → Known ops F i a wf →
    ∃ oi, ops[i]? = some oi ∧ ∀ K : Act → World → Prop, (∀ v, F i v wf → K (a.put oi.dst v) w) → if Region.wanted oi (yielded ops a.tmps) = true then Oper.wp P oi a w K Q else K (a.put oi.dst undef) w
theorem PStep.m {ts : List Tmp} {a0 : Act} {w0 : World} {F : Nat → Value → World → Prop} {i : Nat} (h : PStep P ops Q ts a0 w0 F i) : MStep P ops Q ts a0 w0 F i := fun a w hx hfr hk => by
  obtain ⟨oi, h1, h2⟩ := h a w w hx hfr hk
  exact ⟨oi, h1, fun K hK => h2 K fun v hv => hK v w hv (Ext.refl _)⟩
def SStep (P : Program) (ops : Array Oper) (Q : Exit → Act → World → Prop) (ts : List Tmp) (a0 : Act) (w0 : World) (F : Nat → Value → World → Prop) (ST : (Tmp → Value) → World → World → Prop) (s : Nat) : Prop :=
  ∀ (a : Act) (w : World), Ext w0 w → Fr ops ts a0 a → Known ops F s a w →
    ∃ oi, ops[s]? = some oi ∧ ∀ K : Act → World → Prop, (∀ w2, ST (fun t => a.tmps.getD t undef) w w2 → K a w2) → if Region.wanted oi (yielded ops a.tmps) = true then Oper.wp P oi a w K Q else K (a.put oi.dst undef) w
end
end Go.Proofs.Ytfpmcplfmmhoiaa.Mono
namespace Go.Proofs.Ytfpmcplfmmhoiaa.Mono
open Go.RowKit Go.Proofs.YtfpmcplfmmhoiaaW.PrintWords Go.Proofs.YtfpmcplfmmhoiaaW.PrintLast
set_option linter.unusedVariables false
section
variable {P : Program} {ops : Array Oper} {Q : Exit → Act → World → Prop}
end
end Go.Proofs.Ytfpmcplfmmhoiaa.Mono
namespace Go.Proofs.Ytfpmcplfmmhoiaa.Read
open Go.RowKit Go.Proofs.YtfpmcplfmmhoiaaW.PrintWords
section
variable {P : Program}
end
end Go.Proofs.Ytfpmcplfmmhoiaa.Read
namespace Go.Proofs.Ytfpmcplfmmhoiaa.Box
open Go.RowKit Go.Proofs.YtfpmcplfmmhoiaaW.PrintWords Go.Proofs.YtfpmcplfmmhoiaaW.PrintLast Go.Proofs.Ytfpmcplfmmhoiaa.Mono
set_option linter.unusedVariables false
structure Put (W W2 : World) (g : Nat) (T : TypeId) (cs : Array Value) : Prop where
  here : W2.heap[g]? = some (.cells cs T (0, 0))
  far : ∀ k, k ≠ g → W2.heap[k]? = W.heap[k]?
  ext : ∀ w0 : World, w0.heap.size ≤ g → Ext w0 W → Ext w0 W2
def setAll (old : Array Value) : Nat → List Value → Array Value
  | _, [] => old
  | o, v :: r => setAll (old.setIfInBounds o v) (o + 1) r
theorem setAll_get (old : Array Value) : ∀ (vs : List Value) (o i : Nat), (setAll old o vs)[i]? = if i < old.size ∧ o ≤ i ∧ i < o + vs.length then vs[i - o]? else old[i]?
  | [], o, i => by
    rw [if_neg (by simp; try omega)]
    rfl
  | v :: r, o, i => by
    rw [setAll, setAll_get _ r (o + 1) i, Array.size_setIfInBounds, List.length_cons]
    by_cases h : i < old.size
    · by_cases h1 : o + 1 ≤ i ∧ i < o + 1 + r.length
      · rw [if_pos ⟨h, h1⟩, if_pos ⟨h, by omega, by omega⟩, show i - o = (i - (o + 1)) + 1 by omega, List.getElem?_cons_succ]
      · rw [if_neg (fun z => h1 z.2)]
        by_cases h2 : i = o
        · subst h2
          rw [if_pos ⟨h, Nat.le_refl _, by omega⟩, Nat.sub_self, List.getElem?_cons_zero]
          simp [h]
        · rw [if_neg (by omega), Array.getElem?_setIfInBounds_ne (Ne.symm h2)]
    · rw [if_neg (fun z => h z.1), if_neg (fun z => h z.1), Array.getElem?_eq_none (by rw [Array.size_setIfInBounds]; omega), Array.getElem?_eq_none (by omega)]
theorem setAll_all {old cs : Array Value} (h : cs.size = old.size) : setAll old 0 cs.toList = cs := by
  refine Array.ext_getElem? (fun i => ?_)
  rw [setAll_get]
  by_cases hi : i < old.size
  · rw [if_pos ⟨hi, Nat.zero_le _, by rw [Nat.zero_add, Array.length_toList]; omega⟩, Nat.sub_zero, Array.getElem?_toList]
  · rw [if_neg (fun z => hi z.1), Array.getElem?_eq_none (by omega), Array.getElem?_eq_none (by omega)]
theorem heap_cells (g : Nat) (T : TypeId) : ∀ (vs : List Value) (o : Nat) (W : World) (old : Array Value), W.heap[g]? = some (.cells old T (0, 0)) → (W.setCells g o vs).heap[g]? = some (.cells (setAll old o vs) T (0, 0))
  | [], _, _, _, h => h
  | v :: r, o, W, old, h => heap_cells g T r (o + 1) _ _ (blk_set h o v)
theorem heap_cells_far (g k : Nat) (hk : k ≠ g) : ∀ (vs : List Value) (o : Nat) (W : World), (W.setCells g o vs).heap[k]? = W.heap[k]?
  | [], _, _ => rfl
  | v :: r, o, W => (heap_cells_far g k hk r (o + 1) _).trans (Below.heap_setCell W _ _ k hk)
theorem ext_cells {w0 : World} {g : Nat} (hg : w0.heap.size ≤ g) : ∀ (vs : List Value) (o : Nat) (W : World), Ext w0 W → Ext w0 (W.setCells g o vs)
  | [], _, _, h => h
  | v :: r, o, W, h => ext_cells hg r (o + 1) _ (Below.setCell h hg _)
theorem put_cells {W : World} {g : Nat} {T : TypeId} {old cs : Array Value} (h : W.heap[g]? = some (.cells old T (0, 0))) (hn : cs.size = old.size) : Put W (W.setCells g 0 cs.toList) g T cs :=
  ⟨by rw [heap_cells g T _ _ _ _ h, setAll_all hn], fun k hk => heap_cells_far g k hk _ _ _, fun w0 h0 hx => ext_cells h0 _ _ _ hx⟩
theorem there_of {W : World} {g : Nat} {T : TypeId} {old : Array Value} (h : W.heap[g]? = some (.cells old T (0, 0))) {n : Nat} (hn : n = old.size) : W.there g 0 n := fun j hj => by
  rw [Nat.zero_add, blk_cell h j, blk_frozen h j]
  exact ⟨by rw [Array.getElem?_eq_getElem (by omega)]; rfl, rfl⟩
section
variable {P : Program} {ops : Array Oper} {rest : List Oper} {o : Oper} {a : Act} {Q : Exit → Act → World → Prop}
theorem store_box {W : World} (hgd : o.guard = none) {ty : TypeId} {p v : Tmp} (ho : o.op = .store ty (.tmp p) (.tmp v)) (hd : o.dst = none) (g : Nat) (cs : Array Value) (hx : a.eval (.tmp p) = .pointer (some ⟨g, 0, none⟩)) (hy : a.eval (.tmp v) = .agg cs)
    {T : TypeId} {old : Array Value} (hb : W.heap[g]? = some (.cells old T (0, 0))) (hn : cs.size = old.size) (hi : (P.info? ty).map (·.size) = some cs.size) (h1 : cs.toList.all (·.oneCell') = true)
    (h : ∀ W2, Put W W2 g T cs → wpList P ops Q rest a W2) : wpList P ops Q (o :: rest) a W := by
  refine wpList_store_mid hgd ty _ _ ho g 0 cs hx hy (there_of hb hn) hi (Array.all_toList.symm.trans h1) ?_
  rw [hd]
  exact h _ (put_cells hb hn)
end
section
variable {P : Program} {ops : Array Oper} {Q : Exit → Act → World → Prop}
def RowR {α : Type} (d : Kd α) (e : TypeId) (base : Nat) (xs : List α) (f : Value → Value) : Value → World → Prop := fun v w => ∃ u, v = f u ∧ d.R e w base (fun _ => True) u xs
theorem stable_rowR {α : Type} (d : Kd α) (e : TypeId) (base : Nat) (xs : List α) (f : Value → Value) : Stable (RowR d e base xs f) := fun _ _ _ ⟨u, h1, h2⟩ x => ⟨u, h1, Kd.R_below h2 x⟩
end
section
variable {P : Program} {ops : Array Oper} {rest : List Oper} {a : Act} {Q : Exit → Act → World → Prop}
theorem make_box {W : World} {oa os : Oper} {p v : Tmp} {T : TypeId} {old cs : Array Value} (hda : oa.dst = some p) (hga : oa.guard = none) (hgs : os.guard = none) (hds : os.dst = none) (ho : os.op = .store T (.tmp p) (.tmp v))
    (hrun : (execOp a.eval oa).run P W = .ok (.value (.pointer (some ⟨W.heap.size, 0, none⟩))) (W.alloc (.cells old T (0, 0)))) (hp : p < a.tmps.size) (hpv : p ≠ v) (hy : a.eval (.tmp v) = .agg cs) (hn : cs.size = old.size) (hi : (P.info? T).map (·.size) = some cs.size) (h1 : cs.toList.all (·.oneCell') = true)
    (h : ∀ g W2, W.heap.size ≤ g → Ext W W2 → W2.heap[g]? = some (.cells cs T (0, 0)) → wpList P ops Q rest (a.put (some p) (.pointer (some ⟨g, 0, none⟩))) W2) : wpList P ops Q (oa :: os :: rest) a W := by
  refine Kd.event_run hga hrun ?_
  rw [hda]
  refine store_box hgs ho hds W.heap.size cs ?_ ?_ (blk_new W _) hn hi h1 (fun W2 hp2 => h _ W2 (Nat.le_refl _) (hp2.ext W (Nat.le_refl _) (Ext.of (below_alloc (Below.refl _ _) _))) hp2.here)
  · simp [Act.eval, Act.put, hp]
  · rw [← hy]
    simp [Act.eval, Act.put, Array.getElem?_setIfInBounds_ne hpv]
end
end Go.Proofs.Ytfpmcplfmmhoiaa.Box
namespace Go.Proofs.Ytfpmcplfmmhoiaa.QModelFits
open Go.RowKit Go.Proofs.YtfpmcplfmmhoiaaW.PrintWords Go.Proofs.YtfpmcplfmmhoiaaW.PrintLast Go.Proofs.YtfpmcplfmmhoiaaW.PrintMore Go.Proofs.Ytfpmcplfmmhoiaa.Mono Go.Proofs.Ytfpmcplfmmhoiaa.Box
set_option linter.unusedVariables false
set_option linter.unusedSimpArgs false
structure S33 where
  f0 : Int
  f1 : Int
  f2 : List Int
def z33 : S33 := ⟨0, 0, []⟩
def k33 : Kd S33 := Kd.iso (Kd.pair (Kd.int .i64) (Kd.pair (Kd.int .i64) (Kd.slice 5 (Kd.int .u8)))) (fun x : S33 => (x.f0, x.f1, x.f2))
theorem k33_open {w : World} {x : S33} {cs : List Value} (h : k33.K w x cs) : ∃ A1 c1, cs = [.int .i64 x.f0, .int .i64 x.f1, .slice A1 x.f2.length c1] ∧ x.f2.length ≤ c1 ∧ Kd.C (Kd.int .u8) w A1 x.f2.length x.f2 := by
  obtain ⟨_, _, rfl, rfl, _, _, rfl, rfl, ⟨A1, c1, rfl, hc1, hr1⟩⟩ := h
  exact ⟨A1, c1, rfl, hc1, hr1⟩
abbrev ME : Value → Option (DataW Value × List MemPlace) := fun v => some (.held v, [])
abbrev MM (w : World) (gm n : Nat) (D : DataW Value) : Prop := w.ownsMap Try.prog 3 ME gm n D
abbrev MC (gm : Nat) (sn sz : Int) : Obj := .cells #[.map (some gm), .int .i64 sn, .int .i64 sz] 49 (0, 0)
abbrev keyI (k : Int) : Lit := .int .i64 k
abbrev nil_ : Value := .slice none 0 0
abbrev BR (w : World) (B : Nat) (v : Value) (xs : List Int) : Prop := Kd.R (Kd.int .u8) 5 w B (fun _ => True) v xs
theorem mm_move {w w1 : World} {gm n : Nat} {D : DataW Value} (h : MM w gm n D) (hm : w1.heap[gm]? = w.heap[gm]?) : MM w1 gm n D := by
  obtain ⟨es, c, hb, F, hs, hD⟩ := h
  exact ⟨es, c, hm.trans hb, F, hs, hD⟩
theorem zeroB (w : World) : (zeroValue 24).run Try.prog w = .ok nil_ w := by kernel_rfl
theorem eql_map (w : World) (m : Option Nat) : (binOp .eql 47 (.map m) (.map none)).run Try.prog w = .ok (.bool m.isNone) w := run_eql_map_nil w _ _ _ m Try.underlying47
theorem key_ok {s : Int} (h : (Lit.int .i64 s).wf = true) : keyOf Try.prog 3 (.int .i64 s) = some (keyI s) := Maps.keyOf_int_mk Try.underlying3 h
theorem keyI_lit (s : Int) : Go.WideAt.IsKeyLit (keyI s) := by
  unfold keyI
  trivial
theorem keyI_ne {s t : Int} (h : s ≠ t) : keyI s ≠ keyI t := fun e => h (by injection e)
theorem lookup_held {w : World} {ops : Array Oper} {rest : List Oper} {o : Oper} {a : Act} {Q : Exit → Act → World → Prop} (hg : o.guard = none) (m x : Operand) (hop : o.op = Op.lookup 47 m x false) (b n : Nat) (D : DataW Value)
    (hm : a.eval m = .map (some b)) (hown : MM w b n D) (s : Int) (hx : a.eval x = .int .i64 s) (hkey : keyOf Try.prog 3 (.int .i64 s) = some (keyI s)) (v : Value) (hv : D.atKey (keyI s) (.held nil_) = .held v)
    (hK : wpList Try.prog ops Q rest (a.put o.dst v) w) : wpList Try.prog ops Q (o :: rest) a w := by
  refine wpList_plain hg fun K' hK' => ?_
  obtain ⟨u, ps, hrun, hu⟩ := hown.lookup (Maps.int_keyed Try.underlying3) Try.underlying47 (zeroB w) (rfl : ME nil_ = some (.held nil_, [])) hkey
  have h1 : u = v := by
    have h2 := congrArg Prod.fst (Option.some.inj hu)
    rw [hv] at h2
    injection h2
  subst h1
  unfold Oper.wp
  simp [execOp, hop, hm, hx, hrun, Result.andThen]
  exact hK' _ _ hK
def Sec (w : World) (B : Nat) (sz : Int) (D : DataW Value) (s : Int) (ys : List Int) : Prop := ∃ v, D.atKey (keyI s) (.held nil_) = .held v ∧ ((v = nil_ ∧ ys = List.replicate sz.toNat 0) ∨ (BR w B v ys ∧ ys.length = sz.toNat))
set_option maxHeartbeats 1000000 in
theorem mod_may (g gm : Nat) (sn sz s : Int) (w : World) (h : w.heap[g]? = some (MC gm sn sz)) : Calls Try.prog 15 #[.pointer (some ⟨g, 0, none⟩), .int .i64 s] w fun e w' => e = .returned (.int .i64 (if 0 ≤ s ∧ s < sn then 0 else 2)) ∧ Below w.heap.size w w' := by
  have z_ : w.cell? ⟨g, 0, none⟩ = some (.map (some gm)) := (blk_cell h 0).trans rfl
  have y_ : w.cell? ⟨g, 1, none⟩ = some (.int .i64 sn) := (blk_cell h 1).trans rfl
  have q_ := eql_map
  clear h
  by_cases h1 : s < 0
  · have d1_ : decide (s < 0) = true := decide_eq_true h1
    rw [if_neg (by omega)]
    go_enter Try.func15, Try.ntmps15
    go_wp2
    go_ret
    exact ⟨rfl, Below.refl _ _⟩
  · have d1_ : decide (s < 0) = false := decide_eq_false h1
    by_cases h2 : s ≥ sn
    · have d2_ : decide (s ≥ sn) = true := decide_eq_true h2
      rw [if_neg (by omega)]
      go_enter Try.func15, Try.ntmps15
      go_wp2
      go_ret
      exact ⟨rfl, Below.refl _ _⟩
    · have d2_ : decide (s ≥ sn) = false := decide_eq_false h2
      rw [if_pos (by omega)]
      go_enter Try.func15, Try.ntmps15
      go_wp2
      go_ret
      exact ⟨rfl, Below.refl _ _⟩
set_option maxHeartbeats 1000000 in
theorem mod_New (sn sz : Int) (w : World) (h1 : 1 ≤ sn) (h2 : sn ≤ 65536) (h3 : 1 ≤ sz) (h4 : sz ≤ 8192) : Calls Try.prog 7 #[.int .i64 sn, .int .i64 sz] w fun e w' => ∃ g gm, e = .returned (.tuple #[.pointer (some ⟨g, 0, none⟩), .int .i64 0]) ∧ w.heap.size ≤ g ∧ w.heap.size ≤ gm ∧ gm ≠ g ∧ w'.heap[g]? = some (MC gm sn sz) ∧ MM w' gm 0 (.map []) ∧ Below w.heap.size w w' := by
  have m_ := fun w => run_makeMap (P := Try.prog) 47 w
  have d1_ : decide (sn < 1) = false := decide_eq_false (by omega)
  have d2_ : decide (sn > 65536) = false := decide_eq_false (by omega)
  have d3_ : decide (sz < 1) = false := decide_eq_false (by omega)
  have d4_ : decide (sz > 8192) = false := decide_eq_false (by omega)
  clear h1 h2 h3 h4
  go_enter Try.func7, Try.ntmps7
  go_wp2_with ((with_reducible refine gate_dst (N := 24) rfl ?_); refine box_event ?hg (N := 24) ?hd (cs := #[.map (some w.heap.size), .int .i64 sn, .int .i64 sz]) (t := 49) ?hr ?_; (case hd => rfl); (case hg => rfl); (case hr => first | (go_simp; done) | (go_simp; rfl)); intro g hg w1 hbox hb; have HG := Aside0.mk hg; have HX := Aside0.mk hbox; have HB := Aside0.mk hb; clear hg hbox hb)
  refine bodyPost_ret (results_list (rs := [.tmp 4, .tmp 5]) rfl (by simp) (.tmp (.tmp .nil))) rfl ?_
  have hb := HB.out
  have hg := HG.out
  have hs : (w.alloc (.map #[] 0)).heap.size = w.heap.size + 1 := Array.size_push ..
  rw [hs] at hg hb
  refine ⟨g, w.heap.size, rfl, by omega, Nat.le_refl _, by omega, HX.out, ?_, ?_⟩
  · exact mm_move (World.ownsMap_made w Try.prog 3 ME) (hb.block _ (by omega))
  · exact Below.trans (below_alloc (Below.refl _ _) _) (hb.mono (by omega))
set_option maxHeartbeats 1000000 in
theorem mod_Read_bad (g gm : Nat) (sn sz s : Int) (w : World) (h : w.heap[g]? = some (MC gm sn sz)) (hs : ¬ (0 ≤ s ∧ s < sn)) : Calls Try.prog 10 #[.pointer (some ⟨g, 0, none⟩), .int .i64 s] w fun e w' => e = .returned (.tuple #[nil_, .int .i64 2]) ∧ Below w.heap.size w w' := by
  have H := Aside0.mk h
  have HS := Aside0.mk (if_neg hs : (if 0 ≤ s ∧ s < sn then (0 : Int) else 2) = 2)
  clear h hs
  go_enter Try.func10, Try.ntmps10
  go_wp2_with (go_at_call 15; (with_reducible refine (mod_may g gm sn sz s _ H.out).mono ?_); rw [HS.out]; rintro e w1 ⟨rfl, hb⟩; have HB := Aside0.mk hb; clear hb)
  refine bodyPost_ret (results_list (rs := [.tmp 4, .tmp 5]) rfl (by simp) (.tmp (.tmp .nil))) rfl ?_
  exact ⟨rfl, HB.out⟩
set_option maxHeartbeats 1000000 in
theorem mod_Read (g gm n B : Nat) (sn sz s : Int) (D : DataW Value) (ys : List Int) (w : World) (h : w.heap[g]? = some (MC gm sn sz)) (hm : MM w gm n D) (hs : 0 ≤ s ∧ s < sn) (hsn : sn ≤ 65536) (hz : 1 ≤ sz ∧ sz ≤ 8192) (hS : Sec w B sz D s ys) :
    Calls Try.prog 10 #[.pointer (some ⟨g, 0, none⟩), .int .i64 s] w fun e w' => ∃ v0_ : Value, e = .returned (.tuple #[v0_, .int .i64 0]) ∧ BR w' w.heap.size v0_ ys ∧ Below w.heap.size w w' := by
  obtain ⟨vs, hat, hv⟩ := hS
  obtain ⟨As, ms, cs, xs, rfl, hcs, hCs, hys⟩ : ∃ (As : Option Addr) (ms cs : Nat) (xs : List Int), vs = .slice As ms cs ∧ ms = xs.length ∧ Kd.C (Kd.int .u8) w As ms xs ∧ ys = xs.take (min ms sz.toNat) ++ (List.replicate sz.toNat (0 : Int)).drop (min ms sz.toNat) := by
    rcases hv with ⟨rfl, rfl⟩ | ⟨hR, hl⟩
    · exact ⟨none, 0, 0, [], rfl, rfl, (Kd.R_reads' (Kd.R_nil (Kd.int .u8) 5 w 0 (fun _ => True))).2.2, by simp⟩
    · obtain ⟨A, c, rfl, hc, hC⟩ := Kd.R_reads hR
      refine ⟨A, ys.length, c, ys, rfl, rfl, hC, ?_⟩
      rw [hl, Nat.min_self, ← hl, List.take_length, List.drop_of_length_le (by simp), List.append_nil]
  have H := Aside0.mk h
  have HM := Aside0.mk hm
  have HAT := Aside0.mk hat
  have HC := Aside0.mk hCs
  have HY := Aside0.mk hys
  have HS := Aside0.mk (if_pos hs : (if 0 ≤ s ∧ s < sn then (0 : Int) else 2) = 0)
  have HK := Aside0.mk (key_ok (s := s) (by
    have h1 : IntKind.i64.min = -9223372036854775808 := by decide
    have h2 : IntKind.i64.max = 9223372036854775807 := by decide
    simp only [Lit.wf, h1, h2, Bool.and_eq_true, decide_eq_true_eq]
    omega))
  have HZ := Aside0.mk hz
  clear h hm hat hCs hys hs hcs hz hv
  go_enter Try.func10, Try.ntmps10
  go_wp2_with (first | (go_at_call 15; (with_reducible refine (mod_may g gm sn sz s _ H.out).mono ?_); rw [HS.out]; rintro e w1 ⟨rfl, hb⟩; have HB := Aside0.mk hb; have z_ : w1.cell? ⟨g, 2, none⟩ = some (.int .i64 sz) := (blk_cell (blk_below H.out hb) 2).trans rfl; clear hb) | ((with_reducible refine gate_dst (N := 18) rfl ?_); refine Kd.R_make (Kd.int .u8) _ 5 rfl (N := 18) rfl 24 _ _ rfl sz rfl rfl Try.underlying24 (.int .u8 0) 1 info5 rfl (by decide) (by omega) 0 (ok := fun _ => True) (okp := fun _ => True) rfl (fun _ hk => hk) trivial (by have := HZ.out; omega) (by have := HZ.out; omega) (Below.refl _ _) (Nat.le_refl _) ?_; intro v1 w2 ho hb hg_ hnew_; have HO := Aside0.mk (Kd.R_lower ho HB.out.size); have HB2 := Aside0.mk (below_step HB.out hb); have y_ : w2.cell? ⟨g, 0, none⟩ = some (.map (some gm)) := (blk_cell (blk_below H.out HB2.out) 0).trans rfl; clear hg_ hnew_ hb ho z_ HB) | (at_lookup; refine lookup_held rfl _ _ rfl gm n D rfl (mm_move HM.out (HB2.out.block _ (World.ownsMap.lt HM.out))) s rfl HK.out _ HAT.out ?_) | ((with_reducible refine gate_builtin (b := .copy) (xs := #[.tmp 19, .tmp 25]) rfl ?_); refine Kd.R_copy (0 : Int) w.heap.size rfl (.tmp 19) (.tmp 25) 24 24 5 rfl Try.underlying24 (by kernel_rfl) v1 (List.replicate sz.toNat 0) xs As ms cs (fun _ => True) rfl rfl HO.out (Kd.C_below HC.out HB2.out) HB2.out HB2.out.size ?_; intro w3 hr hb hg; rw [List.length_replicate, ← HY.out] at hr; have HR := Aside0.mk hr; have HB3 := Aside0.mk hb; clear hr hb hg HO HB2))
  refine bodyPost_ret (results_list (rs := [.tmp 4, .tmp 5]) rfl (by simp) (.tmp (.tmp .nil))) rfl ?_
  exact ⟨_, rfl, HR.out, HB3.out⟩
end Go.Proofs.Ytfpmcplfmmhoiaa.QModelFits
namespace Go.Proofs.Ytfpmcplfmmhoiaa.QModelFits
open Go.RowKit Go.Proofs.YtfpmcplfmmhoiaaW.PrintWords Go.Proofs.YtfpmcplfmmhoiaaW.PrintLast Go.Proofs.YtfpmcplfmmhoiaaW.PrintMore Go.Proofs.Ytfpmcplfmmhoiaa.Mono Go.Proofs.Ytfpmcplfmmhoiaa.Box
set_option linter.unusedVariables false
set_option linter.unusedSimpArgs false
structure Tou (S : Nat → Prop) (w w' : World) : Prop where
  os : w'.os = w.os
  tape : w'.tape = w.tape
  output : w'.output = w.output
  size : w.heap.size ≤ w'.heap.size
  block : ∀ k, k < w.heap.size → ¬ S k → w'.heap[k]? = w.heap[k]?
section
variable {S S2 : Nat → Prop} {w w1 w2 : World}
theorem Tou.of_below (h : Below w.heap.size w w1) : Tou S w w1 := ⟨h.os, h.tape, h.output, h.size, fun k hk _ => h.block k hk⟩
theorem Tou.step (h : Tou S w w1) (h2 : Below w1.heap.size w1 w2) : Tou S w w2 := ⟨h2.os.trans h.os, h2.tape.trans h.tape, h2.output.trans h.output, Nat.le_trans h.size h2.size, fun k hk hn => (h2.block k (Nat.lt_of_lt_of_le hk h.size)).trans (h.block k hk hn)⟩
theorem Tou.trans (h : Tou S w w1) (h2 : Tou S2 w1 w2) (hs : ∀ k, S2 k → S k ∨ w.heap.size ≤ k) : Tou S w w2 := ⟨h2.os.trans h.os, h2.tape.trans h.tape, h2.output.trans h.output, Nat.le_trans h.size h2.size, fun k hk hn => (h2.block k (Nat.lt_of_lt_of_le hk h.size) (fun z => (hs k z).elim hn (fun z => by omega))).trans (h.block k hk hn)⟩
theorem Tou.grown (h : Tou S w w1) {row : Option Nat} (hg : w1.grownBy w2 row) (hr : ∀ k, row = some k → S k ∨ w.heap.size ≤ k) : Tou S w w2 := h.trans (S2 := fun k => row = some k) ⟨hg.os, hg.tape, hg.output, hg.size, fun k hk hn => hg.block k hk (fun e => hn e.symm)⟩ hr
theorem Tou.below {B : Nat} {w0 : World} (h : Tou S w w1) (h0 : Below B w0 w) (hB : B ≤ w.heap.size) (hs : ∀ k, S k → B ≤ k) : Below B w0 w1 := h0.trans ⟨h.os, h.tape, h.output, h.size, fun k hk => h.block k (Nat.lt_of_lt_of_le hk hB) (fun z => by have := hs k z; omega)⟩
end
theorem below_trans_ {w w1 w2 : World} (h : Below w.heap.size w w1) (h2 : Below w1.heap.size w1 w2) : Below w.heap.size w w2 := below_step h h2
theorem clone_f {ys : List Int} (h : ys.length < 140737488355328) : slices_Clone_byte_byte.f ys = some ys := by
  unfold slices_Clone_byte_byte.f
  rw [if_pos h]
theorem br_cells {w : World} {B : Nat} {v : Value} {xs : List Int} (h : BR w B v xs) {k : Nat} (hk : v.ownBlock = some k) : ∃ cells, w.heap[k]? = some (.cells cells 5 (0, 0)) := by
  obtain ⟨h0, inner, ho, hr⟩ := h
  exact own_typed ho k hk
theorem br_lt {w : World} {B : Nat} {v : Value} {xs : List Int} (h : BR w B v xs) {k : Nat} (hk : v.ownBlock = some k) : k < w.heap.size := by
  obtain ⟨h0, inner, ho, hr⟩ := h
  exact own_lt ho k hk
theorem br_move {w w1 : World} {B : Nat} {v : Value} {xs : List Int} (h : BR w B v xs) (hm : ∀ k, v.ownBlock = some k → w1.heap[k]? = w.heap[k]?) : BR w1 B v xs := by
  have h1 := Kd.R_tight (d := Kd.int .u8) rfl h
  exact Kd.R_mono (Kd.R_move h1 (fun k hk => hm k hk.symm)) (fun _ _ => trivial)
theorem br_ne_map {w : World} {B gm n : Nat} {D : DataW Value} {v : Value} {xs : List Int} (h : BR w B v xs) (hm : MM w gm n D) : v.ownBlock ≠ some gm := fun e => by
  obtain ⟨c, hc⟩ := br_cells h e
  obtain ⟨es, cl, hb, _⟩ := hm
  rw [hb] at hc
  cases hc
theorem br_map {w w1 : World} {B gm n : Nat} {D : DataW Value} {v : Value} {xs : List Int} (h : BR w B v xs) (hm : MM w gm n D) (hg : w.grownBy w1 (some gm)) : BR w1 B v xs :=
  br_move h (fun k hk => hg.block k (br_lt h hk) (fun e => br_ne_map h hm (hk.trans e)))
theorem br_tou {w w1 : World} {B gm n : Nat} {D : DataW Value} {v : Value} {xs : List Int} (h : BR w B v xs) (hm : MM w gm n D) (ht : Tou (fun k => k = gm) w w1) : BR w1 B v xs :=
  br_move h (fun k hk => ht.block k (br_lt h hk) (fun e => br_ne_map h hm (e ▸ hk)))
set_option maxRecDepth 100000 in
set_option maxHeartbeats 1000000 in
theorem mod_Write (g gm n : Nat) (A : Option Addr) (c : Nat) (ys : List Int) (sn s : Int) (D : DataW Value) (w : World) (h : w.heap[g]? = some (MC gm sn (ys.length : Int))) (hm : MM w gm n D) (hn : n < maxLen) (hs : 0 ≤ s ∧ s < sn) (hsn : sn ≤ 65536) (hC : Kd.C (Kd.int .u8) w A ys.length ys) (hc : ys.length ≤ c) (hl : ys.length ≤ 8192) :
    Calls Try.prog 8 #[.pointer (some ⟨g, 0, none⟩), .int .i64 s, .slice A ys.length c] w fun e w' => e = .returned (.int .i64 0) ∧ ∃ v, MM w' gm (n + 1) (D.put (keyI s) (.held v)) ∧ BR w' w.heap.size v ys ∧ Tou (fun k => k = gm) w w' := by
  have H := Aside0.mk h
  have HM := Aside0.mk hm
  have HN := Aside0.mk hn
  have HC := Aside0.mk hC
  have HYC := Aside0.mk hc
  have HLN : Aside0 (ys.length < 140737488355328) := ⟨by omega⟩
  have HS := Aside0.mk (if_pos hs : (if 0 ≤ s ∧ s < sn then (0 : Int) else 2) = 0)
  have HK := Aside0.mk (key_ok (s := s) (by
    have h1 : IntKind.i64.min = -9223372036854775808 := by decide
    have h2 : IntKind.i64.max = 9223372036854775807 := by decide
    simp only [Lit.wf, h1, h2, Bool.and_eq_true, decide_eq_true_eq]
    omega))
  clear h hm hn hC hc hs
  go_enter Try.func8, Try.ntmps8
  go_upto_region 6 with (go_at_call 15; (with_reducible refine (mod_may g gm sn (ys.length : Int) s _ H.out).mono ?_); rw [HS.out]; rintro e w1 ⟨rfl, hb⟩; have HB := Aside0.mk hb; have z_ : w1.cell? ⟨g, 2, none⟩ = some (.int .i64 (ys.length : Int)) := (blk_cell (blk_below H.out hb) 2).trans rfl; clear hb)
  (try simp only [Act.put, List.setIfInBounds_toArray, List.set_cons_zero, List.set_cons_succ])
  have HG := Aside0.mk (blk_below H.out HB.out)
  refine Mono.mono_region_tail (fun j_ => ([(Is (.pointer (some ⟨g, 0, none⟩))), (Is (.pointer (some ⟨g, 0, none⟩))), (Is (.pointer (some ⟨g, 0, none⟩))), (Is (.map (some gm))), (Is (.int .i64 s)), (Is (.slice A ys.length c)), (RowR (Kd.int .u8) 5 w1.heap.size ys (fun u => u))] : List (Value → World → Prop)).getD j_ (fun _ _ => True)) 7 [21, 22, 23, 24, 25, 26, 27] _ (by kernel_rfl) rfl (Nat.le_of_ble_eq_true rfl) (by kernel_rfl) (by kernel_rfl) (by kernel_rfl) ?_ ?_ ?_
  · intro i
    match i with
    | 0 => exact stable_is _
    | 1 => exact stable_is _
    | 2 => exact stable_is _
    | 3 => exact stable_is _
    | 4 => exact stable_is _
    | 5 => exact stable_is _
    | 6 => exact stable_rowR _ _ _ _ _
    | _ + 7 => exact fun _ _ _ _ _ => trivial
  · show ∀ i ∈ [0, 1, 2, 3, 4, 5, 6], _
    refine msteps_cons ?_ ?_
    · intro a w' hx hfr hk
      have e0 : a.tmps[0]? = some (.pointer (some ⟨g, 0, none⟩)) := (hfr.off 0 rfl).trans rfl
      clear hk hfr
      refine ⟨_, rfl, fun K hK => ?_⟩
      refine value_ (w1 := w') (v := .pointer (some ⟨g, 0, none⟩)) (by rfl) rfl ?_ (hK _ _ (show _ = _ from rfl) (Ext.refl _))
      go_simp
      (try simp only [i64_w])
      try rfl
    refine msteps_cons ?_ ?_
    · intro a w' hx hfr hk
      obtain ⟨v_, e21, h_⟩ := hk 0 21 (by kernel_rfl) rfl
      replace h_ : v_ = .pointer (some ⟨g, 0, none⟩) := h_
      subst h_
      clear hk hfr
      refine ⟨_, rfl, fun K hK => ?_⟩
      refine value_ (w1 := w') (v := .pointer (some ⟨g, 0, none⟩)) (by rfl) rfl ?_ (hK _ _ (show _ = _ from rfl) (Ext.refl _))
      go_simp
      (try simp only [i64_w])
      try rfl
    refine msteps_cons ?_ ?_
    · intro a w' hx hfr hk
      obtain ⟨v_, e22, h_⟩ := hk 1 22 (by kernel_rfl) rfl
      replace h_ : v_ = .pointer (some ⟨g, 0, none⟩) := h_
      subst h_
      clear hk hfr
      refine ⟨_, rfl, fun K hK => ?_⟩
      refine value_ (w1 := w') (v := .pointer (some ⟨g, 0, none⟩)) (by rfl) rfl ?_ (hK _ _ (show _ = _ from rfl) (Ext.refl _))
      go_simp
      (try simp only [i64_w])
      try rfl
    refine msteps_cons ?_ ?_
    · intro a w' hx hfr hk
      obtain ⟨v_, e23, h_⟩ := hk 2 23 (by kernel_rfl) rfl
      replace h_ : v_ = .pointer (some ⟨g, 0, none⟩) := h_
      subst h_
      clear hk hfr
      refine ⟨_, rfl, fun K hK => ?_⟩
      have hc_ : w'.cell? ⟨g, 0, none⟩ = some (.map (some gm)) := (blk_cell (blk_below HG.out (Ext.below hx)) 0).trans rfl
      refine value_ (w1 := w') (v := .map (some gm)) (by rfl) rfl ?_ (hK _ _ (show _ = _ from rfl) (Ext.refl _))
      go_simp
      (try simp only [i64_w])
      try rfl
    refine msteps_cons ?_ ?_
    · intro a w' hx hfr hk
      have e1 : a.tmps[1]? = some (.int .i64 s) := (hfr.off 1 rfl).trans rfl
      clear hk hfr
      refine ⟨_, rfl, fun K hK => ?_⟩
      refine value_ (w1 := w') (v := .int .i64 s) (by rfl) rfl ?_ (hK _ _ (show _ = _ from rfl) (Ext.refl _))
      go_simp
      (try simp only [i64_w])
      try rfl
    refine msteps_cons ?_ ?_
    · intro a w' hx hfr hk
      have e2 : a.tmps[2]? = some (.slice A ys.length c) := (hfr.off 2 rfl).trans rfl
      clear hk hfr
      refine ⟨_, rfl, fun K hK => ?_⟩
      refine value_ (w1 := w') (v := .slice A ys.length c) (by rfl) rfl ?_ (hK _ _ (show _ = _ from rfl) (Ext.refl _))
      go_simp
      (try simp only [i64_w])
      try rfl
    refine msteps_cons ?_ ?_
    · intro a w' hx hfr hk
      obtain ⟨v_, e26, h_⟩ := hk 5 26 (by kernel_rfl) rfl
      replace h_ : v_ = .slice A ys.length c := h_
      subst h_
      clear hk hfr
      refine ⟨_, rfl, fun K hK => ?_⟩
      refine goes_ Try.func16 (by kernel_rfl) rfl #[.slice A ys.length c] (by rfl) rfl rfl (by simp only [List.map_toArray, List.map_cons, List.map_nil, Act.eval, Array.getD_eq_getD_getElem?, Option.getD_some, e26]; first | done | rfl) ?_
      (with_reducible refine (slices_Clone_byte_byte.calls A c ys ys w' (Kd.C_below HC.out (below_trans_ HB.out hx.below)) HYC.out (clone_f HLN.out)).mono ?_)
      rintro e w1 ⟨v_, rfl, hR_, hb_⟩
      exact ⟨_, rfl, hK _ _ ⟨v_, rfl, Kd.R_lower hR_ hx.size⟩ hb_⟩
    exact msteps_nil
  · intro val wf hx hF
    have e21 : val 21 = .pointer (some ⟨g, 0, none⟩) := hF 0 21 (by decide) rfl
    have e22 : val 22 = .pointer (some ⟨g, 0, none⟩) := hF 1 22 (by decide) rfl
    have e23 : val 23 = .pointer (some ⟨g, 0, none⟩) := hF 2 23 (by decide) rfl
    have e24 : val 24 = .map (some gm) := hF 3 24 (by decide) rfl
    have e25 : val 25 = .int .i64 s := hF 4 25 (by decide) rfl
    have e26 : val 26 = .slice A ys.length c := hF 5 26 (by decide) rfl
    obtain ⟨v27, e27, hr27⟩ := hF 6 27 (by decide) rfl
    clear hF
    simp only [putT, List.foldl_cons, List.foldl_nil, Act.put, List.setIfInBounds_toArray, List.set_cons_zero, List.set_cons_succ, e27, e21, e22, e23, e24, e25, e26]
    clear e27 e21 e22 e23 e24 e25 e26
    have hmp := mm_move HM.out ((hx.block _ (Nat.lt_of_lt_of_le (World.ownsMap.lt HM.out) HB.out.size)).trans (HB.out.block _ (World.ownsMap.lt HM.out)))
    refine wpList_mapUpdate_own wf rfl (.tmp 24) (.tmp 25) (.tmp 27) 47 rfl 3 24 (Maps.int_keyed Try.underlying3) Try.underlying47 ME gm n D rfl hmp HN.out (.int .i64 s) v27 (keyI s) rfl rfl HK.out _ [] rfl ?_
    intro w2 hm2 hg2
    have HM2 := Aside0.mk hm2
    have HR2 := Aside0.mk (Kd.R_lower (br_map hr27 hmp hg2) HB.out.size)
    have HT := Aside0.mk (Tou.grown (S := fun k => k = gm) (Tou.of_below (below_step HB.out hx.below)) hg2 (fun k hk => by cases hk; exact .inl rfl))
    clear hm2 hg2 hmp hr27 z_
    go_wp2
    go_ret
    exact ⟨rfl, v27, HM2.out, HR2.out, HT.out⟩
set_option maxRecDepth 100000 in
set_option maxHeartbeats 1000000 in
theorem mod_Trim (g gm n : Nat) (sn sz s : Int) (D : DataW Value) (w : World) (h : w.heap[g]? = some (MC gm sn sz)) (hm : MM w gm n D) (hs : 0 ≤ s ∧ s < sn) (hsn : sn ≤ 65536) :
    Calls Try.prog 9 #[.pointer (some ⟨g, 0, none⟩), .int .i64 s] w fun e w' => e = .returned (.int .i64 0) ∧ MM w' gm n (D.del (keyI s)) ∧ Tou (fun k => k = gm) w w' := by
  have H := Aside0.mk h
  have HM := Aside0.mk hm
  have HS := Aside0.mk (if_pos hs : (if 0 ≤ s ∧ s < sn then (0 : Int) else 2) = 0)
  have HK := Aside0.mk (key_ok (s := s) (by
    have h1 : IntKind.i64.min = -9223372036854775808 := by decide
    have h2 : IntKind.i64.max = 9223372036854775807 := by decide
    simp only [Lit.wf, h1, h2, Bool.and_eq_true, decide_eq_true_eq]
    omega))
  clear h hm hs
  go_enter Try.func9, Try.ntmps9
  go_wp2_with (first | (go_at_call 15; (with_reducible refine (mod_may g gm sn sz s _ H.out).mono ?_); rw [HS.out]; rintro e w1 ⟨rfl, hb⟩; have HB := Aside0.mk hb; have z_ : w1.cell? ⟨g, 0, none⟩ = some (.map (some gm)) := (blk_cell (blk_below H.out hb) 0).trans rfl; clear hb) | ((with_reducible refine gate_builtin (b := .delete) (xs := #[.tmp 14, .tmp 15]) rfl ?_); refine wpList_delete_own _ rfl (.tmp 14) (.tmp 15) 47 3 rfl 24 (Maps.int_keyed Try.underlying3) Try.underlying47 ME gm n D rfl (mm_move HM.out (HB.out.block _ (World.ownsMap.lt HM.out))) (.int .i64 s) (keyI s) rfl HK.out ?_; intro w2 hm2 hg2; have HM2 := Aside0.mk hm2; have HT := Aside0.mk (Tou.grown (S := fun k => k = gm) (Tou.of_below HB.out) hg2.grown (fun k hk => by cases hk; exact .inl rfl)); clear hm2 hg2 z_))
  go_ret
  exact ⟨rfl, HM2.out, HT.out⟩
theorem mod_bad_Trim (g gm : Nat) (sn sz s : Int) (w : World) (h : w.heap[g]? = some (MC gm sn sz)) (hs : ¬ (0 ≤ s ∧ s < sn)) : Calls Try.prog 9 #[.pointer (some ⟨g, 0, none⟩), .int .i64 s] w fun e w' => e = .returned (.int .i64 2) ∧ Below w.heap.size w w' := by
  have H := Aside0.mk h
  have HS := Aside0.mk (if_neg hs : (if 0 ≤ s ∧ s < sn then (0 : Int) else 2) = 2)
  clear h hs
  go_enter Try.func9, Try.ntmps9
  go_wp2_with (go_at_call 15; (with_reducible refine (mod_may g gm sn sz s _ H.out).mono ?_); rw [HS.out]; rintro e w1 ⟨rfl, hb⟩; have HB := Aside0.mk hb; clear hb)
  go_ret
  exact ⟨rfl, HB.out⟩
theorem mod_bad_Write (g gm : Nat) (sn sz s : Int) (A : Option Addr) (m c : Nat) (w : World) (h : w.heap[g]? = some (MC gm sn sz)) (hs : ¬ (0 ≤ s ∧ s < sn ∧ (m : Int) = sz)) : Calls Try.prog 8 #[.pointer (some ⟨g, 0, none⟩), .int .i64 s, .slice A m c] w fun e w' => e = .returned (.int .i64 2) ∧ Below w.heap.size w w' := by
  have H := Aside0.mk h
  clear h
  by_cases h1 : 0 ≤ s ∧ s < sn
  · have HS := Aside0.mk (if_pos h1 : (if 0 ≤ s ∧ s < sn then (0 : Int) else 2) = 0)
    have d_ : ¬ ((m : Int) = sz) := fun e => hs ⟨h1.1, h1.2, e⟩
    clear hs h1
    go_enter Try.func8, Try.ntmps8
    go_wp2_with (go_at_call 15; (with_reducible refine (mod_may g gm sn sz s _ H.out).mono ?_); rw [HS.out]; rintro e w1 ⟨rfl, hb⟩; have HB := Aside0.mk hb; have z_ : w1.cell? ⟨g, 2, none⟩ = some (.int .i64 sz) := (blk_cell (blk_below H.out hb) 2).trans rfl; clear hb)
    go_ret
    exact ⟨rfl, HB.out⟩
  · have HS := Aside0.mk (if_neg h1 : (if 0 ≤ s ∧ s < sn then (0 : Int) else 2) = 2)
    clear hs h1
    go_enter Try.func8, Try.ntmps8
    go_wp2_with (go_at_call 15; (with_reducible refine (mod_may g gm sn sz s _ H.out).mono ?_); rw [HS.out]; rintro e w1 ⟨rfl, hb⟩; have HB := Aside0.mk hb; clear hb)
    go_ret
    exact ⟨rfl, HB.out⟩
structure Mst (w0 w : World) (g gm : Nat) (sn sz : Int) (n : Nat) (D : DataW Value) (G : Int → List Int) : Prop where
  rc : w.heap[g]? = some (MC gm sn sz)
  mp : MM w gm n D
  sec : ∀ s, Sec w w0.heap.size sz D s (G s)
  bel : Below w0.heap.size w0 w
  hg : w0.heap.size ≤ g
  hm : w0.heap.size ≤ gm
theorem Sec.keep {w w' : World} {B : Nat} {sz : Int} {D : DataW Value} {s : Int} {ys : List Int} (h : Sec w B sz D s ys) (hm : ∀ v, BR w B v ys → BR w' B v ys) : Sec w' B sz D s ys := by
  obtain ⟨v, h1, h2⟩ := h
  exact ⟨v, h1, h2.imp (fun h => h) (fun h => ⟨hm v h.1, h.2⟩)⟩
theorem Sec.put {w : World} {B : Nat} {sz : Int} {D : DataW Value} {ys : List Int} {v : Value} (s : Int) (hD : Maps.IsMap D) (hv : BR w B v ys) (hl : ys.length = sz.toNat) : Sec w B sz (D.put (keyI s) (.held v)) s ys :=
  ⟨v, Maps.atKey_put_same hD (keyI_lit s) _ _, .inr ⟨hv, hl⟩⟩
theorem Sec.put_other {w : World} {B : Nat} {sz : Int} {D : DataW Value} {ys : List Int} {s t : Int} (hne : t ≠ s) (d : DataW Value) (h : Sec w B sz D t ys) : Sec w B sz (D.put (keyI s) d) t ys := by
  obtain ⟨v, h1, h2⟩ := h
  exact ⟨v, (Maps.atKey_put_other (keyI_ne hne) _ _).trans h1, h2⟩
theorem Sec.del {w : World} {B : Nat} {sz : Int} {D : DataW Value} (s : Int) : Sec w B sz (D.del (keyI s)) s (List.replicate sz.toNat 0) :=
  ⟨nil_, Maps.atKey_del_same _, .inl ⟨rfl, rfl⟩⟩
theorem Sec.del_other {w : World} {B : Nat} {sz : Int} {D : DataW Value} {ys : List Int} {s t : Int} (hne : t ≠ s) (h : Sec w B sz D t ys) : Sec w B sz (D.del (keyI s)) t ys := by
  obtain ⟨v, h1, h2⟩ := h
  exact ⟨v, (Maps.atKey_del_other (keyI_ne hne) _).trans h1, h2⟩
def upd (G : Int → List Int) (s : Int) (ys : List Int) : Int → List Int := fun t => if t = s then ys else G t
def nul (sz : Int) : List Int := List.replicate sz.toNat 0
section
variable {w0 w w' : World} {g gm n : Nat} {sn sz : Int} {D : DataW Value} {G : Int → List Int}
theorem Mst.g_ne (h : Mst w0 w g gm sn sz n D G) : g ≠ gm := fun e => by
  obtain ⟨es, cl, hb, _⟩ := h.mp
  have := h.rc
  rw [e, hb] at this
  cases this
theorem Mst.start (hB : Below w0.heap.size w0 w) (hg : w.heap.size ≤ g) (hgm : w.heap.size ≤ gm) (hc : w'.heap[g]? = some (MC gm sn sz)) (hm : MM w' gm 0 (.map [])) (hb : Below w.heap.size w w') (hG : G = fun _ => nul sz) : Mst w0 w' g gm sn sz 0 (.map []) G :=
  hG ▸ ⟨hc, hm, fun s => ⟨nil_, rfl, .inl ⟨rfl, rfl⟩⟩, below_step hB hb, Nat.le_trans hB.size hg, Nat.le_trans hB.size hgm⟩
theorem Mst.below (h : Mst w0 w g gm sn sz n D G) (hb : Below w.heap.size w w') : Mst w0 w' g gm sn sz n D G :=
  ⟨blk_below h.rc hb, mm_move h.mp (hb.block _ (World.ownsMap.lt h.mp)), fun s => (h.sec s).keep (fun v hv => Kd.R_below hv hb), below_step h.bel hb, h.hg, h.hm⟩
theorem Mst.mono {n' : Nat} (h : Mst w0 w g gm sn sz n D G) (hn : n ≤ n') : Mst w0 w g gm sn sz n' D G := ⟨h.rc, World.ownsMap.mono h.mp hn, h.sec, h.bel, h.hg, h.hm⟩
theorem Mst.write {v : Value} {s : Int} {ys : List Int} (h : Mst w0 w g gm sn sz n D G) (hm : MM w' gm (n + 1) (D.put (keyI s) (.held v))) (hv : BR w' w.heap.size v ys) (ht : Tou (fun k => k = gm) w w') (hl : ys.length = sz.toNat) : Mst w0 w' g gm sn sz (n + 1) (D.put (keyI s) (.held v)) (upd G s ys) := by
  refine ⟨(ht.block g (blk_lt h.rc) h.g_ne).trans h.rc, hm, fun t => ?_, ht.below h.bel h.bel.size (fun k hk => by rw [hk]; exact h.hm), h.hg, h.hm⟩
  unfold upd
  split
  · rename_i e
    subst e
    exact Sec.put t (World.ownsMap.isMap h.mp) (Kd.R_lower hv h.bel.size) hl
  · rename_i e
    exact Sec.put_other e _ ((h.sec t).keep (fun v hv => br_tou hv h.mp ht))
theorem Mst.trim {s : Int} (h : Mst w0 w g gm sn sz n D G) (hm : MM w' gm n (D.del (keyI s))) (ht : Tou (fun k => k = gm) w w') : Mst w0 w' g gm sn sz n (D.del (keyI s)) (upd G s (nul sz)) := by
  refine ⟨(ht.block g (blk_lt h.rc) h.g_ne).trans h.rc, hm, fun t => ?_, ht.below h.bel h.bel.size (fun k hk => by rw [hk]; exact h.hm), h.hg, h.hm⟩
  unfold upd
  split
  · rename_i e
    subst e
    exact Sec.del t
  · rename_i e
    exact Sec.del_other e ((h.sec t).keep (fun v hv => br_tou hv h.mp ht))
theorem Mst.far (h : Mst w0 w g gm sn sz n D G) : ∀ s u, D.atKey (keyI s) (.held nil_) = .held u → ∀ k, u.ownBlock = some k → k < w.heap.size := fun s u h1 k hk => by
  obtain ⟨v, h2, h3⟩ := h.sec s
  rw [h1] at h2
  injection h2 with h2
  subst h2
  rcases h3 with ⟨rfl, _⟩ | ⟨h3, _⟩
  · cases hk
  · exact br_lt h3 hk
end
end Go.Proofs.Ytfpmcplfmmhoiaa.QModelFits
namespace Go.Proofs.Ytfpmcplfmmhoiaa.QModelFits
open Go.RowKit Go.Proofs.YtfpmcplfmmhoiaaW.PrintWords Go.Proofs.YtfpmcplfmmhoiaaW.PrintLast Go.Proofs.YtfpmcplfmmhoiaaW.PrintMore Go.Proofs.Ytfpmcplfmmhoiaa.Mono Go.Proofs.Ytfpmcplfmmhoiaa.Box
set_option linter.unusedVariables false
set_option linter.unusedSimpArgs false
def KeysAre (sn : Int) (D : DataW Value) (K : Int → Bool) : Prop := ∀ s, Maps.has D (keyI s) = true ↔ (0 ≤ s ∧ s < sn) ∧ K s = true
theorem keysAre_start (sn : Int) : KeysAre sn (.map []) (fun _ => false) := fun s => by
  constructor
  · intro h
    cases h
  · intro h
    cases h.2
theorem keysAre_put {sn : Int} {D : DataW Value} {K : Int → Bool} {s : Int} (h : KeysAre sn D K) (hD : Maps.IsMap D) (hs : 0 ≤ s ∧ s < sn) (v : DataW Value) : KeysAre sn (D.put (keyI s) v) (fun t => if t = s then true else K t) := fun t => by
  by_cases e : t = s
  · subst e
    show _ ↔ _ ∧ (if t = t then true else K t) = true
    rw [Maps.has_put_same hD (keyI_lit t) v, if_pos rfl]
    exact ⟨fun _ => ⟨hs, rfl⟩, fun _ => rfl⟩
  · show _ ↔ _ ∧ (if t = s then true else K t) = true
    rw [Maps.has_put_other (keyI_ne e), if_neg e]
    exact h t
theorem keysAre_del {sn : Int} {D : DataW Value} {K : Int → Bool} {s : Int} (h : KeysAre sn D K) : KeysAre sn (D.del (keyI s)) (fun t => if t = s then false else K t) := fun t => by
  by_cases e : t = s
  · subst e
    show _ ↔ _ ∧ (if t = t then false else K t) = true
    rw [Maps.has_del_same, if_pos rfl]
    exact ⟨(fun h => nomatch h), (fun h => nomatch h.2)⟩
  · show _ ↔ _ ∧ (if t = s then false else K t) = true
    rw [Maps.has_del_other (keyI_ne e), if_neg e]
    exact h t
def want (sn : Int) (K : Int → Bool) : List Int := ((List.range sn.toNat).map Int.ofNat).filter K
theorem mem_want {sn : Int} {K : Int → Bool} {s : Int} : s ∈ want sn K ↔ (0 ≤ s ∧ s < sn) ∧ K s = true := by
  unfold want
  rw [List.mem_filter, List.mem_map]
  constructor
  · rintro ⟨⟨i, hi, rfl⟩, h⟩
    rw [List.mem_range] at hi
    exact ⟨⟨Int.natCast_nonneg _, by show (i : Int) < sn; omega⟩, h⟩
  · rintro ⟨h, h2⟩
    exact ⟨⟨s.toNat, List.mem_range.2 (by omega), by show ((s.toNat : Nat) : Int) = s; omega⟩, h2⟩
theorem want_sorted (sn : Int) (K : Int → Bool) : (want sn K).Pairwise (fun a b => a < b) := by
  unfold want
  refine List.Pairwise.filter _ (List.pairwise_map.2 ?_)
  exact List.pairwise_lt_range.imp (fun h => by show ((_ : Nat) : Int) < ((_ : Nat) : Int); omega)
theorem want_keys {sn : Int} {D : DataW Value} {K : Int → Bool} {w : World} {gm n : Nat} (h : KeysAre sn D K) (hown : MM w gm n D) {ss : List Int} (hp : ss.Perm (Go.intKeys D)) : (ss.mergeSort (fun x y => decide (x ≤ y))) = want sn K := by
  obtain ⟨es, hD, hpw, _⟩ := hown.entries (Maps.int_keyed Try.underlying3)
  obtain ⟨es', hD', hko⟩ := hown.keysOf
  obtain rfl : es = es' := by rw [hD] at hD'; simpa using hD'
  subst hD
  have h1 : (want sn K).Perm (Go.intKeys (.map es)) := Go.perm_intKeys hpw (fun p hp => by obtain ⟨v, hv⟩ := hko p hp; obtain ⟨x, _, hx, _⟩ := Go.Maps.keyOf_i64 Try.underlying3 hv; exact ⟨x, hx⟩) ((want_sorted sn K).imp (fun h => by omega)) (fun x => mem_want.trans (h x).symm)
  have h2 := Go.mergeSort_of_perm_i (hp.trans h1.symm)
  refine h2.trans ?_
  exact List.mergeSort_of_pairwise ((want_sorted sn K).imp (fun h => by simp only [Go.leI, decide_eq_true_eq]; omega))
theorem want_length (sn : Int) (K : Int → Bool) : (want sn K).length ≤ sn.toNat := by
  unfold want
  refine Nat.le_trans (List.length_filter_le _ _) ?_
  rw [List.length_map, List.length_range]
  exact Nat.le_refl _
end Go.Proofs.Ytfpmcplfmmhoiaa.QModelFits
namespace Go.Proofs
open Go.Shelf
def Try.keysA_ren : Go.Shelf.Ren := ⟨fun | 7 => 18 | 10 => 21 | n => n, fun | 23 => 47 | 26 => 3 | 3 => 24 | 28 => 53 | 0 => 0 | 27 => 52 | 33 => 56 | 4 => 4 | n => n, fun | n => n⟩
theorem Try.keysA : Go.Proofs.SlLaysZI.n7 Try.prog Try.keysA_ren := {
  mixed := by kernel_rfl
  f7 := ⟨Try.f18.name, by decide, Try.func18.trans (congrArg some (by kernel_rfl))⟩
  f10 := ⟨Try.f21.name, by decide, Try.func21.trans (congrArg some (by kernel_rfl))⟩
  t0 := Try.underlying0
  a0 := Try.isAgg0
  z0 := Try.sizeOf0
  v0 := Try.zeroValue0
  t4 := Try.underlying4
  a4 := Try.isAgg4
  z4 := Try.sizeOf4
  v4 := Try.zeroValue4
  t23 := Try.underlying47
  a23 := Try.isAgg47
  z23 := Try.sizeOf47
  v23 := Try.zeroValue47
  t26 := Try.underlying3
  a26 := Try.isAgg3
  z26 := Try.sizeOf3
  v26 := Try.zeroValue3
  t27 := Try.underlying52
  a27 := Try.isAgg52
  z27 := Try.sizeOf52
  v27 := Try.zeroValue52
  t28 := Try.underlying53
  a28 := Try.isAgg53
  z28 := Try.sizeOf53
  v28 := Try.zeroValue53
  t33 := Try.underlying56
  a33 := Try.isAgg56
  z33 := Try.sizeOf56
  v33 := Try.zeroValue56 }
def Try.sortedA_ren : Go.Shelf.Ren := ⟨fun | 6 => 17 | 8 => 19 | 9 => 20 | 11 => 22 | 13 => 24 | 12 => 23 | 23 => 34 | 24 => 35 | 14 => 25 | 15 => 26 | 16 => 27 | 17 => 28 | 18 => 29 | 19 => 30 | 20 => 31 | 21 => 32 | 22 => 33 | 25 => 36 | 26 => 37 | 27 => 38 | 28 => 39 | 29 => 40 | 30 => 41 | 31 => 42 | n => n, fun | 26 => 3 | 28 => 53 | 24 => 38 | 0 => 0 | 3 => 3 | 37 => 60 | 48 => 71 | 50 => 73 | 4 => 4 | 40 => 63 | 39 => 62 | 45 => 68 | 5 => 5 | 9 => 9 | 51 => 74 | 55 => 78 | 57 => 80 | 58 => 81 | 33 => 56 | n => n, fun | n => n⟩
theorem Try.sortedA : Go.Proofs.SlLaysZI.n6 Try.prog Try.sortedA_ren := {
  mixed := by kernel_rfl
  f6 := ⟨Try.f17.name, by decide, Try.func17.trans (congrArg some (by kernel_rfl))⟩
  f8 := ⟨Try.f19.name, by decide, Try.func19.trans (congrArg some (by kernel_rfl))⟩
  f11 := ⟨Try.f22.name, by decide, Try.func22.trans (congrArg some (by kernel_rfl))⟩
  t0 := Try.underlying0
  a0 := Try.isAgg0
  z0 := Try.sizeOf0
  v0 := Try.zeroValue0
  t24 := Try.underlying38
  a24 := Try.isAgg38
  z24 := Try.sizeOf38
  v24 := Try.zeroValue38
  t26 := Try.underlying3
  a26 := Try.isAgg3
  z26 := Try.sizeOf3
  v26 := Try.zeroValue3
  t28 := Try.underlying53
  a28 := Try.isAgg53
  z28 := Try.sizeOf53
  v28 := Try.zeroValue53
  i26 := by kernel_rfl }
def Try.sortA_ren : Go.Shelf.Ren := ⟨fun | 5 => 20 | 8 => 24 | 7 => 23 | 19 => 34 | 20 => 35 | 10 => 25 | 11 => 26 | 12 => 27 | 13 => 28 | 14 => 29 | 15 => 30 | 16 => 31 | 17 => 32 | 18 => 33 | 30 => 36 | 31 => 37 | 32 => 38 | 33 => 39 | 34 => 40 | 35 => 41 | 40 => 42 | n => n, fun | 23 => 38 | 25 => 3 | 3 => 3 | 32 => 60 | 22 => 38 | 0 => 0 | 44 => 71 | 46 => 73 | 4 => 4 | 36 => 63 | 35 => 62 | 41 => 68 | 5 => 5 | 9 => 9 | 53 => 74 | 57 => 78 | 63 => 80 | 64 => 81 | n => n, fun | n => n⟩
theorem Try.sortA : Go.Proofs.SlLaysM.n5 Try.prog Try.sortA_ren := {
  mixed := by kernel_rfl
  f5 := ⟨Try.f20.name, by decide, Try.func20.trans (congrArg some (by kernel_rfl))⟩
  f7 := ⟨Try.f23.name, by decide, Try.func23.trans (congrArg some (by kernel_rfl))⟩
  f8 := Try.func24.trans (congrArg some (by kernel_rfl))
  f10 := ⟨Try.f25.name, by decide, Try.func25.trans (congrArg some (by kernel_rfl))⟩
  f11 := ⟨Try.f26.name, by decide, Try.func26.trans (congrArg some (by kernel_rfl))⟩
  f12 := ⟨Try.f27.name, by decide, Try.func27.trans (congrArg some (by kernel_rfl))⟩
  f13 := ⟨Try.f28.name, by decide, Try.func28.trans (congrArg some (by kernel_rfl))⟩
  f14 := ⟨Try.f29.name, by decide, Try.func29.trans (congrArg some (by kernel_rfl))⟩
  f15 := ⟨Try.f30.name, by decide, Try.func30.trans (congrArg some (by kernel_rfl))⟩
  f16 := ⟨Try.f31.name, by decide, Try.func31.trans (congrArg some (by kernel_rfl))⟩
  f17 := ⟨Try.f32.name, by decide, Try.func32.trans (congrArg some (by kernel_rfl))⟩
  f18 := ⟨Try.f33.name, by decide, Try.func33.trans (congrArg some (by kernel_rfl))⟩
  f19 := Try.func34.trans (congrArg some (by kernel_rfl))
  f20 := Try.func35.trans (congrArg some (by kernel_rfl))
  f30 := ⟨Try.f36.name, by decide, Try.func36.trans (congrArg some (by kernel_rfl))⟩
  f31 := Try.func37.trans (congrArg some (by kernel_rfl))
  f32 := Try.func38.trans (congrArg some (by kernel_rfl))
  f33 := ⟨Try.f39.name, by decide, Try.func39.trans (congrArg some (by kernel_rfl))⟩
  f34 := ⟨Try.f40.name, by decide, Try.func40.trans (congrArg some (by kernel_rfl))⟩
  f35 := ⟨Try.f41.name, by decide, Try.func41.trans (congrArg some (by kernel_rfl))⟩
  f40 := ⟨Try.f42.name, by decide, Try.func42.trans (congrArg some (by kernel_rfl))⟩
  t0 := Try.underlying0
  a0 := Try.isAgg0
  z0 := Try.sizeOf0
  v0 := Try.zeroValue0
  t3 := Try.underlying3
  a3 := Try.isAgg3
  z3 := Try.sizeOf3
  v3 := Try.zeroValue3
  t4 := Try.underlying4
  a4 := Try.isAgg4
  z4 := Try.sizeOf4
  v4 := Try.zeroValue4
  t5 := Try.underlying5
  a5 := Try.isAgg5
  z5 := Try.sizeOf5
  v5 := Try.zeroValue5
  t9 := Try.underlying9
  a9 := Try.isAgg9
  z9 := Try.sizeOf9
  v9 := Try.zeroValue9
  t22 := Try.underlying38
  a22 := Try.isAgg38
  z22 := Try.sizeOf38
  v22 := Try.zeroValue38
  t23 := Try.underlying38
  a23 := Try.isAgg38
  z23 := Try.sizeOf38
  v23 := Try.zeroValue38
  t25 := Try.underlying3
  a25 := Try.isAgg3
  z25 := Try.sizeOf3
  v25 := Try.zeroValue3
  t32 := Try.underlying60
  a32 := Try.isAgg60
  z32 := Try.sizeOf60
  v32 := Try.zeroValue60
  t35 := Try.underlying62
  a35 := Try.isAgg62
  z35 := Try.sizeOf62
  v35 := Try.zeroValue62
  t36 := Try.underlying63
  a36 := Try.isAgg63
  z36 := Try.sizeOf63
  v36 := Try.zeroValue63
  t41 := Try.underlying68
  a41 := Try.isAgg68
  z41 := Try.sizeOf68
  v41 := Try.zeroValue68
  t44 := Try.underlying71
  a44 := Try.isAgg71
  z44 := Try.sizeOf71
  v44 := Try.zeroValue71
  t46 := Try.underlying73
  a46 := Try.isAgg73
  z46 := Try.sizeOf73
  v46 := Try.zeroValue73
  t53 := Try.underlying74
  a53 := Try.isAgg74
  z53 := Try.sizeOf74
  v53 := Try.zeroValue74
  t57 := Try.underlying78
  a57 := Try.isAgg78
  z57 := Try.sizeOf78
  v57 := Try.zeroValue78
  t63 := Try.underlying80
  a63 := Try.isAgg80
  z63 := Try.sizeOf80
  v63 := Try.zeroValue80
  t64 := Try.underlying81
  a64 := Try.isAgg81
  z64 := Try.sizeOf81
  v64 := Try.zeroValue81 }
end Go.Proofs
namespace Go.Proofs.Ytfpmcplfmmhoiaa.QModelFits
open Go.RowKit Go.Proofs.YtfpmcplfmmhoiaaW.PrintWords Go.Proofs.YtfpmcplfmmhoiaaW.PrintLast Go.Proofs.YtfpmcplfmmhoiaaW.PrintMore Go.Proofs.Ytfpmcplfmmhoiaa.Mono Go.Proofs.Ytfpmcplfmmhoiaa.Box
set_option linter.unusedVariables false
set_option linter.unusedSimpArgs false
theorem it_sorts (m : Nat) : AnyZI.SortsIn Try.prog Try.sortedA_ren Fence.wide m :=
  ⟨fun blk off cap ss W hH hblk hsz => callsIn_wide.2 (AnyM.slices_Sort_int Try.sortA blk off cap ss W hH hblk hsz),
   fun p cap W => callsIn_wide.2 (AnyM.slices_Sort_int_none Try.sortA p cap W)⟩
theorem it_Keys (mb : Option Nat) (W : World) : Calls Try.prog 18 #[.map mb] W fun e w' => e = .returned (.func (.func 21) #[] #[.pointer (some ⟨W.heap.size, 0, none⟩)]) ∧ w' = W.alloc (.cells #[.map mb] 47) :=
  (callsIn_wide (n := 5)).1 (AnyZI.keys_in Try.keysA Fence.wide 5 trivial rfl mb W)
set_option maxHeartbeats 1000000 in
theorem it_Sorted {H : Type} (b nn : Nat) (D0 : DataW H) (R : Value → Option (DataW H × List MemPlace)) (w : World) (hown : w.ownsMap Try.prog 3 R b nn D0) (hmax : Maps.size D0 ≤ maxLen) (hbytes : Maps.size D0 * 8 ≤ 140737488355328) :
    Calls Try.prog 17 #[.func (.func 21) #[] #[.pointer (some ⟨w.heap.size, 0, none⟩)]] (w.alloc (.cells #[.map (some b)] 47)) fun e w' => ∃ (v : Value) (ss : List Int), e = .returned v ∧ ss.Perm (Go.intKeys D0) ∧
      w'.ownsRow (w.alloc (.cells #[.map (some b)] 47)).heap.size 3 1 v ss.length ((ss.mergeSort (fun x y => decide (x ≤ y))).map Go.encZ) ∧ (v = .slice none 0 0 ↔ ss = []) ∧ Below (w.alloc (.cells #[.map (some b)] 47)).heap.size (w.alloc (.cells #[.map (some b)] 47)) w' := by
  refine (callsIn_wide (n := 5)).1 ?_
  have hbl := hown.lt
  have hseq : SeqGives Fence.wide 2 Try.prog 21 #[.pointer (some ⟨w.heap.size, 0, none⟩)] Go.encZ (fun ss => ss.Perm (Go.intKeys D0)) (Maps.size D0) (w.alloc (.cells #[.map (some b)] 47)) :=
    AnyZI.keys_gives (ρ := Try.keysA_ren) { Try.keysA with } Fence.wide _ trivial rfl (by omega) w.heap.size b nn D0 _ (by simp) (by simp) (by
      obtain ⟨es, clock, hb, Ft, hs, hD⟩ := hown
      exact ⟨es, clock, (Below.heap_alloc _ _ b hbl).trans hb, Ft, hs, hD⟩)
  exact AnyZI.sorted_in Try.sortedA Fence.wide 5 trivial trivial trivial trivial rfl (by omega) (it_sorts _) (enters_of Try.func20 (by kernel_rfl) rfl) 21 #[.pointer (some ⟨w.heap.size, 0, none⟩)] trivial (enters_of Try.func21 (by kernel_rfl) rfl) _ _ hmax hbytes _ hseq
abbrev IR (w : World) (B : Nat) (v : Value) (xs : List Int) : Prop := Kd.R (Kd.int .i64) 3 w B (fun _ => True) v xs
set_option maxHeartbeats 1000000 in
theorem mod_Written (g gm n : Nat) (sn sz : Int) (D : DataW Value) (K : Int → Bool) (w : World) (h : w.heap[g]? = some (MC gm sn sz)) (hm : MM w gm n D) (hn : n ≤ 1000000) (hs : 1 ≤ sn) (hK : KeysAre sn D K) :
    Calls Try.prog 11 #[.pointer (some ⟨g, 0, none⟩)] w fun e w' => ∃ v, e = .returned v ∧ IR w' w.heap.size v (want sn K) ∧ Below w.heap.size w w' := by
  have H := Aside0.mk h
  have HM := Aside0.mk hm
  have HS := Aside0.mk (if_pos ⟨Int.le_refl 0, by omega⟩ : (if (0 : Int) ≤ 0 ∧ 0 < sn then (0 : Int) else 2) = 0)
  have HK := Aside0.mk hK
  have HZ1 : Aside0 (Maps.size D ≤ maxLen) := ⟨Nat.le_trans hm.size_le (by unfold maxLen; omega)⟩
  have HZ2 : Aside0 (Maps.size D * 8 ≤ 140737488355328) := ⟨by have := hm.size_le; omega⟩
  clear h hm hn hs hK
  go_enter Try.func11, Try.ntmps11
  go_wp2_with (first | (go_at_call 15; (with_reducible refine (mod_may g gm sn sz 0 _ H.out).mono ?_); rw [HS.out]; rintro e w1 ⟨rfl, hb⟩; have HB := Aside0.mk hb; have HM1 := Aside0.mk (mm_move HM.out (hb.block _ (World.ownsMap.lt HM.out))); have z_ : w1.cell? ⟨g, 0, none⟩ = some (.map (some gm)) := (blk_cell (blk_below H.out hb) 0).trans rfl; clear hb) | (go_at_call 18; (with_reducible refine (it_Keys _ _).mono ?_); rintro e w2 ⟨rfl, rfl⟩; clear z_) | (go_at_call 17; (with_reducible refine (it_Sorted gm n D ME _ HM1.out HZ1.out HZ2.out).mono ?_); rintro e w3 ⟨v, ss, rfl, hp, hrow, _, hb⟩; have HW := Aside0.mk (want_keys HK.out HM1.out hp); have HL := Aside0.mk (hp.length_eq); have HR := Aside0.mk hrow; have HB3 := Aside0.mk hb; clear hp hrow hb))
  go_ret
  have hs1 : w1.heap.size ≤ (w1.alloc (.cells #[.map (some gm)] 47)).heap.size := by
    have : (w1.alloc (.cells #[.map (some gm)] 47)).heap.size = w1.heap.size + 1 := Array.size_push ..
    omega
  refine ⟨v, rfl, ?_, below_step HB.out (Below.trans (below_alloc (Below.refl _ _) _) (HB3.out.mono hs1))⟩
  have h1 := HR.out
  rw [HW.out] at h1
  have h2 : ss.length = (want sn K).length := by rw [← HW.out, List.length_mergeSort]
  rw [h2] at h1
  exact Kd.R_lower (Kd.R_of_own h1 (fun _ _ => trivial)) (Nat.le_trans HB.out.size hs1)
end Go.Proofs.Ytfpmcplfmmhoiaa.QModelFits
namespace Go.Proofs.Ytfpmcplfmmhoiaa.QModelFits
open Go.RowKit Go.Proofs.YtfpmcplfmmhoiaaW.PrintWords Go.Proofs.YtfpmcplfmmhoiaaW.PrintLast Go.Proofs.YtfpmcplfmmhoiaaW.PrintMore Go.Proofs.Ytfpmcplfmmhoiaa.Mono Go.Proofs.Ytfpmcplfmmhoiaa.Box
set_option linter.unusedVariables false
set_option linter.unusedSimpArgs false
theorem same_l0 (xs : List Int) (hx : xs.length ≤ 1000000) : ∀ (d i k : Nat), i + d = xs.length → d < k → incunableref01_Same.l0 k xs xs (i : Int) = some true := by
  intro d
  induction d with
  | zero =>
    intro i k hi hk
    obtain ⟨k, rfl⟩ : ∃ k', k = k' + 1 := ⟨k - 1, by omega⟩
    unfold incunableref01_Same.l0
    rw [if_neg (by omega)]
  | succ d ih =>
    intro i k hi hk
    obtain ⟨k, rfl⟩ : ∃ k', k = k' + 1 := ⟨k - 1, by omega⟩
    unfold incunableref01_Same.l0
    rw [if_pos (by omega), if_pos (by omega), if_pos (by omega), if_pos rfl]
    have hw : wrap64 ((i : Int) + 1) = ((i + 1 : Nat) : Int) := by unfold wrap64; omega
    rw [hw]
    exact ih (i + 1) k (by omega) (by omega)
theorem same_calls (A1 A2 : Option Addr) (c1 c2 : Nat) (xs ys : List Int) (w : World) (he : xs = ys) (h1 : Kd.C (Kd.int .u8) w A1 xs.length xs) (hc1 : xs.length ≤ c1) (h2 : Kd.C (Kd.int .u8) w A2 ys.length ys) (hc2 : ys.length ≤ c2) (hx : ys.length ≤ 1000000) :
    Calls Try.prog 12 #[.slice A1 xs.length c1, .slice A2 ys.length c2] w fun e w' => e = .returned (.bool true) ∧ Below w.heap.size w w' := by
  subst he
  refine (incunableref01_Same.calls (xs.length + 1) A1 c1 xs A2 c2 xs true w h1 hc1 h2 hc2 ?_).mono (fun e w' h => ⟨h.1, h.2.below⟩)
  unfold incunableref01_Same.f
  rw [if_pos rfl]
  exact same_l0 xs hx xs.length 0 _ (by omega) (by omega)
set_option maxRecDepth 100000 in
set_option maxHeartbeats 4000000 in
theorem ml_awake (w0 : World) : Calls Try.prog 6 #[] w0 fun e w' => e = .returned (.bool true) ∧ Below w0.heap.size w0 w' := by
  obtain ⟨Z, hZ⟩ : ∃ z_ : List Int, [(0 : Int), 0] = z_ := ⟨_, rfl⟩
  have lZ : Z.length = 2 := by rw [← hZ]; rfl
  have HZ := Aside0.mk hZ
  have BZ : Aside0 (Z.length ≤ 1000000) := ⟨by omega⟩
  have TZ : Aside0 ((Z.length : Int) = 2) := ⟨by omega⟩
  obtain ⟨L, hL⟩ : ∃ z_ : List Int, [(1 : Int), 2] = z_ := ⟨_, rfl⟩
  have lL : L.length = 2 := by rw [← hL]; rfl
  have HL := Aside0.mk hL
  have BL : Aside0 (L.length ≤ 1000000) := ⟨by omega⟩
  have TL : Aside0 ((L.length : Int) = 2) := ⟨by omega⟩
  obtain ⟨G0, hG0⟩ : ∃ G0 : Int → List Int, G0 = fun _ => nul 2 := ⟨_, rfl⟩
  have HG0 := Aside0.mk hG0
  have HGZ : Aside0 (G0 3 = Z) := ⟨by rw [hG0, ← hZ]; rfl⟩
  have HGL : Aside0 (upd G0 3 L 3 = L) := ⟨if_pos rfl⟩
  clear hZ hL lZ lL hG0
  go_enter Try.func6, Try.ntmps6
  have TLn : Aside0 (L.length = (2 : Int).toNat) := ⟨by have := TL.out; omega⟩
  have BL8 : Aside0 (L.length ≤ 2) := ⟨by have := TL.out; omega⟩
  go_wp2_with (first | (go_at_call 7; (with_reducible refine (mod_New 4 2 _ (by decide) (by decide) (by decide) (by decide)).mono ?_); rintro e w2 ⟨g, gm, rfl, hg, hgm, hne, hc, hm, hb⟩; have HS := Aside0.mk (Mst.start (G := G0) (Below.refl _ _) hg hgm hc hm hb HG0.out); clear hg hgm hne hc hm hb) | (go_at_call 10; (with_reducible refine (mod_Read g gm 0 w0.heap.size 4 2 3 (.map []) Z _ HS.out.rc HS.out.mp ⟨by decide, by decide⟩ (by decide) ⟨by decide, by decide⟩ (HGZ.out ▸ HS.out.sec 3)).mono ?_); rintro e w3 ⟨v_, rfl, hR, hb⟩; obtain ⟨Aa, ca, rfl, hl_, hC_⟩ := Kd.R_reads hR; have HS_ := Mst.below HS.out hb; have HB_ := hb; have HR_ := hR; clear hR hb hl_ hC_; have HRA := Aside0.mk (Kd.R_lower HR_ HS.out.bel.size); clear HS; have HS := Aside0.mk HS_; clear HS_ HB_ HR_) | ((with_reducible refine gate_dst (N := 18) rfl ?_); refine Kd.R_lit (Kd.int .u8) _ 5 ?hg (N := 18) ?hd (xs := ([(1 : Int), (2 : Int)] : List Int)) (inner := [.int .u8 1, .int .u8 2]) (ok := fun _ => True) (okp := fun _ => True) ?hr ?hp (fun _ hk => hk) trivial (Below.refl _ _) (Nat.le_refl _) (by simp) ?_; (case hd => rfl); (case hg => rfl); (case hr => first | (go_simp; done) | (go_simp; rfl)); (case hp => exact (Reps.one (show Kd.M (Kd.int .u8) _ _ _ (1 : Int) [.int .u8 1] from rfl) (Reps.one (show Kd.M (Kd.int .u8) _ _ _ (2 : Int) [.int .u8 2] from rfl) (Reps.none _ _)))); intro v_ w4 ho hb hg_ hn_; rw [HL.out] at ho; obtain ⟨Al, cl, rfl, hl_, hC_⟩ := Kd.R_reads ho; have HS_ := Mst.below HS.out hb; have HB_ := hb; replace HRA := Aside0.mk (Kd.R_below HRA.out HB_); have HOL := Aside0.mk ho; have HLL := Aside0.mk hl_; clear HS; have HS := Aside0.mk HS_; clear HS_ HB_ ho hb hg_ hn_ hl_ hC_) | (go_at_call 8; (with_reducible refine (mod_Write g gm 0 Al cl L 4 3 (.map []) _ (TL.out ▸ HS.out.rc) HS.out.mp (by decide) ⟨by decide, by decide⟩ (by decide) (Kd.R_reads' HOL.out).2.2 HLL.out (Nat.le_trans BL8.out (by decide))).mono ?_); rintro e w5 ⟨rfl, v, hm2, hv, ht⟩; have HS_ := Mst.write HS.out hm2 hv ht TLn.out; replace HRA := Aside0.mk (br_tou HRA.out HS.out.mp ht); clear HS HOL HLL; have HS := Aside0.mk HS_; clear HS_ hm2 hv ht) | (go_at_call 10; (with_reducible refine (mod_Read g gm 1 w0.heap.size 4 2 3 _ L _ HS.out.rc HS.out.mp ⟨by decide, by decide⟩ (by decide) ⟨by decide, by decide⟩ (HGL.out ▸ HS.out.sec 3)).mono ?_); rintro e w6 ⟨v_, rfl, hR, hb⟩; obtain ⟨Ab, cb, rfl, hl_, hC_⟩ := Kd.R_reads hR; have HS_ := Mst.below HS.out hb; have HB_ := hb; have HR_ := hR; clear hR hb hl_ hC_; replace HRA := Aside0.mk (Kd.R_below HRA.out HB_); have HRB := Aside0.mk (Kd.R_lower HR_ HS.out.bel.size); clear HS; have HS := Aside0.mk HS_; clear HS_ HB_ HR_) | ((with_reducible refine gate_dst (N := 41) rfl ?_); (refine gate_guard (by rfl) ?_; dsimp only); refine Kd.R_lit (Kd.int .u8) _ 5 ?hg (N := 41) ?hd (xs := ([(0 : Int), (0 : Int)] : List Int)) (inner := [.int .u8 0, .int .u8 0]) (ok := fun _ => True) (okp := fun _ => True) ?hr ?hp (fun _ hk => hk) trivial (Below.refl _ _) (Nat.le_refl _) (by simp) ?_; (case hd => rfl); (case hg => rfl); (case hr => first | (go_simp; done) | (go_simp; rfl)); (case hp => exact (Reps.one (show Kd.M (Kd.int .u8) _ _ _ (0 : Int) [.int .u8 0] from rfl) (Reps.one (show Kd.M (Kd.int .u8) _ _ _ (0 : Int) [.int .u8 0] from rfl) (Reps.none _ _)))); intro v_ w7 ho hb hg_ hn_; rw [HZ.out] at ho; obtain ⟨Az, cz, rfl, hl_, hC_⟩ := Kd.R_reads ho; have HS_ := Mst.below HS.out hb; have HB_ := hb; replace HRA := Aside0.mk (Kd.R_below HRA.out HB_); replace HRB := Aside0.mk (Kd.R_below HRB.out HB_); have HOZ := Aside0.mk ho; have HLZ := Aside0.mk hl_; clear HS; have HS := Aside0.mk HS_; clear HS_ HB_ ho hb hg_ hn_ hl_ hC_) | (go_at_call 12; (with_reducible refine (same_calls Aa Az ca cz Z Z _ rfl (Kd.R_reads' HRA.out).2.2 (Kd.R_reads' HRA.out).2.1 (Kd.R_reads' HOZ.out).2.2 (Kd.R_reads' HOZ.out).2.1 BZ.out).mono ?_); rintro e w8 ⟨rfl, hb⟩; have HS_ := Mst.below HS.out hb; have HB_ := hb; replace HRB := Aside0.mk (Kd.R_below HRB.out HB_); clear HS; have HS := Aside0.mk HS_; clear HS_ HB_ hb) | ((with_reducible refine gate_dst (N := 46) rfl ?_); (refine gate_guard (by rfl) ?_; dsimp only); refine Kd.R_lit (Kd.int .u8) _ 5 ?hg (N := 46) ?hd (xs := ([(1 : Int), (2 : Int)] : List Int)) (inner := [.int .u8 1, .int .u8 2]) (ok := fun _ => True) (okp := fun _ => True) ?hr ?hp (fun _ hk => hk) trivial (Below.refl _ _) (Nat.le_refl _) (by simp) ?_; (case hd => rfl); (case hg => rfl); (case hr => first | (go_simp; done) | (go_simp; rfl)); (case hp => exact (Reps.one (show Kd.M (Kd.int .u8) _ _ _ (1 : Int) [.int .u8 1] from rfl) (Reps.one (show Kd.M (Kd.int .u8) _ _ _ (2 : Int) [.int .u8 2] from rfl) (Reps.none _ _)))); intro v_ w9 ho hb hg_ hn_; rw [HL.out] at ho; obtain ⟨Ay, cy, rfl, hl_, hC_⟩ := Kd.R_reads ho; have HS_ := Mst.below HS.out hb; have HB_ := hb; replace HRB := Aside0.mk (Kd.R_below HRB.out HB_); have HOL := Aside0.mk ho; have HLL := Aside0.mk hl_; clear HS; have HS := Aside0.mk HS_; clear HS_ HB_ ho hb hg_ hn_ hl_ hC_) | (go_at_call 12; (with_reducible refine (same_calls Ab Ay cb cy L L _ rfl (Kd.R_reads' HRB.out).2.2 (Kd.R_reads' HRB.out).2.1 (Kd.R_reads' HOL.out).2.2 (Kd.R_reads' HOL.out).2.1 BL.out).mono ?_); rintro e w10 ⟨rfl, hb⟩; have HS_ := Mst.below HS.out hb; have HB_ := hb; skip; clear HS; have HS := Aside0.mk HS_; clear HS_ HB_ hb))
  go_ret
  exact ⟨rfl, HS.out.bel⟩
end Go.Proofs.Ytfpmcplfmmhoiaa.QModelFits
namespace Go.Proofs.Ytfpmcplfmmhoiaa.QModelFits
open Go.RowKit Go.Proofs.YtfpmcplfmmhoiaaW.PrintWords Go.Proofs.YtfpmcplfmmhoiaaW.PrintLast Go.Proofs.YtfpmcplfmmhoiaaW.PrintMore Go.Proofs.Ytfpmcplfmmhoiaa.Mono Go.Proofs.Ytfpmcplfmmhoiaa.Box
set_option linter.unusedVariables false
set_option linter.unusedSimpArgs false
abbrev OB (u0 u1 : Value) : Obj := .cells #[u0, u1] 25 (0, 0)
abbrev WB (e0 e1 : Int) : Obj := .cells #[.int .i64 e0, .int .i64 e1] 26 (0, 0)
theorem cells_ne_map {w : World} {g gm n : Nat} {D : DataW Value} {cs : Array Value} {T : TypeId} (h : w.heap[g]? = some (.cells cs T (0, 0))) (hm : MM w gm n D) : g ≠ gm := fun e => by
  obtain ⟨es, cl, hb, _⟩ := hm
  rw [e, hb] at h
  cases h
structure Ost (w0 w : World) (go gw : Nat) (u0 u1 : Value) (e0 e1 : Int) (z0 z1 : List Int) : Prop where
  bo : w.heap[go]? = some (OB u0 u1)
  bw : w.heap[gw]? = some (WB e0 e1)
  r0 : BR w w0.heap.size u0 z0
  r1 : BR w w0.heap.size u1 z1
  ne : ∀ k, u0.ownBlock = some k → u1.ownBlock ≠ some k
  ho : w0.heap.size ≤ go
  hw : w0.heap.size ≤ gw
section
variable {w0 w w' w2 : World} {g gm n go gw : Nat} {sn sz : Int} {D : DataW Value} {G : Int → List Int} {u0 u1 u : Value} {e0 e1 : Int} {z0 z1 z : List Int}
theorem Ost.below (h : Ost w0 w go gw u0 u1 e0 e1 z0 z1) (hb : Below w.heap.size w w') : Ost w0 w' go gw u0 u1 e0 e1 z0 z1 :=
  ⟨blk_below h.bo hb, blk_below h.bw hb, Kd.R_below h.r0 hb, Kd.R_below h.r1 hb, h.ne, h.ho, h.hw⟩
theorem Ost.tou (h : Ost w0 w go gw u0 u1 e0 e1 z0 z1) (hm : MM w gm n D) (ht : Tou (fun k => k = gm) w w') : Ost w0 w' go gw u0 u1 e0 e1 z0 z1 :=
  ⟨(ht.block _ (blk_lt h.bo) (cells_ne_map h.bo hm)).trans h.bo, (ht.block _ (blk_lt h.bw) (cells_ne_map h.bw hm)).trans h.bw, br_tou h.r0 hm ht, br_tou h.r1 hm ht, h.ne, h.ho, h.hw⟩
theorem ost_go_gw (h : Ost w0 w go gw u0 u1 e0 e1 z0 z1) : gw ≠ go := fun e => by
  have := h.bw
  rw [e, h.bo] at this
  cases this
theorem Ost.set1 (h : Ost w0 w go gw u0 u1 e0 e1 z0 z1) (e : Int) : Ost w0 (w.setCell ⟨gw, 1, none⟩ (.int .i64 e)) go gw u0 u1 e0 e z0 z1 :=
  ⟨(Below.heap_setCell w _ _ go (ost_go_gw h).symm).trans h.bo, blk_set h.bw 1 _, Kd.R_set h.r0 h.bw (by decide) 1 _, Kd.R_set h.r1 h.bw (by decide) 1 _, h.ne, h.ho, h.hw⟩
theorem Mst.cell {g2 : Nat} {cs : Array Value} {T : TypeId} (h : Mst w0 w g gm sn sz n D G) (hb : w.heap[g2]? = some (.cells cs T (0, 0))) (hT : T ≠ 5) (hT2 : T ≠ 49) (h2 : w0.heap.size ≤ g2) (j : Nat) (v : Value) : Mst w0 (w.setCell ⟨g2, j, none⟩ v) g gm sn sz n D G := by
  have hne : g ≠ g2 := fun e => by
    have := h.rc
    rw [e, hb] at this
    injection this with this
    injection this with _ this
    exact hT2 this
  refine ⟨(Below.heap_setCell w _ _ g hne).trans h.rc, mm_move h.mp (Below.heap_setCell w _ _ gm (cells_ne_map hb h.mp).symm), fun s => (h.sec s).keep (fun v hv => Kd.R_set hv hb (fun q hq => by
    rcases List.mem_cons.1 hq with rfl | hq
    · exact hT.symm
    · cases hq) j _), Below.setCell h.bel h2 _, h.hg, h.hm⟩
end
theorem at_int {k : IntKind} {w : World} {A : Option Addr} {l : List Int} (h : Kd.C (Kd.int k) w A l.length l) (i : Nat) (hi : i < l.length) : ∃ ad, A = some ad ∧ w.cell? (ad.add i) = some (.int k l[i]) := by
  obtain ⟨ad, c, e, _, hK, hc0⟩ := Kd.C_get h 0 (i : Int) (by omega) (by omega)
  have hc : ∀ j u, c[j]? = some u → w.cell? (ad.add (((i : Int).toNat) * 1 + j)) = some u := hc0
  rw [Int.toNat_natCast] at hc hK
  have hg : l.getD i 0 = l[i] := by simp [hi]
  rw [hg] at hK
  obtain rfl : c = [.int k l[i]] := hK
  have := hc 0 _ rfl
  rw [Nat.mul_one, Nat.add_zero] at this
  exact ⟨ad, e, this⟩
end Go.Proofs.Ytfpmcplfmmhoiaa.QModelFits
namespace Go.Proofs.Ytfpmcplfmmhoiaa.Mono
open Go.RowKit Go.Proofs.YtfpmcplfmmhoiaaW.PrintWords Go.Proofs.YtfpmcplfmmhoiaaW.PrintLast
set_option linter.unusedVariables false
section
variable {P : Program} {ops : Array Oper} {Q : Exit → Act → World → Prop}
def LStep (P : Program) (ops : Array Oper) (Q : Exit → Act → World → Prop) (ts : List Tmp) (a0 : Act) (w0 : World) (F : Nat → Value → World → Prop) (ST : (Tmp → Value) → World → World → Prop) (i : Nat) : Prop :=
  ∀ (a : Act) (w wf : World), Ext w0 wf → (w = wf ∨ ∃ u, ST u wf w) → Fr ops ts a0 a → Known ops F i a wf →
    ∃ oi, ops[i]? = some oi ∧ ∀ K : Act → World → Prop, (∀ v, F i v wf → K (a.put oi.dst v) w) → if Region.wanted oi (yielded ops a.tmps) = true then Oper.wp P oi a w K Q else K (a.put oi.dst undef) w
theorem lsteps_nil {ts : List Tmp} {a0 : Act} {w0 : World} {F : Nat → Value → World → Prop} {ST : (Tmp → Value) → World → World → Prop} : ∀ i ∈ ([] : List Nat), LStep P ops Q ts a0 w0 F ST i := fun _ h => by cases h
theorem lsteps_cons {ts : List Tmp} {a0 : Act} {w0 : World} {F : Nat → Value → World → Prop} {ST : (Tmp → Value) → World → World → Prop} {i : Nat} {rs : List Nat} (h : LStep P ops Q ts a0 w0 F ST i) (hs : ∀ j ∈ rs, LStep P ops Q ts a0 w0 F ST j) : ∀ j ∈ i :: rs, LStep P ops Q ts a0 w0 F ST j := fun j hj => by
  rcases List.mem_cons.1 hj with rfl | hj
  · exact h
  · exact hs j hj
theorem PStep.l {ts : List Tmp} {a0 : Act} {w0 : World} {F : Nat → Value → World → Prop} {ST : (Tmp → Value) → World → World → Prop} {i : Nat} (h : PStep P ops Q ts a0 w0 F i) : LStep P ops Q ts a0 w0 F ST i := fun a w wf hx _ hfr hk => h a w wf hx hfr hk
structure InvB (ops : Array Oper) (ts : List Tmp) (m s : Nat) (a0 : Act) (w0 : World) (F : Nat → Value → World → Prop) (ST : (Tmp → Value) → World → World → Prop) (listed : Array Bool) (a : Act) (w : World) : Prop where
  sz : listed.size = ops.size
  fr : Fr ops ts a0 a
  st : ∃ wf, Ext w0 wf ∧ (∀ i t, i < m → i ≠ s → listed.getD i true = true → dstAt ops i = some t → ∃ v, a.tmps[t]? = some v ∧ F i v wf) ∧ ((listed.getD s true = false ∧ wf = w) ∨ (listed.getD s true = true ∧ ST (fun t => a.tmps.getD t undef) wf w))
  shut : ∀ i j, i < ops.size → listed.getD i true = true → j ∈ edges ops i → listed.getD j true = true
  later : ∀ i, m ≤ i → i < ops.size → listed.getD i true = false
theorem monoB_all {ts : List Tmp} {m s : Nat} (hmn : m ≤ ops.size) (hsm : s < m) (hsd : dstAt ops s = none) (hts : ∀ i t, i < m → dstAt ops i = some t → ts.contains t = true) {a0 : Act} {w0 : World} {F : Nat → Value → World → Prop} {ST : (Tmp → Value) → World → World → Prop} (hok : okOps ops = true) (hch : chained ops m = true) (hF : ∀ i, Stable (F i))
    (hcong : ∀ (x y : Tmp → Value) (w w2 : World), (∀ j t, reach ops ops.size s j = true → dstAt ops j = some t → x t = y t) → ST x w w2 → ST y w w2)
    (hs : ∀ i, i < m → i ≠ s → LStep P ops Q ts a0 w0 F ST i ∨ (reach ops ops.size s i = true ∧ MStep P ops Q ts a0 w0 F i)) (hnos : ∀ i, i < m → i ≠ s → reach ops ops.size i s = false)
    (hst : SStep P ops Q ts a0 w0 F ST s) (hdst : ∀ i t, i < m → dstAt ops i = some t → t < a0.tmps.size)
    (hend : ∀ a wf w, Ext w0 wf → Fr ops ts a0 a → (∀ i t, i < m → i ≠ s → dstAt ops i = some t → ∃ v, a.tmps[t]? = some v ∧ F i v wf) → ST (fun t => a.tmps.getD t undef) wf w → wpList P ops Q (ops.toList.drop m) a w) :
    ∀ (fuel : Nat) (listed : Array Bool) (a : Act) (w : World), listed.toList.count false = fuel → InvB ops ts m s a0 w0 F ST listed a w → wpAny P .any ops Q fuel listed a w := by
  have hend2 : ∀ (listed : Array Bool) (a : Act) (w : World), InvB ops ts m s a0 w0 F ST listed a w → (∀ i, i < m → listed.getD i true = true) → wpList P ops Q (ops.toList.drop m) a w := by
    intro listed a w hI hall
    obtain ⟨wf, hx, hv, hc⟩ := hI.st
    rcases hc with ⟨h1, _⟩ | ⟨_, h2⟩
    · rw [hall s hsm] at h1
      cases h1
    · exact hend a wf w hx hI.fr (fun i t hi hne ht => hv i t hi hne (hall i hi) ht) h2
  have none_ : ∀ (listed : Array Bool), listed.size = ops.size → Region.ready .any ops listed = [] → ∀ i, i < ops.size → listed.getD i true = true := by
    intro listed hsz hr i
    induction i using Nat.strongRecOn with
    | _ i ih =>
      intro hi
      cases hl : listed.getD i true with
      | true => rfl
      | false =>
        have : i ∈ Region.ready .any ops listed := (ready_edges hsz hok).2 ⟨hi, hl, fun e he => ih e (edges_lt hok he) (by have := edges_lt hok he; omega)⟩
        rw [hr] at this
        cases this
  have fin : ∀ (listed : Array Bool) (a : Act) (w : World), InvB ops ts m s a0 w0 F ST listed a w → (∀ i, i < ops.size → listed.getD i true = true) → Q .normal a w := by
    intro listed a w hI hall
    have hm : m = ops.size := by
      rcases Nat.lt_or_ge m ops.size with h | h
      · have h1 := hI.later m (Nat.le_refl _) h
        rw [hall m h] at h1
        cases h1
      · omega
    have := hend2 listed a w hI (fun i hi => hall i (by omega))
    rw [hm, List.drop_of_length_le (by rw [Array.length_toList]; omega)] at this
    exact this
  intro fuel
  induction fuel with
  | zero =>
    intro listed a w hc hI
    have hall : ∀ i, i < ops.size → listed.getD i true = true := by
      intro i hi
      have hm := List.count_eq_zero.1 hc
      rw [Array.getD_eq_getD_getElem?, Array.getElem?_eq_getElem (by rw [hI.sz]; exact hi)]
      cases hb : listed[i]'(by rw [hI.sz]; exact hi) with
      | true => rfl
      | false => exact absurd (by rw [← hb]; exact Array.getElem_mem_toList _) hm
    refine ⟨?_, fin listed a w hI hall⟩
    refine List.eq_nil_iff_forall_not_mem.2 (fun i hi => ?_)
    obtain ⟨h1, h2, _⟩ := (ready_edges hI.sz hok).1 hi
    rw [hall i h1] at h2
    cases h2
  | succ fuel ih =>
    intro listed a w hc hI
    by_cases hmall : ∀ i, i < m → listed.getD i true = true
    · -- the tail
      have hl : ∀ i, i < ops.size → listed.getD i true = decide (i < m) := by
        intro i hi
        by_cases h : i < m
        · rw [hmall i h, decide_eq_true h]
        · rw [hI.later i (by omega) hi, decide_eq_false h]
      have hcount : m + (fuel + 1) = ops.size := by
        have hL : listed.toList = List.replicate m true ++ List.replicate (ops.size - m) false := by
          apply List.ext_getElem?
          intro i
          by_cases hi : i < ops.size
          · have h1 := hl i hi
            rw [Array.getD_eq_getD_getElem?, Array.getElem?_eq_getElem (by rw [hI.sz]; exact hi)] at h1
            rw [Array.getElem?_toList, Array.getElem?_eq_getElem (by rw [hI.sz]; exact hi)]
            simp only [Option.getD_some] at h1
            rw [h1]
            by_cases h : i < m
            · rw [List.getElem?_append_left (by simpa using h), List.getElem?_replicate, if_pos h, decide_eq_true h]
            · rw [List.getElem?_append_right (by simpa using h), List.getElem?_replicate, List.length_replicate, if_pos (by omega), decide_eq_false h]
          · rw [List.getElem?_eq_none (by rw [Array.length_toList, hI.sz]; omega), List.getElem?_eq_none (by simp; omega)]
        rw [hL, List.count_append, List.count_replicate, List.count_replicate] at hc
        simp at hc
        omega
      exact tail_any hok hch _ m listed a w hcount (Nat.le_refl _) hI.sz hl (hend2 listed a w hI hmall)
    refine ⟨fun hr => fin listed a w hI (none_ listed hI.sz hr), fun i hi => ?_⟩
    obtain ⟨hlt, hl, he⟩ := (ready_edges hI.sz hok).1 hi
    have him : i < m := by
      rcases Nat.lt_or_ge i m with h | h
      · exact h
      · refine absurd (fun j hj => ?_) hmall
        exact (reach_listed hok hI.shut _ i j hlt he (chained_spec hch hlt h (by omega))).2
    obtain ⟨wf, hx, hval, hc2⟩ := hI.st
    have hdi : ∀ oi, ops[i]? = some oi → dstAt ops i = oi.dst := fun oi hoi => by unfold dstAt; rw [hoi]; rfl
    have hli : listed[i]'(by rw [hI.sz]; exact hlt) = false := by
      rw [Array.getD_eq_getD_getElem?, Array.getElem?_eq_getElem (by rw [hI.sz]; exact hlt)] at hl
      exact hl
    have hcnt : (listed.setIfInBounds i true).toList.count false = fuel := by
      rw [Array.toList_setIfInBounds, List.count_set (h := by rw [Array.length_toList, hI.sz]; exact hlt)]
      have : listed.toList[i]'(by rw [Array.length_toList, hI.sz]; exact hlt) = false := by rw [Array.getElem_toList]; exact hli
      rw [this, hc]
      simp
    have hshut : ∀ j e, j < ops.size → (listed.setIfInBounds i true).getD j true = true → e ∈ edges ops j → (listed.setIfInBounds i true).getD e true = true := by
      intro j e hj hlj hem
      by_cases hej : i = e
      · subst hej
        rw [Array.getD_eq_getD_getElem?]
        simp [hI.sz, hlt]
      · rw [getD_set_ne true hej]
        by_cases hij : i = j
        · subst hij
          exact he e hem
        · rw [getD_set_ne true hij] at hlj
          exact hI.shut j e hj hlj hem
    have hlater : ∀ j, m ≤ j → j < ops.size → (listed.setIfInBounds i true).getD j true = false := fun j hj hjl => by
      rw [getD_set_ne true (by omega)]
      exact hI.later j hj hjl
    have hfrm : ∀ (oi : Oper) (v : Value), ops[i]? = some oi → Fr ops ts a0 (a.put oi.dst v) := by
      intro oi v hoi
      refine ⟨?_, ?_, ?_⟩
      · rw [← hI.fr.size]
        unfold Act.put
        split <;> simp
      · rw [← hI.fr.defers]
        unfold Act.put
        split <;> rfl
      · intro t ht
        rw [← hI.fr.off t ht]
        cases hd : oi.dst with
        | none => rfl
        | some d =>
          have hne : d ≠ t := fun e => by have := hts i t him (by rw [hdi oi hoi, hd, e]); rw [ht] at this; cases this
          simp [Act.put, Array.getElem?_setIfInBounds_ne hne]
    have hsz' : (listed.setIfInBounds i true).size = ops.size := by rw [Array.size_setIfInBounds]; exact hI.sz
    have hput : ∀ (oi : Oper) (v : Value) (t : Tmp), ops[i]? = some oi → dstAt ops i = some t → (a.put oi.dst v).tmps[t]? = some v := fun oi v t hoi ht => by
      have h1 := hdst i t him ht
      rw [hdi oi hoi] at ht
      rw [ht]
      simp [Act.put, hI.fr.size, h1]
    have hkeep : ∀ (oi : Oper) (v : Value) (j : Nat) (t : Tmp), ops[i]? = some oi → i ≠ j → dstAt ops j = some t → (a.put oi.dst v).tmps[t]? = a.tmps[t]? := fun oi v j t hoi hij ht => by
      cases hd : oi.dst with
      | none => rfl
      | some d =>
        have hne : d ≠ t := fun e => hij (dst_ne hok (by rw [hdi oi hoi, hd, e]) ht)
        simp [Act.put, Array.getElem?_setIfInBounds_ne hne]
    have hself : (listed.setIfInBounds i true).getD i true = true := by
      rw [Array.getD_eq_getD_getElem?]
      simp [hI.sz, hlt]
    by_cases his : i = s
    · -- the writing one
      subst his
      rcases hc2 with ⟨h1, rfl⟩ | ⟨h1, _⟩
      · have hknown : Known ops F i a wf := fun j t hr ht => by
          obtain ⟨h2, h3⟩ := reach_listed hok hI.shut _ i j hlt he hr
          have hji : j ≠ i := fun e => by rw [e, hl] at h3; cases h3
          have hjm : j < m := by
            rcases Nat.lt_or_ge j m with h | h
            · exact h
            · have := hI.later j h h2
              rw [h3] at this
              cases this
          exact hval j t hjm hji h3 ht
        obtain ⟨oi, hoi, hK⟩ := hst a wf hx hI.fr hknown
        refine wpOp_step hoi (fun K' hK' => hK K' (fun w2 hw2 => ?_))
        have h3 := hK' a w2
        refine h3 (ih _ _ _ hcnt ⟨hsz', hI.fr, ⟨wf, hx, ?_, Or.inr ⟨hself, hw2⟩⟩, hshut, hlater⟩)
        intro j t hj hne hlj htj
        rw [getD_set_ne true (fun e => hne e.symm)] at hlj
        exact hval j t hj hne hlj htj
      · rw [h1] at hl
        cases hl
    · have hknown : Known ops F i a wf := fun j t hr ht => by
        obtain ⟨h2, h3⟩ := reach_listed hok hI.shut _ i j hlt he hr
        have hjs : j ≠ s := fun e => by rw [e, hnos i him his] at hr; cases hr
        have hjm : j < m := by
          rcases Nat.lt_or_ge j m with h | h
          · exact h
          · have := hI.later j h h2
            rw [h3] at this
            cases this
        exact hval j t hjm hjs h3 ht
      have hgo : ∀ (oi : Oper) (v : Value) (wf' : World), ops[i]? = some oi → F i v wf' → Ext wf wf' → ∀ j t, j < m → j ≠ s → (listed.setIfInBounds i true).getD j true = true → dstAt ops j = some t → ∃ v', (a.put oi.dst v).tmps[t]? = some v' ∧ F j v' wf' := by
        intro oi v wf' hoi hv hx' j t hj hne hlj htj
        by_cases hij : i = j
        · subst hij
          exact ⟨v, hput oi v t hoi htj, hv⟩
        · rw [getD_set_ne true hij] at hlj
          obtain ⟨u, hu, hfu⟩ := hval j t hj hne hlj htj
          exact ⟨u, (hkeep oi v j t hoi hij htj).trans hu, hF j u wf wf' hfu hx'⟩
      have hls : (listed.setIfInBounds i true).getD s true = listed.getD s true := getD_set_ne true his
      rcases hs i him his with hp | ⟨hr, hmst⟩
      · have hww : w = wf ∨ ∃ u, ST u wf w := hc2.elim (fun h => Or.inl h.2.symm) (fun h => Or.inr ⟨_, h.2⟩)
        obtain ⟨oi, hoi, hK⟩ := hp a w wf hx hww hI.fr hknown
        refine wpOp_step hoi (fun K' hK' => hK K' (fun v hv => hK' _ _ ?_))
        refine ih _ _ _ hcnt ⟨hsz', hfrm oi v hoi, ⟨wf, hx, hgo oi v wf hoi hv (Ext.refl _), ?_⟩, hshut, hlater⟩
        rw [hls]
        rcases hc2 with h | ⟨h1, h2⟩
        · exact Or.inl h
        · refine Or.inr ⟨h1, hcong _ _ _ _ (fun j t hr ht => ?_) h2⟩
          have hij : i ≠ j := fun e => by
            subst e
            have := (reach_listed hok hI.shut _ s i (by omega) (fun e he' => hI.shut s e (by omega) h1 he') hr).2
            rw [this] at hl
            cases hl
          simp only [Array.getD_eq_getD_getElem?]
          rw [hkeep oi v j t hoi hij ht]
      · rcases hc2 with ⟨h1, rfl⟩ | ⟨h1, _⟩
        · obtain ⟨oi, hoi, hK⟩ := hmst a wf hx hI.fr hknown
          refine wpOp_step hoi (fun K' hK' => hK K' (fun v w' hv hx' => hK' _ _ ?_))
          refine ih _ _ _ hcnt ⟨hsz', hfrm oi v hoi, ⟨w', hx.trans hx', hgo oi v w' hoi hv hx', Or.inl ⟨by rw [hls]; exact h1, rfl⟩⟩, hshut, hlater⟩
        · exfalso
          have := (reach_listed hok hI.shut _ s i (by omega) (fun e he' => hI.shut s e (by omega) h1 he') hr).2
          rw [this] at hl
          cases hl
def stOk (ops : Array Oper) (m s : Nat) (early late : List Nat) : Bool :=
  decide (s < m) && decide (m ≤ ops.size) && (List.range m).all fun i => i == s || (!reach ops ops.size i s && (late.contains i || (early.contains i && reach ops ops.size s i)))
theorem mono_region_store_tail {id : Nat} {a0 : Act} {w0 : World} (F : Nat → Value → World → Prop) (ST : (Tmp → Value) → World → World → Prop) (m s : Nat) (early late : List Nat) (ts : List Tmp) (rest : List Oper) (hm : P.follows .mixedOrders = true) (hn : ops.toList.drop m = rest) (hok : okOps ops = true) (hch : chained ops m = true) (hao : stOk ops m s early late = true) (hsd : dstAt ops s = none)
    (hts : ((ops.toList.take m).filterMap (·.dst) == ts && ts.all fun t => decide (t < a0.tmps.size)) = true) (hF : ∀ i, Stable (F i))
    (hcong : ∀ (x y : Tmp → Value) (w w2 : World), (∀ j t, reach ops ops.size s j = true → dstAt ops j = some t → x t = y t) → ST x w w2 → ST y w w2)
    (hs : ∀ i ∈ early, MStep P ops Q ts a0 w0 F i) (hp : ∀ i ∈ late, LStep P ops Q ts a0 w0 F ST i) (hst : SStep P ops Q ts a0 w0 F ST s)
    (hend : ∀ (val : Tmp → Value) (wf w : World), Ext w0 wf → (∀ i t, i < m → i ≠ s → dstAt ops i = some t → F i (val t) wf) → ST val wf w → wpList P ops Q rest (putT a0 ts val) w) : (Code.region id ops true).wp P Q a0 w0 := by
  unfold stOk at hao
  simp only [Bool.and_eq_true, decide_eq_true_eq, List.all_eq_true, List.mem_range, Bool.or_eq_true, beq_iff_eq, Bool.not_eq_true'] at hao
  obtain ⟨⟨hsm, hmn⟩, hcl⟩ := hao
  subst hn
  rw [Bool.and_eq_true, beq_iff_eq] at hts
  obtain ⟨hts, hlt⟩ := hts
  have hdst : ∀ i t, i < m → dstAt ops i = some t → t ∈ ts := by
    intro i t him h
    rw [← hts]
    unfold dstAt at h
    cases ho : ops[i]? with
    | none => rw [ho] at h; cases h
    | some o =>
      rw [ho] at h
      refine List.mem_filterMap.2 ⟨o, ?_, h⟩
      have h1 : ops.toList[i]? = some o := by rw [Array.getElem?_toList]; exact ho
      exact List.mem_of_getElem? (l := ops.toList.take m) (i := i) (by rw [List.getElem?_take, if_pos him]; exact h1)
  have hdlt : ∀ i t, i < m → dstAt ops i = some t → t < a0.tmps.size := fun i t him h => by simpa using List.all_eq_true.1 hlt t (hdst i t him h)
  refine wp_region_any hm (monoB_all (ts := ts) (s := s) hmn hsm hsd (fun i t him h => List.contains_iff_mem.2 (hdst i t him h)) (a0 := a0) (w0 := w0.drew) (F := F) (ST := ST) hok hch hF hcong (fun i hi hne => ?_) (fun i hi hne => ?_) (fun a w hx => hst a w ((Ext.drew w0).trans hx)) hdlt ?_ _ _ _ _ ?_ ⟨by simp, ⟨rfl, rfl, fun _ _ => rfl⟩, ⟨w0.drew, Ext.refl _, ?_, Or.inl ⟨?_, rfl⟩⟩, ?_, ?_⟩)
  · rcases hcl i hi with h | ⟨_, h | ⟨h1, h2⟩⟩
    · exact absurd h hne
    · exact Or.inl (fun a w wf hx hw => hp i (List.contains_iff_mem.1 h) a w wf ((Ext.drew w0).trans hx) hw)
    · exact Or.inr ⟨h2, fun a w hx => hs i (List.contains_iff_mem.1 h1) a w ((Ext.drew w0).trans hx)⟩
  · rcases hcl i hi with h | ⟨h, _⟩
    · exact absurd h hne
    · exact h
  · intro a wf w hx hfr hv hST
    have key : a = putT a0 ts (fun t => a.tmps.getD t undef) := by
      obtain ⟨h1, h2, h3, h4⟩ := putT_spec (fun t => a.tmps.getD t undef) ts a0
      have ht : a.tmps = (putT a0 ts (fun t => a.tmps.getD t undef)).tmps := by
        refine Array.ext_getElem? (fun t => ?_)
        by_cases hmem : t ∈ ts
        · have hl : t < a0.tmps.size := by simpa using List.all_eq_true.1 hlt t hmem
          rw [h4 t hmem hl, Array.getD_eq_getD_getElem?]
          rw [Array.getElem?_eq_getElem (by rw [hfr.size]; exact hl)]
          rfl
        · rw [h3 t hmem]
          refine hfr.off t (by cases h : ts.contains t with | false => rfl | true => exact absurd (List.contains_iff_mem.1 h) hmem)
      have hd : a.defers = (putT a0 ts (fun t => a.tmps.getD t undef)).defers := by rw [h2]; exact hfr.defers
      cases a
      cases hp : putT a0 ts _
      rw [hp] at ht hd
      simp only at ht hd
      rw [ht, hd]
    rw [key]
    refine hend _ wf w ((Ext.drew w0).trans hx) (fun i t him hne h => ?_) hST
    obtain ⟨v, h1, h2⟩ := hv i t him hne h
    rw [Array.getD_eq_getD_getElem?, h1]
    exact h2
  · simp
  · intro i t hi hne h
    rw [Array.getD_eq_getD_getElem?, Array.getElem?_replicate, if_pos (by omega)] at h
    cases h
  · rw [Array.getD_eq_getD_getElem?, Array.getElem?_replicate, if_pos (by omega)]
    rfl
  · intro i j hi h
    rw [Array.getD_eq_getD_getElem?, Array.getElem?_replicate, if_pos hi] at h
    cases h
  · intro i _ hi
    rw [Array.getD_eq_getD_getElem?, Array.getElem?_replicate, if_pos hi]
    rfl
end
end Go.Proofs.Ytfpmcplfmmhoiaa.Mono
namespace Go.Proofs.Ytfpmcplfmmhoiaa.QModelPlays
open Go.RowKit Go.Proofs.YtfpmcplfmmhoiaaW.PrintWords Go.Proofs.YtfpmcplfmmhoiaaW.PrintLast Go.Proofs.YtfpmcplfmmhoiaaW.PrintMore
attribute [local go_sem] max2_int min2_int max_two min_two max_three min_three max_four min_four   -- for this text's walks alone
set_option linter.unusedVariables false
set_option linter.unusedSimpArgs false
theorem info5 : (Try.prog.info? 5).map (fun i => (i.zero, i.size, i.bytes)) = some (some (.int .u8 0), 1, 1) := by kernel_rfl
end Go.Proofs.Ytfpmcplfmmhoiaa.QModelPlays
namespace Go.Proofs.Ytfpmcplfmmhoiaa.QModelPlays
open Go.RowKit Go.Proofs.YtfpmcplfmmhoiaaW.PrintWords Go.Proofs.YtfpmcplfmmhoiaaW.PrintLast Go.Proofs.YtfpmcplfmmhoiaaW.PrintMore
attribute [local go_sem] max2_int min2_int max_two min_two max_three min_three max_four min_four   -- for this text's walks alone
set_option linter.unusedVariables false
set_option linter.unusedSimpArgs false
def incunableref01_Ints.l0 : Nat → List Int → List Int → Int → Option (Bool)
  | 0, _, _, _ => none
  | k + 1, x0, x1, x5 => if x5 < (x0.length : Int) then (if 0 ≤ x5 then (if x5 < (x1.length : Int) then (if (rd x0 x5) = (rd x1 x5) then (incunableref01_Ints.l0 k x0 x1 (wrap64 (x5 + 1))) else (some false)) else (none)) else (none)) else (some true)
def incunableref01_Ints.f (k : Nat) (l0 : List Int) (l1 : List Int) : Option (Bool) := if (l0.length : Int) = (l1.length : Int) then (incunableref01_Ints.l0 k l0 l1 0) else (some false)
theorem incunableref01_Ints.mono_l : ∀ k, (∀ y0 y1 y2, LeO (incunableref01_Ints.l0 k y0 y1 y2) (incunableref01_Ints.l0 (k + 1) y0 y1 y2))
  | 0 => fun _ _ _ r h => by simp [incunableref01_Ints.l0] at h
  | k + 1 => by
    have ih0 := incunableref01_Ints.mono_l k
    · intro y0 y1 y2
      unfold incunableref01_Ints.l0
      repeat' first
      | (with_reducible exact ih0 _ _ _)
      | (with_reducible exact LeO.refl _)
      | (with_reducible exact LeO.none _)
      | (with_reducible refine LeO.ite ?_ ?_)
      | (with_reducible refine LeO.bind ?_ (fun _ => ?_))
      | exact ih0 _ _ _
      | exact LeO.none _
      | refine LeO.ite ?_ ?_
      | refine LeO.bind ?_ (fun _ => ?_)
theorem incunableref01_Ints.mono : ∀ a0 a1 k, LeO (incunableref01_Ints.f k a0 a1) (incunableref01_Ints.f (k + 1) a0 a1) := by
  intro a0 a1 k
  have ih0 := incunableref01_Ints.mono_l k
  unfold incunableref01_Ints.f
  repeat' first
      | (with_reducible exact ih0 _ _ _)
      | (with_reducible exact LeO.refl _)
      | (with_reducible exact LeO.none _)
      | (with_reducible refine LeO.ite ?_ ?_)
      | (with_reducible refine LeO.bind ?_ (fun _ => ?_))
      | exact ih0 _ _ _
      | exact LeO.none _
      | refine LeO.ite ?_ ?_
      | refine LeO.bind ?_ (fun _ => ?_)
set_option maxHeartbeats 8000000 in
set_option maxRecDepth 100000 in
theorem incunableref01_Ints.calls (k : Nat) (A0 : Option Addr) (c0 : Nat) (l0 : List Int) (A1 : Option Addr) (c1 : Nat) (l1 : List Int) (r : Bool) (w : World) (hr0 : Kd.C (Kd.int .i64) w A0 l0.length l0) (hc0 : l0.length ≤ c0) (hr1 : Kd.C (Kd.int .i64) w A1 l1.length l1) (hc1 : l1.length ≤ c1) (h : incunableref01_Ints.f k l0 l1 = some r) :
    Calls Try.prog 14 #[.slice A0 l0.length c0, .slice A1 l1.length c1] w fun e w' => e = .returned (.bool r) ∧ Drawn0 w w' := by
  have HR0 := Aside0.mk hr0
  have HC0 := Aside0.mk hc0
  clear hr0 hc0
  have HR1 := Aside0.mk hr1
  have HC1 := Aside0.mk hc1
  clear hr1 hc1
  have H : (if (l0.length : Int) = (l1.length : Int) then (incunableref01_Ints.l0 k l0 l1 0) else (some false)) = some r := h
  clear h
  by_cases c3 : (l0.length : Int) = (l1.length : Int)
  · rw [if_pos c3] at H
    have c3b0 : ((l0.length : Int) == (l1.length : Int)) = true := beq_iff_eq.mpr c3
    have c3b1 : ((l0.length : Int) != (l1.length : Int)) = false := bne_eq_false_iff_eq.mpr c3
    have c3b2 : (l0.length == l1.length) = true := by first | simpa using c3 | (simp at c3 ⊢; omega)
    clear c3
    have H' := Aside0.mk H
    clear H
    go_enter Try.func14, Try.ntmps14
    go_wp2
    repeat (go_quiet (fail); try go_wp2)
    go_loopg [5] k (fun kq v5 w' => ∃ (x5_1 : Int), v5 = .int .i64 x5_1 ∧ Aside0 (incunableref01_Ints.l0 kq l0 l1 x5_1 = some r) ∧ Aside0 (kq ≤ k) ∧ Drawn0 w w')
    case atStart => exact ⟨(0), (by first | rfl | (simp; done) | (simp [*]; done)), H', ⟨Nat.le_refl _⟩, by repeat (first | exact Drawn0.refl _ | apply Drawn0.step)⟩
    case round =>
      clear H'
      try clear c1
      try clear p2
      try clear c3
      try clear c3b0
      try clear c3b1
      try clear c3b2
      obtain ⟨x5_1, rfl, HA, HK1, ⟨m1, rfl⟩⟩ := hrel
      cases gk with
      | zero => exact absurd HA.out (by simp [incunableref01_Ints.l0])
      | succ k1 =>
        have H := HA.out
        clear HA
        simp only [incunableref01_Ints.l0] at H
        by_cases c4 : x5_1 < (l0.length : Int)
        · rw [if_pos c4] at H
          have c4b0 : decide (x5_1 < (l0.length : Int)) = true := decide_eq_true c4
          clear c4
          by_cases c5 : 0 ≤ x5_1
          · rw [if_pos c5] at H
            have c5b0 : decide (0 ≤ x5_1) = true := decide_eq_true c5
            clear c5
            by_cases c6 : x5_1 < (l1.length : Int)
            · rw [if_pos c6] at H
              have c6b0 : decide (x5_1 < (l1.length : Int)) = true := decide_eq_true c6
              clear c6
              by_cases c7 : (rd l0 x5_1) = (rd l1 x5_1)
              · rw [if_pos c7] at H
                have c7b0 : ((rd l0 x5_1) == (rd l1 x5_1)) = true := beq_iff_eq.mpr c7
                have c7b1 : ((rd l0 x5_1) != (rd l1 x5_1)) = false := bne_eq_false_iff_eq.mpr c7
                clear c7
                have H' := Aside0.mk H
                clear H
                have p223 : 0 ≤ (x5_1 : Int) := of_decide_eq_true (by first | (with_reducible assumption) | assumption)
                have q223 : x5_1 < (l0.length : Int) := of_decide_eq_true (by first | (with_reducible assumption) | assumption)
                obtain ⟨ad223, e223, hx223_0⟩ := Kd.at_int HR0.out x5_1 p223 q223
                cases e223
                replace p223 := eq_true p223
                replace q223 := eq_true q223
                have p224 : 0 ≤ (x5_1 : Int) := of_decide_eq_true (by first | (with_reducible assumption) | assumption)
                have q224 : x5_1 < (l1.length : Int) := of_decide_eq_true (by first | (with_reducible assumption) | assumption)
                obtain ⟨ad224, e224, hx224_0⟩ := Kd.at_int HR1.out x5_1 p224 q224
                cases e224
                replace p224 := eq_true p224
                replace q224 := eq_true q224
                go_wp2
                repeat (go_quiet (fail); try go_wp2)
                go_roundg k1
                case measure => have := HK1.out; omega
                case rel => exact ⟨(wrap64 (x5_1 + 1)), (by first | rfl | (simp; done) | (simp [*]; done)), H', ⟨by have := HK1.out; omega⟩, by repeat (first | exact Drawn0.refl _ | apply Drawn0.step)⟩
              · rw [if_neg c7] at H
                have c7b0 : ((rd l0 x5_1) == (rd l1 x5_1)) = false := beq_eq_false_iff_ne.mpr c7
                have c7b1 : ((rd l0 x5_1) != (rd l1 x5_1)) = true := bne_iff_ne.mpr c7
                obtain rfl := Option.some.inj H
                have p223 : 0 ≤ (x5_1 : Int) := of_decide_eq_true (by first | (with_reducible assumption) | assumption)
                have q223 : x5_1 < (l0.length : Int) := of_decide_eq_true (by first | (with_reducible assumption) | assumption)
                obtain ⟨ad223, e223, hx223_0⟩ := Kd.at_int HR0.out x5_1 p223 q223
                cases e223
                replace p223 := eq_true p223
                replace q223 := eq_true q223
                have p224 : 0 ≤ (x5_1 : Int) := of_decide_eq_true (by first | (with_reducible assumption) | assumption)
                have q224 : x5_1 < (l1.length : Int) := of_decide_eq_true (by first | (with_reducible assumption) | assumption)
                obtain ⟨ad224, e224, hx224_0⟩ := Kd.at_int HR1.out x5_1 p224 q224
                cases e224
                replace p224 := eq_true p224
                replace q224 := eq_true q224
                go_wp2
                repeat (go_quiet (fail); try go_wp2)
                go_ret
                exact ⟨by first | rfl | (simp; done) | (simp [*]; done), by repeat (first | exact Drawn0.refl _ | apply Drawn0.step)⟩
            · rw [if_neg c6] at H
              exact absurd H (by simp)
          · rw [if_neg c5] at H
            exact absurd H (by simp)
        · rw [if_neg c4] at H
          have c4b0 : decide (x5_1 < (l0.length : Int)) = false := decide_eq_false c4
          clear c4
          obtain rfl := Option.some.inj H
          go_wp2
          repeat (go_quiet (fail); try go_wp2)
          go_ret
          exact ⟨by first | rfl | (simp; done) | (simp [*]; done), by repeat (first | exact Drawn0.refl _ | apply Drawn0.step)⟩
  · rw [if_neg c3] at H
    have c3b0 : ((l0.length : Int) == (l1.length : Int)) = false := beq_eq_false_iff_ne.mpr c3
    have c3b1 : ((l0.length : Int) != (l1.length : Int)) = true := bne_iff_ne.mpr c3
    have c3b2 : (l0.length == l1.length) = false := by first | simpa using c3 | (simp at c3 ⊢; omega)
    obtain rfl := Option.some.inj H
    go_enter Try.func14, Try.ntmps14
    go_wp2
    repeat (go_quiet (fail); try go_wp2)
    go_ret
    exact ⟨by first | rfl | (simp; done) | (simp [*]; done), by repeat (first | exact Drawn0.refl _ | apply Drawn0.step)⟩
end Go.Proofs.Ytfpmcplfmmhoiaa.QModelPlays
namespace Go.Proofs.Ytfpmcplfmmhoiaa.QModelFits
open Go.RowKit Go.Proofs.YtfpmcplfmmhoiaaW.PrintWords Go.Proofs.YtfpmcplfmmhoiaaW.PrintLast Go.Proofs.YtfpmcplfmmhoiaaW.PrintMore Go.Proofs.Ytfpmcplfmmhoiaa.Mono Go.Proofs.Ytfpmcplfmmhoiaa.Box
set_option linter.unusedVariables false
set_option linter.unusedSimpArgs false
abbrev Sl := Option Addr × Nat × Nat
def encS : Sl → Value := fun p => .slice p.1 p.2.1 p.2.2
def kS : Kd Sl := Kd.scalar encS (fun _ => rfl)
abbrev SR (w : World) (B : Nat) (v : Value) (vs : List Sl) : Prop := kS.R 24 w B (fun _ => True) v vs
abbrev TR (w : World) (B : Nat) (v : Value) (bs : List Bool) : Prop := Kd.bool.R 4 w B (fun _ => True) v bs
theorem infoS : (Try.prog.info? 24).map (fun i => (i.zero, i.size, i.bytes)) = some (some nil_, 1, 24) := by kernel_rfl
theorem infoT : (Try.prog.info? 4).map (fun i => (i.zero, i.size, i.bytes)) = some (some (.bool false), 1, 1) := by kernel_rfl
def HasR (w0 w : World) (p : Sl) (xs : List Int) : Prop := p.2.1 = xs.length ∧ p.2.1 ≤ p.2.2 ∧ (Kd.C (Kd.int .u8) w0 p.1 xs.length xs ∨ BR w w0.heap.size (encS p) xs)
section
variable {w0 w w' : World} {p : Sl} {xs : List Int} {gm n : Nat} {D : DataW Value}
theorem HasR.reads (h : HasR w0 w p xs) (hb : Below w0.heap.size w0 w) : Kd.C (Kd.int .u8) w p.1 xs.length xs ∧ xs.length ≤ p.2.2 := by
  obtain ⟨h1, h2, h3 | h3⟩ := h
  · exact ⟨Kd.C_below h3 hb, by omega⟩
  · obtain ⟨a, b, c⟩ := Kd.R_reads' h3
    exact ⟨h1 ▸ c, by omega⟩
theorem HasR.keep (h : HasR w0 w p xs) (hk : BR w w0.heap.size (encS p) xs → BR w' w0.heap.size (encS p) xs) : HasR w0 w' p xs := ⟨h.1, h.2.1, h.2.2.imp (fun h => h) hk⟩
theorem HasR.nil : HasR w0 w (none, 0, 0) [] := ⟨rfl, Nat.le_refl _, .inr (Kd.R_nil _ _ _ _ _)⟩
end
theorem sc_move {α : Type} {enc : α → Value} {h1 : ∀ x, (enc x).oneCell' = true} {e B : Nat} {w w1 : World} {v : Value} {xs : List α} (h : (Kd.scalar enc h1).R e w B (fun _ => True) v xs) (hm : ∀ k, v.ownBlock = some k → w1.heap[k]? = w.heap[k]?) : (Kd.scalar enc h1).R e w1 B (fun _ => True) v xs := by
  have h2 := Kd.R_tight (d := Kd.scalar enc h1) rfl h
  exact Kd.R_mono (Kd.R_move h2 (fun k hk => hm k hk.symm)) (fun _ _ => trivial)
structure Pst (w0 w : World) (gh ch gi ci n : Nat) (vs : List Sl) (bs : List Bool) (G : Int → List Int) (K : Int → Bool) : Prop where
  hr : SR w w0.heap.size (.slice (some ⟨gh, 0, none⟩) n ch) vs
  ir : TR w w0.heap.size (.slice (some ⟨gi, 0, none⟩) n ci) bs
  has : ∀ i, i < n → HasR w0 w (vs.getD i (none, 0, 0)) (G (i : Int))
  isb : ∀ i, i < n → bs.getD i false = K (i : Int)
section
variable {w0 w w' : World} {gh ch gi ci n m gm : Nat} {vs : List Sl} {bs : List Bool} {G : Int → List Int} {K : Int → Bool} {D : DataW Value} {p : Sl} {xs : List Int}
theorem Pst.hcell (h : Pst w0 w gh ch gi ci n vs bs G K) : ∃ c, w.heap[gh]? = some (.cells c 24 (0, 0)) := Kd.R_typed h.hr gh rfl
theorem Pst.icell (h : Pst w0 w gh ch gi ci n vs bs G K) : ∃ c, w.heap[gi]? = some (.cells c 4 (0, 0)) := Kd.R_typed h.ir gi rfl
theorem Pst.hge (h : Pst w0 w gh ch gi ci n vs bs G K) : w0.heap.size ≤ gh := Kd.R_base h.hr gh rfl
theorem Pst.ige (h : Pst w0 w gh ch gi ci n vs bs G K) : w0.heap.size ≤ gi := Kd.R_base h.ir gi rfl
theorem Pst.ne (h : Pst w0 w gh ch gi ci n vs bs G K) : gi ≠ gh := fun e => by
  obtain ⟨c1, h1⟩ := h.hcell
  obtain ⟨c2, h2⟩ := h.icell
  rw [e, h1] at h2
  injection h2 with h2
  injection h2 with _ h2
  exact absurd h2 (by decide)
theorem Pst.below (h : Pst w0 w gh ch gi ci n vs bs G K) (hb : Below w.heap.size w w') : Pst w0 w' gh ch gi ci n vs bs G K :=
  ⟨Kd.R_below h.hr hb, Kd.R_below h.ir hb, fun i hi => (h.has i hi).keep (fun z => Kd.R_below z hb), h.isb⟩
theorem Pst.tou (h : Pst w0 w gh ch gi ci n vs bs G K) (hm : MM w gm m D) (ht : Tou (fun k => k = gm) w w') : Pst w0 w' gh ch gi ci n vs bs G K := by
  obtain ⟨c1, h1⟩ := h.hcell
  obtain ⟨c2, h2⟩ := h.icell
  refine ⟨sc_move h.hr (fun k hk => ?_), sc_move h.ir (fun k hk => ?_), fun i hi => (h.has i hi).keep (fun z => br_tou z hm ht), h.isb⟩
  · obtain rfl : gh = k := Option.some.inj hk
    exact ht.block _ (blk_lt h1) (cells_ne_map h1 hm)
  · obtain rfl : gi = k := Option.some.inj hk
    exact ht.block _ (blk_lt h2) (cells_ne_map h2 hm)
theorem Pst.congr {G' : Int → List Int} {K' : Int → Bool} (h : Pst w0 w gh ch gi ci n vs bs G K) (hG : ∀ i : Nat, i < n → G' (i : Int) = G (i : Int)) (hK : ∀ i : Nat, i < n → K' (i : Int) = K (i : Int)) : Pst w0 w gh ch gi ci n vs bs G' K' :=
  ⟨h.hr, h.ir, fun i hi => by rw [hG i hi]; exact h.has i hi, fun i hi => by rw [hK i hi]; exact h.isb i hi⟩
theorem Pst.set1 (h : Pst w0 w gh ch gi ci n vs bs G K) (s : Nat) (hs : s < n) (hp : HasR w0 w p xs) : Pst w0 (w.setCell ⟨gh, s, none⟩ (encS p)) gh ch gi ci n (vs.set s p) bs (upd G s xs) K := by
  obtain ⟨c1, h1⟩ := h.hcell
  have hn := (Kd.R_reads' h.hr).1
  have q1 := (Kd.R_putg h.hr (s : Int) p).1
  rw [Int.toNat_natCast] at q1
  refine ⟨q1, Kd.R_set h.ir h1 (fun q hq => by rcases List.mem_cons.1 hq with rfl | hq; exact (by decide); cases hq) s _, fun i hi => ?_, h.isb⟩
  have k1 : ∀ (p : Sl) (ys : List Int), BR w w0.heap.size (encS p) ys → BR (w.setCell ⟨gh, s, none⟩ (encS p)) w0.heap.size (encS p) ys := fun p ys z => Kd.R_set z h1 (by decide) s _
  unfold upd
  by_cases e : i = s
  · subst e
    rw [if_pos rfl, show (vs.set i p).getD i (none, 0, 0) = p by simp [← hn, hi]]
    exact hp.keep (fun z => Kd.R_set z h1 (by decide) i _)
  · rw [if_neg (by omega), show (vs.set s p).getD i (none, 0, 0) = vs.getD i (none, 0, 0) by simp [List.getElem?_set_ne (fun z => e z.symm)]]
    exact (h.has i hi).keep (fun z => Kd.R_set z h1 (by decide) s _)
theorem Pst.set2 (h : Pst w0 w gh ch gi ci n vs bs G K) (s : Nat) (hs : s < n) (b : Bool) (hp : HasR w0 w p xs) : Pst w0 ((w.setCell ⟨gh, s, none⟩ (encS p)).setCell ⟨gi, s, none⟩ (.bool b)) gh ch gi ci n (vs.set s p) (bs.set s b) (upd G s xs) (fun t => if t = s then b else K t) := by
  have h' := h.set1 s hs hp
  obtain ⟨c2, h2⟩ := h'.icell
  have hn := (Kd.R_reads' h'.ir).1
  have q2 := (Kd.R_putg (enc := Value.bool) h'.ir (s : Int) b).1
  rw [Int.toNat_natCast] at q2
  refine ⟨Kd.R_set h'.hr h2 (fun q hq => by rcases List.mem_cons.1 hq with rfl | hq; exact (by decide); cases hq) s _, q2, fun i hi => (h'.has i hi).keep (fun z => Kd.R_set z h2 (by decide) s _), fun i hi => ?_⟩
  show (bs.set s b).getD i false = if (i : Int) = s then b else K i
  by_cases e : i = s
  · subst e
    rw [if_pos rfl]
    simp [← hn, hi]
  · rw [if_neg (by omega)]
    rw [show (bs.set s b).getD i false = bs.getD i false by simp [List.getElem?_set_ne (fun z => e z.symm)]]
    exact h.isb i hi
theorem Mst.pst2 {g : Nat} {sn sz : Int} {G2 : Int → List Int} (hM : Mst w0 w g gm sn sz m D G2) (h : Pst w0 w gh ch gi ci n vs bs G K) (s : Nat) (v : Value) (b : Bool) : Mst w0 ((w.setCell ⟨gh, s, none⟩ v).setCell ⟨gi, s, none⟩ (.bool b)) g gm sn sz m D G2 := by
  obtain ⟨c1, h1⟩ := h.hcell
  obtain ⟨c2, h2⟩ := h.icell
  have h3 : (w.setCell ⟨gh, s, none⟩ v).heap[gi]? = some (.cells c2 4 (0, 0)) := (Below.heap_setCell w _ _ gi h.ne).trans h2
  exact Mst.cell (Mst.cell hM h1 (by decide) (by decide) h.hge s v) h3 (by decide) (by decide) h.ige s _
theorem Mst.pst1 {g : Nat} {sn sz : Int} {G2 : Int → List Int} (hM : Mst w0 w g gm sn sz m D G2) (h : Pst w0 w gh ch gi ci n vs bs G K) (s : Nat) (v : Value) : Mst w0 (w.setCell ⟨gh, s, none⟩ v) g gm sn sz m D G2 := by
  obtain ⟨c1, h1⟩ := h.hcell
  exact Mst.cell hM h1 (by decide) (by decide) h.hge s v
theorem Pst.cellH (h : Pst w0 w gh ch gi ci n vs bs G K) (s : Nat) (hs : s < n) : w.cell? ⟨gh, s, none⟩ = some (encS (vs.getD s (none, 0, 0))) ∧ w.frozen? ⟨gh, s, none⟩ = false := by
  have h1 := Kd.R_celln (none, 0, 0) h.hr (s : Int) (by omega) (by omega)
  rw [Int.toNat_natCast] at h1
  have h2 : rdOf ((none, 0, 0) : Sl) vs (s : Int) = vs.getD s (none, 0, 0) := by
    unfold rdOf
    rw [Int.toNat_natCast]
  rw [h2] at h1
  exact h1
theorem Pst.cellI (h : Pst w0 w gh ch gi ci n vs bs G K) (s : Nat) (hs : s < n) : w.cell? ⟨gi, s, none⟩ = some (.bool (K (s : Int))) ∧ w.frozen? ⟨gi, s, none⟩ = false := by
  have h1 := Kd.R_celln (enc := Value.bool) false h.ir (s : Int) (by omega) (by omega)
  rw [Int.toNat_natCast] at h1
  have h2 : rdOf false bs (s : Int) = bs.getD s false := by
    unfold rdOf
    rw [Int.toNat_natCast]
  rw [h2, h.isb s hs] at h1
  exact h1
end
end Go.Proofs.Ytfpmcplfmmhoiaa.QModelFits
namespace Go.Proofs.Ytfpmcplfmmhoiaa.QModelFits
open Go.RowKit Go.Proofs.YtfpmcplfmmhoiaaW.PrintWords Go.Proofs.YtfpmcplfmmhoiaaW.PrintLast Go.Proofs.YtfpmcplfmmhoiaaW.PrintMore Go.Proofs.Ytfpmcplfmmhoiaa.Mono Go.Proofs.Ytfpmcplfmmhoiaa.Box
set_option linter.unusedVariables false
set_option linter.unusedSimpArgs false
set_option maxHeartbeats 1000000 in
theorem mod_New_bad (sn sz : Int) (w : World) (h : sn < 1 ∨ sn > 65536 ∨ sz < 1 ∨ sz > 8192) : Calls Try.prog 7 #[.int .i64 sn, .int .i64 sz] w fun e w' => e = .returned (.tuple #[.pointer none, .int .i64 2]) ∧ Below w.heap.size w w' := by
  by_cases h1 : sn < 1
  · have d1_ : decide (sn < 1) = true := decide_eq_true h1
    clear h
    go_enter Try.func7, Try.ntmps7
    go_wp2
    refine bodyPost_ret (results_list (rs := [.tmp 4, .tmp 5]) rfl (by simp) (.tmp (.tmp .nil))) rfl ?_
    exact ⟨rfl, Below.refl _ _⟩
  · have d1_ : decide (sn < 1) = false := decide_eq_false h1
    by_cases h2 : sn > 65536
    · have d2_ : decide (sn > 65536) = true := decide_eq_true h2
      clear h
      go_enter Try.func7, Try.ntmps7
      go_wp2
      refine bodyPost_ret (results_list (rs := [.tmp 4, .tmp 5]) rfl (by simp) (.tmp (.tmp .nil))) rfl ?_
      exact ⟨rfl, Below.refl _ _⟩
    · have d2_ : decide (sn > 65536) = false := decide_eq_false h2
      by_cases h3 : sz < 1
      · have d3_ : decide (sz < 1) = true := decide_eq_true h3
        clear h
        go_enter Try.func7, Try.ntmps7
        go_wp2
        refine bodyPost_ret (results_list (rs := [.tmp 4, .tmp 5]) rfl (by simp) (.tmp (.tmp .nil))) rfl ?_
        exact ⟨rfl, Below.refl _ _⟩
      · have d3_ : decide (sz < 1) = false := decide_eq_false h3
        have d4_ : decide (sz > 8192) = true := decide_eq_true (by omega)
        clear h
        go_enter Try.func7, Try.ntmps7
        go_wp2
        refine bodyPost_ret (results_list (rs := [.tmp 4, .tmp 5]) rfl (by simp) (.tmp (.tmp .nil))) rfl ?_
        exact ⟨rfl, Below.refl _ _⟩
theorem mod_Flush (g gm : Nat) (sn sz : Int) (w : World) (h : w.heap[g]? = some (MC gm sn sz)) (hs : 1 ≤ sn) : Calls Try.prog 13 #[.pointer (some ⟨g, 0, none⟩)] w fun e w' => e = .returned (.int .i64 0) ∧ Below w.heap.size w w' := by
  have H := Aside0.mk h
  have HS := Aside0.mk (if_pos ⟨Int.le_refl 0, by omega⟩ : (if (0 : Int) ≤ 0 ∧ 0 < sn then (0 : Int) else 2) = 0)
  clear h hs
  go_enter Try.func13, Try.ntmps13
  go_wp2_with (go_at_call 15; (with_reducible refine (mod_may g gm sn sz 0 _ H.out).mono ?_); rw [HS.out]; rintro e w1 ⟨rfl, hb⟩; have HB := Aside0.mk hb; clear hb)
  go_ret
  exact ⟨rfl, HB.out⟩
theorem want_succ (j : Nat) (K : Int → Bool) : want ((j + 1 : Nat) : Int) K = want (j : Int) K ++ (if K (j : Int) = true then [(j : Int)] else []) := by
  unfold want
  rw [Int.toNat_natCast, Int.toNat_natCast, List.range_succ, List.map_append, List.filter_append]
  congr 1
  show List.filter K [(j : Int)] = _
  rw [List.filter_cons]
  split <;> rfl
theorem ints_l0 (xs : List Int) (hx : xs.length ≤ 1000000) : ∀ (d i k : Nat), i + d = xs.length → d < k → QModelPlays.incunableref01_Ints.l0 k xs xs (i : Int) = some true := by
  intro d
  induction d with
  | zero =>
    intro i k hi hk
    obtain ⟨k, rfl⟩ : ∃ k', k = k' + 1 := ⟨k - 1, by omega⟩
    unfold QModelPlays.incunableref01_Ints.l0
    rw [if_neg (by omega)]
  | succ d ih =>
    intro i k hi hk
    obtain ⟨k, rfl⟩ : ∃ k', k = k' + 1 := ⟨k - 1, by omega⟩
    unfold QModelPlays.incunableref01_Ints.l0
    rw [if_pos (by omega), if_pos (by omega), if_pos (by omega), if_pos rfl]
    have hw : wrap64 ((i : Int) + 1) = ((i + 1 : Nat) : Int) := by unfold wrap64; omega
    rw [hw]
    exact ih (i + 1) k (by omega) (by omega)
theorem ints_calls (A1 A2 : Option Addr) (c1 c2 : Nat) (xs : List Int) (w : World) (h1 : Kd.C (Kd.int .i64) w A1 xs.length xs) (hc1 : xs.length ≤ c1) (h2 : Kd.C (Kd.int .i64) w A2 xs.length xs) (hc2 : xs.length ≤ c2) (hx : xs.length ≤ 1000000) :
    Calls Try.prog 14 #[.slice A1 xs.length c1, .slice A2 xs.length c2] w fun e w' => e = .returned (.bool true) ∧ Below w.heap.size w w' := by
  refine (QModelPlays.incunableref01_Ints.calls (xs.length + 1) A1 c1 xs A2 c2 xs true w h1 hc1 h2 hc2 ?_).mono (fun e w' h => ⟨h.1, h.2.below⟩)
  unfold QModelPlays.incunableref01_Ints.f
  rw [if_pos rfl]
  exact ints_l0 xs hx xs.length 0 _ (by omega) (by omega)
def ini (Z : Nat) (j : Nat) : Int → List Int := fun t => if t < (j : Int) then nul (Z : Int) else []
theorem ini_succ (Z j : Nat) : upd (ini Z j) (j : Int) (nul (Z : Int)) = ini Z (j + 1) := by
  funext t
  unfold upd ini
  by_cases h : t = (j : Int)
  · rw [if_pos h, if_pos (by omega)]
  · rw [if_neg h]
    by_cases h2 : t < (j : Int)
    · rw [if_pos h2, if_pos (by omega)]
    · rw [if_neg h2, if_neg (by omega)]
theorem Pst.start {w0 w : World} {gh ch gi ci N Z : Nat} (hr : SR w w0.heap.size (.slice (some ⟨gh, 0, none⟩) N ch) (List.replicate N (none, 0, 0))) (ir : TR w w0.heap.size (.slice (some ⟨gi, 0, none⟩) N ci) (List.replicate N false)) : Pst w0 w gh ch gi ci N (List.replicate N (none, 0, 0)) (List.replicate N false) (ini Z 0) (fun _ => false) := by
  refine ⟨hr, ir, fun i hi => ?_, fun i hi => ?_⟩
  · have h1 : ini Z 0 (i : Int) = [] := by
      unfold ini
      rw [if_neg (by omega)]
    rw [h1, show (List.replicate N ((none, 0, 0) : Sl)).getD i (none, 0, 0) = (none, 0, 0) by simp [hi]]
    exact HasR.nil
  · simp [hi]
theorem infoI : (Try.prog.info? 3).map (fun i => (i.zero, i.size, i.bytes)) = some (some (.int .i64 0), 1, 8) := by kernel_rfl
theorem Mst.grown {w0 w w' : World} {g gm n : Nat} {sn sz : Int} {D : DataW Value} {G : Int → List Int} {o : Option Nat} {T : TypeId} (h : Mst w0 w g gm sn sz n D G) (hty : ∀ k, o = some k → ∃ c, w.heap[k]? = some (.cells c T (0, 0))) (hT : T ≠ 5) (hT2 : T ≠ 49) (hbase : ∀ k, o = some k → w0.heap.size ≤ k) (hg : w.grownBy w' o) : Mst w0 w' g gm sn sz n D G := by
  refine ⟨(hg.block g (blk_lt h.rc) (fun e => ?_)).trans h.rc, mm_move h.mp (hg.block _ (World.ownsMap.lt h.mp) (fun e => ?_)), fun s => (h.sec s).keep (fun v hv => br_move hv (fun k hk => hg.block k (br_lt hv hk) (fun e => ?_))), Below.trans h.bel ⟨hg.os, hg.tape, hg.output, hg.size, fun k hk => hg.block k (Nat.lt_of_lt_of_le hk h.bel.size) (fun e => by have := hbase k e.symm; omega)⟩, h.hg, h.hm⟩
  · obtain ⟨c, hc⟩ := hty g e.symm
    rw [h.rc] at hc
    injection hc with hc
    injection hc with _ hc
    exact hT2 hc.symm
  · obtain ⟨c, hc⟩ := hty gm e.symm
    exact cells_ne_map hc h.mp rfl
  · obtain ⟨c, hc⟩ := hty k e.symm
    obtain ⟨c2, hc2⟩ := br_cells hv hk
    rw [hc] at hc2
    injection hc2 with hc2
    injection hc2 with _ hc2
    exact hT hc2
theorem Pst.grown {w0 w w' : World} {gh ch gi ci n : Nat} {vs : List Sl} {bs : List Bool} {G : Int → List Int} {K : Int → Bool} {o : Option Nat} {T : TypeId} (h : Pst w0 w gh ch gi ci n vs bs G K) (hty : ∀ k, o = some k → ∃ c, w.heap[k]? = some (.cells c T (0, 0))) (hT : T ≠ 5) (hT2 : T ≠ 24) (hT3 : T ≠ 4) (hg : w.grownBy w' o) : Pst w0 w' gh ch gi ci n vs bs G K := by
  have key : ∀ k T2, T ≠ T2 → (∃ c, w.heap[k]? = some (.cells c T2 (0, 0))) → o ≠ some k := fun k T2 hne hc e => by
    obtain ⟨c, hc⟩ := hc
    obtain ⟨c2, hc2⟩ := hty k e
    rw [hc] at hc2
    injection hc2 with hc2
    injection hc2 with _ hc2
    exact hne hc2.symm
  refine ⟨sc_move h.hr (fun k hk => ?_), sc_move h.ir (fun k hk => ?_), fun i hi => (h.has i hi).keep (fun hv => br_move hv (fun k hk => hg.block k (br_lt hv hk) (fun e => key k 5 hT (br_cells hv hk) e.symm))), h.isb⟩
  · obtain rfl : gh = k := Option.some.inj hk
    obtain ⟨c, hc⟩ := h.hcell
    exact hg.block _ (blk_lt hc) (fun e => key _ _ hT2 ⟨c, hc⟩ e.symm)
  · obtain rfl : gi = k := Option.some.inj hk
    obtain ⟨c, hc⟩ := h.icell
    exact hg.block _ (blk_lt hc) (fun e => key _ _ hT3 ⟨c, hc⟩ e.symm)
end Go.Proofs.Ytfpmcplfmmhoiaa.QModelFits
namespace Go.Proofs.Ytfpmcplfmmhoiaa.QModelFits
open Go.RowKit Go.Proofs.YtfpmcplfmmhoiaaW.PrintWords Go.Proofs.YtfpmcplfmmhoiaaW.PrintLast Go.Proofs.YtfpmcplfmmhoiaaW.PrintMore Go.Proofs.Ytfpmcplfmmhoiaa.Mono Go.Proofs.Ytfpmcplfmmhoiaa.Box
set_option linter.unusedVariables false
set_option linter.unusedSimpArgs false
theorem intOf_int (k : IntKind) (q : Int) : RowKit.intOf (.int k q) = q := rfl
theorem meas_ {n i : Nat} (hi : i < n) (hb : i < 1000000) : n - (RowKit.intOf (.int .i64 (wrap64 ((i : Int) + 1)))).toNat < n - (RowKit.intOf (.int .i64 (i : Int))).toNat := by
  have hw : wrap64 ((i : Int) + 1) = ((i + 1 : Nat) : Int) := by unfold wrap64; omega
  rw [intOf_int, intOf_int, hw, Int.toNat_natCast, Int.toNat_natCast]
  exact Nat.sub_lt_sub_left hi (Nat.lt_succ_self i)
theorem at_M {w : World} {A : Option Addr} {l : List S33} (h : Kd.C k33 w A l.length l) (i : Nat) (hi : i < l.length) : ∃ ad A1 c1, A = some ad ∧ w.cell? (ad.add (i * 3)) = some (.int .i64 l[i].f0) ∧ w.cell? ⟨(ad.add (i * 3)).block, (ad.add (i * 3)).off + 1, none⟩ = some (.int .i64 l[i].f1) ∧ w.cell? ⟨(ad.add (i * 3)).block, (ad.add (i * 3)).off + 2, none⟩ = some (.slice A1 l[i].f2.length c1) ∧ l[i].f2.length ≤ c1 ∧ Kd.C (Kd.int .u8) w A1 l[i].f2.length l[i].f2 := by
  obtain ⟨ad, c, e, _, hK, hc0⟩ := Kd.C_get h z33 (i : Int) (by omega) (by omega)
  have hc : ∀ j u, c[j]? = some u → w.cell? (ad.add (((i : Int).toNat) * 3 + j)) = some u := hc0
  rw [Int.toNat_natCast] at hc hK
  have hg : l.getD i z33 = l[i] := by simp [hi]
  rw [hg] at hK
  obtain ⟨A1, c1, rfl, hl, hC⟩ := k33_open hK
  exact ⟨ad, A1, c1, e, hc 0 _ rfl, by rw [← add_field _ _ 1 (by omega)]; exact hc 1 _ rfl, by rw [← add_field _ _ 2 (by omega)]; exact hc 2 _ rfl, hl, hC⟩
theorem Sec.len {w : World} {B : Nat} {D : DataW Value} {s : Int} {ys : List Int} (h : Sec w B 2 D s ys) : ys.length ≤ 2 := by
  obtain ⟨v, _, h⟩ := h
  rcases h with ⟨_, rfl⟩ | ⟨_, h⟩
  · simp
  · rw [h]; decide
end Go.Proofs.Ytfpmcplfmmhoiaa.QModelFits
namespace Go.Proofs.Ytfpmcplfmmhoiaa.QModelFits
open Go.RowKit Go.Proofs.YtfpmcplfmmhoiaaW.PrintWords Go.Proofs.YtfpmcplfmmhoiaaW.PrintLast Go.Proofs.YtfpmcplfmmhoiaaW.PrintMore Go.Proofs.Ytfpmcplfmmhoiaa.Mono Go.Proofs.Ytfpmcplfmmhoiaa.Box
set_option linter.unusedVariables false
set_option linter.unusedSimpArgs false
theorem meas2_ {n i : Nat} (hi : i < n) : n - (RowKit.intOf (.int .i64 ((i : Int) + 1))).toNat < n - (RowKit.intOf (.int .i64 (i : Int))).toNat := by
  rw [intOf_int, intOf_int, show (i : Int) + 1 = ((i + 1 : Nat) : Int) by omega, Int.toNat_natCast, Int.toNat_natCast]
  exact Nat.sub_lt_sub_left hi (Nat.lt_succ_self i)
theorem Sec.len' {w : World} {B : Nat} {sz : Int} {D : DataW Value} {s : Int} {ys : List Int} (h : Sec w B sz D s ys) : ys.length ≤ sz.toNat := by
  obtain ⟨v, _, h⟩ := h
  rcases h with ⟨_, rfl⟩ | ⟨_, h⟩
  · rw [List.length_replicate]
    exact Nat.le_refl _
  · omega
theorem Pst.has' {w0 w : World} {gh ch gi ci n : Nat} {vs : List Sl} {bs : List Bool} {G : Int → List Int} {K : Int → Bool} {p : Sl} {Y : List Int} (h : Pst w0 w gh ch gi ci n vs bs G K) (s : Nat) (hs : s < n) (hp : vs.getD s (none, 0, 0) = p) (hY : G (s : Int) = Y) : HasR w0 w p Y := hp ▸ hY ▸ h.has s hs
set_option maxRecDepth 100000 in
set_option maxHeartbeats 4000000 in
theorem mp_law (sn sz : Int) (l : List S33) (A : Option Addr) (c : Nat) (w0 : World) (hC : Kd.C k33 w0 A l.length l) (hc : l.length ≤ c) :
    Calls Try.prog 4 #[.int .i64 sn, .int .i64 sz, .slice A l.length c] w0 fun e w' => e = .returned (.bool true) ∧ Below w0.heap.size w0 w' := by
  have HC := Aside0.mk hC
  have HCL := Aside0.mk hc
  clear hC hc
  obtain ⟨G0, hG0⟩ : ∃ G0 : Int → List Int, G0 = fun _ => nul sz := ⟨_, rfl⟩
  have HG0 := Aside0.mk hG0
  clear hG0
  by_cases h1 : sn < 1
  · have d1_ : decide (sn < 1) = true := decide_eq_true (by omega)
    have HBAD : Aside0 (sn < 1 ∨ sn > 65536 ∨ sz < 1 ∨ sz > 8192) := ⟨by omega⟩
    clear h1
    go_enter Try.func4, Try.ntmps4
    go_wp2_with (first | (go_at_call 6; (with_reducible refine (ml_awake _).mono ?_); rintro e w1 ⟨rfl, hb⟩; have HB := Aside0.mk hb; clear hb) | (go_at_call 7; (with_reducible refine (mod_New_bad sn sz _ HBAD.out).mono ?_); rintro e w2 ⟨rfl, hb⟩; replace HB := Aside0.mk (below_step HB.out hb); clear hb))
    go_ret
    exact ⟨rfl, HB.out⟩
  · have d1_ : decide (sn < 1) = false := decide_eq_false (by omega)
    by_cases h2 : sn > 65536
    · have d2_ : decide (sn > 65536) = true := decide_eq_true (by omega)
      have HBAD : Aside0 (sn < 1 ∨ sn > 65536 ∨ sz < 1 ∨ sz > 8192) := ⟨by omega⟩
      clear h2
      go_enter Try.func4, Try.ntmps4
      go_wp2_with (first | (go_at_call 6; (with_reducible refine (ml_awake _).mono ?_); rintro e w1 ⟨rfl, hb⟩; have HB := Aside0.mk hb; clear hb) | (go_at_call 7; (with_reducible refine (mod_New_bad sn sz _ HBAD.out).mono ?_); rintro e w2 ⟨rfl, hb⟩; replace HB := Aside0.mk (below_step HB.out hb); clear hb))
      go_ret
      exact ⟨rfl, HB.out⟩
    · have d2_ : decide (sn > 65536) = false := decide_eq_false (by omega)
      by_cases h3 : sz < 1
      · have d3_ : decide (sz < 1) = true := decide_eq_true (by omega)
        have HBAD : Aside0 (sn < 1 ∨ sn > 65536 ∨ sz < 1 ∨ sz > 8192) := ⟨by omega⟩
        clear h3
        go_enter Try.func4, Try.ntmps4
        go_wp2_with (first | (go_at_call 6; (with_reducible refine (ml_awake _).mono ?_); rintro e w1 ⟨rfl, hb⟩; have HB := Aside0.mk hb; clear hb) | (go_at_call 7; (with_reducible refine (mod_New_bad sn sz _ HBAD.out).mono ?_); rintro e w2 ⟨rfl, hb⟩; replace HB := Aside0.mk (below_step HB.out hb); clear hb))
        go_ret
        exact ⟨rfl, HB.out⟩
      · have d3_ : decide (sz < 1) = false := decide_eq_false (by omega)
        by_cases h4 : sz > 8192
        · have d4_ : decide (sz > 8192) = true := decide_eq_true (by omega)
          have HBAD : Aside0 (sn < 1 ∨ sn > 65536 ∨ sz < 1 ∨ sz > 8192) := ⟨by omega⟩
          clear h4
          go_enter Try.func4, Try.ntmps4
          go_wp2_with (first | (go_at_call 6; (with_reducible refine (ml_awake _).mono ?_); rintro e w1 ⟨rfl, hb⟩; have HB := Aside0.mk hb; clear hb) | (go_at_call 7; (with_reducible refine (mod_New_bad sn sz _ HBAD.out).mono ?_); rintro e w2 ⟨rfl, hb⟩; replace HB := Aside0.mk (below_step HB.out hb); clear hb))
          go_ret
          exact ⟨rfl, HB.out⟩
        · have d4_ : decide (sz > 8192) = false := decide_eq_false (by omega)
          by_cases h5 : sn > 50
          · have d5_ : decide (sn > 50) = true := decide_eq_true (by omega)
            have HG1 : Aside0 (1 ≤ sn) := ⟨by omega⟩
            have HG2 : Aside0 (sn ≤ 65536) := ⟨by omega⟩
            have HG3 : Aside0 (1 ≤ sz) := ⟨by omega⟩
            have HG4 : Aside0 (sz ≤ 8192) := ⟨by omega⟩
            clear h1 h2 h3 h4 h5
            go_enter Try.func4, Try.ntmps4
            go_wp2_with (first | (go_at_call 6; (with_reducible refine (ml_awake _).mono ?_); rintro e w1 ⟨rfl, hb⟩; have HB := Aside0.mk hb; clear hb) | (go_at_call 7; (with_reducible refine (mod_New sn sz _ HG1.out HG2.out HG3.out HG4.out).mono ?_); rintro e w2 ⟨g, gm, rfl, hg, hgm, hne, hc, hm, hb⟩; have HS := Aside0.mk (Mst.start (G := G0) HB.out hg hgm hc hm hb HG0.out); clear hg hgm hne hc hm hb))
            go_ret
            exact ⟨rfl, HS.out.bel⟩
          · have d5_ : decide (sn > 50) = false := decide_eq_false (by omega)
            by_cases h6 : sz > 50
            · have d6_ : decide (sz > 50) = true := decide_eq_true (by omega)
              have HG1 : Aside0 (1 ≤ sn) := ⟨by omega⟩
              have HG2 : Aside0 (sn ≤ 65536) := ⟨by omega⟩
              have HG3 : Aside0 (1 ≤ sz) := ⟨by omega⟩
              have HG4 : Aside0 (sz ≤ 8192) := ⟨by omega⟩
              clear h1 h2 h3 h4 h5 h6
              go_enter Try.func4, Try.ntmps4
              go_wp2_with (first | (go_at_call 6; (with_reducible refine (ml_awake _).mono ?_); rintro e w1 ⟨rfl, hb⟩; have HB := Aside0.mk hb; clear hb) | (go_at_call 7; (with_reducible refine (mod_New sn sz _ HG1.out HG2.out HG3.out HG4.out).mono ?_); rintro e w2 ⟨g, gm, rfl, hg, hgm, hne, hc, hm, hb⟩; have HS := Aside0.mk (Mst.start (G := G0) HB.out hg hgm hc hm hb HG0.out); clear hg hgm hne hc hm hb))
              go_ret
              exact ⟨rfl, HS.out.bel⟩
            · have d6_ : decide (sz > 50) = false := decide_eq_false (by omega)
              by_cases h7 : (l.length : Int) > 60
              · have d7_ : decide ((l.length : Int) > 60) = true := decide_eq_true (by omega)
                have HG1 : Aside0 (1 ≤ sn) := ⟨by omega⟩
                have HG2 : Aside0 (sn ≤ 65536) := ⟨by omega⟩
                have HG3 : Aside0 (1 ≤ sz) := ⟨by omega⟩
                have HG4 : Aside0 (sz ≤ 8192) := ⟨by omega⟩
                clear h1 h2 h3 h4 h5 h6 h7
                go_enter Try.func4, Try.ntmps4
                go_wp2_with (first | (go_at_call 6; (with_reducible refine (ml_awake _).mono ?_); rintro e w1 ⟨rfl, hb⟩; have HB := Aside0.mk hb; clear hb) | (go_at_call 7; (with_reducible refine (mod_New sn sz _ HG1.out HG2.out HG3.out HG4.out).mono ?_); rintro e w2 ⟨g, gm, rfl, hg, hgm, hne, hc, hm, hb⟩; have HS := Aside0.mk (Mst.start (G := G0) HB.out hg hgm hc hm hb HG0.out); clear hg hgm hne hc hm hb))
                go_ret
                exact ⟨rfl, HS.out.bel⟩
              · have d7_ : decide ((l.length : Int) > 60) = false := decide_eq_false (by omega)
                obtain ⟨N, rfl⟩ := Int.eq_ofNat_of_zero_le (show 0 ≤ sn by omega)
                obtain ⟨Z, rfl⟩ := Int.eq_ofNat_of_zero_le (show 0 ≤ sz by omega)
                have HNZ : Aside0 (0 < N ∧ N ≤ 50 ∧ 0 < Z ∧ Z ≤ 50) := ⟨by omega⟩
                have H60 : Aside0 (l.length ≤ 60) := ⟨by omega⟩
                have HG1 : Aside0 (1 ≤ (N : Int)) := ⟨by omega⟩
                have HG2 : Aside0 ((N : Int) ≤ 65536) := ⟨by omega⟩
                have HG3 : Aside0 (1 ≤ (Z : Int)) := ⟨by omega⟩
                have HG4 : Aside0 ((Z : Int) ≤ 8192) := ⟨by omega⟩
                have HZZ : Aside0 (1 ≤ (Z : Int) ∧ (Z : Int) ≤ 8192) := ⟨by omega⟩
                clear h1 h2 h3 h4 h5 h6 h7
                go_enter Try.func4, Try.ntmps4
                obtain ⟨Y0, hY0⟩ : ∃ z_, nul (Z : Int) = z_ := ⟨_, rfl⟩
                have lY0 : Y0.length = Z := by rw [← hY0]; unfold nul; rw [Int.toNat_natCast, List.length_replicate]
                have HY0 := Aside0.mk hY0
                have LY0 := Aside0.mk lY0
                clear hY0 lY0
                go_wp2_with (first | (go_at_call 6; (with_reducible refine (ml_awake _).mono ?_); rintro e w1 ⟨rfl, hb⟩; have HB := Aside0.mk hb; clear hb) | (go_at_call 7; (with_reducible refine (mod_New (N : Int) (Z : Int) _ HG1.out HG2.out HG3.out HG4.out).mono ?_); rintro e w2 ⟨g, gm, rfl, hg, hgm, hne, hc, hm, hb⟩; have HS := Aside0.mk (Mst.start (G := G0) HB.out hg hgm hc hm hb HG0.out); clear hg hgm hne hc hm hb) | ((with_reducible refine gate_dst (N := 63) rfl ?_); refine Kd.R_make kS _ 24 rfl (N := 63) rfl 42 _ _ rfl (N : Int) rfl rfl Try.underlying42 (nil_) 24 infoS rfl (by decide) (by omega) ((none, 0, 0) : Sl) (ok := fun _ => True) (okp := fun _ => True) rfl (fun _ hk => hk) trivial (by omega) (by rw [Int.toNat_natCast]; have := HNZ.out; omega) (Below.refl _ _) (Nat.le_refl _) ?_; intro v3 w3 ho hb hg_ hnew_; rw [Int.toNat_natCast] at ho; obtain ⟨gh, ch, he_, _, _, _⟩ := Kd.R_form ho (by rw [List.length_replicate]; exact HNZ.out.1); rw [List.length_replicate] at he_; subst he_; have HR1 := Aside0.mk (Kd.R_lower ho HS.out.bel.size); replace HS := Aside0.mk (Mst.below HS.out hb); clear ho; clear hg_ hnew_ hb) | ((with_reducible refine gate_dst (N := 65) rfl ?_); refine Kd.R_make Kd.bool _ 4 rfl (N := 65) rfl 43 _ _ rfl (N : Int) rfl rfl Try.underlying43 (.bool false) 1 infoT rfl (by decide) (by omega) false (ok := fun _ => True) (okp := fun _ => True) rfl (fun _ hk => hk) trivial (by omega) (by rw [Int.toNat_natCast]; have := HNZ.out; omega) (Below.refl _ _) (Nat.le_refl _) ?_; intro v4 w4 ho hb hg_ hnew_; rw [Int.toNat_natCast] at ho; obtain ⟨gi, ci, he_, _, _, _⟩ := Kd.R_form ho (by rw [List.length_replicate]; exact HNZ.out.1); rw [List.length_replicate] at he_; subst he_; have HP := Aside0.mk (Pst.start (Z := Z) (Kd.R_below HR1.out hb) (Kd.R_lower ho HS.out.bel.size)); replace HS := Aside0.mk (Mst.below HS.out hb); clear ho HR1; clear hg_ hnew_ hb))
                clear d1_ d2_ d3_ d4_ d5_ d6_ d7_ HB
                go_loopw [68] (fun v68 wr => ∃ (j : Nat) (vs : List Sl), v68 = .int .i64 (j : Int) ∧ j ≤ N ∧ Aside0 (Pst w0 wr gh ch gi ci N vs (List.replicate N false) (ini Z j) (fun _ => false)) ∧ Aside0 (Mst w0 wr g gm (N : Int) (Z : Int) 0 (.map []) G0)) (fun v68 _ => N - (RowKit.intOf v68).toNat)
                case atStart => exact ⟨0, _, rfl, Nat.zero_le _, HP, HS⟩
                case round =>
                  clear HP HS
                  obtain ⟨j, vs, rfl, hj, HP, HS⟩ := hrel
                  by_cases hlt : j < N
                  · have HLT := Aside0.mk hlt
                    have hw_ : wrap64 ((j : Int) + 1) = ((j + 1 : Nat) : Int) := by have := HNZ.out; unfold wrap64; omega
                    have dj1_ : decide ((j : Int) < (N : Int)) = true := decide_eq_true (by omega)
                    have dj2_ : decide (j < N) = true := decide_eq_true (by omega)
                    have dj3_ : ((j : Int) < (N : Int)) = True := eq_true (by omega)
                    have dj4_ : (j < N) = True := eq_true (by omega)
                    clear hj hlt
                    go_wp2_with ((with_reducible refine gate_dst (N := 74) rfl ?_); refine Kd.R_make (Kd.int .u8) _ 5 rfl (N := 74) rfl 24 _ _ rfl (Z : Int) rfl rfl Try.underlying24 (.int .u8 0) 1 info5 rfl (by decide) (by omega) 0 (ok := fun _ => True) (okp := fun _ => True) rfl (fun _ hk => hk) trivial (by omega) (by rw [Int.toNat_natCast]; have := HNZ.out; omega) (Below.refl _ _) (Nat.le_refl _) ?_; intro v5 w5 ho hb hg_ hnew_; rw [show List.replicate (Z : Int).toNat (0 : Int) = Y0 from HY0.out] at ho; obtain ⟨Av, cv, rfl, hl_, hC_⟩ := Kd.R_reads ho; have HRV := Aside0.mk (Kd.R_lower ho HS.out.bel.size); replace HS := Aside0.mk (Mst.below HS.out hb); replace HP := Aside0.mk (Pst.below HP.out hb); obtain ⟨z_, f_⟩ := HP.out.cellH j HLT.out; have HHR : Aside0 (HasR w0 w5 (Av, Y0.length, cv) Y0) := ⟨⟨rfl, hl_, .inr HRV.out⟩⟩; clear hg_ hnew_ hb ho hl_ hC_)
                    have HP2 := Aside0.mk (Pst.set1 HP.out j HLT.out HHR.out)
                    have HS2 := Aside0.mk (Mst.pst1 HS.out HP.out j (encS (Av, Y0.length, cv)))
                    go_roundw
                    case rel => exact ⟨j + 1, _, (by first | rfl | rw [hw_] | simp [hw_]), HLT.out, ⟨by rw [← ini_succ, HY0.out]; exact HP2.out⟩, HS2⟩
                    case measure => exact (by first | exact meas2_ HLT.out | exact meas_ HLT.out (by have := HNZ.out; have := HLT.out; omega))
                  · obtain rfl : j = N := by omega
                    have dj1_ : decide ((j : Int) < (j : Int)) = false := decide_eq_false (by omega)
                    have dj2_ : decide (j < j) = false := decide_eq_false (by omega)
                    have hp_ := Pst.congr (G' := G0) (K' := fun _ => false) HP.out (fun i hi => by rw [HG0.out]; unfold ini; rw [if_pos (by omega)]) (fun _ _ => rfl)
                    clear HP
                    have HP := Aside0.mk hp_
                    clear hp_ hj hlt
                    go_wp2
                    clear dj1_ dj2_
                    go_loopw [79] (fun v79 wr => ∃ (i n : Nat) (D : DataW Value) (G : Int → List Int) (K : Int → Bool) (vs : List Sl) (bs : List Bool), v79 = .int .i64 (i : Int) ∧ i ≤ l.length ∧ Aside0 (n ≤ i) ∧ Aside0 (KeysAre (j : Int) D K) ∧ Aside0 (Pst w0 wr gh ch gi ci j vs bs G K) ∧ Aside0 (Mst w0 wr g gm (j : Int) (Z : Int) n D G)) (fun v79 _ => l.length - (RowKit.intOf v79).toNat)
                    case atStart => exact ⟨0, 0, _, _, _, _, _, rfl, Nat.zero_le _, ⟨Nat.le_refl _⟩, ⟨keysAre_start _⟩, HP, HS⟩
                    case round =>
                      clear HP HS
                      obtain ⟨i, n, D, G, K, vs, bs, rfl, hil, HN, HKA, HP, HS⟩ := hrel
                      by_cases hlt : i < l.length
                      · obtain ⟨ad, A1, c1, rfl, hx0, hx1, hx2, hl1, hC1⟩ := at_M HC.out i hlt
                        obtain ⟨d, hd_⟩ : ∃ d, l[i] = d := ⟨_, rfl⟩
                        rw [hd_] at hx0 hx1 hx2 hl1 hC1
                        obtain ⟨k, q, dt⟩ := d
                        dsimp only at hx0 hx1 hx2 hl1 hC1
                        have HCd := Aside0.mk hC1
                        have HLd := Aside0.mk hl1
                        have c0_ := (HS.out.bel.cell (World.block_lt_of_cell? w0 _ hx0)).trans hx0
                        have c1_ := (HS.out.bel.cell (World.block_lt_of_cell? w0 _ hx1)).trans hx1
                        have c2_ := (HS.out.bel.cell (World.block_lt_of_cell? w0 _ hx2)).trans hx2
                        clear hC1 hl1 hd_ hx0 hx1 hx2
                        have HNM : Aside0 (n < maxLen) := ⟨by have := HN.out; have := H60.out; unfold maxLen; omega⟩
                        have hw_ : wrap64 ((i : Int) + 1) = ((i + 1 : Nat) : Int) := by have := H60.out; unfold wrap64; omega
                        have HLT := Aside0.mk hlt
                        have di1_ : decide ((i : Int) < (l.length : Int)) = true := decide_eq_true (by omega)
                        have di2_ : decide (i < l.length) = true := decide_eq_true (by omega)
                        have di3_ : ((i : Int) < (l.length : Int)) = True := eq_true (by omega)
                        have di4_ : (i < l.length) = True := eq_true (by omega)
                        clear hil hlt
                        by_cases hin : 0 ≤ q ∧ q < (j : Int)
                        · obtain ⟨s, rfl⟩ := Int.eq_ofNat_of_zero_le hin.1
                          have HSN : Aside0 (s < j) := ⟨by omega⟩
                          have n1_ : decide ((s : Int) ≥ 0) = true := decide_eq_true (by omega)
                          have ds1_ : decide ((s : Int) < (j : Int)) = true := decide_eq_true (by omega)
                          have ds2_ : decide (s < j) = true := decide_eq_true (by omega)
                          have ds3_ : ((s : Int) < (j : Int)) = True := eq_true (by omega)
                          have ds4_ : (s < j) = True := eq_true (by omega)
                          clear hin
                          by_cases hk1 : k = 1
                          · have a1_ : decide (k = 1) = true := decide_eq_true (by assumption)
                            have a2_ : (k == 1) = true := beq_iff_eq.2 (by assumption)
                            by_cases hlz : (dt.length : Int) = (Z : Int)
                            · have HGS : Aside0 (0 ≤ (s : Int) ∧ (s : Int) < (j : Int)) := ⟨⟨by omega, by have := HSN.out; omega⟩⟩
                              have HL2 : Aside0 ((Z : Int) = (dt.length : Int)) := ⟨hlz.symm⟩
                              have HL3 : Aside0 (dt.length ≤ 8192) := ⟨by have := HNZ.out; omega⟩
                              have HL4 : Aside0 (dt.length = (Z : Int).toNat) := ⟨by omega⟩
                              have z1_ : decide ((dt.length : Int) = (Z : Int)) = true := decide_eq_true (by assumption)
                              have z2_ : ((dt.length : Int) == (Z : Int)) = true := beq_iff_eq.2 (by assumption)
                              have z3_ : decide (dt.length = Z) = true := decide_eq_true (by omega)
                              have z4_ : (dt.length == Z) = true := beq_iff_eq.2 (by omega)
                              clear hlz hk1
                              go_upto_region 25 with (first | ((with_reducible refine gate_dst (N := 13) rfl ?_); refine make_box (p := 13) (v := 82) (T := 33) (old := #[.int .i64 0, .int .i64 0, .slice none 0 0]) (cs := #[.int .i64 k, .int .i64 (s : Int), .slice A1 dt.length c1]) rfl rfl rfl rfl rfl ?hr (Nat.le_of_ble_eq_true rfl) (by decide) rfl rfl (by kernel_rfl) (by rfl) ?_; (case hr => first | (go_simp; done) | (go_simp; rfl)); intro g13 w5 hge_ hx_ hbox_; replace HS := Aside0.mk (Mst.below HS.out hx_.below); replace HP := Aside0.mk (Pst.below HP.out hx_.below); have BK13 := Aside0.mk hbox_; have HG13 := Aside0.mk (Nat.le_trans HS.out.bel.size (Nat.le_refl _)); have y0_ : w5.cell? ⟨g13, 0, none⟩ = some (.int .i64 k) := (blk_cell hbox_ 0).trans rfl; have y1_ : w5.cell? ⟨g13, 1, none⟩ = some (.int .i64 (s : Int)) := (blk_cell hbox_ 1).trans rfl; have y2_ : w5.cell? ⟨g13, 2, none⟩ = some (.slice A1 dt.length c1) := (blk_cell hbox_ 2).trans rfl; clear hge_ hx_ hbox_) | (go_at_call 8; (with_reducible refine (mod_Write g gm n A1 c1 dt (j : Int) (s : Int) D _ (HL2.out ▸ HS.out.rc) HS.out.mp HNM.out HGS.out HG2.out (Kd.C_below HCd.out HS.out.bel) HLd.out HL3.out).mono ?_); rintro e w6 ⟨rfl, v, hm2, hv, ht⟩; have hbk13 := (ht.block g13 (blk_lt BK13.out) (cells_ne_map BK13.out HS.out.mp)).trans BK13.out; have HS_ := Mst.write HS.out hm2 hv ht HL4.out; replace HKA := Aside0.mk (keysAre_put HKA.out HS.out.mp.isMap HGS.out (.held v)); replace HP := Aside0.mk (Pst.tou HP.out HS.out.mp ht); clear HS y0_ y1_ y2_; have HS := Aside0.mk HS_; have y0_ : w6.cell? ⟨g13, 0, none⟩ = some (.int .i64 k) := (blk_cell hbk13 0).trans rfl; have y1_ : w6.cell? ⟨g13, 1, none⟩ = some (.int .i64 (s : Int)) := (blk_cell hbk13 1).trans rfl; have y2_ : w6.cell? ⟨g13, 2, none⟩ = some (.slice A1 dt.length c1) := (blk_cell hbk13 2).trans rfl; clear BK13; have BK13 := Aside0.mk hbk13; clear hbk13 HS_ ht hm2; clear hv))
                              (try simp only [Act.put, List.setIfInBounds_toArray, List.set_cons_zero, List.set_cons_succ])
                              have HNE : Aside0 (g13 ≠ gh) := ⟨fun e => by obtain ⟨c_, h_⟩ := HP.out.hcell; have h2_ := BK13.out; rw [e, h_] at h2_; injection h2_ with h2_; injection h2_ with _ h2_; exact absurd h2_ (by decide)⟩
                              refine Mono.mono_region_store_tail (fun j_ => ([(Is (.slice (some ⟨gh, 0, none⟩) j ch)), (Is (.pointer (some ⟨g13, 1, none⟩))), (Is (.int .i64 (s : Int))), (Is (.slice (some ⟨gi, 0, none⟩) j ci)), (Is (.pointer (some ⟨g13, 1, none⟩))), (Is (.int .i64 (s : Int))), (Is (.pointer (some ⟨g13, 2, none⟩))), (Is (.slice A1 dt.length c1)), (Is (.pointer (some ⟨gh, s, none⟩)))] : List (Value → World → Prop)).getD j_ (fun _ _ => True)) (fun val w_ w2_ => w2_ = w_.setCell ⟨gh, s, none⟩ (val 130)) 10 9 [0, 1, 2, 6, 7, 8] [3, 4, 5] [123, 124, 125, 126, 127, 128, 129, 130, 131] _ (by kernel_rfl) rfl (by kernel_rfl) (by kernel_rfl) (by kernel_rfl) rfl (by kernel_rfl) ?_ ?_ ?_ ?_ ?_ ?_
                              · intro i
                                match i with
                                | 0 => exact stable_is _
                                | 1 => exact stable_is _
                                | 2 => exact stable_is _
                                | 3 => exact stable_is _
                                | 4 => exact stable_is _
                                | 5 => exact stable_is _
                                | 6 => exact stable_is _
                                | 7 => exact stable_is _
                                | 8 => exact stable_is _
                                | _ + 9 => exact fun _ _ _ _ _ => trivial
                              · rintro u v w_ w2_ h rfl
                                show _ = w_.setCell ⟨gh, s, none⟩ (v 130)
                                rw [h 7 130 (by kernel_rfl) rfl]
                              · show ∀ i ∈ [0, 1, 2, 6, 7, 8], _
                                refine msteps_cons ?_ ?_
                                · intro a w' hx hfr hk
                                  have e9 : a.tmps[9]? = some (.slice (some ⟨gh, 0, none⟩) j ch) := (hfr.off 9 rfl).trans rfl
                                  clear hk hfr
                                  refine ⟨_, rfl, fun K hK => ?_⟩
                                  refine value_ (w1 := w') (v := .slice (some ⟨gh, 0, none⟩) j ch) (by rfl) rfl ?_ (hK _ _ (show _ = _ from rfl) (Ext.refl _))
                                  go_simp
                                  (try simp only [i64_w])
                                  try rfl
                                refine msteps_cons ?_ ?_
                                · intro a w' hx hfr hk
                                  have e13 : a.tmps[13]? = some (.pointer (some ⟨g13, 0, none⟩)) := (hfr.off 13 rfl).trans rfl
                                  clear hk hfr
                                  refine ⟨_, rfl, fun K hK => ?_⟩
                                  refine value_ (w1 := w') (v := .pointer (some ⟨g13, 1, none⟩)) (by rfl) rfl ?_ (hK _ _ (show _ = _ from rfl) (Ext.refl _))
                                  go_simp
                                  (try simp only [i64_w])
                                  try rfl
                                refine msteps_cons ?_ ?_
                                · intro a w' hx hfr hk
                                  obtain ⟨v_, e124, h_⟩ := hk 1 124 (by kernel_rfl) rfl
                                  replace h_ : v_ = .pointer (some ⟨g13, 1, none⟩) := h_
                                  subst h_
                                  clear hk hfr
                                  refine ⟨_, rfl, fun K hK => ?_⟩
                                  have hc_ : w'.cell? ⟨g13, 1, none⟩ = some (.int .i64 (s : Int)) := (blk_cell (blk_below BK13.out (Ext.below hx)) 1).trans rfl
                                  refine value_ (w1 := w') (v := .int .i64 (s : Int)) (by rfl) rfl ?_ (hK _ _ (show _ = _ from rfl) (Ext.refl _))
                                  go_simp
                                  (try simp only [i64_w])
                                  try rfl
                                refine msteps_cons ?_ ?_
                                · intro a w' hx hfr hk
                                  have e13 : a.tmps[13]? = some (.pointer (some ⟨g13, 0, none⟩)) := (hfr.off 13 rfl).trans rfl
                                  clear hk hfr
                                  refine ⟨_, rfl, fun K hK => ?_⟩
                                  refine value_ (w1 := w') (v := .pointer (some ⟨g13, 2, none⟩)) (by rfl) rfl ?_ (hK _ _ (show _ = _ from rfl) (Ext.refl _))
                                  go_simp
                                  (try simp only [i64_w])
                                  try rfl
                                refine msteps_cons ?_ ?_
                                · intro a w' hx hfr hk
                                  obtain ⟨v_, e129, h_⟩ := hk 6 129 (by kernel_rfl) rfl
                                  replace h_ : v_ = .pointer (some ⟨g13, 2, none⟩) := h_
                                  subst h_
                                  clear hk hfr
                                  refine ⟨_, rfl, fun K hK => ?_⟩
                                  have hc_ : w'.cell? ⟨g13, 2, none⟩ = some (.slice A1 dt.length c1) := (blk_cell (blk_below BK13.out (Ext.below hx)) 2).trans rfl
                                  refine value_ (w1 := w') (v := .slice A1 dt.length c1) (by rfl) rfl ?_ (hK _ _ (show _ = _ from rfl) (Ext.refl _))
                                  go_simp
                                  (try simp only [i64_w])
                                  try rfl
                                refine msteps_cons ?_ ?_
                                · intro a w' hx hfr hk
                                  obtain ⟨v_, e123, h_⟩ := hk 0 123 (by kernel_rfl) rfl
                                  replace h_ : v_ = .slice (some ⟨gh, 0, none⟩) j ch := h_
                                  subst h_
                                  obtain ⟨v_, e125, h_⟩ := hk 2 125 (by kernel_rfl) rfl
                                  replace h_ : v_ = .int .i64 (s : Int) := h_
                                  subst h_
                                  clear hk hfr
                                  refine ⟨_, rfl, fun K hK => ?_⟩
                                  have l1_ : ((s : Int) < (j : Int)) = True := eq_true (by have := HSN.out; omega)
                                  have l2_ : (s < j) = True := eq_true HSN.out
                                  have l3_ : decide (s < j) = true := decide_eq_true HSN.out
                                  refine value_ (w1 := w') (v := .pointer (some ⟨gh, s, none⟩)) (by rfl) rfl ?_ (hK _ _ (show _ = _ from rfl) (Ext.refl _))
                                  go_simp
                                  (try simp only [i64_w])
                                  try rfl
                                exact msteps_nil
                              · show ∀ i ∈ [3, 4, 5], _
                                refine lsteps_cons (PStep.l ?_) ?_
                                · intro a w' wf hx hfr hk
                                  have e10 : a.tmps[10]? = some (.slice (some ⟨gi, 0, none⟩) j ci) := (hfr.off 10 rfl).trans rfl
                                  clear hk hfr
                                  refine ⟨_, rfl, fun K hK => ?_⟩
                                  refine value_ (w1 := w') (v := .slice (some ⟨gi, 0, none⟩) j ci) (by rfl) rfl ?_ (hK _ (show _ = _ from rfl))
                                  go_simp
                                  (try simp only [i64_w])
                                  try rfl
                                refine lsteps_cons (PStep.l ?_) ?_
                                · intro a w' wf hx hfr hk
                                  have e13 : a.tmps[13]? = some (.pointer (some ⟨g13, 0, none⟩)) := (hfr.off 13 rfl).trans rfl
                                  clear hk hfr
                                  refine ⟨_, rfl, fun K hK => ?_⟩
                                  refine value_ (w1 := w') (v := .pointer (some ⟨g13, 1, none⟩)) (by rfl) rfl ?_ (hK _ (show _ = _ from rfl))
                                  go_simp
                                  (try simp only [i64_w])
                                  try rfl
                                refine lsteps_cons ?_ ?_
                                · intro a w' wf hx hw hfr hk
                                  have hb13_ := blk_below BK13.out (Ext.below hx)
                                  have hc_ : w'.cell? ⟨g13, 1, none⟩ = some (.int .i64 (s : Int)) := by
                                    rcases hw with rfl | ⟨u, rfl⟩
                                    · exact (blk_cell hb13_ 1).trans rfl
                                    · exact (blk_cell ((Below.heap_setCell wf _ _ g13 HNE.out).trans hb13_) 1).trans rfl
                                  obtain ⟨v_, e127, h_⟩ := hk 4 127 (by kernel_rfl) rfl
                                  replace h_ : v_ = .pointer (some ⟨g13, 1, none⟩) := h_
                                  subst h_
                                  clear hk hfr hw hb13_
                                  refine ⟨_, rfl, fun K hK => ?_⟩
                                  refine value_ (w1 := w') (v := .int .i64 (s : Int)) (by rfl) rfl ?_ (hK _ (show _ = _ from rfl))
                                  go_simp
                                  (try simp only [i64_w])
                                  try rfl
                                exact lsteps_nil
                              · intro a w' hx hfr hk
                                obtain ⟨v_, e131, h_⟩ := hk 8 131 (by kernel_rfl) rfl
                                replace h_ : v_ = .pointer (some ⟨gh, s, none⟩) := h_
                                subst h_
                                obtain ⟨v2_, e130, h_⟩ := hk 7 130 (by kernel_rfl) rfl
                                replace h_ : v2_ = .slice A1 dt.length c1 := h_
                                subst h_
                                obtain ⟨hz_, hf_⟩ := (Pst.below HP.out (Ext.below hx)).cellH s HSN.out
                                clear hk hfr
                                refine ⟨_, rfl, fun K hK => ?_⟩
                                refine skip_ (w1 := w'.setCell ⟨gh, s, none⟩ (.slice A1 dt.length c1)) (by rfl) rfl ?_ (hK _ (by show _ = World.setCell w' ⟨gh, s, none⟩ (a.tmps.getD 130 undef); rw [Array.getD_eq_getD_getElem?, e130]; rfl))
                                go_simp
                                try rfl
                              · rintro val wf w2 hx hF rfl
                                have e123 : val 123 = .slice (some ⟨gh, 0, none⟩) j ch := hF 0 123 (by decide) (by decide) rfl
                                have e124 : val 124 = .pointer (some ⟨g13, 1, none⟩) := hF 1 124 (by decide) (by decide) rfl
                                have e125 : val 125 = .int .i64 (s : Int) := hF 2 125 (by decide) (by decide) rfl
                                have e126 : val 126 = .slice (some ⟨gi, 0, none⟩) j ci := hF 3 126 (by decide) (by decide) rfl
                                have e127 : val 127 = .pointer (some ⟨g13, 1, none⟩) := hF 4 127 (by decide) (by decide) rfl
                                have e128 : val 128 = .int .i64 (s : Int) := hF 5 128 (by decide) (by decide) rfl
                                have e129 : val 129 = .pointer (some ⟨g13, 2, none⟩) := hF 6 129 (by decide) (by decide) rfl
                                have e130 : val 130 = .slice A1 dt.length c1 := hF 7 130 (by decide) (by decide) rfl
                                have e131 : val 131 = .pointer (some ⟨gh, s, none⟩) := hF 8 131 (by decide) (by decide) rfl
                                clear hF
                                simp only [putT, List.foldl_cons, List.foldl_nil, Act.put, List.setIfInBounds_toArray, List.set_cons_zero, List.set_cons_succ, e123, e124, e125, e126, e127, e128, e129, e130, e131]
                                clear e123 e124 e125 e126 e127 e128 e129 e130 e131
                                have HHR : Aside0 (HasR w0 wf (A1, dt.length, c1) dt) := ⟨⟨rfl, HLd.out, .inl HCd.out⟩⟩
                                replace HP := Aside0.mk (Pst.below HP.out (Ext.below hx))
                                replace HS := Aside0.mk (Mst.below HS.out (Ext.below hx))
                                have HP1 := Aside0.mk (Pst.set1 (p := (A1, dt.length, c1)) HP.out s HSN.out HHR.out)
                                obtain ⟨z_, f_⟩ := HP1.out.cellI s HSN.out
                                have HP2 := Aside0.mk (Pst.set2 (p := (A1, dt.length, c1)) HP.out s HSN.out true HHR.out)
                                have HS2 := Aside0.mk (Mst.pst2 HS.out HP.out s (encS (A1, dt.length, c1)) true)
                                clear HP1 hx y0_ y1_ y2_
                                change (World.setCell wf ⟨gh, s, none⟩ (encS (A1, dt.length, c1))).cell? ⟨gi, s, none⟩ = _ at z_
                                simp only [encS] at z_ f_
                                go_wp2
                                go_roundw
                                case rel => exact ⟨i + 1, n + 1, _, _, _, _, _, (by first | rfl | rw [hw_] | simp [hw_]), HLT.out, ⟨by have := HN.out; omega⟩, HKA, HP2, HS2⟩
                                case measure => exact (by first | exact meas_ HLT.out (by have := H60.out; have := HLT.out; omega) | exact meas2_ HLT.out)
                            · have HGS : Aside0 (¬ (0 ≤ (s : Int) ∧ (s : Int) < (j : Int) ∧ (dt.length : Int) = (Z : Int))) := ⟨fun h => hlz h.2.2⟩
                              have z1_ : decide ((dt.length : Int) = (Z : Int)) = false := decide_eq_false (by assumption)
                              have z2_ : ((dt.length : Int) == (Z : Int)) = false := beq_eq_false_iff_ne.2 (by assumption)
                              have z3_ : decide (dt.length = Z) = false := decide_eq_false (by omega)
                              have z4_ : (dt.length == Z) = false := beq_eq_false_iff_ne.2 (by omega)
                              clear hlz hk1
                              go_wp2_with (first | ((with_reducible refine gate_dst (N := 13) rfl ?_); refine make_box (p := 13) (v := 82) (T := 33) (old := #[.int .i64 0, .int .i64 0, .slice none 0 0]) (cs := #[.int .i64 k, .int .i64 (s : Int), .slice A1 dt.length c1]) rfl rfl rfl rfl rfl ?hr (Nat.le_of_ble_eq_true rfl) (by decide) rfl rfl (by kernel_rfl) (by rfl) ?_; (case hr => first | (go_simp; done) | (go_simp; rfl)); intro g13 w5 hge_ hx_ hbox_; replace HS := Aside0.mk (Mst.below HS.out hx_.below); replace HP := Aside0.mk (Pst.below HP.out hx_.below); have BK13 := Aside0.mk hbox_; have HG13 := Aside0.mk (Nat.le_trans HS.out.bel.size (Nat.le_refl _)); have y0_ : w5.cell? ⟨g13, 0, none⟩ = some (.int .i64 k) := (blk_cell hbox_ 0).trans rfl; have y1_ : w5.cell? ⟨g13, 1, none⟩ = some (.int .i64 (s : Int)) := (blk_cell hbox_ 1).trans rfl; have y2_ : w5.cell? ⟨g13, 2, none⟩ = some (.slice A1 dt.length c1) := (blk_cell hbox_ 2).trans rfl; clear hge_ hx_ hbox_) | (go_at_call 8; (with_reducible refine (mod_bad_Write g gm (j : Int) (Z : Int) (s : Int) A1 dt.length c1 _ HS.out.rc HGS.out).mono ?_); rintro e w6 ⟨rfl, hb⟩; replace HS := Aside0.mk (Mst.below HS.out hb); replace HP := Aside0.mk (Pst.below HP.out hb); clear y0_ y1_ y2_; replace BK13 := Aside0.mk (blk_below BK13.out hb); have y0_ : w6.cell? ⟨g13, 0, none⟩ = some (.int .i64 k) := (blk_cell BK13.out 0).trans rfl; have y1_ : w6.cell? ⟨g13, 1, none⟩ = some (.int .i64 (s : Int)) := (blk_cell BK13.out 1).trans rfl; have y2_ : w6.cell? ⟨g13, 2, none⟩ = some (.slice A1 dt.length c1) := (blk_cell BK13.out 2).trans rfl; clear hb))
                              go_roundw
                              case rel => exact ⟨i + 1, n, D, G, K, vs, bs, (by first | rfl | rw [hw_] | simp [hw_]), HLT.out, ⟨by have := HN.out; omega⟩, HKA, HP, HS⟩
                              case measure => exact (by first | exact meas_ HLT.out (by have := H60.out; have := HLT.out; omega) | exact meas2_ HLT.out)
                          · have a1_ : decide (k = 1) = false := decide_eq_false (by assumption)
                            have a2_ : (k == 1) = false := beq_eq_false_iff_ne.2 (by assumption)
                            by_cases hk2 : k = 2
                            · have b1_ : decide (k = 2) = true := decide_eq_true (by assumption)
                              have b2_ : (k == 2) = true := beq_iff_eq.2 (by assumption)
                              have HGS : Aside0 (0 ≤ (s : Int) ∧ (s : Int) < (j : Int)) := ⟨⟨by omega, by have := HSN.out; omega⟩⟩
                              clear hk1 hk2
                              go_upto_region 30 with (first | ((with_reducible refine gate_dst (N := 13) rfl ?_); refine make_box (p := 13) (v := 82) (T := 33) (old := #[.int .i64 0, .int .i64 0, .slice none 0 0]) (cs := #[.int .i64 k, .int .i64 (s : Int), .slice A1 dt.length c1]) rfl rfl rfl rfl rfl ?hr (Nat.le_of_ble_eq_true rfl) (by decide) rfl rfl (by kernel_rfl) (by rfl) ?_; (case hr => first | (go_simp; done) | (go_simp; rfl)); intro g13 w5 hge_ hx_ hbox_; replace HS := Aside0.mk (Mst.below HS.out hx_.below); replace HP := Aside0.mk (Pst.below HP.out hx_.below); have BK13 := Aside0.mk hbox_; have HG13 := Aside0.mk (Nat.le_trans HS.out.bel.size (Nat.le_refl _)); have y0_ : w5.cell? ⟨g13, 0, none⟩ = some (.int .i64 k) := (blk_cell hbox_ 0).trans rfl; have y1_ : w5.cell? ⟨g13, 1, none⟩ = some (.int .i64 (s : Int)) := (blk_cell hbox_ 1).trans rfl; have y2_ : w5.cell? ⟨g13, 2, none⟩ = some (.slice A1 dt.length c1) := (blk_cell hbox_ 2).trans rfl; clear hge_ hx_ hbox_) | (go_at_call 9; (with_reducible refine (mod_Trim g gm n (j : Int) (Z : Int) (s : Int) D _ HS.out.rc HS.out.mp HGS.out HG2.out).mono ?_); rintro e w6 ⟨rfl, hm2, ht⟩; have hbk13 := (ht.block g13 (blk_lt BK13.out) (cells_ne_map BK13.out HS.out.mp)).trans BK13.out; have HS_ := Mst.trim HS.out hm2 ht; rw [HY0.out] at HS_; replace HKA := Aside0.mk (keysAre_del (s := (s : Int)) HKA.out); replace HP := Aside0.mk (Pst.tou HP.out HS.out.mp ht); clear HS y0_ y1_ y2_; have HS := Aside0.mk HS_; have y0_ : w6.cell? ⟨g13, 0, none⟩ = some (.int .i64 k) := (blk_cell hbk13 0).trans rfl; have y1_ : w6.cell? ⟨g13, 1, none⟩ = some (.int .i64 (s : Int)) := (blk_cell hbk13 1).trans rfl; have y2_ : w6.cell? ⟨g13, 2, none⟩ = some (.slice A1 dt.length c1) := (blk_cell hbk13 2).trans rfl; clear BK13; have BK13 := Aside0.mk hbk13; clear hbk13 HS_ ht hm2))
                              (try simp only [Act.put, List.setIfInBounds_toArray, List.set_cons_zero, List.set_cons_succ])
                              have HNE : Aside0 (g13 ≠ gh) := ⟨fun e => by obtain ⟨c_, h_⟩ := HP.out.hcell; have h2_ := BK13.out; rw [e, h_] at h2_; injection h2_ with h2_; injection h2_ with _ h2_; exact absurd h2_ (by decide)⟩
                              refine Mono.mono_region_store_tail (fun j_ => ([(Is (.slice (some ⟨gh, 0, none⟩) j ch)), (Is (.pointer (some ⟨g13, 1, none⟩))), (Is (.int .i64 (s : Int))), (Is (.slice (some ⟨gi, 0, none⟩) j ci)), (Is (.pointer (some ⟨g13, 1, none⟩))), (Is (.int .i64 (s : Int))), (Is (.int .i64 (Z : Int))), (RowR (Kd.int .u8) 5 w6.heap.size Y0 (fun u => u)), (Is (.pointer (some ⟨gh, s, none⟩)))] : List (Value → World → Prop)).getD j_ (fun _ _ => True)) (fun val w_ w2_ => w2_ = w_.setCell ⟨gh, s, none⟩ (val 158)) 10 9 [0, 1, 2, 6, 7, 8] [3, 4, 5] [151, 152, 153, 154, 155, 156, 157, 158, 159] _ (by kernel_rfl) rfl (by kernel_rfl) (by kernel_rfl) (by kernel_rfl) rfl (by kernel_rfl) ?_ ?_ ?_ ?_ ?_ ?_
                              · intro i
                                match i with
                                | 0 => exact stable_is _
                                | 1 => exact stable_is _
                                | 2 => exact stable_is _
                                | 3 => exact stable_is _
                                | 4 => exact stable_is _
                                | 5 => exact stable_is _
                                | 6 => exact stable_is _
                                | 7 => exact stable_rowR _ _ _ _ _
                                | 8 => exact stable_is _
                                | _ + 9 => exact fun _ _ _ _ _ => trivial
                              · rintro u v w_ w2_ h rfl
                                show _ = w_.setCell ⟨gh, s, none⟩ (v 158)
                                rw [h 7 158 (by kernel_rfl) rfl]
                              · show ∀ i ∈ [0, 1, 2, 6, 7, 8], _
                                refine msteps_cons ?_ ?_
                                · intro a w' hx hfr hk
                                  have e9 : a.tmps[9]? = some (.slice (some ⟨gh, 0, none⟩) j ch) := (hfr.off 9 rfl).trans rfl
                                  clear hk hfr
                                  refine ⟨_, rfl, fun K hK => ?_⟩
                                  refine value_ (w1 := w') (v := .slice (some ⟨gh, 0, none⟩) j ch) (by rfl) rfl ?_ (hK _ _ (show _ = _ from rfl) (Ext.refl _))
                                  go_simp
                                  (try simp only [i64_w])
                                  try rfl
                                refine msteps_cons ?_ ?_
                                · intro a w' hx hfr hk
                                  have e13 : a.tmps[13]? = some (.pointer (some ⟨g13, 0, none⟩)) := (hfr.off 13 rfl).trans rfl
                                  clear hk hfr
                                  refine ⟨_, rfl, fun K hK => ?_⟩
                                  refine value_ (w1 := w') (v := .pointer (some ⟨g13, 1, none⟩)) (by rfl) rfl ?_ (hK _ _ (show _ = _ from rfl) (Ext.refl _))
                                  go_simp
                                  (try simp only [i64_w])
                                  try rfl
                                refine msteps_cons ?_ ?_
                                · intro a w' hx hfr hk
                                  obtain ⟨v_, e152, h_⟩ := hk 1 152 (by kernel_rfl) rfl
                                  replace h_ : v_ = .pointer (some ⟨g13, 1, none⟩) := h_
                                  subst h_
                                  clear hk hfr
                                  refine ⟨_, rfl, fun K hK => ?_⟩
                                  have hc_ : w'.cell? ⟨g13, 1, none⟩ = some (.int .i64 (s : Int)) := (blk_cell (blk_below BK13.out (Ext.below hx)) 1).trans rfl
                                  refine value_ (w1 := w') (v := .int .i64 (s : Int)) (by rfl) rfl ?_ (hK _ _ (show _ = _ from rfl) (Ext.refl _))
                                  go_simp
                                  (try simp only [i64_w])
                                  try rfl
                                refine msteps_cons ?_ ?_
                                · intro a w' hx hfr hk
                                  have e1 : a.tmps[1]? = some (.int .i64 (Z : Int)) := (hfr.off 1 rfl).trans rfl
                                  clear hk hfr
                                  refine ⟨_, rfl, fun K hK => ?_⟩
                                  refine value_ (w1 := w') (v := .int .i64 (Z : Int)) (by rfl) rfl ?_ (hK _ _ (show _ = _ from rfl) (Ext.refl _))
                                  go_simp
                                  (try simp only [i64_w])
                                  try rfl
                                refine msteps_cons ?_ ?_
                                · intro a w' hx hfr hk
                                  obtain ⟨v_, e157, h_⟩ := hk 6 157 (by kernel_rfl) rfl
                                  replace h_ : v_ = .int .i64 (Z : Int) := h_
                                  subst h_
                                  clear hk hfr
                                  refine ⟨_, rfl, fun K hK => ?_⟩
                                  refine Kd.R_make_step (Kd.int .u8) w'.heap.size 5 (by rfl) (N := 158) rfl 24 _ _ rfl (Z : Int) (by simp [Act.eval, e157]) (by simp [Act.eval, e157]) Try.underlying24 (.int .u8 0) 1 info5 rfl (by decide) (by omega) 0 (ok := fun _ => True) (okp := fun _ => True) rfl (fun _ hk => hk) trivial (by omega) (by rw [Int.toNat_natCast]; have := HNZ.out; omega) (w0 := w') (Below.refl _ _) (Nat.le_refl _) ?_
                                  intro v5 w5_ ho hb hg_ hnew_
                                  rw [show List.replicate (Z : Int).toNat (0 : Int) = Y0 from HY0.out] at ho
                                  exact hK _ _ ⟨v5, rfl, Kd.R_lower ho hx.size⟩ (Ext.of hb)
                                refine msteps_cons ?_ ?_
                                · intro a w' hx hfr hk
                                  obtain ⟨v_, e151, h_⟩ := hk 0 151 (by kernel_rfl) rfl
                                  replace h_ : v_ = .slice (some ⟨gh, 0, none⟩) j ch := h_
                                  subst h_
                                  obtain ⟨v_, e153, h_⟩ := hk 2 153 (by kernel_rfl) rfl
                                  replace h_ : v_ = .int .i64 (s : Int) := h_
                                  subst h_
                                  clear hk hfr
                                  refine ⟨_, rfl, fun K hK => ?_⟩
                                  have l1_ : ((s : Int) < (j : Int)) = True := eq_true (by have := HSN.out; omega)
                                  have l2_ : (s < j) = True := eq_true HSN.out
                                  have l3_ : decide (s < j) = true := decide_eq_true HSN.out
                                  refine value_ (w1 := w') (v := .pointer (some ⟨gh, s, none⟩)) (by rfl) rfl ?_ (hK _ _ (show _ = _ from rfl) (Ext.refl _))
                                  go_simp
                                  (try simp only [i64_w])
                                  try rfl
                                exact msteps_nil
                              · show ∀ i ∈ [3, 4, 5], _
                                refine lsteps_cons (PStep.l ?_) ?_
                                · intro a w' wf hx hfr hk
                                  have e10 : a.tmps[10]? = some (.slice (some ⟨gi, 0, none⟩) j ci) := (hfr.off 10 rfl).trans rfl
                                  clear hk hfr
                                  refine ⟨_, rfl, fun K hK => ?_⟩
                                  refine value_ (w1 := w') (v := .slice (some ⟨gi, 0, none⟩) j ci) (by rfl) rfl ?_ (hK _ (show _ = _ from rfl))
                                  go_simp
                                  (try simp only [i64_w])
                                  try rfl
                                refine lsteps_cons (PStep.l ?_) ?_
                                · intro a w' wf hx hfr hk
                                  have e13 : a.tmps[13]? = some (.pointer (some ⟨g13, 0, none⟩)) := (hfr.off 13 rfl).trans rfl
                                  clear hk hfr
                                  refine ⟨_, rfl, fun K hK => ?_⟩
                                  refine value_ (w1 := w') (v := .pointer (some ⟨g13, 1, none⟩)) (by rfl) rfl ?_ (hK _ (show _ = _ from rfl))
                                  go_simp
                                  (try simp only [i64_w])
                                  try rfl
                                refine lsteps_cons ?_ ?_
                                · intro a w' wf hx hw hfr hk
                                  have hb13_ := blk_below BK13.out (Ext.below hx)
                                  have hc_ : w'.cell? ⟨g13, 1, none⟩ = some (.int .i64 (s : Int)) := by
                                    rcases hw with rfl | ⟨u, rfl⟩
                                    · exact (blk_cell hb13_ 1).trans rfl
                                    · exact (blk_cell ((Below.heap_setCell wf _ _ g13 HNE.out).trans hb13_) 1).trans rfl
                                  obtain ⟨v_, e155, h_⟩ := hk 4 155 (by kernel_rfl) rfl
                                  replace h_ : v_ = .pointer (some ⟨g13, 1, none⟩) := h_
                                  subst h_
                                  clear hk hfr hw hb13_
                                  refine ⟨_, rfl, fun K hK => ?_⟩
                                  refine value_ (w1 := w') (v := .int .i64 (s : Int)) (by rfl) rfl ?_ (hK _ (show _ = _ from rfl))
                                  go_simp
                                  (try simp only [i64_w])
                                  try rfl
                                exact lsteps_nil
                              · intro a w' hx hfr hk
                                obtain ⟨v_, e159, h_⟩ := hk 8 159 (by kernel_rfl) rfl
                                replace h_ : v_ = .pointer (some ⟨gh, s, none⟩) := h_
                                subst h_
                                obtain ⟨v2_, e158, h_⟩ := hk 7 158 (by kernel_rfl) rfl
                                obtain ⟨u_, rfl, h2_⟩ := h_
                                obtain ⟨Au_, cu_, rfl⟩ := Kd.R_slice h2_
                                clear h2_
                                obtain ⟨hz_, hf_⟩ := (Pst.below HP.out (Ext.below hx)).cellH s HSN.out
                                clear hk hfr
                                refine ⟨_, rfl, fun K hK => ?_⟩
                                refine skip_ (w1 := w'.setCell ⟨gh, s, none⟩ (.slice Au_ Y0.length cu_)) (by rfl) rfl ?_ (hK _ (by show _ = World.setCell w' ⟨gh, s, none⟩ (a.tmps.getD 158 undef); rw [Array.getD_eq_getD_getElem?, e158]; rfl))
                                go_simp
                                try rfl
                              · rintro val wf w2 hx hF rfl
                                have e151 : val 151 = .slice (some ⟨gh, 0, none⟩) j ch := hF 0 151 (by decide) (by decide) rfl
                                have e152 : val 152 = .pointer (some ⟨g13, 1, none⟩) := hF 1 152 (by decide) (by decide) rfl
                                have e153 : val 153 = .int .i64 (s : Int) := hF 2 153 (by decide) (by decide) rfl
                                have e154 : val 154 = .slice (some ⟨gi, 0, none⟩) j ci := hF 3 154 (by decide) (by decide) rfl
                                have e155 : val 155 = .pointer (some ⟨g13, 1, none⟩) := hF 4 155 (by decide) (by decide) rfl
                                have e156 : val 156 = .int .i64 (s : Int) := hF 5 156 (by decide) (by decide) rfl
                                have e157 : val 157 = .int .i64 (Z : Int) := hF 6 157 (by decide) (by decide) rfl
                                obtain ⟨v158, e158, hr_⟩ := hF 7 158 (by decide) (by decide) rfl
                                obtain ⟨Av, cv, rfl, hl_, _⟩ := Kd.R_reads hr_
                                have HHR : Aside0 (HasR w0 wf (Av, Y0.length, cv) Y0) := ⟨⟨rfl, hl_, .inr (Kd.R_lower hr_ HS.out.bel.size)⟩⟩
                                clear hr_ hl_
                                have e159 : val 159 = .pointer (some ⟨gh, s, none⟩) := hF 8 159 (by decide) (by decide) rfl
                                clear hF
                                simp only [putT, List.foldl_cons, List.foldl_nil, Act.put, List.setIfInBounds_toArray, List.set_cons_zero, List.set_cons_succ, e151, e152, e153, e154, e155, e156, e157, e158, e159]
                                clear e151 e152 e153 e154 e155 e156 e157 e158 e159
                                replace HP := Aside0.mk (Pst.below HP.out (Ext.below hx))
                                replace HS := Aside0.mk (Mst.below HS.out (Ext.below hx))
                                have HP1 := Aside0.mk (Pst.set1 (p := (Av, Y0.length, cv)) HP.out s HSN.out HHR.out)
                                obtain ⟨z_, f_⟩ := HP1.out.cellI s HSN.out
                                have HP2 := Aside0.mk (Pst.set2 (p := (Av, Y0.length, cv)) HP.out s HSN.out false HHR.out)
                                have HS2 := Aside0.mk (Mst.pst2 HS.out HP.out s (encS (Av, Y0.length, cv)) false)
                                clear HP1 hx y0_ y1_ y2_
                                change (World.setCell wf ⟨gh, s, none⟩ (encS (Av, Y0.length, cv))).cell? ⟨gi, s, none⟩ = _ at z_
                                simp only [encS] at z_ f_
                                go_wp2
                                go_roundw
                                case rel => exact ⟨i + 1, n, _, _, _, _, _, (by first | rfl | rw [hw_] | simp [hw_]), HLT.out, ⟨by have := HN.out; omega⟩, HKA, HP2, HS2⟩
                                case measure => exact (by first | exact meas_ HLT.out (by have := H60.out; have := HLT.out; omega) | exact meas2_ HLT.out)
                            · have b1_ : decide (k = 2) = false := decide_eq_false (by assumption)
                              have b2_ : (k == 2) = false := beq_eq_false_iff_ne.2 (by assumption)
                              by_cases hk3 : k = 3
                              · have c1_ : decide (k = 3) = true := decide_eq_true (by assumption)
                                have c2_ : (k == 3) = true := beq_iff_eq.2 (by assumption)
                                have HGS : Aside0 (0 ≤ (s : Int) ∧ (s : Int) < (j : Int)) := ⟨⟨by omega, by have := HSN.out; omega⟩⟩
                                obtain ⟨Y, hY⟩ : ∃ z_, G (s : Int) = z_ := ⟨_, rfl⟩
                                have HY := Aside0.mk hY
                                have HHR0 := HP.out.has s HSN.out
                                obtain ⟨pv, hpv⟩ : ∃ z_, vs.getD s (none, 0, 0) = z_ := ⟨_, rfl⟩
                                rw [hpv, hY] at HHR0
                                obtain ⟨Ah, nh, chh⟩ := pv
                                obtain rfl : nh = Y.length := HHR0.1
                                have HPV := Aside0.mk hpv
                                have HYB : Aside0 (Y.length ≤ 1000000) := ⟨by have := Sec.len' (hY ▸ HS.out.sec (s : Int)); have := HNZ.out; omega⟩
                                clear hY hpv hk1 hk2 hk3
                                go_wp2_with (first | ((with_reducible refine gate_dst (N := 13) rfl ?_); refine make_box (p := 13) (v := 82) (T := 33) (old := #[.int .i64 0, .int .i64 0, .slice none 0 0]) (cs := #[.int .i64 k, .int .i64 (s : Int), .slice A1 dt.length c1]) rfl rfl rfl rfl rfl ?hr (Nat.le_of_ble_eq_true rfl) (by decide) rfl rfl (by kernel_rfl) (by rfl) ?_; (case hr => first | (go_simp; done) | (go_simp; rfl)); intro g13 w5 hge_ hx_ hbox_; replace HS := Aside0.mk (Mst.below HS.out hx_.below); replace HP := Aside0.mk (Pst.below HP.out hx_.below); have BK13 := Aside0.mk hbox_; have HG13 := Aside0.mk (Nat.le_trans HS.out.bel.size (Nat.le_refl _)); have y0_ : w5.cell? ⟨g13, 0, none⟩ = some (.int .i64 k) := (blk_cell hbox_ 0).trans rfl; have y1_ : w5.cell? ⟨g13, 1, none⟩ = some (.int .i64 (s : Int)) := (blk_cell hbox_ 1).trans rfl; have y2_ : w5.cell? ⟨g13, 2, none⟩ = some (.slice A1 dt.length c1) := (blk_cell hbox_ 2).trans rfl; clear hge_ hx_ hbox_) | (go_at_call 10; (with_reducible refine (mod_Read g gm n w0.heap.size (j : Int) (Z : Int) (s : Int) D Y _ HS.out.rc HS.out.mp HGS.out HG2.out HZZ.out (HY.out ▸ HS.out.sec (s : Int))).mono ?_); rintro e w6 ⟨v_, rfl, hR, hb⟩; obtain ⟨Aa, ca, rfl, hl_, hC_⟩ := Kd.R_reads hR; have HRA := Aside0.mk hR; replace HS := Aside0.mk (Mst.below HS.out hb); replace HP := Aside0.mk (Pst.below HP.out hb); clear y0_ y1_ y2_; replace BK13 := Aside0.mk (blk_below BK13.out hb); have y0_ : w6.cell? ⟨g13, 0, none⟩ = some (.int .i64 k) := (blk_cell BK13.out 0).trans rfl; have y1_ : w6.cell? ⟨g13, 1, none⟩ = some (.int .i64 (s : Int)) := (blk_cell BK13.out 1).trans rfl; have y2_ : w6.cell? ⟨g13, 2, none⟩ = some (.slice A1 dt.length c1) := (blk_cell BK13.out 2).trans rfl; clear hb; obtain ⟨z_, _⟩ := HP.out.cellH s HSN.out; rw [HPV.out] at z_; simp only [encS] at z_; clear hR hl_ hC_) | (go_at_call 12; (with_reducible refine (same_calls Aa Ah ca chh Y Y _ rfl (Kd.R_reads' HRA.out).2.2 (Kd.R_reads' HRA.out).2.1 (HasR.reads (HP.out.has' s HSN.out HPV.out HY.out) HS.out.bel).1 (HasR.reads (HP.out.has' s HSN.out HPV.out HY.out) HS.out.bel).2 HYB.out).mono ?_); rintro e w7 ⟨rfl, hb⟩; replace HS := Aside0.mk (Mst.below HS.out hb); replace HP := Aside0.mk (Pst.below HP.out hb); clear hb))
                                go_roundw
                                case rel => exact ⟨i + 1, n, D, G, K, vs, bs, (by first | rfl | rw [hw_] | simp [hw_]), HLT.out, ⟨by have := HN.out; omega⟩, HKA, HP, HS⟩
                                case measure => exact (by first | exact meas_ HLT.out (by have := H60.out; have := HLT.out; omega) | exact meas2_ HLT.out)
                              · have c1_ : decide (k = 3) = false := decide_eq_false (by assumption)
                                have c2_ : (k == 3) = false := beq_eq_false_iff_ne.2 (by assumption)
                                by_cases hk4 : k = 4
                                · have d1_ : decide (k = 4) = true := decide_eq_true (by assumption)
                                  have d2_ : (k == 4) = true := beq_iff_eq.2 (by assumption)
                                  clear hk1 hk2 hk3 hk4
                                  go_wp2_with (first | ((with_reducible refine gate_dst (N := 13) rfl ?_); refine make_box (p := 13) (v := 82) (T := 33) (old := #[.int .i64 0, .int .i64 0, .slice none 0 0]) (cs := #[.int .i64 k, .int .i64 (s : Int), .slice A1 dt.length c1]) rfl rfl rfl rfl rfl ?hr (Nat.le_of_ble_eq_true rfl) (by decide) rfl rfl (by kernel_rfl) (by rfl) ?_; (case hr => first | (go_simp; done) | (go_simp; rfl)); intro g13 w5 hge_ hx_ hbox_; replace HS := Aside0.mk (Mst.below HS.out hx_.below); replace HP := Aside0.mk (Pst.below HP.out hx_.below); have BK13 := Aside0.mk hbox_; have HG13 := Aside0.mk (Nat.le_trans HS.out.bel.size (Nat.le_refl _)); have y0_ : w5.cell? ⟨g13, 0, none⟩ = some (.int .i64 k) := (blk_cell hbox_ 0).trans rfl; have y1_ : w5.cell? ⟨g13, 1, none⟩ = some (.int .i64 (s : Int)) := (blk_cell hbox_ 1).trans rfl; have y2_ : w5.cell? ⟨g13, 2, none⟩ = some (.slice A1 dt.length c1) := (blk_cell hbox_ 2).trans rfl; clear hge_ hx_ hbox_) | (go_at_call 13; (with_reducible refine (mod_Flush g gm (j : Int) (Z : Int) _ HS.out.rc HG1.out).mono ?_); rintro e w6 ⟨rfl, hb⟩; replace HS := Aside0.mk (Mst.below HS.out hb); replace HP := Aside0.mk (Pst.below HP.out hb); clear y0_ y1_ y2_; replace BK13 := Aside0.mk (blk_below BK13.out hb); have y0_ : w6.cell? ⟨g13, 0, none⟩ = some (.int .i64 k) := (blk_cell BK13.out 0).trans rfl; have y1_ : w6.cell? ⟨g13, 1, none⟩ = some (.int .i64 (s : Int)) := (blk_cell BK13.out 1).trans rfl; have y2_ : w6.cell? ⟨g13, 2, none⟩ = some (.slice A1 dt.length c1) := (blk_cell BK13.out 2).trans rfl; clear hb))
                                  go_roundw
                                  case rel => exact ⟨i + 1, n, D, G, K, vs, bs, (by first | rfl | rw [hw_] | simp [hw_]), HLT.out, ⟨by have := HN.out; omega⟩, HKA, HP, HS⟩
                                  case measure => exact (by first | exact meas_ HLT.out (by have := H60.out; have := HLT.out; omega) | exact meas2_ HLT.out)
                                · have d1_ : decide (k = 4) = false := decide_eq_false (by assumption)
                                  have d2_ : (k == 4) = false := beq_eq_false_iff_ne.2 (by assumption)
                                  clear hk1 hk2 hk3 hk4
                                  go_wp2_with ((with_reducible refine gate_dst (N := 13) rfl ?_); refine make_box (p := 13) (v := 82) (T := 33) (old := #[.int .i64 0, .int .i64 0, .slice none 0 0]) (cs := #[.int .i64 k, .int .i64 (s : Int), .slice A1 dt.length c1]) rfl rfl rfl rfl rfl ?hr (Nat.le_of_ble_eq_true rfl) (by decide) rfl rfl (by kernel_rfl) (by rfl) ?_; (case hr => first | (go_simp; done) | (go_simp; rfl)); intro g13 w5 hge_ hx_ hbox_; replace HS := Aside0.mk (Mst.below HS.out hx_.below); replace HP := Aside0.mk (Pst.below HP.out hx_.below); have BK13 := Aside0.mk hbox_; have HG13 := Aside0.mk (Nat.le_trans HS.out.bel.size (Nat.le_refl _)); have y0_ : w5.cell? ⟨g13, 0, none⟩ = some (.int .i64 k) := (blk_cell hbox_ 0).trans rfl; have y1_ : w5.cell? ⟨g13, 1, none⟩ = some (.int .i64 (s : Int)) := (blk_cell hbox_ 1).trans rfl; have y2_ : w5.cell? ⟨g13, 2, none⟩ = some (.slice A1 dt.length c1) := (blk_cell hbox_ 2).trans rfl; clear hge_ hx_ hbox_)
                                  go_roundw
                                  case rel => exact ⟨i + 1, n, D, G, K, vs, bs, (by first | rfl | rw [hw_] | simp [hw_]), HLT.out, ⟨by have := HN.out; omega⟩, HKA, HP, HS⟩
                                  case measure => exact (by first | exact meas_ HLT.out (by have := H60.out; have := HLT.out; omega) | exact meas2_ HLT.out)
                        · by_cases hq0 : q < 0
                          · have n1_ : decide (q ≥ 0) = false := decide_eq_false (by omega)
                            have n2_ : decide (0 ≤ q) = false := decide_eq_false (by omega)
                            have OUT : ¬ (0 ≤ q ∧ q < (j : Int)) := hin
                            clear hin hq0
                            by_cases hk1 : k = 1
                            · have a1_ : decide (k = 1) = true := decide_eq_true (by assumption)
                              have a2_ : (k == 1) = true := beq_iff_eq.2 (by assumption)
                              have HGS : Aside0 (¬ (0 ≤ q ∧ q < (j : Int) ∧ (dt.length : Int) = (Z : Int))) := ⟨by omega⟩
                              clear hk1 OUT
                              go_wp2_with (first | ((with_reducible refine gate_dst (N := 13) rfl ?_); refine make_box (p := 13) (v := 82) (T := 33) (old := #[.int .i64 0, .int .i64 0, .slice none 0 0]) (cs := #[.int .i64 k, .int .i64 q, .slice A1 dt.length c1]) rfl rfl rfl rfl rfl ?hr (Nat.le_of_ble_eq_true rfl) (by decide) rfl rfl (by kernel_rfl) (by rfl) ?_; (case hr => first | (go_simp; done) | (go_simp; rfl)); intro g13 w5 hge_ hx_ hbox_; replace HS := Aside0.mk (Mst.below HS.out hx_.below); replace HP := Aside0.mk (Pst.below HP.out hx_.below); have BK13 := Aside0.mk hbox_; have HG13 := Aside0.mk (Nat.le_trans HS.out.bel.size (Nat.le_refl _)); have y0_ : w5.cell? ⟨g13, 0, none⟩ = some (.int .i64 k) := (blk_cell hbox_ 0).trans rfl; have y1_ : w5.cell? ⟨g13, 1, none⟩ = some (.int .i64 q) := (blk_cell hbox_ 1).trans rfl; have y2_ : w5.cell? ⟨g13, 2, none⟩ = some (.slice A1 dt.length c1) := (blk_cell hbox_ 2).trans rfl; clear hge_ hx_ hbox_) | (go_at_call 8; (with_reducible refine (mod_bad_Write g gm (j : Int) (Z : Int) q A1 dt.length c1 _ HS.out.rc HGS.out).mono ?_); rintro e w6 ⟨rfl, hb⟩; replace HS := Aside0.mk (Mst.below HS.out hb); replace HP := Aside0.mk (Pst.below HP.out hb); clear y0_ y1_ y2_; replace BK13 := Aside0.mk (blk_below BK13.out hb); have y0_ : w6.cell? ⟨g13, 0, none⟩ = some (.int .i64 k) := (blk_cell BK13.out 0).trans rfl; have y1_ : w6.cell? ⟨g13, 1, none⟩ = some (.int .i64 q) := (blk_cell BK13.out 1).trans rfl; have y2_ : w6.cell? ⟨g13, 2, none⟩ = some (.slice A1 dt.length c1) := (blk_cell BK13.out 2).trans rfl; clear hb))
                              go_roundw
                              case rel => exact ⟨i + 1, n, D, G, K, vs, bs, (by first | rfl | rw [hw_] | simp [hw_]), HLT.out, ⟨by have := HN.out; omega⟩, HKA, HP, HS⟩
                              case measure => exact (by first | exact meas_ HLT.out (by have := H60.out; have := HLT.out; omega) | exact meas2_ HLT.out)
                            · have a1_ : decide (k = 1) = false := decide_eq_false (by assumption)
                              have a2_ : (k == 1) = false := beq_eq_false_iff_ne.2 (by assumption)
                              by_cases hk2 : k = 2
                              · have b1_ : decide (k = 2) = true := decide_eq_true (by assumption)
                                have b2_ : (k == 2) = true := beq_iff_eq.2 (by assumption)
                                have HGS : Aside0 (¬ (0 ≤ q ∧ q < (j : Int))) := ⟨by omega⟩
                                clear hk1 hk2 OUT
                                go_wp2_with (first | ((with_reducible refine gate_dst (N := 13) rfl ?_); refine make_box (p := 13) (v := 82) (T := 33) (old := #[.int .i64 0, .int .i64 0, .slice none 0 0]) (cs := #[.int .i64 k, .int .i64 q, .slice A1 dt.length c1]) rfl rfl rfl rfl rfl ?hr (Nat.le_of_ble_eq_true rfl) (by decide) rfl rfl (by kernel_rfl) (by rfl) ?_; (case hr => first | (go_simp; done) | (go_simp; rfl)); intro g13 w5 hge_ hx_ hbox_; replace HS := Aside0.mk (Mst.below HS.out hx_.below); replace HP := Aside0.mk (Pst.below HP.out hx_.below); have BK13 := Aside0.mk hbox_; have HG13 := Aside0.mk (Nat.le_trans HS.out.bel.size (Nat.le_refl _)); have y0_ : w5.cell? ⟨g13, 0, none⟩ = some (.int .i64 k) := (blk_cell hbox_ 0).trans rfl; have y1_ : w5.cell? ⟨g13, 1, none⟩ = some (.int .i64 q) := (blk_cell hbox_ 1).trans rfl; have y2_ : w5.cell? ⟨g13, 2, none⟩ = some (.slice A1 dt.length c1) := (blk_cell hbox_ 2).trans rfl; clear hge_ hx_ hbox_) | (go_at_call 9; (with_reducible refine (mod_bad_Trim g gm (j : Int) (Z : Int) q _ HS.out.rc HGS.out).mono ?_); rintro e w6 ⟨rfl, hb⟩; replace HS := Aside0.mk (Mst.below HS.out hb); replace HP := Aside0.mk (Pst.below HP.out hb); clear y0_ y1_ y2_; replace BK13 := Aside0.mk (blk_below BK13.out hb); have y0_ : w6.cell? ⟨g13, 0, none⟩ = some (.int .i64 k) := (blk_cell BK13.out 0).trans rfl; have y1_ : w6.cell? ⟨g13, 1, none⟩ = some (.int .i64 q) := (blk_cell BK13.out 1).trans rfl; have y2_ : w6.cell? ⟨g13, 2, none⟩ = some (.slice A1 dt.length c1) := (blk_cell BK13.out 2).trans rfl; clear hb))
                                go_roundw
                                case rel => exact ⟨i + 1, n, D, G, K, vs, bs, (by first | rfl | rw [hw_] | simp [hw_]), HLT.out, ⟨by have := HN.out; omega⟩, HKA, HP, HS⟩
                                case measure => exact (by first | exact meas_ HLT.out (by have := H60.out; have := HLT.out; omega) | exact meas2_ HLT.out)
                              · have b1_ : decide (k = 2) = false := decide_eq_false (by assumption)
                                have b2_ : (k == 2) = false := beq_eq_false_iff_ne.2 (by assumption)
                                by_cases hk3 : k = 3
                                · have c1_ : decide (k = 3) = true := decide_eq_true (by assumption)
                                  have c2_ : (k == 3) = true := beq_iff_eq.2 (by assumption)
                                  have HGS : Aside0 (¬ (0 ≤ q ∧ q < (j : Int))) := ⟨by omega⟩
                                  clear hk1 hk2 hk3 OUT
                                  go_wp2_with (first | ((with_reducible refine gate_dst (N := 13) rfl ?_); refine make_box (p := 13) (v := 82) (T := 33) (old := #[.int .i64 0, .int .i64 0, .slice none 0 0]) (cs := #[.int .i64 k, .int .i64 q, .slice A1 dt.length c1]) rfl rfl rfl rfl rfl ?hr (Nat.le_of_ble_eq_true rfl) (by decide) rfl rfl (by kernel_rfl) (by rfl) ?_; (case hr => first | (go_simp; done) | (go_simp; rfl)); intro g13 w5 hge_ hx_ hbox_; replace HS := Aside0.mk (Mst.below HS.out hx_.below); replace HP := Aside0.mk (Pst.below HP.out hx_.below); have BK13 := Aside0.mk hbox_; have HG13 := Aside0.mk (Nat.le_trans HS.out.bel.size (Nat.le_refl _)); have y0_ : w5.cell? ⟨g13, 0, none⟩ = some (.int .i64 k) := (blk_cell hbox_ 0).trans rfl; have y1_ : w5.cell? ⟨g13, 1, none⟩ = some (.int .i64 q) := (blk_cell hbox_ 1).trans rfl; have y2_ : w5.cell? ⟨g13, 2, none⟩ = some (.slice A1 dt.length c1) := (blk_cell hbox_ 2).trans rfl; clear hge_ hx_ hbox_) | (go_at_call 10; (with_reducible refine (mod_Read_bad g gm (j : Int) (Z : Int) q _ HS.out.rc HGS.out).mono ?_); rintro e w6 ⟨rfl, hb⟩; replace HS := Aside0.mk (Mst.below HS.out hb); replace HP := Aside0.mk (Pst.below HP.out hb); clear y0_ y1_ y2_; replace BK13 := Aside0.mk (blk_below BK13.out hb); have y0_ : w6.cell? ⟨g13, 0, none⟩ = some (.int .i64 k) := (blk_cell BK13.out 0).trans rfl; have y1_ : w6.cell? ⟨g13, 1, none⟩ = some (.int .i64 q) := (blk_cell BK13.out 1).trans rfl; have y2_ : w6.cell? ⟨g13, 2, none⟩ = some (.slice A1 dt.length c1) := (blk_cell BK13.out 2).trans rfl; clear hb))
                                  go_roundw
                                  case rel => exact ⟨i + 1, n, D, G, K, vs, bs, (by first | rfl | rw [hw_] | simp [hw_]), HLT.out, ⟨by have := HN.out; omega⟩, HKA, HP, HS⟩
                                  case measure => exact (by first | exact meas_ HLT.out (by have := H60.out; have := HLT.out; omega) | exact meas2_ HLT.out)
                                · have c1_ : decide (k = 3) = false := decide_eq_false (by assumption)
                                  have c2_ : (k == 3) = false := beq_eq_false_iff_ne.2 (by assumption)
                                  by_cases hk4 : k = 4
                                  · have d1_ : decide (k = 4) = true := decide_eq_true (by assumption)
                                    have d2_ : (k == 4) = true := beq_iff_eq.2 (by assumption)
                                    clear hk1 hk2 hk3 hk4 OUT
                                    go_wp2_with (first | ((with_reducible refine gate_dst (N := 13) rfl ?_); refine make_box (p := 13) (v := 82) (T := 33) (old := #[.int .i64 0, .int .i64 0, .slice none 0 0]) (cs := #[.int .i64 k, .int .i64 q, .slice A1 dt.length c1]) rfl rfl rfl rfl rfl ?hr (Nat.le_of_ble_eq_true rfl) (by decide) rfl rfl (by kernel_rfl) (by rfl) ?_; (case hr => first | (go_simp; done) | (go_simp; rfl)); intro g13 w5 hge_ hx_ hbox_; replace HS := Aside0.mk (Mst.below HS.out hx_.below); replace HP := Aside0.mk (Pst.below HP.out hx_.below); have BK13 := Aside0.mk hbox_; have HG13 := Aside0.mk (Nat.le_trans HS.out.bel.size (Nat.le_refl _)); have y0_ : w5.cell? ⟨g13, 0, none⟩ = some (.int .i64 k) := (blk_cell hbox_ 0).trans rfl; have y1_ : w5.cell? ⟨g13, 1, none⟩ = some (.int .i64 q) := (blk_cell hbox_ 1).trans rfl; have y2_ : w5.cell? ⟨g13, 2, none⟩ = some (.slice A1 dt.length c1) := (blk_cell hbox_ 2).trans rfl; clear hge_ hx_ hbox_) | (go_at_call 13; (with_reducible refine (mod_Flush g gm (j : Int) (Z : Int) _ HS.out.rc HG1.out).mono ?_); rintro e w6 ⟨rfl, hb⟩; replace HS := Aside0.mk (Mst.below HS.out hb); replace HP := Aside0.mk (Pst.below HP.out hb); clear y0_ y1_ y2_; replace BK13 := Aside0.mk (blk_below BK13.out hb); have y0_ : w6.cell? ⟨g13, 0, none⟩ = some (.int .i64 k) := (blk_cell BK13.out 0).trans rfl; have y1_ : w6.cell? ⟨g13, 1, none⟩ = some (.int .i64 q) := (blk_cell BK13.out 1).trans rfl; have y2_ : w6.cell? ⟨g13, 2, none⟩ = some (.slice A1 dt.length c1) := (blk_cell BK13.out 2).trans rfl; clear hb))
                                    go_roundw
                                    case rel => exact ⟨i + 1, n, D, G, K, vs, bs, (by first | rfl | rw [hw_] | simp [hw_]), HLT.out, ⟨by have := HN.out; omega⟩, HKA, HP, HS⟩
                                    case measure => exact (by first | exact meas_ HLT.out (by have := H60.out; have := HLT.out; omega) | exact meas2_ HLT.out)
                                  · have d1_ : decide (k = 4) = false := decide_eq_false (by assumption)
                                    have d2_ : (k == 4) = false := beq_eq_false_iff_ne.2 (by assumption)
                                    clear hk1 hk2 hk3 hk4 OUT
                                    go_wp2_with ((with_reducible refine gate_dst (N := 13) rfl ?_); refine make_box (p := 13) (v := 82) (T := 33) (old := #[.int .i64 0, .int .i64 0, .slice none 0 0]) (cs := #[.int .i64 k, .int .i64 q, .slice A1 dt.length c1]) rfl rfl rfl rfl rfl ?hr (Nat.le_of_ble_eq_true rfl) (by decide) rfl rfl (by kernel_rfl) (by rfl) ?_; (case hr => first | (go_simp; done) | (go_simp; rfl)); intro g13 w5 hge_ hx_ hbox_; replace HS := Aside0.mk (Mst.below HS.out hx_.below); replace HP := Aside0.mk (Pst.below HP.out hx_.below); have BK13 := Aside0.mk hbox_; have HG13 := Aside0.mk (Nat.le_trans HS.out.bel.size (Nat.le_refl _)); have y0_ : w5.cell? ⟨g13, 0, none⟩ = some (.int .i64 k) := (blk_cell hbox_ 0).trans rfl; have y1_ : w5.cell? ⟨g13, 1, none⟩ = some (.int .i64 q) := (blk_cell hbox_ 1).trans rfl; have y2_ : w5.cell? ⟨g13, 2, none⟩ = some (.slice A1 dt.length c1) := (blk_cell hbox_ 2).trans rfl; clear hge_ hx_ hbox_)
                                    go_roundw
                                    case rel => exact ⟨i + 1, n, D, G, K, vs, bs, (by first | rfl | rw [hw_] | simp [hw_]), HLT.out, ⟨by have := HN.out; omega⟩, HKA, HP, HS⟩
                                    case measure => exact (by first | exact meas_ HLT.out (by have := H60.out; have := HLT.out; omega) | exact meas2_ HLT.out)
                          · have n1_ : decide (q ≥ 0) = true := decide_eq_true (by omega)
                            have n2_ : decide (0 ≤ q) = true := decide_eq_true (by omega)
                            have n3_ : decide (q < (j : Int)) = false := decide_eq_false (by omega)
                            have OUT : ¬ (0 ≤ q ∧ q < (j : Int)) := hin
                            clear hin hq0
                            by_cases hk1 : k = 1
                            · have a1_ : decide (k = 1) = true := decide_eq_true (by assumption)
                              have a2_ : (k == 1) = true := beq_iff_eq.2 (by assumption)
                              have HGS : Aside0 (¬ (0 ≤ q ∧ q < (j : Int) ∧ (dt.length : Int) = (Z : Int))) := ⟨by omega⟩
                              clear hk1 OUT
                              go_wp2_with (first | ((with_reducible refine gate_dst (N := 13) rfl ?_); refine make_box (p := 13) (v := 82) (T := 33) (old := #[.int .i64 0, .int .i64 0, .slice none 0 0]) (cs := #[.int .i64 k, .int .i64 q, .slice A1 dt.length c1]) rfl rfl rfl rfl rfl ?hr (Nat.le_of_ble_eq_true rfl) (by decide) rfl rfl (by kernel_rfl) (by rfl) ?_; (case hr => first | (go_simp; done) | (go_simp; rfl)); intro g13 w5 hge_ hx_ hbox_; replace HS := Aside0.mk (Mst.below HS.out hx_.below); replace HP := Aside0.mk (Pst.below HP.out hx_.below); have BK13 := Aside0.mk hbox_; have HG13 := Aside0.mk (Nat.le_trans HS.out.bel.size (Nat.le_refl _)); have y0_ : w5.cell? ⟨g13, 0, none⟩ = some (.int .i64 k) := (blk_cell hbox_ 0).trans rfl; have y1_ : w5.cell? ⟨g13, 1, none⟩ = some (.int .i64 q) := (blk_cell hbox_ 1).trans rfl; have y2_ : w5.cell? ⟨g13, 2, none⟩ = some (.slice A1 dt.length c1) := (blk_cell hbox_ 2).trans rfl; clear hge_ hx_ hbox_) | (go_at_call 8; (with_reducible refine (mod_bad_Write g gm (j : Int) (Z : Int) q A1 dt.length c1 _ HS.out.rc HGS.out).mono ?_); rintro e w6 ⟨rfl, hb⟩; replace HS := Aside0.mk (Mst.below HS.out hb); replace HP := Aside0.mk (Pst.below HP.out hb); clear y0_ y1_ y2_; replace BK13 := Aside0.mk (blk_below BK13.out hb); have y0_ : w6.cell? ⟨g13, 0, none⟩ = some (.int .i64 k) := (blk_cell BK13.out 0).trans rfl; have y1_ : w6.cell? ⟨g13, 1, none⟩ = some (.int .i64 q) := (blk_cell BK13.out 1).trans rfl; have y2_ : w6.cell? ⟨g13, 2, none⟩ = some (.slice A1 dt.length c1) := (blk_cell BK13.out 2).trans rfl; clear hb))
                              go_roundw
                              case rel => exact ⟨i + 1, n, D, G, K, vs, bs, (by first | rfl | rw [hw_] | simp [hw_]), HLT.out, ⟨by have := HN.out; omega⟩, HKA, HP, HS⟩
                              case measure => exact (by first | exact meas_ HLT.out (by have := H60.out; have := HLT.out; omega) | exact meas2_ HLT.out)
                            · have a1_ : decide (k = 1) = false := decide_eq_false (by assumption)
                              have a2_ : (k == 1) = false := beq_eq_false_iff_ne.2 (by assumption)
                              by_cases hk2 : k = 2
                              · have b1_ : decide (k = 2) = true := decide_eq_true (by assumption)
                                have b2_ : (k == 2) = true := beq_iff_eq.2 (by assumption)
                                have HGS : Aside0 (¬ (0 ≤ q ∧ q < (j : Int))) := ⟨by omega⟩
                                clear hk1 hk2 OUT
                                go_wp2_with (first | ((with_reducible refine gate_dst (N := 13) rfl ?_); refine make_box (p := 13) (v := 82) (T := 33) (old := #[.int .i64 0, .int .i64 0, .slice none 0 0]) (cs := #[.int .i64 k, .int .i64 q, .slice A1 dt.length c1]) rfl rfl rfl rfl rfl ?hr (Nat.le_of_ble_eq_true rfl) (by decide) rfl rfl (by kernel_rfl) (by rfl) ?_; (case hr => first | (go_simp; done) | (go_simp; rfl)); intro g13 w5 hge_ hx_ hbox_; replace HS := Aside0.mk (Mst.below HS.out hx_.below); replace HP := Aside0.mk (Pst.below HP.out hx_.below); have BK13 := Aside0.mk hbox_; have HG13 := Aside0.mk (Nat.le_trans HS.out.bel.size (Nat.le_refl _)); have y0_ : w5.cell? ⟨g13, 0, none⟩ = some (.int .i64 k) := (blk_cell hbox_ 0).trans rfl; have y1_ : w5.cell? ⟨g13, 1, none⟩ = some (.int .i64 q) := (blk_cell hbox_ 1).trans rfl; have y2_ : w5.cell? ⟨g13, 2, none⟩ = some (.slice A1 dt.length c1) := (blk_cell hbox_ 2).trans rfl; clear hge_ hx_ hbox_) | (go_at_call 9; (with_reducible refine (mod_bad_Trim g gm (j : Int) (Z : Int) q _ HS.out.rc HGS.out).mono ?_); rintro e w6 ⟨rfl, hb⟩; replace HS := Aside0.mk (Mst.below HS.out hb); replace HP := Aside0.mk (Pst.below HP.out hb); clear y0_ y1_ y2_; replace BK13 := Aside0.mk (blk_below BK13.out hb); have y0_ : w6.cell? ⟨g13, 0, none⟩ = some (.int .i64 k) := (blk_cell BK13.out 0).trans rfl; have y1_ : w6.cell? ⟨g13, 1, none⟩ = some (.int .i64 q) := (blk_cell BK13.out 1).trans rfl; have y2_ : w6.cell? ⟨g13, 2, none⟩ = some (.slice A1 dt.length c1) := (blk_cell BK13.out 2).trans rfl; clear hb))
                                go_roundw
                                case rel => exact ⟨i + 1, n, D, G, K, vs, bs, (by first | rfl | rw [hw_] | simp [hw_]), HLT.out, ⟨by have := HN.out; omega⟩, HKA, HP, HS⟩
                                case measure => exact (by first | exact meas_ HLT.out (by have := H60.out; have := HLT.out; omega) | exact meas2_ HLT.out)
                              · have b1_ : decide (k = 2) = false := decide_eq_false (by assumption)
                                have b2_ : (k == 2) = false := beq_eq_false_iff_ne.2 (by assumption)
                                by_cases hk3 : k = 3
                                · have c1_ : decide (k = 3) = true := decide_eq_true (by assumption)
                                  have c2_ : (k == 3) = true := beq_iff_eq.2 (by assumption)
                                  have HGS : Aside0 (¬ (0 ≤ q ∧ q < (j : Int))) := ⟨by omega⟩
                                  clear hk1 hk2 hk3 OUT
                                  go_wp2_with (first | ((with_reducible refine gate_dst (N := 13) rfl ?_); refine make_box (p := 13) (v := 82) (T := 33) (old := #[.int .i64 0, .int .i64 0, .slice none 0 0]) (cs := #[.int .i64 k, .int .i64 q, .slice A1 dt.length c1]) rfl rfl rfl rfl rfl ?hr (Nat.le_of_ble_eq_true rfl) (by decide) rfl rfl (by kernel_rfl) (by rfl) ?_; (case hr => first | (go_simp; done) | (go_simp; rfl)); intro g13 w5 hge_ hx_ hbox_; replace HS := Aside0.mk (Mst.below HS.out hx_.below); replace HP := Aside0.mk (Pst.below HP.out hx_.below); have BK13 := Aside0.mk hbox_; have HG13 := Aside0.mk (Nat.le_trans HS.out.bel.size (Nat.le_refl _)); have y0_ : w5.cell? ⟨g13, 0, none⟩ = some (.int .i64 k) := (blk_cell hbox_ 0).trans rfl; have y1_ : w5.cell? ⟨g13, 1, none⟩ = some (.int .i64 q) := (blk_cell hbox_ 1).trans rfl; have y2_ : w5.cell? ⟨g13, 2, none⟩ = some (.slice A1 dt.length c1) := (blk_cell hbox_ 2).trans rfl; clear hge_ hx_ hbox_) | (go_at_call 10; (with_reducible refine (mod_Read_bad g gm (j : Int) (Z : Int) q _ HS.out.rc HGS.out).mono ?_); rintro e w6 ⟨rfl, hb⟩; replace HS := Aside0.mk (Mst.below HS.out hb); replace HP := Aside0.mk (Pst.below HP.out hb); clear y0_ y1_ y2_; replace BK13 := Aside0.mk (blk_below BK13.out hb); have y0_ : w6.cell? ⟨g13, 0, none⟩ = some (.int .i64 k) := (blk_cell BK13.out 0).trans rfl; have y1_ : w6.cell? ⟨g13, 1, none⟩ = some (.int .i64 q) := (blk_cell BK13.out 1).trans rfl; have y2_ : w6.cell? ⟨g13, 2, none⟩ = some (.slice A1 dt.length c1) := (blk_cell BK13.out 2).trans rfl; clear hb))
                                  go_roundw
                                  case rel => exact ⟨i + 1, n, D, G, K, vs, bs, (by first | rfl | rw [hw_] | simp [hw_]), HLT.out, ⟨by have := HN.out; omega⟩, HKA, HP, HS⟩
                                  case measure => exact (by first | exact meas_ HLT.out (by have := H60.out; have := HLT.out; omega) | exact meas2_ HLT.out)
                                · have c1_ : decide (k = 3) = false := decide_eq_false (by assumption)
                                  have c2_ : (k == 3) = false := beq_eq_false_iff_ne.2 (by assumption)
                                  by_cases hk4 : k = 4
                                  · have d1_ : decide (k = 4) = true := decide_eq_true (by assumption)
                                    have d2_ : (k == 4) = true := beq_iff_eq.2 (by assumption)
                                    clear hk1 hk2 hk3 hk4 OUT
                                    go_wp2_with (first | ((with_reducible refine gate_dst (N := 13) rfl ?_); refine make_box (p := 13) (v := 82) (T := 33) (old := #[.int .i64 0, .int .i64 0, .slice none 0 0]) (cs := #[.int .i64 k, .int .i64 q, .slice A1 dt.length c1]) rfl rfl rfl rfl rfl ?hr (Nat.le_of_ble_eq_true rfl) (by decide) rfl rfl (by kernel_rfl) (by rfl) ?_; (case hr => first | (go_simp; done) | (go_simp; rfl)); intro g13 w5 hge_ hx_ hbox_; replace HS := Aside0.mk (Mst.below HS.out hx_.below); replace HP := Aside0.mk (Pst.below HP.out hx_.below); have BK13 := Aside0.mk hbox_; have HG13 := Aside0.mk (Nat.le_trans HS.out.bel.size (Nat.le_refl _)); have y0_ : w5.cell? ⟨g13, 0, none⟩ = some (.int .i64 k) := (blk_cell hbox_ 0).trans rfl; have y1_ : w5.cell? ⟨g13, 1, none⟩ = some (.int .i64 q) := (blk_cell hbox_ 1).trans rfl; have y2_ : w5.cell? ⟨g13, 2, none⟩ = some (.slice A1 dt.length c1) := (blk_cell hbox_ 2).trans rfl; clear hge_ hx_ hbox_) | (go_at_call 13; (with_reducible refine (mod_Flush g gm (j : Int) (Z : Int) _ HS.out.rc HG1.out).mono ?_); rintro e w6 ⟨rfl, hb⟩; replace HS := Aside0.mk (Mst.below HS.out hb); replace HP := Aside0.mk (Pst.below HP.out hb); clear y0_ y1_ y2_; replace BK13 := Aside0.mk (blk_below BK13.out hb); have y0_ : w6.cell? ⟨g13, 0, none⟩ = some (.int .i64 k) := (blk_cell BK13.out 0).trans rfl; have y1_ : w6.cell? ⟨g13, 1, none⟩ = some (.int .i64 q) := (blk_cell BK13.out 1).trans rfl; have y2_ : w6.cell? ⟨g13, 2, none⟩ = some (.slice A1 dt.length c1) := (blk_cell BK13.out 2).trans rfl; clear hb))
                                    go_roundw
                                    case rel => exact ⟨i + 1, n, D, G, K, vs, bs, (by first | rfl | rw [hw_] | simp [hw_]), HLT.out, ⟨by have := HN.out; omega⟩, HKA, HP, HS⟩
                                    case measure => exact (by first | exact meas_ HLT.out (by have := H60.out; have := HLT.out; omega) | exact meas2_ HLT.out)
                                  · have d1_ : decide (k = 4) = false := decide_eq_false (by assumption)
                                    have d2_ : (k == 4) = false := beq_eq_false_iff_ne.2 (by assumption)
                                    clear hk1 hk2 hk3 hk4 OUT
                                    go_wp2_with ((with_reducible refine gate_dst (N := 13) rfl ?_); refine make_box (p := 13) (v := 82) (T := 33) (old := #[.int .i64 0, .int .i64 0, .slice none 0 0]) (cs := #[.int .i64 k, .int .i64 q, .slice A1 dt.length c1]) rfl rfl rfl rfl rfl ?hr (Nat.le_of_ble_eq_true rfl) (by decide) rfl rfl (by kernel_rfl) (by rfl) ?_; (case hr => first | (go_simp; done) | (go_simp; rfl)); intro g13 w5 hge_ hx_ hbox_; replace HS := Aside0.mk (Mst.below HS.out hx_.below); replace HP := Aside0.mk (Pst.below HP.out hx_.below); have BK13 := Aside0.mk hbox_; have HG13 := Aside0.mk (Nat.le_trans HS.out.bel.size (Nat.le_refl _)); have y0_ : w5.cell? ⟨g13, 0, none⟩ = some (.int .i64 k) := (blk_cell hbox_ 0).trans rfl; have y1_ : w5.cell? ⟨g13, 1, none⟩ = some (.int .i64 q) := (blk_cell hbox_ 1).trans rfl; have y2_ : w5.cell? ⟨g13, 2, none⟩ = some (.slice A1 dt.length c1) := (blk_cell hbox_ 2).trans rfl; clear hge_ hx_ hbox_)
                                    go_roundw
                                    case rel => exact ⟨i + 1, n, D, G, K, vs, bs, (by first | rfl | rw [hw_] | simp [hw_]), HLT.out, ⟨by have := HN.out; omega⟩, HKA, HP, HS⟩
                                    case measure => exact (by first | exact meas_ HLT.out (by have := H60.out; have := HLT.out; omega) | exact meas2_ HLT.out)
                      · obtain rfl : i = l.length := by omega
                        have di1_ : decide ((l.length : Int) < (l.length : Int)) = false := decide_eq_false (by omega)
                        have di2_ : decide (l.length < l.length) = false := decide_eq_false (by omega)
                        clear hil hlt
                        go_wp2
                        clear di1_ di2_
                        go_loopw [20, 207] (fun v20 v207 wr => ∃ (q : Nat) (Au : Option Addr) (cu : Nat), v20 = .slice Au (want (q : Int) K).length cu ∧ v207 = .int .i64 (q : Int) ∧ q ≤ j ∧ Aside0 (Kd.R (Kd.int .i64) 3 wr w0.heap.size (fun _ => True) (.slice Au (want (q : Int) K).length cu) (want (q : Int) K)) ∧ Aside0 (Pst w0 wr gh ch gi ci j vs bs G K) ∧ Aside0 (Mst w0 wr g gm (j : Int) (Z : Int) n D G)) (fun v20 v207 _ => j - (RowKit.intOf v207).toNat)
                        case atStart => exact ⟨0, none, 0, rfl, rfl, Nat.zero_le _, ⟨Kd.R_nil _ _ _ _ _⟩, HP, HS⟩
                        case round =>
                          clear HP HS
                          obtain ⟨q, Au, cu, rfl, rfl, hq, HRU, HP, HS⟩ := hrel
                          by_cases hlt : q < j
                          · obtain ⟨z_, _⟩ := HP.out.cellI q hlt
                            have hws := want_succ q K
                            obtain ⟨U, hU⟩ : ∃ z_, want (q : Int) K = z_ := ⟨_, rfl⟩
                            have lU : U.length ≤ 50 := by rw [← hU]; have := want_length (q : Int) K; have := HNZ.out; omega
                            rw [hU] at HRU hws
                            rw [hU]
                            have HLT := Aside0.mk hlt
                            have hw_ : wrap64 ((q : Int) + 1) = ((q + 1 : Nat) : Int) := by have := HNZ.out; unfold wrap64; omega
                            have dq1_ : decide ((q : Int) < (j : Int)) = true := decide_eq_true (by omega)
                            have dq2_ : decide (q < j) = true := decide_eq_true (by omega)
                            have dq3_ : ((q : Int) < (j : Int)) = True := eq_true (by omega)
                            have dq4_ : (q < j) = True := eq_true (by omega)
                            cases hk : K (q : Int) with
                            | true =>
                              rw [hk] at z_ hws
                              obtain ⟨Q1, hQ1⟩ : ∃ z_ : List Int, [(q : Int)] = z_ := ⟨_, rfl⟩
                              have HQ1 := Aside0.mk hQ1
                              have HBD : Aside0 (U.length + Q1.length ≤ 1000) := ⟨by rw [← hQ1]; simp only [List.length_cons, List.length_nil]; omega⟩
                              rw [if_pos rfl, hQ1] at hws
                              obtain ⟨U2, hU2⟩ : ∃ z_, U ++ Q1 = z_ := ⟨_, rfl⟩
                              have HU2 := Aside0.mk hU2
                              rw [hU2] at hws
                              have HWS := Aside0.mk hws
                              clear hws hU hQ1 hU2 lU hk hq hlt
                              go_wp2_with (first | ((with_reducible refine gate_dst (N := 215) rfl ?_); refine Kd.R_lit (Kd.int .i64) _ 3 ?hg (N := 215) ?hd (xs := ([(q : Int)] : List Int)) (inner := [.int .i64 (q : Int)]) (ok := fun _ => True) (okp := fun _ => True) ?hr ?hp (fun _ hk => hk) trivial (Below.refl _ _) (Nat.le_refl _) (by simp) ?_; (case hd => rfl); (case hg => rfl); (case hr => first | (go_simp; done) | (go_simp; rfl)); (case hp => exact (Reps.one (show Kd.M (Kd.int .i64) _ _ _ (q : Int) [.int .i64 (q : Int)] from rfl) (Reps.none _ _))); intro v_ w7 ho hb hg_ hn_; rw [HQ1.out] at ho; obtain ⟨Al, cl, rfl, hl_, hC_⟩ := Kd.R_reads ho; have HOL := Aside0.mk ho; replace HS := Aside0.mk (Mst.below HS.out hb); replace HP := Aside0.mk (Pst.below HP.out hb); replace HRU := Aside0.mk (Kd.R_below HRU.out hb); clear ho hb hg_ hn_ hl_ hC_) | ((with_reducible refine gate_builtin (b := .append) (xs := #[.tmp 213, .tmp 215]) rfl ?_); at_builtin; refine Kd.R_append_rows (Kd.int .i64) (w0 := w7) w0.heap.size rfl (.tmp 213) (.tmp 215) 38 3 (.int .i64 0) 8 rfl Try.underlying38 infoI rfl (by decide) (by omega) (.slice Au U.length cu) U Q1 Al Q1.length cl (fun _ => True) (fun _ => False) rfl rfl HRU.out (Kd.R_reads' HOL.out).2.2 (fun _ _ h => h) (fun _ h => h.elim) (fun _ _ => trivial) (Below.refl _ _) HS.out.bel.size (by have := HBD.out; omega) ?_; intro v6 w8 ho hb hgr hat; rw [HU2.out] at ho; obtain ⟨A6, c6, rfl, hl_, hC_⟩ := Kd.R_reads ho; have hty_ := Kd.R_typed HRU.out; have HS2 := Aside0.mk (Mst.grown HS.out hty_ (by decide) (by decide) (Kd.R_base HRU.out) hgr); have HP2 := Aside0.mk (Pst.grown HP.out hty_ (by decide) (by decide) (by decide) hgr); have HR2 := Aside0.mk ho; clear ho hb hgr hat hl_ hC_ hty_ HS HP))
                              go_roundw
                              case rel => exact ⟨q + 1, A6, c6, (by rw [HWS.out]), (by first | rfl | rw [hw_] | simp [hw_]), HLT.out, ⟨by rw [HWS.out]; exact HR2.out⟩, HP2, HS2⟩
                              case measure => exact (by first | exact meas2_ HLT.out | exact meas_ HLT.out (by have := HNZ.out; have := HLT.out; omega))
                            | false =>
                              rw [hk] at z_ hws
                              rw [if_neg (by decide), List.append_nil] at hws
                              have HWS := Aside0.mk hws
                              clear hws hU lU hk hq hlt
                              go_wp2
                              go_roundw
                              case rel => exact ⟨q + 1, Au, cu, (by rw [HWS.out]), (by first | rfl | rw [hw_] | simp [hw_]), HLT.out, ⟨by rw [HWS.out]; exact HRU.out⟩, HP, HS⟩
                              case measure => exact (by first | exact meas2_ HLT.out | exact meas_ HLT.out (by have := HNZ.out; have := HLT.out; omega))
                          · obtain rfl : q = j := by omega
                            have dq1_ : decide ((q : Int) < (q : Int)) = false := decide_eq_false (by omega)
                            have dq2_ : decide (q < q) = false := decide_eq_false (by omega)
                            obtain ⟨U, hU⟩ : ∃ z_, want (q : Int) K = z_ := ⟨_, rfl⟩
                            have lU : U.length ≤ 50 := by rw [← hU]; have := want_length (q : Int) K; have := HNZ.out; omega
                            have HUB : Aside0 (U.length ≤ 1000000) := ⟨by omega⟩
                            have HNB : Aside0 (n ≤ 1000000) := ⟨by have := HN.out; have := H60.out; omega⟩
                            rw [hU] at HRU
                            rw [hU]
                            have HU := Aside0.mk hU
                            clear hU lU hq hlt
                            go_wp2_with (first | (go_at_call 11; (with_reducible refine (mod_Written g gm n (q : Int) (Z : Int) D K _ HS.out.rc HS.out.mp HNB.out HG1.out HKA.out).mono ?_); rintro e w9 ⟨v_, rfl, hR, hb⟩; rw [HU.out] at hR; obtain ⟨Aw, cw, rfl, hl_, hC_⟩ := Kd.R_reads hR; have HRW := Aside0.mk hR; replace HS := Aside0.mk (Mst.below HS.out hb); replace HRU := Aside0.mk (Kd.R_below HRU.out hb); clear hR hb hl_ hC_) | (go_at_call 14; (with_reducible refine (ints_calls Aw Au cw cu U _ (Kd.R_reads' HRW.out).2.2 (Kd.R_reads' HRW.out).2.1 (Kd.R_reads' HRU.out).2.2 (Kd.R_reads' HRU.out).2.1 HUB.out).mono ?_); rintro e w10 ⟨rfl, hb⟩; replace HS := Aside0.mk (Mst.below HS.out hb); clear hb))
                            go_ret
                            exact ⟨rfl, HS.out.bel⟩
end Go.Proofs.Ytfpmcplfmmhoiaa.QModelFits
namespace Go.Proofs.Ytfpmcplfmmhoiaa.QModelFits
open Go.RowKit Go.Proofs.YtfpmcplfmmhoiaaW.PrintWords
def incunablelaw31_ModelPlays.f (a0 a1 : Int) (l2 : List S33) : Option Bool := if 0 ≤ (l2.length : Int) then some true else none
theorem incunablelaw31_ModelPlays.calls (a0 a1 : Int) (A2 : Option Addr) (c2 : Nat) (l2 : List (S33)) (r : Bool) (w : World) (hr2 : Kd.C k33 w A2 l2.length l2) (hc2 : l2.length ≤ c2) (h : incunablelaw31_ModelPlays.f a0 a1 l2 = some r) :
    Calls Try.prog 4 #[.int .i64 a0, .int .i64 a1, .slice A2 l2.length c2] w fun e w' => e = .returned (.bool r) ∧ Below w.heap.size w w' := by
  unfold incunablelaw31_ModelPlays.f at h
  split at h
  · rename_i hn
    obtain rfl := Option.some.inj h
    exact mp_law a0 a1 l2 A2 c2 w hr2 hc2
  · cases h
end Go.Proofs.Ytfpmcplfmmhoiaa.QModelFits
namespace Go.Proofs.Ytfpmcplfmmhoiaa.OpenKit
open Go.RowKit Go.Proofs.YtfpmcplfmmhoiaaW.PrintWords Go.ChangeShapes Go.WideShapes
def Opens {α : Type} (P : Program) (t : TypeId) (d : Kd α) (wf : α → Prop) : Prop :=
  ∀ {H : Type} (enc : TypeId × Value → H) (W : World) (spare : Nat → Bool) (held : Bool) (fuel : Nat) (cs : List Value) (x : DataW H × List MemPlace),
    DataW.trod enc P W 0 spare held fuel t cs = some x → ∃ a, d.K W a cs ∧ wf a
section
variable {P : Program} {t e : TypeId}
theorem opens_int {k : IntKind} (ht : P.underlying t = some (.int k)) : Opens P t (Kd.int k) (fun a => (Lit.int k a).wf = true) := by
  intro H enc W spare held fuel cs x h
  obtain ⟨n, rfl, _, hw⟩ := DataW.trod_int ht h
  exact ⟨n, rfl, hw⟩
theorem cells_some {W : World} {a : Addr} {n : Nat} {cs : List Value} (h : W.cells? 0 a n = some cs) : cs.length = n ∧ ∀ i u, cs[i]? = some u → W.cell? (a.add i) = some u := by
  unfold World.cells? at h
  rw [if_pos (Nat.zero_le _)] at h
  have hl := mapM_some_length h
  rw [List.length_range] at hl
  refine ⟨hl, fun i u hu => ?_⟩
  have hi : i < n := by
    rw [← hl]
    exact (List.getElem?_eq_some_iff.1 hu).1
  have := mapM_some_get h i i (by simp [hi])
  rw [this, hu]
theorem opens_slice {α : Type} [Inhabited α] {d : Kd α} {wf : α → Prop} (ht : P.underlying t = some (.slice e)) (he : Opens P e d wf) (hsz : P.cellsOf e = d.sz) :
    Opens P t (Kd.slice e d) (fun xs => xs.length ≤ maxLen ∧ ∀ x ∈ xs, wf x) := by
  intro H enc W spare held fuel cs x h
  rcases Go.Deep.open_slice ht h with ⟨rfl, _⟩ | ⟨a, len, cap, m, n, D, Pl, rfl, _, hl, hm, hmm, _, hel⟩
  · exact ⟨[], ⟨none, 0, rfl, Nat.le_refl _, ⟨rfl, Nat.zero_le _, fun h => absurd h (Nat.lt_irrefl 0)⟩⟩, Nat.zero_le _, by simp⟩
  have hlm : len ≤ m := by rw [hmm]; split <;> omega
  have hx : ∀ i, i < len → ∃ y : α, ∃ c : List Value, c.length = d.sz ∧ d.K W y c ∧ wf y ∧ ∀ j u, c[j]? = some u → W.cell? ((a.add (i * d.sz)).add j) = some u := by
    intro i hi
    obtain ⟨c, hc, hr⟩ := hel i (by omega)
    obtain ⟨y, hy, hw⟩ := he enc W spare held n c _ hr
    rw [hsz] at hc
    obtain ⟨h1, h2⟩ := cells_some hc
    exact ⟨y, c, h1, hy, hw, h2⟩
  obtain ⟨f, hf⟩ := Go.Deep.choose_lt hx
  have hlen : ((List.range len).map f).length = len := by simp
  have hmax : len ≤ maxLen := Nat.le_trans hl hm
  refine ⟨(List.range len).map f, ⟨some a, cap, by rw [hlen], by rw [hlen]; exact hl, ?_⟩, by rw [hlen]; exact hmax, ?_⟩
  · refine ⟨rfl, by rw [hlen]; exact hmax, fun _ => ⟨a, rfl, fun j p hj => ?_⟩⟩
    have hj' : j < len := by
      have := (List.getElem?_eq_some_iff.1 hj).1
      rwa [hlen] at this
    have e1 : f j = p := by simpa [hj'] using hj
    subst e1
    obtain ⟨c, h1, h2, _, h3⟩ := hf j hj'
    exact ⟨c, h1, h2, fun i u hu => by rw [← Go.Deep.add_add]; exact h3 i u hu⟩
  · intro y hy
    obtain ⟨i, hi, rfl⟩ := List.mem_map.1 hy
    obtain ⟨_, _, _, hw, _⟩ := hf i (List.mem_range.1 hi)
    exact hw
def OpensF {α : Type} (P : Program) (o : Nat) (fs : List Field) (d : Kd α) (wf : α → Prop) : Prop :=
  ∀ {H : Type} (enc : TypeId × Value → H) (W : World) (spare : Nat → Bool) (held : Bool) (n : Nat) (cs : List Value),
    (∀ f, f ∈ fs → ∃ x, DataW.trod enc P W 0 spare held n f.type ((cs.drop f.offset).take (P.cellsOf f.type)) = some x) → ∃ a, d.K W a ((cs.drop o).take d.sz) ∧ wf a
theorem opensF_one {α : Type} {d : Kd α} {wf : α → Prop} {f : Field} {o : Nat} (ho : f.offset = o) (he : Opens P f.type d wf) (hsz : P.cellsOf f.type = d.sz) : OpensF P o [f] d wf := by
  intro H enc W spare held n cs h
  obtain ⟨x, hx⟩ := h f (by simp)
  rw [ho, hsz] at hx
  exact he enc W spare held n _ _ hx
theorem opensF_cons {α β : Type} {d : Kd α} {d' : Kd β} {wf : α → Prop} {wf' : β → Prop} {f : Field} {fs : List Field} {o : Nat} (ho : f.offset = o) (he : Opens P f.type d wf) (hsz : P.cellsOf f.type = d.sz)
    (hr : OpensF P (o + d.sz) fs d' wf') : OpensF P o (f :: fs) (Kd.pair d d') (fun x => wf x.1 ∧ wf' x.2) := by
  intro H enc W spare held n cs h
  obtain ⟨x, hx⟩ := h f (by simp)
  rw [ho, hsz] at hx
  obtain ⟨a, ha, hwa⟩ := he enc W spare held n _ _ hx
  obtain ⟨b, hb, hwb⟩ := hr enc W spare held n cs fun g hg => h g (by simp [hg])
  refine ⟨(a, b), ⟨_, _, ?_, ha, hb⟩, hwa, hwb⟩
  show (cs.drop o).take (d.sz + d'.sz) = _
  rw [List.take_add, List.drop_drop]
theorem opens_struct {α β : Type} {d : Kd α} {wf : α → Prop} {fs : Array Field} (ht : P.underlying t = some (.struct fs)) (hf : OpensF P 0 fs.toList d wf) (hsz : P.cellsOf t = d.sz) (g : β → α) (mk : α → β) (hg : ∀ x, g (mk x) = x) :
    Opens P t (Kd.iso d g) (fun y => wf (g y)) := by
  intro H enc W spare held fuel cs x h
  obtain ⟨xs, n, _, _, hl, hn, hfs⟩ := DataW.trod_struct ht h
  obtain ⟨a, ha, hw⟩ := hf enc W spare held n cs (by
    intro f hf
    obtain ⟨i, hi, e⟩ := List.getElem_of_mem hf
    have e' : fs[i]? = some f := by
      rw [← Array.getElem?_toList]
      rw [List.getElem?_eq_getElem hi, e]
    have hlt : i < xs.length := by rw [hn]; simpa using hi
    exact ⟨xs[i], by rw [hfs i f e', List.getElem?_eq_getElem hlt]⟩)
  refine ⟨mk a, ?_, ?_⟩
  · show d.K W (g (mk a)) cs
    rw [hg]
    rwa [List.drop_zero, List.take_of_length_le (by omega)] at ha
  · show wf (g (mk a))
    rw [hg]
    exact hw
theorem sized_any {H : Type} {enc : TypeId × Value → H} {W : World} {base : Nat} {spare : Nat → Bool} {held : Bool} {a : Option Addr} {len cap : Nat} {d : DataW H} {ps : List MemPlace} {ts : List TypeId} {ds : List (DataW H)} {j : Nat}
    (hsz : (DataW.weightsEach P ts ds).all (· ≤ reachBytes) = true) (ht : ts[j]? = some t) (hd : ds[j]? = some d) (hu : P.underlying t = some (.slice e)) {B : Nat} (hB : P.bytesOf e = B)
    (h : DataW.Trod enc P W base spare held t (.slice a len cap) d ps) : len * B ≤ 140737488351232 := by
  obtain ⟨fuel, hf⟩ := h
  rcases Go.Deep.open_slice hu hf with ⟨hcs, _⟩ | ⟨x, l, c, m, n, D, Pl, hcs, _, hl, _, _, hx, _⟩
  · simp [Value.cells] at hcs
    obtain ⟨rfl, rfl, rfl⟩ := hcs
    simp
  · simp [Value.cells] at hcs
    obtain ⟨rfl, rfl, rfl⟩ := hcs
    obtain ⟨hx, _⟩ := Prod.mk.inj hx
    subst hx
    have z := sized_slice hsz ht hd hu
    rw [hB] at z
    refine Nat.le_trans (Nat.mul_le_mul_right _ ?_) z
    simp
end
end Go.Proofs.Ytfpmcplfmmhoiaa.OpenKit
namespace Go.Proofs.Ytfpmcplfmmhoiaa.Pure
open Go.RowKit Go.Proofs.Ytfpmcplfmmhoiaa.QModelFits Go.Proofs.YtfpmcplfmmhoiaaW.PrintWords
def StmModelPlays : Prop := ∀ (a0 : Int) (a1 : Int) (l2 : List (S33)), ((Lit.int .i64 a0).wf = true) → ((Lit.int .i64 a1).wf = true) → (l2.length * 40 ≤ 140737488351232) → ((fun xs : List (S33) => xs.length ≤ maxLen ∧ ∀ x ∈ xs, (fun y : S33 => (fun a : Int => (Lit.int .i64 a).wf = true) y.f0 ∧ (fun a : Int => (Lit.int .i64 a).wf = true) y.f1 ∧ (fun xs : List Int => xs.length ≤ maxLen ∧ ∀ x ∈ xs, (fun a : Int => (Lit.int .u8 a).wf = true) x) y.f2) x) l2) → incunablelaw31_ModelPlays.f a0 a1 l2 = some true
end Go.Proofs.Ytfpmcplfmmhoiaa.Pure
namespace Go.Proofs.Ytfpmcplfmmhoiaa.Pure
open Go.RowKit Go.Proofs.Ytfpmcplfmmhoiaa.QModelFits Go.Proofs.YtfpmcplfmmhoiaaW.PrintWords
theorem ModelPlays : StmModelPlays := by
  intro a b l _ _ _ _
  unfold incunablelaw31_ModelPlays.f
  rw [if_pos (by omega)]
end Go.Proofs.Ytfpmcplfmmhoiaa.Pure
