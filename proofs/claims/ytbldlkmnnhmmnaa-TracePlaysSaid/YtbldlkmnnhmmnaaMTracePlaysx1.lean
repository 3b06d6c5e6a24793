import Derived.Test.YtbldlkmnnhmmnaaMTracePlaysx0
import Derived.Test.YtbldlkmnnhmmnaaProg
import Derived.WalkSpells
import Derived.Lib.SliceRun
import Derived.Lib.BufferMore
import Derived.Maps.OwnSet
import Derived.Deep.MidRow
import Derived.Lib.Strings
import Derived.Deep.Slices
import Derived.OpenShut
import Derived.SizedLaws
namespace Go.Proofs.Ytbldlkmnnhmmnaa.QTracePlays
open Go.RowKit Go.Proofs.YtbldlkmnnhmmnaaW.PrintWords Go.Proofs.YtbldlkmnnhmmnaaW.PrintLast Go.Proofs.YtbldlkmnnhmmnaaW.PrintMore
attribute [local go_sem] max2_int min2_int max_two min_two max_three min_three max_four min_four   -- for this text's walks alone
set_option linter.unusedVariables false
set_option linter.unusedSimpArgs false
structure S38 where
  f0 : Int
  f1 : Int
def z38 : S38 := ⟨(0 : Int), (0 : Int)⟩
def k38 : Kd S38 := Kd.iso (Kd.pair (Kd.int .i64) (Kd.int .u8)) (fun x : S38 => (x.f0, x.f1))
theorem k38_open {w : World} {x : S38} {cs : List Value} (h : k38.K w x cs) : cs = [.int .i64 x.f0, .int .u8 x.f1] := by
  obtain ⟨_, _, rfl, rfl, rfl⟩ := h
  exact rfl
theorem k38_openM {w : World} {base : Nat} {ok : Nat → Prop} {x : S38} {cs : List Value} (h : k38.M w base ok x cs) : cs = [.int .i64 x.f0, .int .u8 x.f1] := by
  obtain ⟨_, _, rfl, rfl, rfl⟩ := h
  exact rfl
theorem k38_mkM (w : World) (base : Nat) (ok : Nat → Prop) (x : S38)  : k38.M w base ok x [.int .i64 x.f0, .int .u8 x.f1] := ⟨[.int .i64 x.f0], [.int .u8 x.f1], rfl, rfl, rfl⟩
def rd_T38 (xs : List S38) (i : Int) : S38 := xs.getD i.toNat z38
theorem at_T38 {w : World} {A : Option Addr} {n : Nat} {xs : List S38} (h : Kd.C k38 w A n xs) (i : Int) (h0 : 0 ≤ i) (h1 : i < n) : ∃ ad , A = some ad ∧ w.cell? (ad.add (i.toNat * 2)) = some (.int .i64 (rd_T38 xs i).f0) ∧ w.cell? ⟨(ad.add (i.toNat * 2)).block, (ad.add (i.toNat * 2)).off + 1, none⟩ = some (.int .u8 (rd_T38 xs i).f1) := by
  obtain ⟨ad, c, e, _, hK, hc0⟩ := Kd.C_get h z38 i h0 h1
  have hc : ∀ j u, c[j]? = some u → w.cell? (ad.add (i.toNat * 2 + j)) = some u := hc0
  obtain rfl := k38_open hK
  exact ⟨ad, e, hc 0 _ rfl, by rw [← add_field _ _ 1 (by omega)]; exact hc 1 _ rfl⟩
end Go.Proofs.Ytbldlkmnnhmmnaa.QTracePlays
namespace Go.Proofs.Ytbldlkmnnhmmnaa.QTracePlays
open Go.RowKit Go.Proofs.YtbldlkmnnhmmnaaW.PrintWords Go.Proofs.YtbldlkmnnhmmnaaW.PrintLast Go.Proofs.YtbldlkmnnhmmnaaW.PrintMore
attribute [local go_sem] max2_int min2_int max_two min_two max_three min_three max_four min_four   -- for this text's walks alone
set_option linter.unusedVariables false
set_option linter.unusedSimpArgs false
def incunableref10_Same.l0 : Nat → List (S38) → List (S38) → Int → Option (Bool)
  | 0, _, _, _ => none
  | k + 1, x0, x1, x5 => if x5 < (x0.length : Int) then (if 0 ≤ x5 then (if x5 < (x1.length : Int) then (if ((rd_T38 x0 x5).f0) = ((rd_T38 x1 x5).f0) then (if ((rd_T38 x0 x5).f1) = ((rd_T38 x1 x5).f1) then (incunableref10_Same.l0 k x0 x1 (wrap64 (x5 + 1))) else (some false)) else (some false)) else (none)) else (none)) else (some true)
def incunableref10_Same.f (k : Nat) (l0 : List (S38)) (l1 : List (S38)) : Option (Bool) := if (l0.length : Int) = (l1.length : Int) then (incunableref10_Same.l0 k l0 l1 0) else (some false)
theorem incunableref10_Same.mono_l : ∀ k, (∀ y0 y1 y2, LeO (incunableref10_Same.l0 k y0 y1 y2) (incunableref10_Same.l0 (k + 1) y0 y1 y2))
  | 0 => fun _ _ _ r h => by simp [incunableref10_Same.l0] at h
  | k + 1 => by
    have ih0 := incunableref10_Same.mono_l k
    · intro y0 y1 y2
      unfold incunableref10_Same.l0
      repeat' first
      | (with_reducible exact ih0 _ _ _)
      | (with_reducible exact LeO.refl _)
      | (with_reducible exact LeO.none _)
      | (with_reducible refine LeO.ite ?_ ?_)
      | (with_reducible refine LeO.bind ?_ (fun _ => ?_))
      | exact ih0 _ _ _
      | exact LeO.none _
      | refine LeO.ite ?_ ?_
      | refine LeO.bind ?_ (fun _ => ?_)
theorem incunableref10_Same.mono : ∀ a0 a1 k, LeO (incunableref10_Same.f k a0 a1) (incunableref10_Same.f (k + 1) a0 a1) := by
  intro a0 a1 k
  have ih0 := incunableref10_Same.mono_l k
  unfold incunableref10_Same.f
  repeat' first
      | (with_reducible exact ih0 _ _ _)
      | (with_reducible exact LeO.refl _)
      | (with_reducible exact LeO.none _)
      | (with_reducible refine LeO.ite ?_ ?_)
      | (with_reducible refine LeO.bind ?_ (fun _ => ?_))
      | exact ih0 _ _ _
      | exact LeO.none _
      | refine LeO.ite ?_ ?_
      | refine LeO.bind ?_ (fun _ => ?_)
set_option maxHeartbeats 8000000 in
set_option maxRecDepth 100000 in
theorem incunableref10_Same.calls (k : Nat) (A0 : Option Addr) (c0 : Nat) (l0 : List (S38)) (A1 : Option Addr) (c1 : Nat) (l1 : List (S38)) (r : Bool) (w : World) (hr0 : Kd.C k38 w A0 l0.length l0) (hc0 : l0.length ≤ c0) (hr1 : Kd.C k38 w A1 l1.length l1) (hc1 : l1.length ≤ c1) (h : incunableref10_Same.f k l0 l1 = some r) :
    Calls Try.prog 9 #[.slice A0 l0.length c0, .slice A1 l1.length c1] w fun e w' => e = .returned (.bool r) ∧ Drawn0 w w' := by
  have HR0 := Aside0.mk hr0
  have HC0 := Aside0.mk hc0
  clear hr0 hc0
  have HR1 := Aside0.mk hr1
  have HC1 := Aside0.mk hc1
  clear hr1 hc1
  have H : (if (l0.length : Int) = (l1.length : Int) then (incunableref10_Same.l0 k l0 l1 0) else (some false)) = some r := h
  clear h
  by_cases c3 : (l0.length : Int) = (l1.length : Int)
  · rw [if_pos c3] at H
    have c3b0 : ((l0.length : Int) == (l1.length : Int)) = true := beq_iff_eq.mpr c3
    have c3b1 : ((l0.length : Int) != (l1.length : Int)) = false := bne_eq_false_iff_eq.mpr c3
    have c3b2 : (l0.length == l1.length) = true := by first | simpa using c3 | (simp at c3 ⊢; omega)
    clear c3
    have H' := Aside0.mk H
    clear H
    go_enter Try.func9, Try.ntmps9
    go_wp2
    repeat (go_quiet (fail); try go_wp2)
    go_loopg [5] k (fun kq v5 w' => ∃ (x5_1 : Int), v5 = .int .i64 x5_1 ∧ Aside0 (incunableref10_Same.l0 kq l0 l1 x5_1 = some r) ∧ Aside0 (kq ≤ k) ∧ Drawn0 w w')
    case atStart => exact ⟨(0), (by first | rfl | (simp; done) | (simp [*]; done)), H', ⟨Nat.le_refl _⟩, by repeat (first | exact Drawn0.refl _ | apply Drawn0.step)⟩
    case round =>
      clear H'
      try clear c1
      try clear p2
      try clear c3
      try clear c3b0
      try clear c3b1
      try clear c3b2
      obtain ⟨x5_1, rfl, HA, HK1, ⟨m1, rfl⟩⟩ := hrel
      cases gk with
      | zero => exact absurd HA.out (by simp [incunableref10_Same.l0])
      | succ k1 =>
        have H := HA.out
        clear HA
        simp only [incunableref10_Same.l0] at H
        by_cases c4 : x5_1 < (l0.length : Int)
        · rw [if_pos c4] at H
          have c4b0 : decide (x5_1 < (l0.length : Int)) = true := decide_eq_true c4
          clear c4
          by_cases c5 : 0 ≤ x5_1
          · rw [if_pos c5] at H
            have c5b0 : decide (0 ≤ x5_1) = true := decide_eq_true c5
            clear c5
            by_cases c6 : x5_1 < (l1.length : Int)
            · rw [if_pos c6] at H
              have c6b0 : decide (x5_1 < (l1.length : Int)) = true := decide_eq_true c6
              clear c6
              by_cases c7 : ((rd_T38 l0 x5_1).f0) = ((rd_T38 l1 x5_1).f0)
              · rw [if_pos c7] at H
                have c7b0 : (((rd_T38 l0 x5_1).f0) == ((rd_T38 l1 x5_1).f0)) = true := beq_iff_eq.mpr c7
                have c7b1 : (((rd_T38 l0 x5_1).f0) != ((rd_T38 l1 x5_1).f0)) = false := bne_eq_false_iff_eq.mpr c7
                clear c7
                by_cases c8 : ((rd_T38 l0 x5_1).f1) = ((rd_T38 l1 x5_1).f1)
                · rw [if_pos c8] at H
                  have c8b0 : (((rd_T38 l0 x5_1).f1) == ((rd_T38 l1 x5_1).f1)) = true := beq_iff_eq.mpr c8
                  have c8b1 : (((rd_T38 l0 x5_1).f1) != ((rd_T38 l1 x5_1).f1)) = false := bne_eq_false_iff_eq.mpr c8
                  clear c8
                  have H' := Aside0.mk H
                  clear H
                  have p101 : 0 ≤ (x5_1 : Int) := of_decide_eq_true (by first | (with_reducible assumption) | assumption)
                  have q101 : x5_1 < (l0.length : Int) := of_decide_eq_true (by first | (with_reducible assumption) | assumption)
                  obtain ⟨ad101, e101, hx101_0, hx101_1⟩ := at_T38 HR0.out x5_1 p101 q101
                  cases e101
                  replace p101 := eq_true p101
                  replace q101 := eq_true q101
                  have p102 : 0 ≤ (x5_1 : Int) := of_decide_eq_true (by first | (with_reducible assumption) | assumption)
                  have q102 : x5_1 < (l1.length : Int) := of_decide_eq_true (by first | (with_reducible assumption) | assumption)
                  obtain ⟨ad102, e102, hx102_0, hx102_1⟩ := at_T38 HR1.out x5_1 p102 q102
                  cases e102
                  replace p102 := eq_true p102
                  replace q102 := eq_true q102
                  have p103 : 0 ≤ (x5_1 : Int) := of_decide_eq_true (by first | (with_reducible assumption) | assumption)
                  have q103 : x5_1 < (l0.length : Int) := of_decide_eq_true (by first | (with_reducible assumption) | assumption)
                  obtain ⟨ad103, e103, hx103_0, hx103_1⟩ := at_T38 HR0.out x5_1 p103 q103
                  obtain rfl : ad101 = ad103 := (by injection e103)
                  replace p103 := eq_true p103
                  replace q103 := eq_true q103
                  have p104 : 0 ≤ (x5_1 : Int) := of_decide_eq_true (by first | (with_reducible assumption) | assumption)
                  have q104 : x5_1 < (l1.length : Int) := of_decide_eq_true (by first | (with_reducible assumption) | assumption)
                  obtain ⟨ad104, e104, hx104_0, hx104_1⟩ := at_T38 HR1.out x5_1 p104 q104
                  obtain rfl : ad102 = ad104 := (by injection e104)
                  replace p104 := eq_true p104
                  replace q104 := eq_true q104
                  go_wp2
                  repeat (go_quiet (fail); try go_wp2)
                  go_roundg k1
                  case measure => have := HK1.out; omega
                  case rel => exact ⟨(wrap64 (x5_1 + 1)), (by first | rfl | (simp; done) | (simp [*]; done)), H', ⟨by have := HK1.out; omega⟩, by repeat (first | exact Drawn0.refl _ | apply Drawn0.step)⟩
                · rw [if_neg c8] at H
                  have c8b0 : (((rd_T38 l0 x5_1).f1) == ((rd_T38 l1 x5_1).f1)) = false := beq_eq_false_iff_ne.mpr c8
                  have c8b1 : (((rd_T38 l0 x5_1).f1) != ((rd_T38 l1 x5_1).f1)) = true := bne_iff_ne.mpr c8
                  obtain rfl := Option.some.inj H
                  have p101 : 0 ≤ (x5_1 : Int) := of_decide_eq_true (by first | (with_reducible assumption) | assumption)
                  have q101 : x5_1 < (l0.length : Int) := of_decide_eq_true (by first | (with_reducible assumption) | assumption)
                  obtain ⟨ad101, e101, hx101_0, hx101_1⟩ := at_T38 HR0.out x5_1 p101 q101
                  cases e101
                  replace p101 := eq_true p101
                  replace q101 := eq_true q101
                  have p102 : 0 ≤ (x5_1 : Int) := of_decide_eq_true (by first | (with_reducible assumption) | assumption)
                  have q102 : x5_1 < (l1.length : Int) := of_decide_eq_true (by first | (with_reducible assumption) | assumption)
                  obtain ⟨ad102, e102, hx102_0, hx102_1⟩ := at_T38 HR1.out x5_1 p102 q102
                  cases e102
                  replace p102 := eq_true p102
                  replace q102 := eq_true q102
                  have p103 : 0 ≤ (x5_1 : Int) := of_decide_eq_true (by first | (with_reducible assumption) | assumption)
                  have q103 : x5_1 < (l0.length : Int) := of_decide_eq_true (by first | (with_reducible assumption) | assumption)
                  obtain ⟨ad103, e103, hx103_0, hx103_1⟩ := at_T38 HR0.out x5_1 p103 q103
                  obtain rfl : ad101 = ad103 := (by injection e103)
                  replace p103 := eq_true p103
                  replace q103 := eq_true q103
                  have p104 : 0 ≤ (x5_1 : Int) := of_decide_eq_true (by first | (with_reducible assumption) | assumption)
                  have q104 : x5_1 < (l1.length : Int) := of_decide_eq_true (by first | (with_reducible assumption) | assumption)
                  obtain ⟨ad104, e104, hx104_0, hx104_1⟩ := at_T38 HR1.out x5_1 p104 q104
                  obtain rfl : ad102 = ad104 := (by injection e104)
                  replace p104 := eq_true p104
                  replace q104 := eq_true q104
                  go_wp2
                  repeat (go_quiet (fail); try go_wp2)
                  go_ret
                  exact ⟨by first | rfl | (simp; done) | (simp [*]; done), by repeat (first | exact Drawn0.refl _ | apply Drawn0.step)⟩
              · rw [if_neg c7] at H
                have c7b0 : (((rd_T38 l0 x5_1).f0) == ((rd_T38 l1 x5_1).f0)) = false := beq_eq_false_iff_ne.mpr c7
                have c7b1 : (((rd_T38 l0 x5_1).f0) != ((rd_T38 l1 x5_1).f0)) = true := bne_iff_ne.mpr c7
                obtain rfl := Option.some.inj H
                have p101 : 0 ≤ (x5_1 : Int) := of_decide_eq_true (by first | (with_reducible assumption) | assumption)
                have q101 : x5_1 < (l0.length : Int) := of_decide_eq_true (by first | (with_reducible assumption) | assumption)
                obtain ⟨ad101, e101, hx101_0, hx101_1⟩ := at_T38 HR0.out x5_1 p101 q101
                cases e101
                replace p101 := eq_true p101
                replace q101 := eq_true q101
                have p102 : 0 ≤ (x5_1 : Int) := of_decide_eq_true (by first | (with_reducible assumption) | assumption)
                have q102 : x5_1 < (l1.length : Int) := of_decide_eq_true (by first | (with_reducible assumption) | assumption)
                obtain ⟨ad102, e102, hx102_0, hx102_1⟩ := at_T38 HR1.out x5_1 p102 q102
                cases e102
                replace p102 := eq_true p102
                replace q102 := eq_true q102
                go_wp2
                repeat (go_quiet (fail); try go_wp2)
                go_ret
                exact ⟨by first | rfl | (simp; done) | (simp [*]; done), by repeat (first | exact Drawn0.refl _ | apply Drawn0.step)⟩
            · rw [if_neg c6] at H
              exact absurd H (by simp)
          · rw [if_neg c5] at H
            exact absurd H (by simp)
        · rw [if_neg c4] at H
          have c4b0 : decide (x5_1 < (l0.length : Int)) = false := decide_eq_false c4
          clear c4
          obtain rfl := Option.some.inj H
          go_wp2
          repeat (go_quiet (fail); try go_wp2)
          go_ret
          exact ⟨by first | rfl | (simp; done) | (simp [*]; done), by repeat (first | exact Drawn0.refl _ | apply Drawn0.step)⟩
  · rw [if_neg c3] at H
    have c3b0 : ((l0.length : Int) == (l1.length : Int)) = false := beq_eq_false_iff_ne.mpr c3
    have c3b1 : ((l0.length : Int) != (l1.length : Int)) = true := bne_iff_ne.mpr c3
    have c3b2 : (l0.length == l1.length) = false := by first | simpa using c3 | (simp at c3 ⊢; omega)
    obtain rfl := Option.some.inj H
    go_enter Try.func9, Try.ntmps9
    go_wp2
    repeat (go_quiet (fail); try go_wp2)
    go_ret
    exact ⟨by first | rfl | (simp; done) | (simp [*]; done), by repeat (first | exact Drawn0.refl _ | apply Drawn0.step)⟩
end Go.Proofs.Ytbldlkmnnhmmnaa.QTracePlays
namespace Go.Proofs.Ytbldlkmnnhmmnaa.QTracePlays
open Go.RowKit Go.Proofs.YtbldlkmnnhmmnaaW.PrintWords Go.Proofs.YtbldlkmnnhmmnaaW.PrintLast Go.Proofs.YtbldlkmnnhmmnaaW.PrintMore
attribute [local go_sem] max2_int min2_int max_two min_two max_three min_three max_four min_four   -- for this text's walks alone
set_option linter.unusedVariables false
set_option linter.unusedSimpArgs false
end Go.Proofs.Ytbldlkmnnhmmnaa.QTracePlays
namespace Go.Proofs.Ytbldlkmnnhmmnaa.Mono
open Go.RowKit Go.Proofs.YtbldlkmnnhmmnaaW.PrintWords Go.Proofs.YtbldlkmnnhmmnaaW.PrintLast
set_option linter.unusedVariables false
def Ext (w w' : World) : Prop := Below w.heap.size w w'
theorem Ext.below {w w' : World} (h : Ext w w') : Below w.heap.size w w' := h
theorem Ext.refl (w : World) : Ext w w := Below.refl _ _
theorem Ext.trans {a b c : World} (h : Ext a b) (k : Ext b c) : Ext a c := below_step h k
theorem Ext.of {w w' : World} (h : Below w.heap.size w w') : Ext w w' := h
theorem c_ext {α : Type} {d : Kd α} {w w' : World} {A : Option Addr} {n : Nat} {xs : List α} (h : Kd.C d w A n xs) (e : Ext w w') : Kd.C d w' A n xs := Kd.C_below h e
theorem Ext.drew (w : World) : Ext w w.drew := below_drew1 (Below.refl _ _)
def Stable (f : Value → World → Prop) : Prop := ∀ v w w', f v w → Ext w w' → f v w'
def Is (x : Value) : Value → World → Prop := fun v _ => v = x
theorem stable_is (x : Value) : Stable (Is x) := fun _ _ _ h _ => h
def dstAt (ops : Array Oper) (i : Nat) : Option Tmp := (ops[i]?).bind (·.dst)
def edges (ops : Array Oper) (i : Nat) : List Nat := match ops[i]? with
  | some o => (o.after.toList.filter (fun e => Region.binds .any e)).map (·.on)
  | none => []
def reach (ops : Array Oper) : Nat → Nat → Nat → Bool
  | 0, _, _ => false
  | n + 1, i, j => (edges ops i).any fun e => e == j || reach ops n e j
def okOps (ops : Array Oper) : Bool :=
  (List.range ops.size).all fun i => ((edges ops i).all fun e => decide (e < i)) && (List.range ops.size).all fun j => i == j || dstAt ops i == none || dstAt ops i != dstAt ops j
section
variable {P : Program} {ops : Array Oper} {Q : Exit → Act → World → Prop}
structure Fr (ops : Array Oper) (ts : List Tmp) (a0 a : Act) : Prop where
  size : a.tmps.size = a0.tmps.size
  defers : a.defers = a0.defers
  off : ∀ t, ts.contains t = false → a.tmps[t]? = a0.tmps[t]?
def Known (ops : Array Oper) (F : Nat → Value → World → Prop) (i : Nat) (a : Act) (w : World) : Prop :=
  ∀ j t, reach ops ops.size i j = true → dstAt ops j = some t → ∃ v, a.tmps[t]? = some v ∧ F j v w
def MStep (P : Program) (ops : Array Oper) (Q : Exit → Act → World → Prop) (ts : List Tmp) (a0 : Act) (w0 : World) (F : Nat → Value → World → Prop) (i : Nat) : Prop :=
  ∀ (a : Act) (w : World), Ext w0 w → Fr ops ts a0 a → Known ops F i a w →
    ∃ oi, ops[i]? = some oi ∧ ∀ K : Act → World → Prop, (∀ v w', F i v w' → Ext w w' → K (a.put oi.dst v) w') → if Region.wanted oi (yielded ops a.tmps) = true then Oper.wp P oi a w K Q else K (a.put oi.dst undef) w
theorem msteps_nil {ts : List Tmp} {a0 : Act} {w0 : World} {F : Nat → Value → World → Prop} : ∀ i ∈ ([] : List Nat), MStep P ops Q ts a0 w0 F i := fun _ h => by cases h
theorem msteps_cons {ts : List Tmp} {a0 : Act} {w0 : World} {F : Nat → Value → World → Prop} {i : Nat} {rs : List Nat} (h : MStep P ops Q ts a0 w0 F i) (hs : ∀ j ∈ rs, MStep P ops Q ts a0 w0 F j) : ∀ j ∈ i :: rs, MStep P ops Q ts a0 w0 F j := fun j hj => by
  rcases List.mem_cons.1 hj with rfl | hj
  · exact h
  · exact hs j hj
theorem edges_lt (h : okOps ops = true) {i j : Nat} (hj : j ∈ edges ops i) : j < i := by
  by_cases hi : i < ops.size
  · have h1 := List.all_eq_true.1 h i (List.mem_range.2 hi)
    rw [Bool.and_eq_true] at h1
    simpa using List.all_eq_true.1 h1.1 j hj
  · unfold edges at hj
    rw [Array.getElem?_eq_none (by omega)] at hj
    cases hj
theorem dst_ne (h : okOps ops = true) {i j : Nat} {t : Tmp} (hi : dstAt ops i = some t) (hj : dstAt ops j = some t) : i = j := by
  have lt : ∀ {i : Nat}, dstAt ops i = some t → i < ops.size := fun {i} hi => by
    by_cases hlt : i < ops.size
    · exact hlt
    · unfold dstAt at hi
      rw [Array.getElem?_eq_none (by omega)] at hi
      cases hi
  have h1 := List.all_eq_true.1 h i (List.mem_range.2 (lt hi))
  rw [Bool.and_eq_true] at h1
  have h2 := List.all_eq_true.1 h1.2 j (List.mem_range.2 (lt hj))
  rw [hi, hj] at h2
  simpa using h2
theorem ready_edges {listed : Array Bool} (hsz : listed.size = ops.size) {i : Nat} (hok : okOps ops = true) : i ∈ Region.ready .any ops listed ↔ i < ops.size ∧ listed.getD i true = false ∧ ∀ e ∈ edges ops i, listed.getD e true = true := by
  rw [mem_ready]
  constructor
  · rintro ⟨h1, o, ho, h2⟩
    have hi := (Array.getElem?_eq_some_iff.1 ho).1
    refine ⟨hi, h1, fun e he => ?_⟩
    have hlt := edges_lt hok he
    unfold edges at he
    rw [ho] at he
    obtain ⟨x, hx, rfl⟩ := List.mem_map.1 he
    obtain ⟨hx1, hx2⟩ := List.mem_filter.1 hx
    have := h2 x (by simpa using hx1) hx2
    rw [Array.getD_eq_getD_getElem?] at this ⊢
    rw [Array.getElem?_eq_getElem (by omega)] at this ⊢
    exact this
  · rintro ⟨hi, h1, h2⟩
    refine ⟨h1, ops[i], Array.getElem?_eq_getElem hi, fun e he hb => ?_⟩
    have hm : e.on ∈ edges ops i := by
      unfold edges
      rw [Array.getElem?_eq_getElem hi]
      exact List.mem_map.2 ⟨e, List.mem_filter.2 ⟨by simpa using he, hb⟩, rfl⟩
    have hlt := edges_lt hok hm
    have := h2 _ hm
    rw [Array.getD_eq_getD_getElem?] at this ⊢
    rw [Array.getElem?_eq_getElem (by omega)] at this ⊢
    exact this
def putT (a : Act) (ts : List Tmp) (val : Tmp → Value) : Act := ts.foldl (fun a t => a.put (some t) (val t)) a
theorem putT_spec (val : Tmp → Value) : ∀ (ts : List Tmp) (a : Act), (putT a ts val).tmps.size = a.tmps.size ∧ (putT a ts val).defers = a.defers ∧ (∀ t, t ∉ ts → (putT a ts val).tmps[t]? = a.tmps[t]?) ∧ (∀ t, t ∈ ts → t < a.tmps.size → (putT a ts val).tmps[t]? = some (val t))
  | [], a => ⟨rfl, rfl, fun _ _ => rfl, fun _ h => by cases h⟩
  | s :: r, a => by
    obtain ⟨h1, h2, h3, h4⟩ := putT_spec val r (a.put (some s) (val s))
    have hsz : (a.put (some s) (val s)).tmps.size = a.tmps.size := by simp [Act.put]
    refine ⟨h1.trans hsz, h2.trans rfl, fun t ht => ?_, fun t ht hlt => ?_⟩
    · rw [List.mem_cons, not_or] at ht
      refine (h3 t ht.2).trans ?_
      simp [Act.put, Array.getElem?_setIfInBounds_ne (Ne.symm ht.1)]
    · by_cases htr : t ∈ r
      · exact h4 t htr (by rw [hsz]; exact hlt)
      · rcases List.mem_cons.1 ht with rfl | h
        · refine (h3 t htr).trans ?_
          simp [Act.put, hlt]
        · exact absurd h htr
def chained (ops : Array Oper) (m : Nat) : Bool := (List.range ops.size).all fun i => decide (i < m) || (List.range i).all fun j => reach ops ops.size i j
theorem chained_spec {m i j : Nat} (h : chained ops m = true) (hi : i < ops.size) (hm : m ≤ i) (hj : j < i) : reach ops ops.size i j = true := by
  have h1 := List.all_eq_true.1 h i (List.mem_range.2 hi)
  rcases Bool.or_eq_true _ _ ▸ h1 with h1 | h1
  · have := of_decide_eq_true h1
    omega
  · exact List.all_eq_true.1 h1 j (List.mem_range.2 hj)
theorem reach_listed {listed : Array Bool} (hok : okOps ops = true) (shut : ∀ i j, i < ops.size → listed.getD i true = true → j ∈ edges ops i → listed.getD j true = true) : ∀ (n i j : Nat), i < ops.size → (∀ e ∈ edges ops i, listed.getD e true = true) → reach ops n i j = true → j < ops.size ∧ listed.getD j true = true := by
  intro n
  induction n with
  | zero => intro i j _ _ h; cases h
  | succ n ih =>
    intro i j hi he h
    unfold reach at h
    obtain ⟨e, hem, h⟩ := List.any_eq_true.1 h
    have hlt := edges_lt hok hem
    have hl := he e hem
    rw [Bool.or_eq_true] at h
    rcases h with h | h
    · obtain rfl := beq_iff_eq.1 h
      exact ⟨by omega, hl⟩
    · exact ih e j (by omega) (fun x hx => shut e x (by omega) hl hx) h
theorem tail_any {m : Nat} (hok : okOps ops = true) (hch : chained ops m = true) : ∀ (d k : Nat) (listed : Array Bool) (a : Act) (w : World), k + d = ops.size → m ≤ k → listed.size = ops.size → (∀ i, i < ops.size → listed.getD i true = decide (i < k)) →
    wpList P ops Q (ops.toList.drop k) a w → wpAny P .any ops Q d listed a w := by
  intro d
  induction d with
  | zero =>
    intro k listed a w hk hm hsz hl h
    rw [List.drop_of_length_le (by rw [Array.length_toList]; omega)] at h
    refine ⟨List.eq_nil_iff_forall_not_mem.2 (fun i hi => ?_), h⟩
    obtain ⟨h1, h2, _⟩ := (ready_edges hsz hok).1 hi
    rw [hl i h1, decide_eq_true (by omega)] at h2
    cases h2
  | succ d ih =>
    intro k listed a w hk hm hsz hl h
    have hkl : k < ops.toList.length := by rw [Array.length_toList]; omega
    rw [List.drop_eq_getElem_cons hkl] at h
    have ho : ops[k]? = some (ops.toList[k]'hkl) := by
      rw [Array.getElem?_eq_getElem (by omega)]
      simp
    have shut : ∀ i j, i < ops.size → listed.getD i true = true → j ∈ edges ops i → listed.getD j true = true := by
      intro i j hi h1 hj
      rw [hl i hi] at h1
      have := of_decide_eq_true h1
      have := edges_lt hok hj
      rw [hl j (by omega)]
      exact decide_eq_true (by omega)
    refine ⟨fun hr => ?_, fun i hi => ?_⟩
    · exfalso
      have : k ∈ Region.ready .any ops listed := (ready_edges hsz hok).2 ⟨by omega, by rw [hl k (by omega)]; exact decide_eq_false (by omega), fun e he => by
        have := edges_lt hok he
        rw [hl e (by omega)]
        exact decide_eq_true (by omega)⟩
      rw [hr] at this
      cases this
    · obtain ⟨hlt, hli, he⟩ := (ready_edges hsz hok).1 hi
      have hik : i = k := by
        rw [hl i hlt] at hli
        have h1 := of_decide_eq_false hli
        by_cases hne : i = k
        · exact hne
        · obtain ⟨h2, h3⟩ := reach_listed hok shut _ i k hlt he (chained_spec hch hlt (by omega) (by omega))
          rw [hl k h2] at h3
          have := of_decide_eq_true h3
          omega
      subst hik
      have key : wpOp P ops Q i (wpList P ops Q (ops.toList.drop (i + 1))) a w := by
        unfold wpOp
        rw [ho]
        exact h
      refine wpOp_mono (fun a' w' h' => ih (i + 1) _ a' w' (by omega) (by omega) (by rw [Array.size_setIfInBounds]; exact hsz) (fun j hj => ?_) h') key
      by_cases hji : i = j
      · subst hji
        rw [Array.getD_eq_getD_getElem?]
        simp [hsz, hj]
      · rw [getD_set_ne true hji, hl j hj]
        by_cases hlt2 : j < i
        · rw [decide_eq_true hlt2, decide_eq_true (by omega)]
        · rw [decide_eq_false hlt2, decide_eq_false (by omega)]
structure InvT (ops : Array Oper) (ts : List Tmp) (m : Nat) (a0 : Act) (w0 : World) (F : Nat → Value → World → Prop) (listed : Array Bool) (a : Act) (w : World) : Prop where
  sz : listed.size = ops.size
  ext : Ext w0 w
  fr : Fr ops ts a0 a
  val : ∀ i t, i < m → listed.getD i true = true → dstAt ops i = some t → ∃ v, a.tmps[t]? = some v ∧ F i v w
  shut : ∀ i j, i < ops.size → listed.getD i true = true → j ∈ edges ops i → listed.getD j true = true
  later : ∀ i, m ≤ i → i < ops.size → listed.getD i true = false
theorem monoT_all {ts : List Tmp} {m : Nat} (hmn : m ≤ ops.size) (hts : ∀ i t, i < m → dstAt ops i = some t → ts.contains t = true) {a0 : Act} {w0 : World} {F : Nat → Value → World → Prop} (hok : okOps ops = true) (hch : chained ops m = true) (hF : ∀ i, Stable (F i)) (hs : ∀ i ∈ List.range m, MStep P ops Q ts a0 w0 F i) (hdst : ∀ i t, i < m → dstAt ops i = some t → t < a0.tmps.size)
    (hend : ∀ a w, Ext w0 w → Fr ops ts a0 a → (∀ i t, i < m → dstAt ops i = some t → ∃ v, a.tmps[t]? = some v ∧ F i v w) → wpList P ops Q (ops.toList.drop m) a w) :
    ∀ (fuel : Nat) (listed : Array Bool) (a : Act) (w : World), listed.toList.count false = fuel → InvT ops ts m a0 w0 F listed a w → wpAny P .any ops Q fuel listed a w := by
  have none_ : ∀ (listed : Array Bool), listed.size = ops.size → Region.ready .any ops listed = [] → ∀ i, i < ops.size → listed.getD i true = true := by
    intro listed hsz hr i
    induction i using Nat.strongRecOn with
    | _ i ih =>
      intro hi
      cases hl : listed.getD i true with
      | true => rfl
      | false =>
        have : i ∈ Region.ready .any ops listed := (ready_edges hsz hok).2 ⟨hi, hl, fun e he => ih e (edges_lt hok he) (by have := edges_lt hok he; omega)⟩
        rw [hr] at this
        cases this
  have fin : ∀ (listed : Array Bool) (a : Act) (w : World), InvT ops ts m a0 w0 F listed a w → (∀ i, i < ops.size → listed.getD i true = true) → Q .normal a w := by
    intro listed a w hI hall
    have hm : m = ops.size := by
      rcases Nat.lt_or_ge m ops.size with h | h
      · have h1 := hI.later m (Nat.le_refl _) h
        rw [hall m h] at h1
        cases h1
      · omega
    have := hend a w hI.ext hI.fr (fun i t hi ht => hI.val i t hi (hall i (by omega)) ht)
    rw [hm, List.drop_of_length_le (by rw [Array.length_toList]; omega)] at this
    exact this
  intro fuel
  induction fuel with
  | zero =>
    intro listed a w hc hI
    have hall : ∀ i, i < ops.size → listed.getD i true = true := by
      intro i hi
      have hm := List.count_eq_zero.1 hc
      rw [Array.getD_eq_getD_getElem?, Array.getElem?_eq_getElem (by rw [hI.sz]; exact hi)]
      cases hb : listed[i]'(by rw [hI.sz]; exact hi) with
      | true => rfl
      | false => exact absurd (by rw [← hb]; exact Array.getElem_mem_toList _) hm
    refine ⟨?_, fin listed a w hI hall⟩
    refine List.eq_nil_iff_forall_not_mem.2 (fun i hi => ?_)
    obtain ⟨h1, h2, _⟩ := (ready_edges hI.sz hok).1 hi
    rw [hall i h1] at h2
    cases h2
  | succ fuel ih =>
    intro listed a w hc hI
    by_cases hmall : ∀ i, i < m → listed.getD i true = true
    · -- the tail
      have hl : ∀ i, i < ops.size → listed.getD i true = decide (i < m) := by
        intro i hi
        by_cases h : i < m
        · rw [hmall i h, decide_eq_true h]
        · rw [hI.later i (by omega) hi, decide_eq_false h]
      have hcount : m + (fuel + 1) = ops.size := by
        have hL : listed.toList = List.replicate m true ++ List.replicate (ops.size - m) false := by
          apply List.ext_getElem?
          intro i
          by_cases hi : i < ops.size
          · have h1 := hl i hi
            rw [Array.getD_eq_getD_getElem?, Array.getElem?_eq_getElem (by rw [hI.sz]; exact hi)] at h1
            rw [Array.getElem?_toList, Array.getElem?_eq_getElem (by rw [hI.sz]; exact hi)]
            simp only [Option.getD_some] at h1
            rw [h1]
            by_cases h : i < m
            · rw [List.getElem?_append_left (by simpa using h), List.getElem?_replicate, if_pos h, decide_eq_true h]
            · rw [List.getElem?_append_right (by simpa using h), List.getElem?_replicate, List.length_replicate, if_pos (by omega), decide_eq_false h]
          · rw [List.getElem?_eq_none (by rw [Array.length_toList, hI.sz]; omega), List.getElem?_eq_none (by simp; omega)]
        rw [hL, List.count_append, List.count_replicate, List.count_replicate] at hc
        simp at hc
        omega
      exact tail_any hok hch _ m listed a w hcount (Nat.le_refl _) hI.sz hl (hend a w hI.ext hI.fr (fun i t hi ht => hI.val i t hi (hmall i hi) ht))
    refine ⟨fun hr => fin listed a w hI (none_ listed hI.sz hr), fun i hi => ?_⟩
    obtain ⟨hlt, hl, he⟩ := (ready_edges hI.sz hok).1 hi
    have him : i < m := by
      rcases Nat.lt_or_ge i m with h | h
      · exact h
      · refine absurd (fun j hj => ?_) hmall
        exact (reach_listed hok hI.shut _ i j hlt he (chained_spec hch hlt h (by omega))).2
    obtain ⟨oi, hoi, hK⟩ := hs i (List.mem_range.2 him) a w hI.ext hI.fr (fun j t hr ht => by
      obtain ⟨h1, h2⟩ := reach_listed hok hI.shut _ i j hlt he hr
      have hjm : j < m := by
        rcases Nat.lt_or_ge j m with h | h
        · exact h
        · have := hI.later j h h1
          rw [h2] at this
          cases this
      exact hI.val j t hjm h2 ht)
    refine wpOp_step hoi (fun K' hK' => hK K' (fun v w' hv hx => hK' _ _ ?_))
    have hdi : dstAt ops i = oi.dst := by unfold dstAt; rw [hoi]; rfl
    have hli : listed[i]'(by rw [hI.sz]; exact hlt) = false := by
      rw [Array.getD_eq_getD_getElem?, Array.getElem?_eq_getElem (by rw [hI.sz]; exact hlt)] at hl
      exact hl
    refine ih _ _ _ ?_ ⟨by rw [Array.size_setIfInBounds]; exact hI.sz, hI.ext.trans hx, ⟨?_, ?_, ?_⟩, ?_, ?_, ?_⟩
    · rw [Array.toList_setIfInBounds, List.count_set (h := by rw [Array.length_toList, hI.sz]; exact hlt)]
      have : listed.toList[i]'(by rw [Array.length_toList, hI.sz]; exact hlt) = false := by rw [Array.getElem_toList]; exact hli
      rw [this, hc]
      simp
    · rw [← hI.fr.size]
      unfold Act.put
      split <;> simp
    · rw [← hI.fr.defers]
      unfold Act.put
      split <;> rfl
    · intro t ht
      rw [← hI.fr.off t ht]
      cases hd : oi.dst with
      | none => rfl
      | some d =>
        have hne : d ≠ t := fun e => by have := hts i t him (by rw [hdi, hd, e]); rw [ht] at this; cases this
        simp [Act.put, Array.getElem?_setIfInBounds_ne hne]
    · intro j t hj hlj htj
      by_cases hij : i = j
      · subst hij
        rw [hdi] at htj
        refine ⟨v, ?_, hv⟩
        have := hdst i t him (by rw [hdi]; exact htj)
        rw [htj]
        simp [Act.put, hI.fr.size, this]
      · have hlj' : listed.getD j true = true := by rw [getD_set_ne true hij] at hlj; exact hlj
        obtain ⟨u, hu, hfu⟩ := hI.val j t hj hlj' htj
        refine ⟨u, ?_, hF j u w w' hfu hx⟩
        cases hd : oi.dst with
        | none => exact hu
        | some d =>
          have hne : d ≠ t := fun e => hij (dst_ne hok (by rw [hdi, hd, e]) htj)
          simpa [Act.put, Array.getElem?_setIfInBounds_ne hne] using hu
    · intro j e hj hlj hem
      by_cases hej : i = e
      · subst hej
        rw [Array.getD_eq_getD_getElem?]
        simp [hI.sz, hlt]
      · rw [getD_set_ne true hej]
        by_cases hij : i = j
        · subst hij
          exact he e hem
        · rw [getD_set_ne true hij] at hlj
          exact hI.shut j e hj hlj hem
    · intro j hj hjl
      rw [getD_set_ne true (by omega)]
      exact hI.later j hj hjl
theorem mono_region_tail {id : Nat} {a0 : Act} {w0 : World} (F : Nat → Value → World → Prop) (m : Nat) (ts : List Tmp) (rest : List Oper) (hm : P.follows .mixedOrders = true) (hn : ops.toList.drop m = rest) (hmn : m ≤ ops.size) (hok : okOps ops = true) (hch : chained ops m = true)
    (hts : ((ops.toList.take m).filterMap (·.dst) == ts && ts.all fun t => decide (t < a0.tmps.size)) = true) (hF : ∀ i, Stable (F i)) (hs : ∀ i ∈ List.range m, MStep P ops Q ts a0 w0 F i)
    (hend : ∀ (val : Tmp → Value) (w : World), Ext w0 w → (∀ i t, i < m → dstAt ops i = some t → F i (val t) w) → wpList P ops Q rest (putT a0 ts val) w) : (Code.region id ops true).wp P Q a0 w0 := by
  subst hn
  rw [Bool.and_eq_true, beq_iff_eq] at hts
  obtain ⟨hts, hlt⟩ := hts
  have hdst : ∀ i t, i < m → dstAt ops i = some t → t ∈ ts := by
    intro i t him h
    rw [← hts]
    unfold dstAt at h
    cases ho : ops[i]? with
    | none => rw [ho] at h; cases h
    | some o =>
      rw [ho] at h
      refine List.mem_filterMap.2 ⟨o, ?_, h⟩
      have h1 : ops.toList[i]? = some o := by rw [Array.getElem?_toList]; exact ho
      exact List.mem_of_getElem? (l := ops.toList.take m) (i := i) (by rw [List.getElem?_take, if_pos him]; exact h1)
  have hdlt : ∀ i t, i < m → dstAt ops i = some t → t < a0.tmps.size := fun i t him h => by simpa using List.all_eq_true.1 hlt t (hdst i t him h)
  refine wp_region_any hm (monoT_all (ts := ts) hmn (fun i t him h => List.contains_iff_mem.2 (hdst i t him h)) (a0 := a0) (w0 := w0.drew) (F := F) hok hch hF (fun i hi a w hx => hs i hi a w ((Ext.drew w0).trans hx)) hdlt ?_ _ _ _ _ ?_ ⟨by simp, Ext.refl _, ⟨rfl, rfl, fun _ _ => rfl⟩, ?_, ?_, ?_⟩)
  · intro a w hx hfr hv
    have key : a = putT a0 ts (fun t => a.tmps.getD t undef) := by
      obtain ⟨h1, h2, h3, h4⟩ := putT_spec (fun t => a.tmps.getD t undef) ts a0
      have ht : a.tmps = (putT a0 ts (fun t => a.tmps.getD t undef)).tmps := by
        refine Array.ext_getElem? (fun t => ?_)
        by_cases hmem : t ∈ ts
        · have hl : t < a0.tmps.size := by simpa using List.all_eq_true.1 hlt t hmem
          rw [h4 t hmem hl, Array.getD_eq_getD_getElem?]
          rw [Array.getElem?_eq_getElem (by rw [hfr.size]; exact hl)]
          rfl
        · rw [h3 t hmem]
          refine hfr.off t (by cases h : ts.contains t with | false => rfl | true => exact absurd (List.contains_iff_mem.1 h) hmem)
      have hd : a.defers = (putT a0 ts (fun t => a.tmps.getD t undef)).defers := by rw [h2]; exact hfr.defers
      cases a
      cases hp : putT a0 ts _
      rw [hp] at ht hd
      simp only at ht hd
      rw [ht, hd]
    rw [key]
    refine hend _ w ((Ext.drew w0).trans hx) (fun i t him h => ?_)
    obtain ⟨v, h1, h2⟩ := hv i t him h
    rw [Array.getD_eq_getD_getElem?, h1]
    exact h2
  · simp
  · intro i t hi h
    rw [Array.getD_eq_getD_getElem?, Array.getElem?_replicate, if_pos (by omega)] at h
    cases h
  · intro i j hi h
    rw [Array.getD_eq_getD_getElem?, Array.getElem?_replicate, if_pos hi] at h
    cases h
  · intro i _ hi
    rw [Array.getD_eq_getD_getElem?, Array.getElem?_replicate, if_pos hi]
    rfl
end
end Go.Proofs.Ytbldlkmnnhmmnaa.Mono
namespace Go.Proofs.Ytbldlkmnnhmmnaa.MonoX
open Go.RowKit Go.Proofs.YtbldlkmnnhmmnaaW.PrintWords Go.Proofs.YtbldlkmnnhmmnaaW.PrintLast
open Go.Proofs.Ytbldlkmnnhmmnaa.Mono (dstAt edges reach okOps Fr Known edges_lt dst_ne ready_edges chained chained_spec reach_listed tail_any putT putT_spec)
set_option linter.unusedVariables false
structure Pre (X : World → World → Prop) : Prop where
  refl : ∀ w, X w w
  trans : ∀ {a b c}, X a b → X b c → X a c
  drew : ∀ w, X w w.drew
def Stable (X : World → World → Prop) (f : Value → World → Prop) : Prop := ∀ v w w', f v w → X w w' → f v w'
section
variable {X : World → World → Prop} {P : Program} {ops : Array Oper} {Q : Exit → Act → World → Prop}
def MStep (X : World → World → Prop) (P : Program) (ops : Array Oper) (Q : Exit → Act → World → Prop) (ts : List Tmp) (a0 : Act) (w0 : World) (F : Nat → Value → World → Prop) (i : Nat) : Prop :=
  ∀ (a : Act) (w : World), X w0 w → Fr ops ts a0 a → Known ops F i a w →
    ∃ oi, ops[i]? = some oi ∧ ∀ K : Act → World → Prop, (∀ v w', F i v w' → X w w' → K (a.put oi.dst v) w') → if Region.wanted oi (yielded ops a.tmps) = true then Oper.wp P oi a w K Q else K (a.put oi.dst undef) w
theorem msteps_nil {ts : List Tmp} {a0 : Act} {w0 : World} {F : Nat → Value → World → Prop} : ∀ i ∈ ([] : List Nat), MStep X P ops Q ts a0 w0 F i := fun _ h => by cases h
theorem msteps_cons {ts : List Tmp} {a0 : Act} {w0 : World} {F : Nat → Value → World → Prop} {i : Nat} {rs : List Nat} (h : MStep X P ops Q ts a0 w0 F i) (hs : ∀ j ∈ rs, MStep X P ops Q ts a0 w0 F j) : ∀ j ∈ i :: rs, MStep X P ops Q ts a0 w0 F j := fun j hj => by
  rcases List.mem_cons.1 hj with rfl | hj
  · exact h
  · exact hs j hj
structure InvT (X : World → World → Prop) (ops : Array Oper) (ts : List Tmp) (m : Nat) (a0 : Act) (w0 : World) (F : Nat → Value → World → Prop) (listed : Array Bool) (a : Act) (w : World) : Prop where
  sz : listed.size = ops.size
  ext : X w0 w
  fr : Fr ops ts a0 a
  val : ∀ i t, i < m → listed.getD i true = true → dstAt ops i = some t → ∃ v, a.tmps[t]? = some v ∧ F i v w
  shut : ∀ i j, i < ops.size → listed.getD i true = true → j ∈ edges ops i → listed.getD j true = true
  later : ∀ i, m ≤ i → i < ops.size → listed.getD i true = false
theorem monoT_all (hX : Pre X) {ts : List Tmp} {m : Nat} (hmn : m ≤ ops.size) (hts : ∀ i t, i < m → dstAt ops i = some t → ts.contains t = true) {a0 : Act} {w0 : World} {F : Nat → Value → World → Prop} (hok : okOps ops = true) (hch : chained ops m = true) (hF : ∀ i, Stable X (F i)) (hs : ∀ i ∈ List.range m, MStep X P ops Q ts a0 w0 F i) (hdst : ∀ i t, i < m → dstAt ops i = some t → t < a0.tmps.size)
    (hend : ∀ a w, X w0 w → Fr ops ts a0 a → (∀ i t, i < m → dstAt ops i = some t → ∃ v, a.tmps[t]? = some v ∧ F i v w) → wpList P ops Q (ops.toList.drop m) a w) :
    ∀ (fuel : Nat) (listed : Array Bool) (a : Act) (w : World), listed.toList.count false = fuel → InvT X ops ts m a0 w0 F listed a w → wpAny P .any ops Q fuel listed a w := by
  have none_ : ∀ (listed : Array Bool), listed.size = ops.size → Region.ready .any ops listed = [] → ∀ i, i < ops.size → listed.getD i true = true := by
    intro listed hsz hr i
    induction i using Nat.strongRecOn with
    | _ i ih =>
      intro hi
      cases hl : listed.getD i true with
      | true => rfl
      | false =>
        have : i ∈ Region.ready .any ops listed := (ready_edges hsz hok).2 ⟨hi, hl, fun e he => ih e (edges_lt hok he) (by have := edges_lt hok he; omega)⟩
        rw [hr] at this
        cases this
  have fin : ∀ (listed : Array Bool) (a : Act) (w : World), InvT X ops ts m a0 w0 F listed a w → (∀ i, i < ops.size → listed.getD i true = true) → Q .normal a w := by
    intro listed a w hI hall
    have hm : m = ops.size := by
      rcases Nat.lt_or_ge m ops.size with h | h
      · have h1 := hI.later m (Nat.le_refl _) h
        rw [hall m h] at h1
        cases h1
      · omega
    have := hend a w hI.ext hI.fr (fun i t hi ht => hI.val i t hi (hall i (by omega)) ht)
    rw [hm, List.drop_of_length_le (by rw [Array.length_toList]; omega)] at this
    exact this
  intro fuel
  induction fuel with
  | zero =>
    intro listed a w hc hI
    have hall : ∀ i, i < ops.size → listed.getD i true = true := by
      intro i hi
      have hm := List.count_eq_zero.1 hc
      rw [Array.getD_eq_getD_getElem?, Array.getElem?_eq_getElem (by rw [hI.sz]; exact hi)]
      cases hb : listed[i]'(by rw [hI.sz]; exact hi) with
      | true => rfl
      | false => exact absurd (by rw [← hb]; exact Array.getElem_mem_toList _) hm
    refine ⟨?_, fin listed a w hI hall⟩
    refine List.eq_nil_iff_forall_not_mem.2 (fun i hi => ?_)
    obtain ⟨h1, h2, _⟩ := (ready_edges hI.sz hok).1 hi
    rw [hall i h1] at h2
    cases h2
  | succ fuel ih =>
    intro listed a w hc hI
    by_cases hmall : ∀ i, i < m → listed.getD i true = true
    · -- the tail
      have hl : ∀ i, i < ops.size → listed.getD i true = decide (i < m) := by
        intro i hi
        by_cases h : i < m
        · rw [hmall i h, decide_eq_true h]
        · rw [hI.later i (by omega) hi, decide_eq_false h]
      have hcount : m + (fuel + 1) = ops.size := by
        have hL : listed.toList = List.replicate m true ++ List.replicate (ops.size - m) false := by
          apply List.ext_getElem?
          intro i
          by_cases hi : i < ops.size
          · have h1 := hl i hi
            rw [Array.getD_eq_getD_getElem?, Array.getElem?_eq_getElem (by rw [hI.sz]; exact hi)] at h1
            rw [Array.getElem?_toList, Array.getElem?_eq_getElem (by rw [hI.sz]; exact hi)]
            simp only [Option.getD_some] at h1
            rw [h1]
            by_cases h : i < m
            · rw [List.getElem?_append_left (by simpa using h), List.getElem?_replicate, if_pos h, decide_eq_true h]
            · rw [List.getElem?_append_right (by simpa using h), List.getElem?_replicate, List.length_replicate, if_pos (by omega), decide_eq_false h]
          · rw [List.getElem?_eq_none (by rw [Array.length_toList, hI.sz]; omega), List.getElem?_eq_none (by simp; omega)]
        rw [hL, List.count_append, List.count_replicate, List.count_replicate] at hc
        simp at hc
        omega
      exact tail_any hok hch _ m listed a w hcount (Nat.le_refl _) hI.sz hl (hend a w hI.ext hI.fr (fun i t hi ht => hI.val i t hi (hmall i hi) ht))
    refine ⟨fun hr => fin listed a w hI (none_ listed hI.sz hr), fun i hi => ?_⟩
    obtain ⟨hlt, hl, he⟩ := (ready_edges hI.sz hok).1 hi
    have him : i < m := by
      rcases Nat.lt_or_ge i m with h | h
      · exact h
      · refine absurd (fun j hj => ?_) hmall
        exact (reach_listed hok hI.shut _ i j hlt he (chained_spec hch hlt h (by omega))).2
    obtain ⟨oi, hoi, hK⟩ := hs i (List.mem_range.2 him) a w hI.ext hI.fr (fun j t hr ht => by
      obtain ⟨h1, h2⟩ := reach_listed hok hI.shut _ i j hlt he hr
      have hjm : j < m := by
        rcases Nat.lt_or_ge j m with h | h
        · exact h
        · have := hI.later j h h1
          rw [h2] at this
          cases this
      exact hI.val j t hjm h2 ht)
    refine wpOp_step hoi (fun K' hK' => hK K' (fun v w' hv hx => hK' _ _ ?_))
    have hdi : dstAt ops i = oi.dst := by unfold dstAt; rw [hoi]; rfl
    have hli : listed[i]'(by rw [hI.sz]; exact hlt) = false := by
      rw [Array.getD_eq_getD_getElem?, Array.getElem?_eq_getElem (by rw [hI.sz]; exact hlt)] at hl
      exact hl
    refine ih _ _ _ ?_ ⟨by rw [Array.size_setIfInBounds]; exact hI.sz, hX.trans hI.ext hx, ⟨?_, ?_, ?_⟩, ?_, ?_, ?_⟩
    · rw [Array.toList_setIfInBounds, List.count_set (h := by rw [Array.length_toList, hI.sz]; exact hlt)]
      have : listed.toList[i]'(by rw [Array.length_toList, hI.sz]; exact hlt) = false := by rw [Array.getElem_toList]; exact hli
      rw [this, hc]
      simp
    · rw [← hI.fr.size]
      unfold Act.put
      split <;> simp
    · rw [← hI.fr.defers]
      unfold Act.put
      split <;> rfl
    · intro t ht
      rw [← hI.fr.off t ht]
      cases hd : oi.dst with
      | none => rfl
      | some d =>
        have hne : d ≠ t := fun e => by have := hts i t him (by rw [hdi, hd, e]); rw [ht] at this; cases this
        simp [Act.put, Array.getElem?_setIfInBounds_ne hne]
    · intro j t hj hlj htj
      by_cases hij : i = j
      · subst hij
        rw [hdi] at htj
        refine ⟨v, ?_, hv⟩
        have := hdst i t him (by rw [hdi]; exact htj)
        rw [htj]
        simp [Act.put, hI.fr.size, this]
      · have hlj' : listed.getD j true = true := by rw [getD_set_ne true hij] at hlj; exact hlj
        obtain ⟨u, hu, hfu⟩ := hI.val j t hj hlj' htj
        refine ⟨u, ?_, hF j u w w' hfu hx⟩
        cases hd : oi.dst with
        | none => exact hu
        | some d =>
          have hne : d ≠ t := fun e => hij (dst_ne hok (by rw [hdi, hd, e]) htj)
          simpa [Act.put, Array.getElem?_setIfInBounds_ne hne] using hu
    · intro j e hj hlj hem
      by_cases hej : i = e
      · subst hej
        rw [Array.getD_eq_getD_getElem?]
        simp [hI.sz, hlt]
      · rw [getD_set_ne true hej]
        by_cases hij : i = j
        · subst hij
          exact he e hem
        · rw [getD_set_ne true hij] at hlj
          exact hI.shut j e hj hlj hem
    · intro j hj hjl
      rw [getD_set_ne true (by omega)]
      exact hI.later j hj hjl
theorem mono_region_tail (hX : Pre X) {id : Nat} {a0 : Act} {w0 : World} (F : Nat → Value → World → Prop) (m : Nat) (ts : List Tmp) (rest : List Oper) (hm : P.follows .mixedOrders = true) (hn : ops.toList.drop m = rest) (hmn : m ≤ ops.size) (hok : okOps ops = true) (hch : chained ops m = true)
    (hts : ((ops.toList.take m).filterMap (·.dst) == ts && ts.all fun t => decide (t < a0.tmps.size)) = true) (hF : ∀ i, Stable X (F i)) (hs : ∀ i ∈ List.range m, MStep X P ops Q ts a0 w0 F i)
    (hend : ∀ (val : Tmp → Value) (w : World), X w0 w → (∀ i t, i < m → dstAt ops i = some t → F i (val t) w) → wpList P ops Q rest (putT a0 ts val) w) : (Code.region id ops true).wp P Q a0 w0 := by
  subst hn
  rw [Bool.and_eq_true, beq_iff_eq] at hts
  obtain ⟨hts, hlt⟩ := hts
  have hdst : ∀ i t, i < m → dstAt ops i = some t → t ∈ ts := by
    intro i t him h
    rw [← hts]
    unfold dstAt at h
    cases ho : ops[i]? with
    | none => rw [ho] at h; cases h
    | some o =>
      rw [ho] at h
      refine List.mem_filterMap.2 ⟨o, ?_, h⟩
      have h1 : ops.toList[i]? = some o := by rw [Array.getElem?_toList]; exact ho
      exact List.mem_of_getElem? (l := ops.toList.take m) (i := i) (by rw [List.getElem?_take, if_pos him]; exact h1)
  have hdlt : ∀ i t, i < m → dstAt ops i = some t → t < a0.tmps.size := fun i t him h => by simpa using List.all_eq_true.1 hlt t (hdst i t him h)
  refine wp_region_any hm (monoT_all hX (ts := ts) hmn (fun i t him h => List.contains_iff_mem.2 (hdst i t him h)) (a0 := a0) (w0 := w0.drew) (F := F) hok hch hF (fun i hi a w hx => hs i hi a w (hX.trans (hX.drew w0) hx)) hdlt ?_ _ _ _ _ ?_ ⟨by simp, hX.refl _, ⟨rfl, rfl, fun _ _ => rfl⟩, ?_, ?_, ?_⟩)
  · intro a w hx hfr hv
    have key : a = putT a0 ts (fun t => a.tmps.getD t undef) := by
      obtain ⟨h1, h2, h3, h4⟩ := putT_spec (fun t => a.tmps.getD t undef) ts a0
      have ht : a.tmps = (putT a0 ts (fun t => a.tmps.getD t undef)).tmps := by
        refine Array.ext_getElem? (fun t => ?_)
        by_cases hmem : t ∈ ts
        · have hl : t < a0.tmps.size := by simpa using List.all_eq_true.1 hlt t hmem
          rw [h4 t hmem hl, Array.getD_eq_getD_getElem?]
          rw [Array.getElem?_eq_getElem (by rw [hfr.size]; exact hl)]
          rfl
        · rw [h3 t hmem]
          refine hfr.off t (by cases h : ts.contains t with | false => rfl | true => exact absurd (List.contains_iff_mem.1 h) hmem)
      have hd : a.defers = (putT a0 ts (fun t => a.tmps.getD t undef)).defers := by rw [h2]; exact hfr.defers
      cases a
      cases hp : putT a0 ts _
      rw [hp] at ht hd
      simp only at ht hd
      rw [ht, hd]
    rw [key]
    refine hend _ w (hX.trans (hX.drew w0) hx) (fun i t him h => ?_)
    obtain ⟨v, h1, h2⟩ := hv i t him h
    rw [Array.getD_eq_getD_getElem?, h1]
    exact h2
  · simp
  · intro i t hi h
    rw [Array.getD_eq_getD_getElem?, Array.getElem?_replicate, if_pos (by omega)] at h
    cases h
  · intro i j hi h
    rw [Array.getD_eq_getD_getElem?, Array.getElem?_replicate, if_pos hi] at h
    cases h
  · intro i _ hi
    rw [Array.getD_eq_getD_getElem?, Array.getElem?_replicate, if_pos hi]
    rfl
end
end Go.Proofs.Ytbldlkmnnhmmnaa.MonoX
namespace Go.Proofs.Ytbldlkmnnhmmnaa.QTracePlays
open Go.RowKit Go.Proofs.YtbldlkmnnhmmnaaW.PrintWords Go.Proofs.YtbldlkmnnhmmnaaW.PrintLast Go.Proofs.YtbldlkmnnhmmnaaW.PrintMore
set_option linter.unusedVariables false
set_option linter.unusedSimpArgs false
structure S28 where
  f0 : ByteArray
  f1 : List (S38)
def z28 : S28 := ⟨⟨#[]⟩, []⟩
def k28 : Kd S28 := Kd.iso (Kd.pair Kd.string (Kd.slice 38 k38)) (fun x : S28 => (x.f0, x.f1))
theorem k28_open {w : World} {x : S28} {cs : List Value} (h : k28.K w x cs) : ∃ A1 c1, cs = [.string x.f0, .slice A1 x.f1.length c1] ∧ x.f1.length ≤ c1 ∧ Kd.C k38 w A1 x.f1.length x.f1 := by
  obtain ⟨_, _, rfl, rfl, ⟨A1, c1, rfl, hc1, hr1⟩⟩ := h
  exact ⟨A1, c1, rfl, hc1, hr1⟩
abbrev RW (w : World) (B : Nat) (v : Value) (xs : List S38) : Prop := Kd.R k38 38 w B (fun _ => True) v xs
theorem rw_move {w w1 : World} {B : Nat} {v : Value} {xs : List S38} (h : RW w B v xs) (hm : ∀ k, v.ownBlock = some k → w1.heap[k]? = w.heap[k]?) : RW w1 B v xs := by
  obtain ⟨h0, inner, ho, hr⟩ := h
  refine ⟨h0, inner, own_move ho hm, hr.imp_ (fun x cs hp => ?_)⟩
  obtain rfl := k38_openM hp
  exact k38_mkM _ _ _ x
theorem rw_lt {w : World} {B : Nat} {v : Value} {xs : List S38} (h : RW w B v xs) {k : Nat} (hk : v.ownBlock = some k) : k < w.heap.size := by
  obtain ⟨h0, inner, ho, hr⟩ := h
  exact own_lt ho k hk
theorem rw_base {w : World} {B : Nat} {v : Value} {xs : List S38} (h : RW w B v xs) {k : Nat} (hk : v.ownBlock = some k) : B ≤ k := by
  obtain ⟨h0, inner, ho, hr⟩ := h
  exact own_base ho k hk
theorem rw_ne {w : World} {B : Nat} {v : Value} {xs : List S38} (h : RW w B v xs) {g : Nat} {t : TypeId} {cs : Array Value} (hg : w.heap[g]? = some (.cells cs t (0, 0))) (hne : 38 ≠ t) : v.ownBlock ≠ some g := by
  obtain ⟨h0, inner, ho, hr⟩ := h
  exact fun e => own_ne ho hg hne e.symm
abbrev RC (v : Value) (al : Int) (gm : Nat) : Obj := .cells #[v, .int .i64 al, .map (some gm)] 41 (0, 0)
abbrev MP (w : World) (gm n : Nat) (D : DataW Unit) : Prop := w.ownsMap Try.prog 9 (plainElem Try.prog 3) gm n D
theorem mp_move {w w1 : World} {gm n : Nat} {D : DataW Unit} (h : MP w gm n D) (hm : w1.heap[gm]? = w.heap[gm]?) : MP w1 gm n D := by
  obtain ⟨es, c, hb, F, hs, hD⟩ := h
  exact ⟨es, c, hm.trans hb, F, hs, hD⟩
theorem neq_map (w : World) (m : Option Nat) : (binOp .neq 39 (.map m) (.map none)).run Try.prog w = .ok (.bool (!m.isNone)) w := run_neq_map_nil w _ _ _ m Try.underlying39
abbrev keyS (s : ByteArray) : Lit := .string s.data.toList
set_option maxHeartbeats 1000000 in
theorem rec_is (g gm : Nat) (v : Value) (al : Int) (w : World) (h : w.heap[g]? = some (RC v al gm)) : Calls Try.prog 12 #[.pointer (some ⟨g, 0, none⟩)] w fun e w' => e = .returned (.bool true) ∧ Below w.heap.size w w' := by
  have z_ : w.cell? ⟨g, 2, none⟩ = some (.map (some gm)) := (blk_cell h 2).trans rfl
  have q_ := neq_map
  clear h
  go_enter Try.func12, Try.ntmps12
  go_wp2
  go_ret
  exact ⟨rfl, Below.refl _ _⟩
set_option maxHeartbeats 1000000 in
theorem rec_All (g gm : Nat) (v : Value) (al : Int) (w : World) (h : w.heap[g]? = some (RC v al gm)) : Calls Try.prog 8 #[.pointer (some ⟨g, 0, none⟩)] w fun e w' => e = .returned (.int .i64 al) ∧ Below w.heap.size w w' := by
  have H := Aside0.mk h
  clear h
  go_enter Try.func8, Try.ntmps8
  go_wp2_with (go_at_call 12; (with_reducible refine (rec_is g gm v al _ H.out).mono ?_); rintro e w1 ⟨rfl, hb⟩; have HB := Aside0.mk hb; have z_ : w1.cell? ⟨g, 1, none⟩ = some (.int .i64 al) := (blk_cell (blk_below H.out hb) 1).trans rfl; clear hb)
  go_ret
  exact ⟨rfl, HB.out⟩
set_option maxHeartbeats 1000000 in
theorem rec_New (w : World) : Calls Try.prog 5 #[] w fun e w' => ∃ g gm, e = .returned (.pointer (some ⟨g, 0, none⟩)) ∧ w.heap.size ≤ g ∧ w.heap.size ≤ gm ∧ gm ≠ g ∧ w'.heap[g]? = some (RC (.slice none 0 0) 0 gm) ∧ MP w' gm 0 (.map []) ∧ Below w.heap.size w w' := by
  have m_ := fun w => run_makeMap (P := Try.prog) 39 w
  go_enter Try.func5, Try.ntmps5
  go_wp2_with ((with_reducible refine gate_dst (N := 3) rfl ?_); refine box_event ?hg (N := 3) ?hd (cs := #[.slice none 0 0, .int .i64 0, .map (some w.heap.size)]) (t := 41) ?hr ?_; (case hd => rfl); (case hg => rfl); (case hr => first | (go_simp; done) | (go_simp; rfl)); intro g hg w1 hbox hb; have HG := Aside0.mk hg; have HX := Aside0.mk hbox; have HB := Aside0.mk hb; clear hg hbox hb)
  go_ret
  have hb := HB.out
  have hg := HG.out
  have hs : (w.alloc (.map #[] 0)).heap.size = w.heap.size + 1 := Array.size_push ..
  rw [hs] at hg hb
  refine ⟨g, w.heap.size, rfl, by omega, Nat.le_refl _, by omega, HX.out, ?_, ?_⟩
  · exact mp_move (World.ownsMap_made w Try.prog 9 (plainElem Try.prog 3)) (hb.block _ (by omega))
  · exact Below.trans (below_alloc (Below.refl _ _) _) (hb.mono (by omega))
set_option maxHeartbeats 1000000 in
theorem cyc_Clone (A0 : Option Addr) (c0 : Nat) (l0 : List S38) (w : World) (hr0 : Kd.C k38 w A0 l0.length l0) (hc0 : l0.length ≤ c0) (hl : l0.length ≤ 1000000) :
    Calls Try.prog 13 #[.slice A0 l0.length c0] w fun e w' => ∃ v0_ : Value, e = .returned v0_ ∧ RW w' w.heap.size v0_ l0 ∧ Below w.heap.size w w' := by
  have HR0 := Aside0.mk hr0
  have HL := Aside0.mk hl
  clear hr0 hl
  cases A0 with
  | none =>
    have hnil : l0 = [] := by
      by_cases e : 0 < l0.length
      · obtain ⟨ad, e1, _⟩ := HR0.out.2.2 e
        cases e1
      · exact List.length_eq_zero_iff.1 (by omega)
    subst hnil
    have hn := fun (w : World) (n c : Nat) => Lib.run_eql_slice_nil_nil (P := Try.prog) w n c Try.underlying26
    go_enter Try.func13, Try.ntmps13
    go_wp2
    go_ret
    exact ⟨_, rfl, Kd.R_nil _ _ _ _ _, Below.refl _ _⟩
  | some a =>
    have hn := fun (w : World) (n c : Nat) => Lib.run_eql_slice_nil (P := Try.prog) w 26 38 (some a) n c 0 0 Try.underlying26
    go_enter Try.func13, Try.ntmps13
    have HB := Aside0.mk (Below.refl w.heap.size w)
    go_wp2_with (first | ((with_reducible refine gate_dst (N := 5) rfl ?_); refine Kd.R_lit k38 w.heap.size 38 ?hg (N := 5) ?hd (xs := ([] : List S38)) (inner := []) (ok := fun _ => True) (okp := fun _ => True) ?hr ?hp (fun _ hk => hk) trivial HB.out (Nat.le_refl _) (by simp) ?_; (case hd => rfl); (case hg => rfl); (case hr => first | (go_simp; done) | (go_simp; rfl)); (case hp => exact (Reps.none _ _)); intro v1 w1 ho1 hb1 hg1 hnew1; clear hg1 hnew1; have HO1 := Aside0.mk ho1; have HB1 := Aside0.mk hb1; clear ho1 hb1) | ((with_reducible refine gate_builtin (b := .append) (xs := #[.tmp 5, .tmp 6]) rfl ?_); at_builtin; refine Kd.R_append_rows k38 (Rr := k38.K w1) (w0 := w) w.heap.size rfl (.tmp 5) (.tmp 6) 26 38 (.agg #[.int .i64 0, .int .u8 0]) 16 rfl Try.underlying26 ?aI rfl (by decide) (by omega) v1 [] l0 _ _ _ (fun _ => True) (fun _ => False) rfl rfl ?aO ?aR ?aM (fun _ h => h.elim) (fun _ _ => trivial) ?aB ?aS ?aL ?_; (case aI => kernel_rfl); (case aM => intro x cs h; obtain rfl := k38_open h; exact k38_mkM _ _ _ x); (case aO => exact HO1.out); (case aR => exact Kd.C_below HR0.out HB1.out); (case aB => exact HB1.out); (case aS => exact below_size HB1.out); (case aL => have := HL.out; simp; omega); intro v2 w2 ho2 hb2 hg2 hat2; clear hg2 hat2; rw [List.nil_append] at ho2; have HO2 := Aside0.mk ho2; have HB2 := Aside0.mk hb2; clear ho2 hb2))
    go_ret
    exact ⟨_, rfl, HO2.out, HB2.out⟩
set_option maxHeartbeats 1000000 in
theorem rec_List (g gm : Nat) (A : Option Addr) (c : Nat) (xs : List S38) (al : Int) (w : World) (h : w.heap[g]? = some (RC (.slice A xs.length c) al gm)) (hC : Kd.C k38 w A xs.length xs) (hc : xs.length ≤ c) (hl : xs.length ≤ 1000000) :
    Calls Try.prog 10 #[.pointer (some ⟨g, 0, none⟩)] w fun e w' => ∃ v0_ : Value, e = .returned v0_ ∧ RW w' w.heap.size v0_ xs ∧ Below w.heap.size w w' := by
  have H := Aside0.mk h
  have HC := Aside0.mk hC
  have HL := Aside0.mk hl
  have HCC := Aside0.mk hc
  clear h hC hl hc
  go_enter Try.func10, Try.ntmps10
  go_wp2_with (first | (go_at_call 12; (with_reducible refine (rec_is g gm _ al _ H.out).mono ?_); rintro e w1 ⟨rfl, hb⟩; have HB := Aside0.mk hb; have z_ : w1.cell? ⟨g, 0, none⟩ = some (.slice A xs.length c) := (blk_cell (blk_below H.out hb) 0).trans rfl; clear hb) | (go_at_call 13; (with_reducible refine (cyc_Clone A c xs _ (Kd.C_below HC.out HB.out) HCC.out HL.out).mono ?_); rintro e w2 ⟨v2, rfl, hR, hb⟩; have HR := Aside0.mk hR; have HB2 := Aside0.mk hb; clear hR hb))
  go_ret
  exact ⟨_, rfl, Kd.R_lower HR.out HB.out.size, below_step HB.out HB2.out⟩
theorem zeroI (w : World) : (zeroValue 3).run Try.prog w = .ok (.int .i64 0) w := by kernel_rfl
theorem slice_from (A : Option Addr) (c : Nat) (xs : List S38) (i : Nat) (hi : i ≤ xs.length) (hc : xs.length ≤ c) : ∃ (L : List S38) (A' : Option Addr) (c' : Nat), L = xs.drop i ∧ L.length ≤ c' ∧ (∀ w : World, (Instr.slice 26 (.slice A xs.length c) (some (.int .i64 (i : Int))) none none).run Try.prog w = .ok (.slice A' L.length c') w) ∧ ∀ w : World, Kd.C k38 w A xs.length xs → Kd.C k38 w A' L.length L := by
  obtain ⟨ii, hii, hz_, hsz, hb_⟩ := info_parts (show (Try.prog.info? 38).map (fun i => (i.zero, i.size, i.bytes)) = some (some (.agg #[.int .i64 0, .int .u8 0]), 2, 16) by kernel_rfl)
  have h := cut_from (P := Try.prog) 26 38 .i64 Try.underlying26 hii 2 hsz A xs.length c (i : Int) (by omega) (by omega)
  rw [Int.toNat_natCast, ← List.length_drop] at h
  exact ⟨_, _, _, rfl, by rw [List.length_drop]; omega, h, fun w hC => Kd.C_drop hC hi hc⟩
theorem slice_to (A : Option Addr) (c : Nat) (xs : List S38) (m : Nat) (hm : m ≤ xs.length) (hc : xs.length ≤ c) (w : World) : (Instr.slice 26 (.slice A xs.length c) none (some (.int .i64 (m : Int))) none).run Try.prog w = .ok (.slice A m c) w := by
  obtain ⟨ii, hii, hz_, hsz, hb_⟩ := info_parts (show (Try.prog.info? 38).map (fun i => (i.zero, i.size, i.bytes)) = some (some (.agg #[.int .i64 0, .int .u8 0]), 2, 16) by kernel_rfl)
  have h := cut_to (P := Try.prog) 26 38 .i64 Try.underlying26 hii A xs.length c (m : Int) (by omega) (by omega) hc
  rw [Int.toNat_natCast] at h
  exact h w
set_option maxHeartbeats 1000000 in
theorem rec_Since_no (g gm n : Nat) (v : Value) (al : Int) (D : DataW Unit) (s : ByteArray) (w : World) (h : w.heap[g]? = some (RC v al gm)) (hm : MP w gm n D) (hs : s.size ≤ maxLen) (hD : Maps.has D (keyS s) = false) :
    Calls Try.prog 11 #[.pointer (some ⟨g, 0, none⟩), .string s] w fun e w' => e = .returned (.tuple #[.slice none 0 0, .bool false]) ∧ Below w.heap.size w w' := by
  have H := Aside0.mk h
  have HM := Aside0.mk hm
  have HD := Aside0.mk hD
  have HK := Aside0.mk (WideMaps.keyOf_string_mk (P := Try.prog) Try.underlying9 hs)
  clear h hm hD hs
  go_enter Try.func11, Try.ntmps11
  go_wp2_with (first | (go_at_call 12; (with_reducible refine (rec_is g gm _ al _ H.out).mono ?_); rintro e w1 ⟨rfl, hb⟩; have HB := Aside0.mk hb; have z_ : w1.cell? ⟨g, 2, none⟩ = some (.map (some gm)) := (blk_cell (blk_below H.out hb) 2).trans rfl; clear hb) | (at_lookup; refine wpList_lookup_own_ok_int _ rfl _ _ 39 rfl 9 3 .i64 (Maps.string_keyed Try.underlying9) Try.underlying39 Try.underlying3 (zeroI _) gm n D rfl (mp_move HM.out (HB.out.block _ (World.ownsMap.lt HM.out))) _ _ rfl HK.out ?_; intro ci hat hwc; rw [HD.out]; clear hat hwc))
  refine bodyPost_ret (results_list (rs := [.tmp 4, .tmp 5]) rfl (by simp) (.tmp (.tmp .nil))) rfl ?_
  exact ⟨rfl, HB.out⟩
set_option maxHeartbeats 1000000 in
theorem rec_Since (g gm n : Nat) (A : Option Addr) (c : Nat) (xs : List S38) (al : Int) (D : DataW Unit) (s : ByteArray) (i : Nat) (w : World) (h : w.heap[g]? = some (RC (.slice A xs.length c) al gm)) (hC : Kd.C k38 w A xs.length xs) (hc : xs.length ≤ c) (hl : xs.length ≤ 1000000) (hm : MP w gm n D) (hs : s.size ≤ maxLen) (hD : Maps.has D (keyS s) = true) (hi : D.atKey (keyS s) (.lit (.int .i64 0)) = .lit (.int .i64 (i : Int))) (hil : i ≤ xs.length) :
    Calls Try.prog 11 #[.pointer (some ⟨g, 0, none⟩), .string s] w fun e w' => ∃ v0_ : Value, e = .returned (.tuple #[v0_, .bool true]) ∧ RW w' w.heap.size v0_ (xs.drop i) ∧ Below w.heap.size w w' := by
  have H := Aside0.mk h
  have HM := Aside0.mk hm
  have HD := Aside0.mk hD
  have HI := Aside0.mk hi
  obtain ⟨L, A', c', hL, hlc, hcut, hCC⟩ := slice_from A c xs i hil hc
  rw [← hL]
  have HDC := Aside0.mk (hCC w hC)
  have HDL := Aside0.mk hlc
  have HDM : Aside0 (L.length ≤ 1000000) := ⟨by rw [hL, List.length_drop]; omega⟩
  clear hL hlc hCC
  have HK := Aside0.mk (WideMaps.keyOf_string_mk (P := Try.prog) Try.underlying9 hs)
  clear h hm hD hs hi hC hc hl hil
  go_enter Try.func11, Try.ntmps11
  go_wp2_with (first | (go_at_call 12; (with_reducible refine (rec_is g gm _ al _ H.out).mono ?_); rintro e w1 ⟨rfl, hb⟩; have HB := Aside0.mk hb; have z_ : w1.cell? ⟨g, 2, none⟩ = some (.map (some gm)) := (blk_cell (blk_below H.out hb) 2).trans rfl; have y_ : w1.cell? ⟨g, 0, none⟩ = some (.slice A xs.length c) := (blk_cell (blk_below H.out hb) 0).trans rfl; clear hb) | (at_lookup; refine wpList_lookup_own_ok_int _ rfl _ _ 39 rfl 9 3 .i64 (Maps.string_keyed Try.underlying9) Try.underlying39 Try.underlying3 (zeroI _) gm n D rfl (mp_move HM.out (HB.out.block _ (World.ownsMap.lt HM.out))) _ _ rfl HK.out ?_; intro ci hat hwc; rw [HD.out]; have hci := HI.out.symm.trans hat; injection hci with hci; injection hci with _ hci; subst hci; clear hat hwc) | (go_at_call 13; (with_reducible refine (cyc_Clone A' c' L _ (Kd.C_below HDC.out HB.out) HDL.out HDM.out).mono ?_); rintro e w2 ⟨v2, rfl, hR, hb⟩; have HR := Aside0.mk hR; have HB2 := Aside0.mk hb; clear hR hb))
  refine bodyPost_ret (results_list (rs := [.tmp 4, .tmp 5]) rfl (by simp) (.tmp (.tmp .nil))) rfl ?_
  exact ⟨_, rfl, Kd.R_lower HR.out HB.out.size, below_step HB.out HB2.out⟩
end Go.Proofs.Ytbldlkmnnhmmnaa.QTracePlays
namespace Go.Proofs.Ytbldlkmnnhmmnaa.Mono
open Go.RowKit Go.Proofs.YtbldlkmnnhmmnaaW.PrintWords Go.Proofs.YtbldlkmnnhmmnaaW.PrintLast
set_option linter.unusedVariables false
section
variable {P : Program} {ops : Array Oper} {Q : Exit → Act → World → Prop}
def PStep (P : Program) (ops : Array Oper) (Q : Exit → Act → World → Prop) (ts : List Tmp) (a0 : Act) (w0 : World) (F : Nat → Value → World → Prop) (i : Nat) : Prop :=
  ∀ (a : Act) (w wf : World), Ext w0 wf → Fr ops ts a0 a → Known ops F i a wf →
    ∃ oi, ops[i]? = some oi ∧ ∀ K : Act → World → Prop, (∀ v, F i v wf → K (a.put oi.dst v) w) → if Region.wanted oi (yielded ops a.tmps) = true then Oper.wp P oi a w K Q else K (a.put oi.dst undef) w
theorem PStep.m {ts : List Tmp} {a0 : Act} {w0 : World} {F : Nat → Value → World → Prop} {i : Nat} (h : PStep P ops Q ts a0 w0 F i) : MStep P ops Q ts a0 w0 F i := fun a w hx hfr hk => by
  obtain ⟨oi, h1, h2⟩ := h a w w hx hfr hk
  exact ⟨oi, h1, fun K hK => h2 K fun v hv => hK v w hv (Ext.refl _)⟩
theorem psteps_nil {ts : List Tmp} {a0 : Act} {w0 : World} {F : Nat → Value → World → Prop} : ∀ i ∈ ([] : List Nat), PStep P ops Q ts a0 w0 F i := fun _ h => by cases h
theorem psteps_cons {ts : List Tmp} {a0 : Act} {w0 : World} {F : Nat → Value → World → Prop} {i : Nat} {rs : List Nat} (h : PStep P ops Q ts a0 w0 F i) (hs : ∀ j ∈ rs, PStep P ops Q ts a0 w0 F j) : ∀ j ∈ i :: rs, PStep P ops Q ts a0 w0 F j := fun j hj => by
  rcases List.mem_cons.1 hj with rfl | hj
  · exact h
  · exact hs j hj
end
end Go.Proofs.Ytbldlkmnnhmmnaa.Mono
namespace Go.Proofs.Ytbldlkmnnhmmnaa.Mono
open Go.RowKit Go.Proofs.YtbldlkmnnhmmnaaW.PrintWords Go.Proofs.YtbldlkmnnhmmnaaW.PrintLast
set_option linter.unusedVariables false
section
variable {P : Program} {ops : Array Oper} {Q : Exit → Act → World → Prop}
def AStep (P : Program) (ops : Array Oper) (Q : Exit → Act → World → Prop) (ts : List Tmp) (a0 : Act) (w0 : World) (F : Nat → Value → World → Prop) (ST : (Tmp → Value) → Value → World → World → Prop) (s : Nat) : Prop :=
  ∀ (a : Act) (w : World), Ext w0 w → Fr ops ts a0 a → Known ops F s a w →
    ∃ oi, ops[s]? = some oi ∧ ∀ K : Act → World → Prop, (∀ u w2, ST (fun t => a.tmps.getD t undef) u w w2 → K (a.put oi.dst u) w2) → if Region.wanted oi (yielded ops a.tmps) = true then Oper.wp P oi a w K Q else K (a.put oi.dst undef) w
structure InvA (ops : Array Oper) (ts : List Tmp) (m s ds : Nat) (a0 : Act) (w0 : World) (F : Nat → Value → World → Prop) (ST : (Tmp → Value) → Value → World → World → Prop) (listed : Array Bool) (a : Act) (w : World) : Prop where
  sz : listed.size = ops.size
  fr : Fr ops ts a0 a
  st : ∃ wf, Ext w0 wf ∧ (∀ i t, i < m → i ≠ s → listed.getD i true = true → dstAt ops i = some t → ∃ v, a.tmps[t]? = some v ∧ F i v wf) ∧ ((listed.getD s true = false ∧ wf = w) ∨ (listed.getD s true = true ∧ ∃ u, a.tmps[ds]? = some u ∧ ST (fun t => a.tmps.getD t undef) u wf w))
  shut : ∀ i j, i < ops.size → listed.getD i true = true → j ∈ edges ops i → listed.getD j true = true
  later : ∀ i, m ≤ i → i < ops.size → listed.getD i true = false
theorem monoA_all {ts : List Tmp} {m s ds : Nat} (hmn : m ≤ ops.size) (hsm : s < m) (hsd : dstAt ops s = some ds) (hts : ∀ i t, i < m → dstAt ops i = some t → ts.contains t = true) {a0 : Act} {w0 : World} {F : Nat → Value → World → Prop} {ST : (Tmp → Value) → Value → World → World → Prop} (hok : okOps ops = true) (hch : chained ops m = true) (hF : ∀ i, Stable (F i))
    (hcong : ∀ (x y : Tmp → Value) (u : Value) (w w2 : World), (∀ j t, reach ops ops.size s j = true → dstAt ops j = some t → x t = y t) → ST x u w w2 → ST y u w w2)
    (hs : ∀ i, i < m → i ≠ s → PStep P ops Q ts a0 w0 F i ∨ (reach ops ops.size s i = true ∧ MStep P ops Q ts a0 w0 F i)) (hnos : ∀ i, i < m → i ≠ s → reach ops ops.size i s = false)
    (hst : AStep P ops Q ts a0 w0 F ST s) (hdst : ∀ i t, i < m → dstAt ops i = some t → t < a0.tmps.size)
    (hend : ∀ a wf w u, Ext w0 wf → Fr ops ts a0 a → (∀ i t, i < m → i ≠ s → dstAt ops i = some t → ∃ v, a.tmps[t]? = some v ∧ F i v wf) → a.tmps[ds]? = some u → ST (fun t => a.tmps.getD t undef) u wf w → wpList P ops Q (ops.toList.drop m) a w) :
    ∀ (fuel : Nat) (listed : Array Bool) (a : Act) (w : World), listed.toList.count false = fuel → InvA ops ts m s ds a0 w0 F ST listed a w → wpAny P .any ops Q fuel listed a w := by
  have hend2 : ∀ (listed : Array Bool) (a : Act) (w : World), InvA ops ts m s ds a0 w0 F ST listed a w → (∀ i, i < m → listed.getD i true = true) → wpList P ops Q (ops.toList.drop m) a w := by
    intro listed a w hI hall
    obtain ⟨wf, hx, hv, hc⟩ := hI.st
    rcases hc with ⟨h1, _⟩ | ⟨_, u, hu, h2⟩
    · rw [hall s hsm] at h1
      cases h1
    · exact hend a wf w u hx hI.fr (fun i t hi hne ht => hv i t hi hne (hall i hi) ht) hu h2
  have none_ : ∀ (listed : Array Bool), listed.size = ops.size → Region.ready .any ops listed = [] → ∀ i, i < ops.size → listed.getD i true = true := by
    intro listed hsz hr i
    induction i using Nat.strongRecOn with
    | _ i ih =>
      intro hi
      cases hl : listed.getD i true with
      | true => rfl
      | false =>
        have : i ∈ Region.ready .any ops listed := (ready_edges hsz hok).2 ⟨hi, hl, fun e he => ih e (edges_lt hok he) (by have := edges_lt hok he; omega)⟩
        rw [hr] at this
        cases this
  have fin : ∀ (listed : Array Bool) (a : Act) (w : World), InvA ops ts m s ds a0 w0 F ST listed a w → (∀ i, i < ops.size → listed.getD i true = true) → Q .normal a w := by
    intro listed a w hI hall
    have hm : m = ops.size := by
      rcases Nat.lt_or_ge m ops.size with h | h
      · have h1 := hI.later m (Nat.le_refl _) h
        rw [hall m h] at h1
        cases h1
      · omega
    have := hend2 listed a w hI (fun i hi => hall i (by omega))
    rw [hm, List.drop_of_length_le (by rw [Array.length_toList]; omega)] at this
    exact this
  intro fuel
  induction fuel with
  | zero =>
    intro listed a w hc hI
    have hall : ∀ i, i < ops.size → listed.getD i true = true := by
      intro i hi
      have hm := List.count_eq_zero.1 hc
      rw [Array.getD_eq_getD_getElem?, Array.getElem?_eq_getElem (by rw [hI.sz]; exact hi)]
      cases hb : listed[i]'(by rw [hI.sz]; exact hi) with
      | true => rfl
      | false => exact absurd (by rw [← hb]; exact Array.getElem_mem_toList _) hm
    refine ⟨?_, fin listed a w hI hall⟩
    refine List.eq_nil_iff_forall_not_mem.2 (fun i hi => ?_)
    obtain ⟨h1, h2, _⟩ := (ready_edges hI.sz hok).1 hi
    rw [hall i h1] at h2
    cases h2
  | succ fuel ih =>
    intro listed a w hc hI
    by_cases hmall : ∀ i, i < m → listed.getD i true = true
    · -- the tail
      have hl : ∀ i, i < ops.size → listed.getD i true = decide (i < m) := by
        intro i hi
        by_cases h : i < m
        · rw [hmall i h, decide_eq_true h]
        · rw [hI.later i (by omega) hi, decide_eq_false h]
      have hcount : m + (fuel + 1) = ops.size := by
        have hL : listed.toList = List.replicate m true ++ List.replicate (ops.size - m) false := by
          apply List.ext_getElem?
          intro i
          by_cases hi : i < ops.size
          · have h1 := hl i hi
            rw [Array.getD_eq_getD_getElem?, Array.getElem?_eq_getElem (by rw [hI.sz]; exact hi)] at h1
            rw [Array.getElem?_toList, Array.getElem?_eq_getElem (by rw [hI.sz]; exact hi)]
            simp only [Option.getD_some] at h1
            rw [h1]
            by_cases h : i < m
            · rw [List.getElem?_append_left (by simpa using h), List.getElem?_replicate, if_pos h, decide_eq_true h]
            · rw [List.getElem?_append_right (by simpa using h), List.getElem?_replicate, List.length_replicate, if_pos (by omega), decide_eq_false h]
          · rw [List.getElem?_eq_none (by rw [Array.length_toList, hI.sz]; omega), List.getElem?_eq_none (by simp; omega)]
        rw [hL, List.count_append, List.count_replicate, List.count_replicate] at hc
        simp at hc
        omega
      exact tail_any hok hch _ m listed a w hcount (Nat.le_refl _) hI.sz hl (hend2 listed a w hI hmall)
    refine ⟨fun hr => fin listed a w hI (none_ listed hI.sz hr), fun i hi => ?_⟩
    obtain ⟨hlt, hl, he⟩ := (ready_edges hI.sz hok).1 hi
    have him : i < m := by
      rcases Nat.lt_or_ge i m with h | h
      · exact h
      · refine absurd (fun j hj => ?_) hmall
        exact (reach_listed hok hI.shut _ i j hlt he (chained_spec hch hlt h (by omega))).2
    obtain ⟨wf, hx, hval, hc2⟩ := hI.st
    have hdi : ∀ oi, ops[i]? = some oi → dstAt ops i = oi.dst := fun oi hoi => by unfold dstAt; rw [hoi]; rfl
    have hli : listed[i]'(by rw [hI.sz]; exact hlt) = false := by
      rw [Array.getD_eq_getD_getElem?, Array.getElem?_eq_getElem (by rw [hI.sz]; exact hlt)] at hl
      exact hl
    have hcnt : (listed.setIfInBounds i true).toList.count false = fuel := by
      rw [Array.toList_setIfInBounds, List.count_set (h := by rw [Array.length_toList, hI.sz]; exact hlt)]
      have : listed.toList[i]'(by rw [Array.length_toList, hI.sz]; exact hlt) = false := by rw [Array.getElem_toList]; exact hli
      rw [this, hc]
      simp
    have hshut : ∀ j e, j < ops.size → (listed.setIfInBounds i true).getD j true = true → e ∈ edges ops j → (listed.setIfInBounds i true).getD e true = true := by
      intro j e hj hlj hem
      by_cases hej : i = e
      · subst hej
        rw [Array.getD_eq_getD_getElem?]
        simp [hI.sz, hlt]
      · rw [getD_set_ne true hej]
        by_cases hij : i = j
        · subst hij
          exact he e hem
        · rw [getD_set_ne true hij] at hlj
          exact hI.shut j e hj hlj hem
    have hlater : ∀ j, m ≤ j → j < ops.size → (listed.setIfInBounds i true).getD j true = false := fun j hj hjl => by
      rw [getD_set_ne true (by omega)]
      exact hI.later j hj hjl
    have hfrm : ∀ (oi : Oper) (v : Value), ops[i]? = some oi → Fr ops ts a0 (a.put oi.dst v) := by
      intro oi v hoi
      refine ⟨?_, ?_, ?_⟩
      · rw [← hI.fr.size]
        unfold Act.put
        split <;> simp
      · rw [← hI.fr.defers]
        unfold Act.put
        split <;> rfl
      · intro t ht
        rw [← hI.fr.off t ht]
        cases hd : oi.dst with
        | none => rfl
        | some d =>
          have hne : d ≠ t := fun e => by have := hts i t him (by rw [hdi oi hoi, hd, e]); rw [ht] at this; cases this
          simp [Act.put, Array.getElem?_setIfInBounds_ne hne]
    have hsz' : (listed.setIfInBounds i true).size = ops.size := by rw [Array.size_setIfInBounds]; exact hI.sz
    have hput : ∀ (oi : Oper) (v : Value) (t : Tmp), ops[i]? = some oi → dstAt ops i = some t → (a.put oi.dst v).tmps[t]? = some v := fun oi v t hoi ht => by
      have h1 := hdst i t him ht
      rw [hdi oi hoi] at ht
      rw [ht]
      simp [Act.put, hI.fr.size, h1]
    have hkeep : ∀ (oi : Oper) (v : Value) (j : Nat) (t : Tmp), ops[i]? = some oi → i ≠ j → dstAt ops j = some t → (a.put oi.dst v).tmps[t]? = a.tmps[t]? := fun oi v j t hoi hij ht => by
      cases hd : oi.dst with
      | none => rfl
      | some d =>
        have hne : d ≠ t := fun e => hij (dst_ne hok (by rw [hdi oi hoi, hd, e]) ht)
        simp [Act.put, Array.getElem?_setIfInBounds_ne hne]
    have hself : (listed.setIfInBounds i true).getD i true = true := by
      rw [Array.getD_eq_getD_getElem?]
      simp [hI.sz, hlt]
    by_cases his : i = s
    · -- the writing one
      subst his
      rcases hc2 with ⟨h1, rfl⟩ | ⟨h1, _⟩
      · have hknown : Known ops F i a wf := fun j t hr ht => by
          obtain ⟨h2, h3⟩ := reach_listed hok hI.shut _ i j hlt he hr
          have hji : j ≠ i := fun e => by rw [e, hl] at h3; cases h3
          have hjm : j < m := by
            rcases Nat.lt_or_ge j m with h | h
            · exact h
            · have := hI.later j h h2
              rw [h3] at this
              cases this
          exact hval j t hjm hji h3 ht
        obtain ⟨oi, hoi, hK⟩ := hst a wf hx hI.fr hknown
        refine wpOp_step hoi (fun K' hK' => hK K' (fun u w2 hu => hK' _ _ ?_))
        refine ih _ _ _ hcnt ⟨hsz', hfrm oi u hoi, ⟨wf, hx, ?_, Or.inr ⟨hself, u, hput oi u ds hoi hsd, ?_⟩⟩, hshut, hlater⟩
        · intro j t hj hne hlj htj
          rw [getD_set_ne true (fun e => hne e.symm)] at hlj
          obtain ⟨v, hv, hf⟩ := hval j t hj hne hlj htj
          exact ⟨v, (hkeep oi u j t hoi (fun e => hne e.symm) htj).trans hv, hf⟩
        · refine hcong _ _ _ _ _ (fun j t hr ht => ?_) hu
          obtain ⟨h2, h3⟩ := reach_listed hok hI.shut _ i j hlt he hr
          have hji : i ≠ j := fun e => by rw [← e, hl] at h3; cases h3
          simp only [Array.getD_eq_getD_getElem?]
          rw [hkeep oi u j t hoi hji ht]
      · rw [h1] at hl
        cases hl
    · have hknown : Known ops F i a wf := fun j t hr ht => by
        obtain ⟨h2, h3⟩ := reach_listed hok hI.shut _ i j hlt he hr
        have hjs : j ≠ s := fun e => by rw [e, hnos i him his] at hr; cases hr
        have hjm : j < m := by
          rcases Nat.lt_or_ge j m with h | h
          · exact h
          · have := hI.later j h h2
            rw [h3] at this
            cases this
        exact hval j t hjm hjs h3 ht
      have hgo : ∀ (oi : Oper) (v : Value) (wf' : World), ops[i]? = some oi → F i v wf' → Ext wf wf' → ∀ j t, j < m → j ≠ s → (listed.setIfInBounds i true).getD j true = true → dstAt ops j = some t → ∃ v', (a.put oi.dst v).tmps[t]? = some v' ∧ F j v' wf' := by
        intro oi v wf' hoi hv hx' j t hj hne hlj htj
        by_cases hij : i = j
        · subst hij
          exact ⟨v, hput oi v t hoi htj, hv⟩
        · rw [getD_set_ne true hij] at hlj
          obtain ⟨u, hu, hfu⟩ := hval j t hj hne hlj htj
          exact ⟨u, (hkeep oi v j t hoi hij htj).trans hu, hF j u wf wf' hfu hx'⟩
      have hls : (listed.setIfInBounds i true).getD s true = listed.getD s true := getD_set_ne true his
      rcases hs i him his with hp | ⟨hr, hmst⟩
      · obtain ⟨oi, hoi, hK⟩ := hp a w wf hx hI.fr hknown
        refine wpOp_step hoi (fun K' hK' => hK K' (fun v hv => hK' _ _ ?_))
        refine ih _ _ _ hcnt ⟨hsz', hfrm oi v hoi, ⟨wf, hx, hgo oi v wf hoi hv (Ext.refl _), ?_⟩, hshut, hlater⟩
        rw [hls]
        rcases hc2 with h | ⟨h1, u, hu, h2⟩
        · exact Or.inl h
        · refine Or.inr ⟨h1, u, (hkeep oi v s ds hoi his hsd).trans hu, hcong _ _ _ _ _ (fun j t hr ht => ?_) h2⟩
          have hij : i ≠ j := fun e => by
            subst e
            have := (reach_listed hok hI.shut _ s i (by omega) (fun e he' => hI.shut s e (by omega) h1 he') hr).2
            rw [this] at hl
            cases hl
          simp only [Array.getD_eq_getD_getElem?]
          rw [hkeep oi v j t hoi hij ht]
      · rcases hc2 with ⟨h1, rfl⟩ | ⟨h1, _⟩
        · obtain ⟨oi, hoi, hK⟩ := hmst a wf hx hI.fr hknown
          refine wpOp_step hoi (fun K' hK' => hK K' (fun v w' hv hx' => hK' _ _ ?_))
          refine ih _ _ _ hcnt ⟨hsz', hfrm oi v hoi, ⟨w', hx.trans hx', hgo oi v w' hoi hv hx', Or.inl ⟨by rw [hls]; exact h1, rfl⟩⟩, hshut, hlater⟩
        · exfalso
          have := (reach_listed hok hI.shut _ s i (by omega) (fun e he' => hI.shut s e (by omega) h1 he') hr).2
          rw [this] at hl
          cases hl
def appOk (ops : Array Oper) (m s : Nat) (early late : List Nat) : Bool :=
  decide (s < m) && decide (m ≤ ops.size) && (List.range m).all fun i => i == s || (!reach ops ops.size i s && (late.contains i || (early.contains i && reach ops ops.size s i)))
theorem mono_region_app {id : Nat} {a0 : Act} {w0 : World} (F : Nat → Value → World → Prop) (ST : (Tmp → Value) → Value → World → World → Prop) (m s ds : Nat) (early late : List Nat) (ts : List Tmp) (rest : List Oper) (hm : P.follows .mixedOrders = true) (hn : ops.toList.drop m = rest) (hok : okOps ops = true) (hch : chained ops m = true) (hao : appOk ops m s early late = true) (hsd : dstAt ops s = some ds)
    (hts : ((ops.toList.take m).filterMap (·.dst) == ts && ts.all fun t => decide (t < a0.tmps.size)) = true) (hF : ∀ i, Stable (F i))
    (hcong : ∀ (x y : Tmp → Value) (u : Value) (w w2 : World), (∀ j t, reach ops ops.size s j = true → dstAt ops j = some t → x t = y t) → ST x u w w2 → ST y u w w2)
    (hs : ∀ i ∈ early, MStep P ops Q ts a0 w0 F i) (hp : ∀ i ∈ late, PStep P ops Q ts a0 w0 F i) (hst : AStep P ops Q ts a0 w0 F ST s)
    (hend : ∀ (val : Tmp → Value) (wf w : World), Ext w0 wf → (∀ i t, i < m → i ≠ s → dstAt ops i = some t → F i (val t) wf) → ST val (val ds) wf w → wpList P ops Q rest (putT a0 ts val) w) : (Code.region id ops true).wp P Q a0 w0 := by
  unfold appOk at hao
  simp only [Bool.and_eq_true, decide_eq_true_eq, List.all_eq_true, List.mem_range, Bool.or_eq_true, beq_iff_eq, Bool.not_eq_true'] at hao
  obtain ⟨⟨hsm, hmn⟩, hcl⟩ := hao
  subst hn
  rw [Bool.and_eq_true, beq_iff_eq] at hts
  obtain ⟨hts, hlt⟩ := hts
  have hdst : ∀ i t, i < m → dstAt ops i = some t → t ∈ ts := by
    intro i t him h
    rw [← hts]
    unfold dstAt at h
    cases ho : ops[i]? with
    | none => rw [ho] at h; cases h
    | some o =>
      rw [ho] at h
      refine List.mem_filterMap.2 ⟨o, ?_, h⟩
      have h1 : ops.toList[i]? = some o := by rw [Array.getElem?_toList]; exact ho
      exact List.mem_of_getElem? (l := ops.toList.take m) (i := i) (by rw [List.getElem?_take, if_pos him]; exact h1)
  have hdlt : ∀ i t, i < m → dstAt ops i = some t → t < a0.tmps.size := fun i t him h => by simpa using List.all_eq_true.1 hlt t (hdst i t him h)
  refine wp_region_any hm (monoA_all (ts := ts) (s := s) (ds := ds) hmn hsm hsd (fun i t him h => List.contains_iff_mem.2 (hdst i t him h)) (a0 := a0) (w0 := w0.drew) (F := F) (ST := ST) hok hch hF hcong (fun i hi hne => ?_) (fun i hi hne => ?_) (fun a w hx => hst a w ((Ext.drew w0).trans hx)) hdlt ?_ _ _ _ _ ?_ ⟨by simp, ⟨rfl, rfl, fun _ _ => rfl⟩, ⟨w0.drew, Ext.refl _, ?_, Or.inl ⟨?_, rfl⟩⟩, ?_, ?_⟩)
  · rcases hcl i hi with h | ⟨_, h | ⟨h1, h2⟩⟩
    · exact absurd h hne
    · exact Or.inl (fun a w wf hx => hp i (List.contains_iff_mem.1 h) a w wf ((Ext.drew w0).trans hx))
    · exact Or.inr ⟨h2, fun a w hx => hs i (List.contains_iff_mem.1 h1) a w ((Ext.drew w0).trans hx)⟩
  · rcases hcl i hi with h | ⟨h, _⟩
    · exact absurd h hne
    · exact h
  · intro a wf w u hx hfr hv hu hST
    have key : a = putT a0 ts (fun t => a.tmps.getD t undef) := by
      obtain ⟨h1, h2, h3, h4⟩ := putT_spec (fun t => a.tmps.getD t undef) ts a0
      have ht : a.tmps = (putT a0 ts (fun t => a.tmps.getD t undef)).tmps := by
        refine Array.ext_getElem? (fun t => ?_)
        by_cases hmem : t ∈ ts
        · have hl : t < a0.tmps.size := by simpa using List.all_eq_true.1 hlt t hmem
          rw [h4 t hmem hl, Array.getD_eq_getD_getElem?]
          rw [Array.getElem?_eq_getElem (by rw [hfr.size]; exact hl)]
          rfl
        · rw [h3 t hmem]
          refine hfr.off t (by cases h : ts.contains t with | false => rfl | true => exact absurd (List.contains_iff_mem.1 h) hmem)
      have hd : a.defers = (putT a0 ts (fun t => a.tmps.getD t undef)).defers := by rw [h2]; exact hfr.defers
      cases a
      cases hp : putT a0 ts _
      rw [hp] at ht hd
      simp only at ht hd
      rw [ht, hd]
    rw [key]
    refine hend _ wf w ((Ext.drew w0).trans hx) (fun i t him hne h => ?_) ?_
    · obtain ⟨v, h1, h2⟩ := hv i t him hne h
      rw [Array.getD_eq_getD_getElem?, h1]
      exact h2
    · have hds : a.tmps.getD ds undef = u := by rw [Array.getD_eq_getD_getElem?, hu]; rfl
      rw [hds]
      exact hST
  · simp
  · intro i t hi hne h
    rw [Array.getD_eq_getD_getElem?, Array.getElem?_replicate, if_pos (by omega)] at h
    cases h
  · rw [Array.getD_eq_getD_getElem?, Array.getElem?_replicate, if_pos (by omega)]
    rfl
  · intro i j hi h
    rw [Array.getD_eq_getD_getElem?, Array.getElem?_replicate, if_pos hi] at h
    cases h
  · intro i _ hi
    rw [Array.getD_eq_getD_getElem?, Array.getElem?_replicate, if_pos hi]
    rfl
end
end Go.Proofs.Ytbldlkmnnhmmnaa.Mono
namespace Go.Proofs.Ytbldlkmnnhmmnaa.Read
open Go.RowKit Go.Proofs.YtbldlkmnnhmmnaaW.PrintWords
section
variable {P : Program}
end
end Go.Proofs.Ytbldlkmnnhmmnaa.Read
namespace Go.Proofs.Ytbldlkmnnhmmnaa.Box
open Go.RowKit Go.Proofs.YtbldlkmnnhmmnaaW.PrintWords Go.Proofs.YtbldlkmnnhmmnaaW.PrintLast Go.Proofs.Ytbldlkmnnhmmnaa.Mono
set_option linter.unusedVariables false
structure Put (W W2 : World) (g : Nat) (T : TypeId) (cs : Array Value) : Prop where
  here : W2.heap[g]? = some (.cells cs T (0, 0))
  far : ∀ k, k ≠ g → W2.heap[k]? = W.heap[k]?
  ext : ∀ w0 : World, w0.heap.size ≤ g → Ext w0 W → Ext w0 W2
def setAll (old : Array Value) : Nat → List Value → Array Value
  | _, [] => old
  | o, v :: r => setAll (old.setIfInBounds o v) (o + 1) r
theorem setAll_get (old : Array Value) : ∀ (vs : List Value) (o i : Nat), (setAll old o vs)[i]? = if i < old.size ∧ o ≤ i ∧ i < o + vs.length then vs[i - o]? else old[i]?
  | [], o, i => by
    rw [if_neg (by simp; try omega)]
    rfl
  | v :: r, o, i => by
    rw [setAll, setAll_get _ r (o + 1) i, Array.size_setIfInBounds, List.length_cons]
    by_cases h : i < old.size
    · by_cases h1 : o + 1 ≤ i ∧ i < o + 1 + r.length
      · rw [if_pos ⟨h, h1⟩, if_pos ⟨h, by omega, by omega⟩, show i - o = (i - (o + 1)) + 1 by omega, List.getElem?_cons_succ]
      · rw [if_neg (fun z => h1 z.2)]
        by_cases h2 : i = o
        · subst h2
          rw [if_pos ⟨h, Nat.le_refl _, by omega⟩, Nat.sub_self, List.getElem?_cons_zero]
          simp [h]
        · rw [if_neg (by omega), Array.getElem?_setIfInBounds_ne (Ne.symm h2)]
    · rw [if_neg (fun z => h z.1), if_neg (fun z => h z.1), Array.getElem?_eq_none (by rw [Array.size_setIfInBounds]; omega), Array.getElem?_eq_none (by omega)]
theorem setAll_all {old cs : Array Value} (h : cs.size = old.size) : setAll old 0 cs.toList = cs := by
  refine Array.ext_getElem? (fun i => ?_)
  rw [setAll_get]
  by_cases hi : i < old.size
  · rw [if_pos ⟨hi, Nat.zero_le _, by rw [Nat.zero_add, Array.length_toList]; omega⟩, Nat.sub_zero, Array.getElem?_toList]
  · rw [if_neg (fun z => hi z.1), Array.getElem?_eq_none (by omega), Array.getElem?_eq_none (by omega)]
theorem heap_cells (g : Nat) (T : TypeId) : ∀ (vs : List Value) (o : Nat) (W : World) (old : Array Value), W.heap[g]? = some (.cells old T (0, 0)) → (W.setCells g o vs).heap[g]? = some (.cells (setAll old o vs) T (0, 0))
  | [], _, _, _, h => h
  | v :: r, o, W, old, h => heap_cells g T r (o + 1) _ _ (blk_set h o v)
theorem heap_cells_far (g k : Nat) (hk : k ≠ g) : ∀ (vs : List Value) (o : Nat) (W : World), (W.setCells g o vs).heap[k]? = W.heap[k]?
  | [], _, _ => rfl
  | v :: r, o, W => (heap_cells_far g k hk r (o + 1) _).trans (Below.heap_setCell W _ _ k hk)
theorem ext_cells {w0 : World} {g : Nat} (hg : w0.heap.size ≤ g) : ∀ (vs : List Value) (o : Nat) (W : World), Ext w0 W → Ext w0 (W.setCells g o vs)
  | [], _, _, h => h
  | v :: r, o, W, h => ext_cells hg r (o + 1) _ (Below.setCell h hg _)
theorem put_cells {W : World} {g : Nat} {T : TypeId} {old cs : Array Value} (h : W.heap[g]? = some (.cells old T (0, 0))) (hn : cs.size = old.size) : Put W (W.setCells g 0 cs.toList) g T cs :=
  ⟨by rw [heap_cells g T _ _ _ _ h, setAll_all hn], fun k hk => heap_cells_far g k hk _ _ _, fun w0 h0 hx => ext_cells h0 _ _ _ hx⟩
theorem there_of {W : World} {g : Nat} {T : TypeId} {old : Array Value} (h : W.heap[g]? = some (.cells old T (0, 0))) {n : Nat} (hn : n = old.size) : W.there g 0 n := fun j hj => by
  rw [Nat.zero_add, blk_cell h j, blk_frozen h j]
  exact ⟨by rw [Array.getElem?_eq_getElem (by omega)]; rfl, rfl⟩
section
variable {P : Program} {ops : Array Oper} {rest : List Oper} {o : Oper} {a : Act} {Q : Exit → Act → World → Prop}
theorem store_box {W : World} (hgd : o.guard = none) {ty : TypeId} {p v : Tmp} (ho : o.op = .store ty (.tmp p) (.tmp v)) (hd : o.dst = none) (g : Nat) (cs : Array Value) (hx : a.eval (.tmp p) = .pointer (some ⟨g, 0, none⟩)) (hy : a.eval (.tmp v) = .agg cs)
    {T : TypeId} {old : Array Value} (hb : W.heap[g]? = some (.cells old T (0, 0))) (hn : cs.size = old.size) (hi : (P.info? ty).map (·.size) = some cs.size) (h1 : cs.toList.all (·.oneCell') = true)
    (h : ∀ W2, Put W W2 g T cs → wpList P ops Q rest a W2) : wpList P ops Q (o :: rest) a W := by
  refine wpList_store_mid hgd ty _ _ ho g 0 cs hx hy (there_of hb hn) hi (Array.all_toList.symm.trans h1) ?_
  rw [hd]
  exact h _ (put_cells hb hn)
end
section
variable {P : Program} {ops : Array Oper} {Q : Exit → Act → World → Prop}
end
section
variable {P : Program} {ops : Array Oper} {rest : List Oper} {a : Act} {Q : Exit → Act → World → Prop}
theorem make_box {W : World} {oa os : Oper} {p v : Tmp} {T : TypeId} {old cs : Array Value} (hda : oa.dst = some p) (hga : oa.guard = none) (hgs : os.guard = none) (hds : os.dst = none) (ho : os.op = .store T (.tmp p) (.tmp v))
    (hrun : (execOp a.eval oa).run P W = .ok (.value (.pointer (some ⟨W.heap.size, 0, none⟩))) (W.alloc (.cells old T (0, 0)))) (hp : p < a.tmps.size) (hpv : p ≠ v) (hy : a.eval (.tmp v) = .agg cs) (hn : cs.size = old.size) (hi : (P.info? T).map (·.size) = some cs.size) (h1 : cs.toList.all (·.oneCell') = true)
    (h : ∀ g W2, W.heap.size ≤ g → Ext W W2 → W2.heap[g]? = some (.cells cs T (0, 0)) → wpList P ops Q rest (a.put (some p) (.pointer (some ⟨g, 0, none⟩))) W2) : wpList P ops Q (oa :: os :: rest) a W := by
  refine Kd.event_run hga hrun ?_
  rw [hda]
  refine store_box hgs ho hds W.heap.size cs ?_ ?_ (blk_new W _) hn hi h1 (fun W2 hp2 => h _ W2 (Nat.le_refl _) (hp2.ext W (Nat.le_refl _) (Ext.of (below_alloc (Below.refl _ _) _))) hp2.here)
  · simp [Act.eval, Act.put, hp]
  · rw [← hy]
    simp [Act.eval, Act.put, Array.getElem?_setIfInBounds_ne hpv]
theorem make_box1 {W : World} {oa om os : Oper} {p v d t : Tmp} {T : TypeId} {old cs : Array Value} (hda : oa.dst = some p) (hga : oa.guard = none) (hdm : om.dst = some d) (hgm : om.guard = none) (hom : om.op = .assign (.tmp t)) (hgs : os.guard = none) (hds : os.dst = none) (ho : os.op = .store T (.tmp p) (.tmp v))
    (hrun : (execOp a.eval oa).run P W = .ok (.value (.pointer (some ⟨W.heap.size, 0, none⟩))) (W.alloc (.cells old T (0, 0)))) (hp : p < a.tmps.size) (hpv : p ≠ v) (hpt : p ≠ t) (hpd : p ≠ d) (hdv : d ≠ v) (hy : a.eval (.tmp v) = .agg cs) (hn : cs.size = old.size) (hi : (P.info? T).map (·.size) = some cs.size) (h1 : cs.toList.all (·.oneCell') = true)
    (h : ∀ g W2, W.heap.size ≤ g → Ext W W2 → W2.heap[g]? = some (.cells cs T (0, 0)) → wpList P ops Q rest ((a.put (some p) (.pointer (some ⟨g, 0, none⟩))).put (some d) (a.eval (.tmp t))) W2) : wpList P ops Q (oa :: om :: os :: rest) a W := by
  refine Kd.event_run hga hrun ?_
  rw [hda]
  refine Kd.event_run (w1 := W.alloc (.cells old T (0, 0))) (v := a.eval (.tmp t)) hgm ?_ ?_
  · have ev : (a.put (some p) (.pointer (some ⟨W.heap.size, 0, none⟩))).eval (.tmp t) = a.eval (.tmp t) := by simp [Act.eval, Act.put, Array.getElem?_setIfInBounds_ne hpt]
    simp [execOp, hom, ev]
  rw [hdm]
  refine store_box hgs ho hds W.heap.size cs ?_ ?_ (blk_new W _) hn hi h1 (fun W2 hp2 => h _ W2 (Nat.le_refl _) (hp2.ext W (Nat.le_refl _) (Ext.of (below_alloc (Below.refl _ _) _))) hp2.here)
  · simp [Act.eval, Act.put, hp, Array.getElem_setIfInBounds_ne, Ne.symm hpd]
  · rw [← hy]
    simp [Act.eval, Act.put, Array.getElem?_setIfInBounds_ne hpv, Array.getElem?_setIfInBounds_ne hdv]
end
end Go.Proofs.Ytbldlkmnnhmmnaa.Box
namespace Go.Proofs.Ytbldlkmnnhmmnaa.QTracePlays
open Go.RowKit Go.Proofs.YtbldlkmnnhmmnaaW.PrintWords Go.Proofs.YtbldlkmnnhmmnaaW.PrintLast Go.Proofs.YtbldlkmnnhmmnaaW.PrintMore Go.Proofs.Ytbldlkmnnhmmnaa.Mono Go.Proofs.Ytbldlkmnnhmmnaa.Box
set_option linter.unusedVariables false
set_option linter.unusedSimpArgs false
structure Tou (S : Nat → Prop) (w w' : World) : Prop where
  os : w'.os = w.os
  tape : w'.tape = w.tape
  output : w'.output = w.output
  size : w.heap.size ≤ w'.heap.size
  block : ∀ k, k < w.heap.size → ¬ S k → w'.heap[k]? = w.heap[k]?
section
variable {S S2 : Nat → Prop} {w w1 w2 : World}
theorem Tou.of_below (h : Below w.heap.size w w1) : Tou S w w1 := ⟨h.os, h.tape, h.output, h.size, fun k hk _ => h.block k hk⟩
theorem Tou.step (h : Tou S w w1) (h2 : Below w1.heap.size w1 w2) : Tou S w w2 := ⟨h2.os.trans h.os, h2.tape.trans h.tape, h2.output.trans h.output, Nat.le_trans h.size h2.size, fun k hk hn => (h2.block k (Nat.lt_of_lt_of_le hk h.size)).trans (h.block k hk hn)⟩
theorem Tou.trans (h : Tou S w w1) (h2 : Tou S2 w1 w2) (hs : ∀ k, S2 k → S k ∨ w.heap.size ≤ k) : Tou S w w2 := ⟨h2.os.trans h.os, h2.tape.trans h.tape, h2.output.trans h.output, Nat.le_trans h.size h2.size, fun k hk hn => (h2.block k (Nat.lt_of_lt_of_le hk h.size) (fun z => (hs k z).elim hn (fun z => by omega))).trans (h.block k hk hn)⟩
theorem Tou.grown (h : Tou S w w1) {row : Option Nat} (hg : w1.grownBy w2 row) (hr : ∀ k, row = some k → S k ∨ w.heap.size ≤ k) : Tou S w w2 := h.trans (S2 := fun k => row = some k) ⟨hg.os, hg.tape, hg.output, hg.size, fun k hk hn => hg.block k hk (fun e => hn e.symm)⟩ hr
theorem Tou.set (h : Tou S w w1) {p : Addr} (hp : S p.block ∨ w.heap.size ≤ p.block) (u : Value) : Tou S w (w1.setCell p u) := h.trans (S2 := fun k => k = p.block) ⟨rfl, rfl, rfl, by simp [World.setCell], fun k _ hn => Below.heap_setCell _ _ _ _ hn⟩ (fun k hk => by rw [hk]; exact hp)
theorem Tou.below {B : Nat} {w0 : World} (h : Tou S w w1) (h0 : Below B w0 w) (hB : B ≤ w.heap.size) (hs : ∀ k, S k → B ≤ k) : Below B w0 w1 := h0.trans ⟨h.os, h.tape, h.output, h.size, fun k hk => h.block k (Nat.lt_of_lt_of_le hk hB) (fun z => by have := hs k z; omega)⟩
end
theorem rw_set {w : World} {B : Nat} {v : Value} {xs : List S38} (h : RW w B v xs) {g : Nat} {t : TypeId} {cs : Array Value} (hg : w.heap[g]? = some (.cells cs t (0, 0))) (hne : 38 ≠ t) (o : Nat) (u : Value) : RW (w.setCell ⟨g, o, none⟩ u) B v xs :=
  rw_move h (fun k hk => Below.heap_setCell _ _ _ k (fun e => rw_ne h hg hne (by rw [hk, show k = g from e])))
theorem wf_len {n : Nat} (h : n ≤ 1000000) : (Lit.int .i64 (n : Int)).wf = true := by
  have h1 : IntKind.i64.min = -9223372036854775808 := by decide
  have h2 : IntKind.i64.max = 9223372036854775807 := by decide
  simp only [Lit.wf, h1, h2, Bool.and_eq_true, decide_eq_true_eq]
  omega
set_option maxRecDepth 100000 in
set_option maxHeartbeats 1000000 in
theorem rec_Mark (g gm n : Nat) (A : Option Addr) (c : Nat) (xs : List S38) (al : Int) (D : DataW Unit) (s : ByteArray) (w : World) (h : w.heap[g]? = some (RC (.slice A xs.length c) al gm)) (hm : MP w gm n D) (hs : s.size ≤ maxLen) (hn : n < maxLen) (hx : xs.length ≤ 1000000) :
    Calls Try.prog 6 #[.pointer (some ⟨g, 0, none⟩), .string s] w fun e w' => e = .returned (.tuple #[]) ∧ MP w' gm (n + 1) (D.put (keyS s) (.lit (.int .i64 (xs.length : Int)))) ∧ Tou (fun k => k = gm) w w' := by
  have H := Aside0.mk h
  have HM := Aside0.mk hm
  have HN := Aside0.mk hn
  have HL := Aside0.mk hx
  have HK := Aside0.mk (WideMaps.keyOf_string_mk (P := Try.prog) Try.underlying9 hs)
  clear h hm hs hn hx
  go_enter Try.func6, Try.ntmps6
  go_upto_region 1 with (go_at_call 12; (with_reducible refine (rec_is g gm _ al _ H.out).mono ?_); rintro e w1 ⟨rfl, hb⟩; have HB := Aside0.mk hb; clear hb)
  (try simp only [Act.put, List.setIfInBounds_toArray, List.set_cons_zero, List.set_cons_succ])
  have HG := Aside0.mk (blk_below H.out HB.out)
  refine Mono.mono_region_tail (fun j_ => ([(Is (.pointer (some ⟨g, 0, none⟩))), (Is (.pointer (some ⟨g, 0, none⟩))), (Is (.pointer (some ⟨g, 2, none⟩))), (Is (.map (some gm))), (Is (.string s)), (Is (.pointer (some ⟨g, 0, none⟩))), (Is (.pointer (some ⟨g, 0, none⟩))), (Is (.pointer (some ⟨g, 0, none⟩))), (Is (.slice A xs.length c)), (Is (.int .i64 (xs.length : Int)))] : List (Value → World → Prop)).getD j_ (fun _ _ => True)) 10 [6, 7, 8, 9, 10, 11, 12, 13, 14, 15] _ (by kernel_rfl) rfl (Nat.le_of_ble_eq_true rfl) (by kernel_rfl) (by kernel_rfl) (by kernel_rfl) ?_ ?_ ?_
  · intro i
    match i with
    | 0 => exact stable_is _
    | 1 => exact stable_is _
    | 2 => exact stable_is _
    | 3 => exact stable_is _
    | 4 => exact stable_is _
    | 5 => exact stable_is _
    | 6 => exact stable_is _
    | 7 => exact stable_is _
    | 8 => exact stable_is _
    | 9 => exact stable_is _
    | _ + 10 => exact fun _ _ _ _ _ => trivial
  · show ∀ i ∈ [0, 1, 2, 3, 4, 5, 6, 7, 8, 9], _
    refine msteps_cons ?_ ?_
    · intro a w' hx hfr hk
      have e0 : a.tmps[0]? = some (.pointer (some ⟨g, 0, none⟩)) := (hfr.off 0 rfl).trans rfl
      clear hk hfr
      refine ⟨_, rfl, fun K hK => ?_⟩
      refine value_ (w1 := w') (v := .pointer (some ⟨g, 0, none⟩)) (by rfl) rfl ?_ (hK _ _ (show _ = _ from rfl) (Ext.refl _))
      go_simp
      (try simp only [i64_w])
      try rfl
    refine msteps_cons ?_ ?_
    · intro a w' hx hfr hk
      obtain ⟨v_, e6, h_⟩ := hk 0 6 (by kernel_rfl) rfl
      replace h_ : v_ = .pointer (some ⟨g, 0, none⟩) := h_
      subst h_
      clear hk hfr
      refine ⟨_, rfl, fun K hK => ?_⟩
      refine value_ (w1 := w') (v := .pointer (some ⟨g, 0, none⟩)) (by rfl) rfl ?_ (hK _ _ (show _ = _ from rfl) (Ext.refl _))
      go_simp
      (try simp only [i64_w])
      try rfl
    refine msteps_cons ?_ ?_
    · intro a w' hx hfr hk
      obtain ⟨v_, e7, h_⟩ := hk 1 7 (by kernel_rfl) rfl
      replace h_ : v_ = .pointer (some ⟨g, 0, none⟩) := h_
      subst h_
      clear hk hfr
      refine ⟨_, rfl, fun K hK => ?_⟩
      refine value_ (w1 := w') (v := .pointer (some ⟨g, 2, none⟩)) (by rfl) rfl ?_ (hK _ _ (show _ = _ from rfl) (Ext.refl _))
      go_simp
      (try simp only [i64_w])
      try rfl
    refine msteps_cons ?_ ?_
    · intro a w' hx hfr hk
      obtain ⟨v_, e8, h_⟩ := hk 2 8 (by kernel_rfl) rfl
      replace h_ : v_ = .pointer (some ⟨g, 2, none⟩) := h_
      subst h_
      clear hk hfr
      refine ⟨_, rfl, fun K hK => ?_⟩
      have hc_ : w'.cell? ⟨g, 2, none⟩ = some (.map (some gm)) := (blk_cell (blk_below HG.out (Ext.below hx)) 2).trans rfl
      refine value_ (w1 := w') (v := .map (some gm)) (by rfl) rfl ?_ (hK _ _ (show _ = _ from rfl) (Ext.refl _))
      go_simp
      (try simp only [i64_w])
      try rfl
    refine msteps_cons ?_ ?_
    · intro a w' hx hfr hk
      have e1 : a.tmps[1]? = some (.string s) := (hfr.off 1 rfl).trans rfl
      clear hk hfr
      refine ⟨_, rfl, fun K hK => ?_⟩
      refine value_ (w1 := w') (v := .string s) (by rfl) rfl ?_ (hK _ _ (show _ = _ from rfl) (Ext.refl _))
      go_simp
      (try simp only [i64_w])
      try rfl
    refine msteps_cons ?_ ?_
    · intro a w' hx hfr hk
      have e0 : a.tmps[0]? = some (.pointer (some ⟨g, 0, none⟩)) := (hfr.off 0 rfl).trans rfl
      clear hk hfr
      refine ⟨_, rfl, fun K hK => ?_⟩
      refine value_ (w1 := w') (v := .pointer (some ⟨g, 0, none⟩)) (by rfl) rfl ?_ (hK _ _ (show _ = _ from rfl) (Ext.refl _))
      go_simp
      (try simp only [i64_w])
      try rfl
    refine msteps_cons ?_ ?_
    · intro a w' hx hfr hk
      obtain ⟨v_, e11, h_⟩ := hk 5 11 (by kernel_rfl) rfl
      replace h_ : v_ = .pointer (some ⟨g, 0, none⟩) := h_
      subst h_
      clear hk hfr
      refine ⟨_, rfl, fun K hK => ?_⟩
      refine value_ (w1 := w') (v := .pointer (some ⟨g, 0, none⟩)) (by rfl) rfl ?_ (hK _ _ (show _ = _ from rfl) (Ext.refl _))
      go_simp
      (try simp only [i64_w])
      try rfl
    refine msteps_cons ?_ ?_
    · intro a w' hx hfr hk
      obtain ⟨v_, e12, h_⟩ := hk 6 12 (by kernel_rfl) rfl
      replace h_ : v_ = .pointer (some ⟨g, 0, none⟩) := h_
      subst h_
      clear hk hfr
      refine ⟨_, rfl, fun K hK => ?_⟩
      refine value_ (w1 := w') (v := .pointer (some ⟨g, 0, none⟩)) (by rfl) rfl ?_ (hK _ _ (show _ = _ from rfl) (Ext.refl _))
      go_simp
      (try simp only [i64_w])
      try rfl
    refine msteps_cons ?_ ?_
    · intro a w' hx hfr hk
      obtain ⟨v_, e13, h_⟩ := hk 7 13 (by kernel_rfl) rfl
      replace h_ : v_ = .pointer (some ⟨g, 0, none⟩) := h_
      subst h_
      clear hk hfr
      refine ⟨_, rfl, fun K hK => ?_⟩
      have hc_ : w'.cell? ⟨g, 0, none⟩ = some (.slice A xs.length c) := (blk_cell (blk_below HG.out (Ext.below hx)) 0).trans rfl
      refine value_ (w1 := w') (v := .slice A xs.length c) (by rfl) rfl ?_ (hK _ _ (show _ = _ from rfl) (Ext.refl _))
      go_simp
      (try simp only [i64_w])
      try rfl
    refine msteps_cons ?_ ?_
    · intro a w' hx hfr hk
      obtain ⟨v_, e14, h_⟩ := hk 8 14 (by kernel_rfl) rfl
      replace h_ : v_ = .slice A xs.length c := h_
      subst h_
      clear hk hfr
      refine ⟨_, rfl, fun K hK => ?_⟩
      refine value_ (w1 := w') (v := .int .i64 (xs.length : Int)) (by rfl) rfl ?_ (hK _ _ (show _ = _ from rfl) (Ext.refl _))
      go_simp
      (try simp only [i64_w])
      try rfl
    exact msteps_nil
  · intro val wf hx hF
    have e6 : val 6 = .pointer (some ⟨g, 0, none⟩) := hF 0 6 (by decide) rfl
    have e7 : val 7 = .pointer (some ⟨g, 0, none⟩) := hF 1 7 (by decide) rfl
    have e8 : val 8 = .pointer (some ⟨g, 2, none⟩) := hF 2 8 (by decide) rfl
    have e9 : val 9 = .map (some gm) := hF 3 9 (by decide) rfl
    have e10 : val 10 = .string s := hF 4 10 (by decide) rfl
    have e11 : val 11 = .pointer (some ⟨g, 0, none⟩) := hF 5 11 (by decide) rfl
    have e12 : val 12 = .pointer (some ⟨g, 0, none⟩) := hF 6 12 (by decide) rfl
    have e13 : val 13 = .pointer (some ⟨g, 0, none⟩) := hF 7 13 (by decide) rfl
    have e14 : val 14 = .slice A xs.length c := hF 8 14 (by decide) rfl
    have e15 : val 15 = .int .i64 (xs.length : Int) := hF 9 15 (by decide) rfl
    clear hF
    simp only [putT, List.foldl_cons, List.foldl_nil, Act.put, List.setIfInBounds_toArray, List.set_cons_zero, List.set_cons_succ, e6, e7, e8, e9, e10, e11, e12, e13, e14, e15]
    clear e6 e7 e8 e9 e10 e11 e12 e13 e14 e15
    have hmp := mp_move HM.out ((hx.block _ (Nat.lt_of_lt_of_le (World.ownsMap.lt HM.out) HB.out.size)).trans (HB.out.block _ (World.ownsMap.lt HM.out)))
    have hw : (Lit.int .i64 (xs.length : Int)).wf = true := wf_len HL.out
    refine wpList_mapUpdate_own wf rfl (.tmp 9) (.tmp 10) (.tmp 15) 39 rfl 9 3 (Maps.string_keyed Try.underlying9) Try.underlying39 (plainElem Try.prog 3) gm n D rfl hmp HN.out (.string s) (.int .i64 (xs.length : Int)) (keyS s) rfl rfl HK.out _ [] (plainElem_int Try.underlying3 hw) ?_
    intro w2 hm2 hg2
    have HM2 := Aside0.mk hm2
    have HT := Aside0.mk (Tou.grown (S := fun k => k = gm) (Tou.of_below (below_step HB.out hx.below)) hg2 (fun k hk => by cases hk; exact .inl rfl))
    clear hm2 hg2 hw hmp
    go_wp2
    refine bodyPost_end (results_none rfl _ _ _) rfl ?_
    exact ⟨rfl, HM2.out, HT.out⟩
def RowAdd (B : Nat) (v : Value) (xs ys : List S38) (x : Tmp → Value) (u : Value) (wf w2 : World) : Prop := RW w2 B u (xs ++ ys) ∧ wf.grownBy w2 v.ownBlock ∧ (u.ownBlock = v.ownBlock ∨ ∃ b, u.ownBlock = some b ∧ wf.heap.size ≤ b)
set_option maxRecDepth 100000 in
set_option maxHeartbeats 1000000 in
theorem rec_Add (g gm : Nat) (A A2 : Option Addr) (c c2 : Nat) (xs ys : List S38) (al : Int) (B : Nat) (w : World) (hB : B ≤ w.heap.size) (h : w.heap[g]? = some (RC (.slice A xs.length c) al gm)) (hR : RW w B (.slice A xs.length c) xs) (hy : ∀ W, Tou (fun k => k = g) w W → Kd.C k38 W A2 ys.length ys) (hyc : ys.length ≤ c2) (hn : xs.length + ys.length ≤ 1000000) (hal : 0 ≤ al ∧ al ≤ 1000000) :
    Calls Try.prog 7 #[.pointer (some ⟨g, 0, none⟩), .slice A2 ys.length c2] w fun e w' => e = .returned (.tuple #[]) ∧ ∃ v', w'.heap[g]? = some (RC v' (al + (ys.length : Int)) gm) ∧ RW w' B v' (xs ++ ys) ∧ (v'.ownBlock = (Value.slice A xs.length c).ownBlock ∨ ∃ b, v'.ownBlock = some b ∧ w.heap.size ≤ b) ∧ Tou (fun k => k = g ∨ (Value.slice A xs.length c).ownBlock = some k) w w' := by
  have H := Aside0.mk h
  have HR := Aside0.mk hR
  have HY := Aside0.mk hy
  have HB0 := Aside0.mk hB
  have HN := Aside0.mk hn
  have HYC := Aside0.mk hyc
  have HSUM : Aside0 (wrap64 (al + (ys.length : Int)) = al + (ys.length : Int)) := ⟨by unfold wrap64; omega⟩
  have HSUB : Aside0 (wrap64 (16777216 - (xs.length : Int)) = 16777216 - (xs.length : Int)) := ⟨by unfold wrap64; omega⟩
  have HMIN : Aside0 ((if 16777216 - (xs.length : Int) < (ys.length : Int) then 16777216 - (xs.length : Int) else (ys.length : Int)) = (ys.length : Int)) := ⟨if_neg (by omega)⟩
  have HCUT := Aside0.mk (fun w => slice_to A2 c2 ys ys.length (Nat.le_refl _) hyc w)
  clear h hR hy hB hn hyc hal
  go_enter Try.func7, Try.ntmps7
  have hs_ := HSUM.out
  go_upto_region 2 with (go_at_call 12; (with_reducible refine (rec_is g gm _ al _ H.out).mono ?_); rintro e w1 ⟨rfl, hb⟩; have HB := Aside0.mk hb; have z_ : w1.cell? ⟨g, 1, none⟩ = some (.int .i64 al) := (blk_cell (blk_below H.out hb) 1).trans rfl; have f_ := blk_frozen (blk_below H.out hb) 1; clear hb)
  (try simp only [Act.put, List.setIfInBounds_toArray, List.set_cons_zero, List.set_cons_succ])
  have hG0 := blk_below H.out HB.out
  have hR0 := Kd.R_below HR.out HB.out
  have HG := Aside0.mk (blk_put (cs' := #[.slice A xs.length c, .int .i64 (al + (ys.length : Int)), .map (some gm)]) hG0 1 (.int .i64 (al + (ys.length : Int))) rfl)
  have HRW := Aside0.mk (rw_set hR0 hG0 (by decide) 1 (.int .i64 (al + (ys.length : Int))))
  have HC := Aside0.mk (HY.out _ (Tou.set (S := fun k => k = g) (p := ⟨g, 1, none⟩) (Tou.of_below HB.out) (.inl rfl) (.int .i64 (al + (ys.length : Int)))))
  have HT := Aside0.mk (Tou.set (S := fun k => k = g ∨ (Value.slice A xs.length c).ownBlock = some k) (p := ⟨g, 1, none⟩) (Tou.of_below HB.out) (.inl (.inl rfl)) (.int .i64 (al + (ys.length : Int))))
  clear hG0 hR0 z_ f_ hs_
  generalize w1.setCell ⟨g, 1, none⟩ (.int .i64 (al + (ys.length : Int))) = W at HG HRW HC HT ⊢
  refine mono_region_app (fun j_ => ([(Is (.pointer (some ⟨g, 0, none⟩))), (Is (.pointer (some ⟨g, 0, none⟩))), (Is (.pointer (some ⟨g, 0, none⟩))), (Is (.pointer (some ⟨g, 0, none⟩))), (Is (.slice A xs.length c)), (Is (.slice A2 ys.length c2)), (Is (.slice A2 ys.length c2)), (Is (.int .i64 (ys.length : Int))), (Is (.pointer (some ⟨g, 0, none⟩))), (Is (.pointer (some ⟨g, 0, none⟩))), (Is (.pointer (some ⟨g, 0, none⟩))), (Is (.slice A xs.length c)), (Is (.int .i64 (xs.length : Int))), (Is (.int .i64 (16777216 - (xs.length : Int)))), (Is (.int .i64 (ys.length : Int))), (Is (.slice A2 ys.length c2)), (fun _ _ => True)] : List (Value → World → Prop)).getD j_ (fun _ _ => True)) (RowAdd B (Value.slice A xs.length c) xs ys) 17 16 32 [1, 2, 3, 4, 5, 6, 7, 8, 9, 10, 11, 12, 13, 14, 15] [0] [16, 17, 18, 19, 20, 21, 22, 23, 24, 25, 26, 27, 28, 29, 30, 31, 32] _ (by kernel_rfl) rfl (by kernel_rfl) (by kernel_rfl) (by kernel_rfl) rfl (by kernel_rfl) ?_ (fun _ _ _ _ _ _ h => h) ?_ ?_ ?_ ?_
  · intro i
    match i with
    | 0 => exact stable_is _
    | 1 => exact stable_is _
    | 2 => exact stable_is _
    | 3 => exact stable_is _
    | 4 => exact stable_is _
    | 5 => exact stable_is _
    | 6 => exact stable_is _
    | 7 => exact stable_is _
    | 8 => exact stable_is _
    | 9 => exact stable_is _
    | 10 => exact stable_is _
    | 11 => exact stable_is _
    | 12 => exact stable_is _
    | 13 => exact stable_is _
    | 14 => exact stable_is _
    | 15 => exact stable_is _
    | 16 => exact fun _ _ _ _ _ => trivial
    | _ + 17 => exact fun _ _ _ _ _ => trivial
  · show ∀ i ∈ [1, 2, 3, 4, 5, 6, 7, 8, 9, 10, 11, 12, 13, 14, 15], _
    refine msteps_cons ?_ ?_
    · intro a w' hx hfr hk
      have e0 : a.tmps[0]? = some (.pointer (some ⟨g, 0, none⟩)) := (hfr.off 0 rfl).trans rfl
      clear hk hfr
      refine ⟨_, rfl, fun K hK => ?_⟩
      refine value_ (w1 := w') (v := .pointer (some ⟨g, 0, none⟩)) (by rfl) rfl ?_ (hK _ _ (show _ = _ from rfl) (Ext.refl _))
      go_simp
      (try simp only [i64_w])
      try rfl
    refine msteps_cons ?_ ?_
    · intro a w' hx hfr hk
      obtain ⟨v_, e17, h_⟩ := hk 1 17 (by kernel_rfl) rfl
      replace h_ : v_ = .pointer (some ⟨g, 0, none⟩) := h_
      subst h_
      clear hk hfr
      refine ⟨_, rfl, fun K hK => ?_⟩
      refine value_ (w1 := w') (v := .pointer (some ⟨g, 0, none⟩)) (by rfl) rfl ?_ (hK _ _ (show _ = _ from rfl) (Ext.refl _))
      go_simp
      (try simp only [i64_w])
      try rfl
    refine msteps_cons ?_ ?_
    · intro a w' hx hfr hk
      obtain ⟨v_, e18, h_⟩ := hk 2 18 (by kernel_rfl) rfl
      replace h_ : v_ = .pointer (some ⟨g, 0, none⟩) := h_
      subst h_
      clear hk hfr
      refine ⟨_, rfl, fun K hK => ?_⟩
      refine value_ (w1 := w') (v := .pointer (some ⟨g, 0, none⟩)) (by rfl) rfl ?_ (hK _ _ (show _ = _ from rfl) (Ext.refl _))
      go_simp
      (try simp only [i64_w])
      try rfl
    refine msteps_cons ?_ ?_
    · intro a w' hx hfr hk
      obtain ⟨v_, e19, h_⟩ := hk 3 19 (by kernel_rfl) rfl
      replace h_ : v_ = .pointer (some ⟨g, 0, none⟩) := h_
      subst h_
      clear hk hfr
      refine ⟨_, rfl, fun K hK => ?_⟩
      have hc_ : w'.cell? ⟨g, 0, none⟩ = some (.slice A xs.length c) := (blk_cell (blk_below HG.out (Ext.below hx)) 0).trans rfl
      refine value_ (w1 := w') (v := .slice A xs.length c) (by rfl) rfl ?_ (hK _ _ (show _ = _ from rfl) (Ext.refl _))
      go_simp
      (try simp only [i64_w])
      try rfl
    refine msteps_cons ?_ ?_
    · intro a w' hx hfr hk
      have e1 : a.tmps[1]? = some (.slice A2 ys.length c2) := (hfr.off 1 rfl).trans rfl
      clear hk hfr
      refine ⟨_, rfl, fun K hK => ?_⟩
      refine value_ (w1 := w') (v := .slice A2 ys.length c2) (by rfl) rfl ?_ (hK _ _ (show _ = _ from rfl) (Ext.refl _))
      go_simp
      (try simp only [i64_w])
      try rfl
    refine msteps_cons ?_ ?_
    · intro a w' hx hfr hk
      have e1 : a.tmps[1]? = some (.slice A2 ys.length c2) := (hfr.off 1 rfl).trans rfl
      clear hk hfr
      refine ⟨_, rfl, fun K hK => ?_⟩
      refine value_ (w1 := w') (v := .slice A2 ys.length c2) (by rfl) rfl ?_ (hK _ _ (show _ = _ from rfl) (Ext.refl _))
      go_simp
      (try simp only [i64_w])
      try rfl
    refine msteps_cons ?_ ?_
    · intro a w' hx hfr hk
      obtain ⟨v_, e22, h_⟩ := hk 6 22 (by kernel_rfl) rfl
      replace h_ : v_ = .slice A2 ys.length c2 := h_
      subst h_
      clear hk hfr
      refine ⟨_, rfl, fun K hK => ?_⟩
      refine value_ (w1 := w') (v := .int .i64 (ys.length : Int)) (by rfl) rfl ?_ (hK _ _ (show _ = _ from rfl) (Ext.refl _))
      go_simp
      (try simp only [i64_w])
      try rfl
    refine msteps_cons ?_ ?_
    · intro a w' hx hfr hk
      have e0 : a.tmps[0]? = some (.pointer (some ⟨g, 0, none⟩)) := (hfr.off 0 rfl).trans rfl
      clear hk hfr
      refine ⟨_, rfl, fun K hK => ?_⟩
      refine value_ (w1 := w') (v := .pointer (some ⟨g, 0, none⟩)) (by rfl) rfl ?_ (hK _ _ (show _ = _ from rfl) (Ext.refl _))
      go_simp
      (try simp only [i64_w])
      try rfl
    refine msteps_cons ?_ ?_
    · intro a w' hx hfr hk
      obtain ⟨v_, e24, h_⟩ := hk 8 24 (by kernel_rfl) rfl
      replace h_ : v_ = .pointer (some ⟨g, 0, none⟩) := h_
      subst h_
      clear hk hfr
      refine ⟨_, rfl, fun K hK => ?_⟩
      refine value_ (w1 := w') (v := .pointer (some ⟨g, 0, none⟩)) (by rfl) rfl ?_ (hK _ _ (show _ = _ from rfl) (Ext.refl _))
      go_simp
      (try simp only [i64_w])
      try rfl
    refine msteps_cons ?_ ?_
    · intro a w' hx hfr hk
      obtain ⟨v_, e25, h_⟩ := hk 9 25 (by kernel_rfl) rfl
      replace h_ : v_ = .pointer (some ⟨g, 0, none⟩) := h_
      subst h_
      clear hk hfr
      refine ⟨_, rfl, fun K hK => ?_⟩
      refine value_ (w1 := w') (v := .pointer (some ⟨g, 0, none⟩)) (by rfl) rfl ?_ (hK _ _ (show _ = _ from rfl) (Ext.refl _))
      go_simp
      (try simp only [i64_w])
      try rfl
    refine msteps_cons ?_ ?_
    · intro a w' hx hfr hk
      obtain ⟨v_, e26, h_⟩ := hk 10 26 (by kernel_rfl) rfl
      replace h_ : v_ = .pointer (some ⟨g, 0, none⟩) := h_
      subst h_
      clear hk hfr
      refine ⟨_, rfl, fun K hK => ?_⟩
      have hc_ : w'.cell? ⟨g, 0, none⟩ = some (.slice A xs.length c) := (blk_cell (blk_below HG.out (Ext.below hx)) 0).trans rfl
      refine value_ (w1 := w') (v := .slice A xs.length c) (by rfl) rfl ?_ (hK _ _ (show _ = _ from rfl) (Ext.refl _))
      go_simp
      (try simp only [i64_w])
      try rfl
    refine msteps_cons ?_ ?_
    · intro a w' hx hfr hk
      obtain ⟨v_, e27, h_⟩ := hk 11 27 (by kernel_rfl) rfl
      replace h_ : v_ = .slice A xs.length c := h_
      subst h_
      clear hk hfr
      refine ⟨_, rfl, fun K hK => ?_⟩
      refine value_ (w1 := w') (v := .int .i64 (xs.length : Int)) (by rfl) rfl ?_ (hK _ _ (show _ = _ from rfl) (Ext.refl _))
      go_simp
      (try simp only [i64_w])
      try rfl
    refine msteps_cons ?_ ?_
    · intro a w' hx hfr hk
      obtain ⟨v_, e28, h_⟩ := hk 12 28 (by kernel_rfl) rfl
      replace h_ : v_ = .int .i64 (xs.length : Int) := h_
      subst h_
      clear hk hfr
      refine ⟨_, rfl, fun K hK => ?_⟩
      refine value_ (w1 := w') (v := .int .i64 (16777216 - (xs.length : Int))) (by rfl) rfl ?_ (hK _ _ (show _ = _ from rfl) (Ext.refl _))
      go_simp
      (try simp only [i64_w, HSUB.out])
      try rfl
    refine msteps_cons ?_ ?_
    · intro a w' hx hfr hk
      obtain ⟨v_, e23, h_⟩ := hk 7 23 (by kernel_rfl) rfl
      replace h_ : v_ = .int .i64 (ys.length : Int) := h_
      subst h_
      obtain ⟨v_, e29, h_⟩ := hk 13 29 (by kernel_rfl) rfl
      replace h_ : v_ = .int .i64 (16777216 - (xs.length : Int)) := h_
      subst h_
      clear hk hfr
      refine ⟨_, rfl, fun K hK => ?_⟩
      refine value_ (w1 := w') (v := .int .i64 (ys.length : Int)) (by rfl) rfl ?_ (hK _ _ (show _ = _ from rfl) (Ext.refl _))
      go_simp
      (try simp only [i64_w, min2_int, HMIN.out])
      try rfl
      (try (intro h_; have := HN.out; omega))
    refine msteps_cons ?_ ?_
    · intro a w' hx hfr hk
      obtain ⟨v_, e21, h_⟩ := hk 5 21 (by kernel_rfl) rfl
      replace h_ : v_ = .slice A2 ys.length c2 := h_
      subst h_
      obtain ⟨v_, e30, h_⟩ := hk 14 30 (by kernel_rfl) rfl
      replace h_ : v_ = .int .i64 (ys.length : Int) := h_
      subst h_
      clear hk hfr
      refine ⟨_, rfl, fun K hK => ?_⟩
      have hcut := HCUT.out
      refine value_ (w1 := w') (v := .slice A2 ys.length c2) (by rfl) rfl ?_ (hK _ _ (show _ = _ from rfl) (Ext.refl _))
      go_simp
      (try simp only [i64_w])
      try rfl
    exact msteps_nil
  · show ∀ i ∈ [0], _
    refine psteps_cons ?_ ?_
    · intro a w' wf hx hfr hk
      have e0 : a.tmps[0]? = some (.pointer (some ⟨g, 0, none⟩)) := (hfr.off 0 rfl).trans rfl
      clear hk hfr
      refine ⟨_, rfl, fun K hK => ?_⟩
      refine value_ (w1 := w') (v := .pointer (some ⟨g, 0, none⟩)) (by rfl) rfl ?_ (hK _ (show _ = _ from rfl))
      go_simp
      (try simp only [i64_w])
      try rfl
    exact psteps_nil
  · intro a w' hx hfr hk
    obtain ⟨v_, e20, h_⟩ := hk 4 20 (by kernel_rfl) rfl
    replace h_ : v_ = .slice A xs.length c := h_
    subst h_
    obtain ⟨v_, e31, h_⟩ := hk 15 31 (by kernel_rfl) rfl
    replace h_ : v_ = .slice A2 ys.length c2 := h_
    subst h_
    clear hk hfr
    refine ⟨_, rfl, fun K hK => ?_⟩
    refine Kd.R_append_rows_step k38 (Rr := k38.K w') (w0 := w') B (by rfl) (.tmp 20) (.tmp 31) 26 38 (.agg #[.int .i64 0, .int .u8 0]) 16 rfl Try.underlying26 (by kernel_rfl) rfl (by decide) (by omega) (.slice A xs.length c) xs ys A2 ys.length c2 (fun _ => True) (fun _ => False) (by simp [Act.eval, e20]) (by simp [Act.eval, e31]) (Kd.R_below HRW.out hx.below) (c_ext HC.out hx) ?_ (fun _ h => h.elim) (fun _ _ => trivial) (Below.refl _ _) ?_ ?_ ?_
    · intro x cs h
      obtain rfl := k38_open h
      exact k38_mkM _ _ _ x
    · exact Nat.le_trans HB0.out (Nat.le_trans HT.out.size hx.below.size)
    · have := HN.out
      omega
    · intro v1 w2 ho hb hg hat
      exact hK v1 w2 ⟨ho, hg, hat⟩
  · intro val wf w2 hx hF ⟨hR2, hgr, hat⟩
    have e16 : val 16 = .pointer (some ⟨g, 0, none⟩) := hF 0 16 (by decide) (by decide) rfl
    have e17 : val 17 = .pointer (some ⟨g, 0, none⟩) := hF 1 17 (by decide) (by decide) rfl
    have e18 : val 18 = .pointer (some ⟨g, 0, none⟩) := hF 2 18 (by decide) (by decide) rfl
    have e19 : val 19 = .pointer (some ⟨g, 0, none⟩) := hF 3 19 (by decide) (by decide) rfl
    have e20 : val 20 = .slice A xs.length c := hF 4 20 (by decide) (by decide) rfl
    have e21 : val 21 = .slice A2 ys.length c2 := hF 5 21 (by decide) (by decide) rfl
    have e22 : val 22 = .slice A2 ys.length c2 := hF 6 22 (by decide) (by decide) rfl
    have e23 : val 23 = .int .i64 (ys.length : Int) := hF 7 23 (by decide) (by decide) rfl
    have e24 : val 24 = .pointer (some ⟨g, 0, none⟩) := hF 8 24 (by decide) (by decide) rfl
    have e25 : val 25 = .pointer (some ⟨g, 0, none⟩) := hF 9 25 (by decide) (by decide) rfl
    have e26 : val 26 = .pointer (some ⟨g, 0, none⟩) := hF 10 26 (by decide) (by decide) rfl
    have e27 : val 27 = .slice A xs.length c := hF 11 27 (by decide) (by decide) rfl
    have e28 : val 28 = .int .i64 (xs.length : Int) := hF 12 28 (by decide) (by decide) rfl
    have e29 : val 29 = .int .i64 (16777216 - (xs.length : Int)) := hF 13 29 (by decide) (by decide) rfl
    have e30 : val 30 = .int .i64 (ys.length : Int) := hF 14 30 (by decide) (by decide) rfl
    have e31 : val 31 = .slice A2 ys.length c2 := hF 15 31 (by decide) (by decide) rfl
    clear hF
    obtain ⟨A3, c3, hu, _, _⟩ := Kd.R_reads hR2
    rw [List.length_append] at hu
    rw [hu] at hR2 hat
    have hgf := blk_below HG.out hx.below
    have hg2 := (hgr.block g (blk_lt hgf) (fun e => rw_ne (Kd.R_below HRW.out hx.below) hgf (by decide) e.symm)).trans hgf
    have c_ := blk_cell hg2 0
    have f_ := blk_frozen hg2 0
    have HR2 := Aside0.mk hR2
    have HG2 := Aside0.mk hg2
    have HAT := Aside0.mk hat
    have HT2 := Aside0.mk ((HT.out.step hx.below).grown hgr (fun k hk => .inl (.inr hk)))
    have HSZ := Aside0.mk (Nat.le_trans HT.out.size hx.below.size)
    clear hR2 hg2 hat hgf hgr hx
    simp only [putT, List.foldl_cons, List.foldl_nil, Act.put, List.setIfInBounds_toArray, List.set_cons_zero, List.set_cons_succ, hu, e16, e17, e18, e19, e20, e21, e22, e23, e24, e25, e26, e27, e28, e29, e30, e31]
    clear hu e16 e17 e18 e19 e20 e21 e22 e23 e24 e25 e26 e27 e28 e29 e30 e31
    go_wp2
    refine bodyPost_end (results_none rfl _ _ _) rfl ?_
    refine ⟨rfl, _, blk_put HG2.out 0 _ rfl, rw_set HR2.out HG2.out (by decide) 0 _, ?_, HT2.out.set (.inl (.inl rfl)) _⟩
    rcases HAT.out with h | ⟨b, h1, h2⟩
    · exact .inl h
    · exact .inr ⟨b, h1, Nat.le_trans HSZ.out h2⟩
end Go.Proofs.Ytbldlkmnnhmmnaa.QTracePlays
namespace Go.Proofs.Ytbldlkmnnhmmnaa.QTracePlays
open Go.RowKit Go.Proofs.YtbldlkmnnhmmnaaW.PrintWords Go.Proofs.YtbldlkmnnhmmnaaW.PrintLast Go.Proofs.YtbldlkmnnhmmnaaW.PrintMore
set_option linter.unusedVariables false
abbrev Cy := S38
abbrev Dd := S28
abbrev em : ByteArray := ⟨#[]⟩
def stStep (q : List Cy × DataW Unit) (d : Dd) : List Cy × DataW Unit := if d.f0 = em then (q.1 ++ d.f1, q.2) else (q.1, q.2.put (keyS d.f0) (.lit (.int .i64 (q.1.length : Int))))
def st (p : List Dd) : List Cy × DataW Unit := p.foldl stStep ([], .map [])
def siStep (s : ByteArray) (q : Bool × List Cy) (d : Dd) : Bool × List Cy := if d.f0 = s ∧ s ≠ em then (true, []) else (q.1, if d.f0 = em ∧ q.1 = true then q.2 ++ d.f1 else q.2)
def si (s : ByteArray) (p : List Dd) : Bool × List Cy := p.foldl (siStep s) (false, [])
theorem st_snoc (p : List Dd) (d : Dd) : st (p ++ [d]) = stStep (st p) d := by simp [st]
theorem si_snoc (s : ByteArray) (p : List Dd) (d : Dd) : si s (p ++ [d]) = siStep s (si s p) d := by simp [si]
theorem take_snoc {l : List Dd} {i : Nat} (h : i < l.length) : l.take (i + 1) = l.take i ++ [l[i]] := List.take_succ_eq_append_getElem h
theorem keyS_ne {s s' : ByteArray} (h : s ≠ s') : keyS s ≠ keyS s' := fun e => by
  injection e with e
  apply h
  cases s
  cases s'
  simp only [ByteArray.mk.injEq]
  exact Array.toList_inj.1 e
theorem keyS_lit (s : ByteArray) : Go.WideAt.IsKeyLit (keyS s) := by
  unfold keyS
  trivial
theorem snoc_ind {α : Type} {P : List α → Prop} (h0 : P []) (h : ∀ l a, P l → P (l ++ [a])) (l : List α) : P l := by
  have : ∀ l : List α, P l.reverse := fun l => by
    induction l with
    | nil => exact h0
    | cons a l ih => rw [List.reverse_cons]; exact h _ _ ih
  have h2 := this l.reverse
  rwa [List.reverse_reverse] at h2
theorem st_map (p : List Dd) : Maps.IsMap (st p).2 := by
  induction p using snoc_ind with
  | h0 => exact Maps.isMap_empty
  | h p d ih =>
    rw [st_snoc]
    unfold stStep
    split
    · exact ih
    · exact ih.put _ _
theorem st_none (p : List Dd) : Maps.has (st p).2 (keyS em) = false := by
  induction p using snoc_ind with
  | h0 => rfl
  | h p d ih =>
    rw [st_snoc]
    unfold stStep
    split
    · exact ih
    · rename_i h
      exact (Maps.has_put_other (keyS_ne (fun e => h e.symm)) _).trans ih
theorem st_since {s : ByteArray} (hs : s ≠ em) (p : List Dd) : ((si s p).1 = true → ∃ i : Nat, i ≤ (st p).1.length ∧ Maps.has (st p).2 (keyS s) = true ∧ (st p).2.atKey (keyS s) (.lit (.int .i64 0)) = .lit (.int .i64 (i : Int)) ∧ (si s p).2 = (st p).1.drop i) ∧ ((∃ d ∈ p, d.f0 = s) → (si s p).1 = true) := by
  induction p using snoc_ind with
  | h0 => exact ⟨fun h => (by cases h), fun ⟨_, h, _⟩ => (by cases h)⟩
  | h p d ih =>
    obtain ⟨ih1, ih2⟩ := ih
    rw [st_snoc, si_snoc]
    unfold stStep siStep
    by_cases h1 : d.f0 = s
    · have h2 : ¬ d.f0 = em := fun e => hs (h1.symm.trans e)
      rw [if_pos ⟨h1, hs⟩, if_neg h2, h1]
      refine ⟨fun _ => ⟨(st p).1.length, Nat.le_refl _, Maps.has_put_same (st_map p) (keyS_lit s) _, Maps.atKey_put_same (st_map p) (keyS_lit s) _ _, ?_⟩, fun _ => rfl⟩
      rw [List.drop_length]
    · rw [if_neg (fun z => h1 z.1)]
      refine ⟨fun h => ?_, fun ⟨x, hx, hxs⟩ => ?_⟩
      · obtain ⟨i, hi, h3, h4, h5⟩ := ih1 h
        by_cases h2 : d.f0 = em
        · rw [if_pos h2, if_pos ⟨h2, h⟩]
          refine ⟨i, by rw [List.length_append]; omega, h3, h4, ?_⟩
          rw [h5, List.drop_append_of_le_length hi]
        · rw [if_neg h2, if_neg (fun z => h2 z.1)]
          exact ⟨i, hi, (Maps.has_put_other (keyS_ne (fun e => h1 e.symm)) _).trans h3, (Maps.atKey_put_other (keyS_ne (fun e => h1 e.symm)) _ _).trans h4, h5⟩
      · rcases List.mem_append.1 hx with h | h
        · exact ih2 ⟨x, h, hxs⟩
        · obtain rfl := List.mem_singleton.1 h
          exact absurd hxs h1
end Go.Proofs.Ytbldlkmnnhmmnaa.QTracePlays
namespace Go.Proofs.Ytbldlkmnnhmmnaa.QTracePlays
open Go.RowKit Go.Proofs.YtbldlkmnnhmmnaaW.PrintWords Go.Proofs.YtbldlkmnnhmmnaaW.PrintLast Go.Proofs.YtbldlkmnnhmmnaaW.PrintMore
set_option linter.unusedVariables false
theorem rw_cells {w : World} {B : Nat} {v : Value} {xs : List Cy} (h : RW w B v xs) {k : Nat} (hk : v.ownBlock = some k) : ∃ cells, w.heap[k]? = some (.cells cells 38 (0, 0)) := by
  obtain ⟨h0, inner, ho, hr⟩ := h
  exact own_typed ho k hk
structure Rst (w0 w : World) (g gm : Nat) (vr va : Value) (al : Int) (zr za : List Cy) (n : Nat) (D : DataW Unit) : Prop where
  rc : w.heap[g]? = some (RC vr al gm)
  rr : RW w w0.heap.size vr zr
  ra : RW w w0.heap.size va za
  ne : NeRow vr va
  mp : MP w gm n D
  bel : Below w0.heap.size w0 w
  hg : w0.heap.size ≤ g
  hm : w0.heap.size ≤ gm
section
variable {w0 w w' : World} {g gm : Nat} {vr va vs : Value} {al : Int} {zr za y : List Cy} {n : Nat} {D : DataW Unit}
theorem rw_ne_map (h : RW w w0.heap.size vs y) (hm : MP w gm n D) : vs.ownBlock ≠ some gm := fun e => by
  obtain ⟨c, hc⟩ := rw_cells h e
  obtain ⟨es, cl, hb, _⟩ := hm
  rw [hb] at hc
  cases hc
theorem Rst.g_ne (h : Rst w0 w g gm vr va al zr za n D) : g ≠ gm := fun e => by
  obtain ⟨es, cl, hb, _⟩ := h.mp
  have := h.rc
  rw [e, hb] at this
  cases this
theorem Rst.below (h : Rst w0 w g gm vr va al zr za n D) (hb : Below w.heap.size w w') : Rst w0 w' g gm vr va al zr za n D :=
  ⟨blk_below h.rc hb, Kd.R_below h.rr hb, Kd.R_below h.ra hb, h.ne, mp_move h.mp (hb.block _ (World.ownsMap.lt h.mp)), below_step h.bel hb, h.hg, h.hm⟩
theorem Rst.mark {n' : Nat} {D' : DataW Unit} (h : Rst w0 w g gm vr va al zr za n D) (ht : Tou (fun k => k = gm) w w') (hm : MP w' gm n' D') : Rst w0 w' g gm vr va al zr za n' D' :=
  ⟨(ht.block g (blk_lt h.rc) h.g_ne).trans h.rc, rw_move h.rr (fun k hk => ht.block k (rw_lt h.rr hk) (fun e => rw_ne_map h.rr h.mp (e ▸ hk))), rw_move h.ra (fun k hk => ht.block k (rw_lt h.ra hk) (fun e => rw_ne_map h.ra h.mp (e ▸ hk))), h.ne, hm, ht.below h.bel h.bel.size (fun k hk => by rw [hk]; exact h.hm), h.hg, h.hm⟩
theorem Rst.add {v' : Value} {al' : Int} {z' : List Cy} (h : Rst w0 w g gm vr va al zr za n D) (hv : w'.heap[g]? = some (RC v' al' gm)) (hr : RW w' w0.heap.size v' z') (hat : v'.ownBlock = vr.ownBlock ∨ ∃ b, v'.ownBlock = some b ∧ w.heap.size ≤ b) (ht : Tou (fun k => k = g ∨ vr.ownBlock = some k) w w') : Rst w0 w' g gm v' va al' z' za n D := by
  refine ⟨hv, hr, rw_move h.ra (fun k hk => ht.block k (rw_lt h.ra hk) (fun e => ?_)), fun k hk hk2 => ?_, mp_move h.mp (ht.block _ (World.ownsMap.lt h.mp) (fun e => ?_)), ht.below h.bel h.bel.size (fun k hk => ?_), h.hg, h.hm⟩
  · rcases e with e | e
    · exact rw_ne h.ra h.rc (by decide) (by rw [hk, e])
    · exact h.ne k e hk
  · rcases hat with e | ⟨b, e, hb⟩
    · exact h.ne k (e ▸ hk) hk2
    · rw [e] at hk
      obtain rfl := Option.some.inj hk
      have := rw_lt h.ra hk2
      omega
  · rcases e with e | e
    · exact h.g_ne e.symm
    · exact rw_ne_map h.rr h.mp e
  · rcases hk with e | e
    · rw [e]
      exact h.hg
    · exact rw_base h.rr e
theorem Rst.app {v' : Value} {z' : List Cy} (h : Rst w0 w g gm vr va al zr za n D) (hr : RW w' w0.heap.size v' z') (hgr : w.grownBy w' va.ownBlock) (hat : v'.ownBlock = va.ownBlock ∨ ∃ b, v'.ownBlock = some b ∧ w.heap.size ≤ b) : Rst w0 w' g gm vr v' al zr z' n D := by
  refine ⟨(hgr.block g (blk_lt h.rc) (fun e => rw_ne h.ra h.rc (by decide) e.symm)).trans h.rc, rw_move h.rr (fun k hk => hgr.block k (rw_lt h.rr hk) (fun e => h.ne k hk e.symm)), hr, fun k hk hk2 => ?_, mp_move h.mp (hgr.block _ (World.ownsMap.lt h.mp) (fun e => rw_ne_map h.ra h.mp e.symm)), Below.trans h.bel ⟨hgr.os, hgr.tape, hgr.output, hgr.size, fun k hk => hgr.block k (Nat.lt_of_lt_of_le hk h.bel.size) (fun e => ?_)⟩, h.hg, h.hm⟩
  · rcases hat with e | ⟨b, e, hb⟩
    · exact h.ne k hk (e ▸ hk2)
    · rw [e] at hk2
      obtain rfl := Option.some.inj hk2
      have := rw_lt h.rr hk
      omega
  · have := rw_base h.ra e.symm
    omega
theorem Rst.mono {n' : Nat} (h : Rst w0 w g gm vr va al zr za n D) (hn : n ≤ n') : Rst w0 w g gm vr va al zr za n' D := ⟨h.rc, h.rr, h.ra, h.ne, World.ownsMap.mono h.mp hn, h.bel, h.hg, h.hm⟩
theorem Rst.other (h : Rst w0 w g gm vr va al zr za n D) (hs : RW w w0.heap.size vs y) (h1 : NeRow vr vs) (h2 : NeRow va vs) (hgr : w.grownBy w' vs.ownBlock) : Rst w0 w' g gm vr va al zr za n D :=
  ⟨(hgr.block g (blk_lt h.rc) (fun e => rw_ne hs h.rc (by decide) e.symm)).trans h.rc, rw_move h.rr (fun k hk => hgr.block k (rw_lt h.rr hk) (fun e => h1 k hk e.symm)), rw_move h.ra (fun k hk => hgr.block k (rw_lt h.ra hk) (fun e => h2 k hk e.symm)), h.ne, mp_move h.mp (hgr.block _ (World.ownsMap.lt h.mp) (fun e => rw_ne_map hs h.mp e.symm)),
    Below.trans h.bel ⟨hgr.os, hgr.tape, hgr.output, hgr.size, fun k hk => hgr.block k (Nat.lt_of_lt_of_le hk h.bel.size) (fun e => by have := rw_base hs e.symm; omega)⟩, h.hg, h.hm⟩
end
theorem ne_new {w : World} {B : Nat} {v vs vs' : Value} {xs : List Cy} (h : NeRow v vs) (hr : RW w B v xs) (hat : vs'.ownBlock = vs.ownBlock ∨ ∃ b, vs'.ownBlock = some b ∧ w.heap.size ≤ b) : NeRow v vs' := fun k hk hk2 => by
  rcases hat with e | ⟨b, e, hb⟩
  · exact h k hk (e ▸ hk2)
  · rw [e] at hk2
    obtain rfl := Option.some.inj hk2
    have := rw_lt hr hk
    omega
theorem ne_nil (v : Value) : NeRow v (.slice none 0 0) := fun k _ h => by cases h
theorem at_D {w : World} {A : Option Addr} {l : List Dd} (h : Kd.C k28 w A l.length l) (i : Nat) (hi : i < l.length) : ∃ ad A1 c1, A = some ad ∧ w.cell? (ad.add (i * 2)) = some (.string l[i].f0) ∧ w.cell? ⟨(ad.add (i * 2)).block, (ad.add (i * 2)).off + 1, none⟩ = some (.slice A1 l[i].f1.length c1) ∧ l[i].f1.length ≤ c1 ∧ Kd.C k38 w A1 l[i].f1.length l[i].f1 := by
  obtain ⟨ad, c, e, _, hK, hc0⟩ := Kd.C_get h z28 (i : Int) (by omega) (by omega)
  have hc : ∀ j u, c[j]? = some u → w.cell? (ad.add (((i : Int).toNat) * 2 + j)) = some u := hc0
  rw [Int.toNat_natCast] at hc hK
  have hg : l.getD i z28 = l[i] := by simp [hi]
  rw [hg] at hK
  obtain ⟨A1, c1, rfl, hl, hC⟩ := k28_open hK
  exact ⟨ad, A1, c1, e, hc 0 _ rfl, by rw [← add_field _ _ 1 (by omega)]; exact hc 1 _ rfl, hl, hC⟩
theorem same_l0 (xs : List Cy) (hx : xs.length ≤ 1000000) : ∀ (d i k : Nat), i + d = xs.length → d < k → incunableref10_Same.l0 k xs xs (i : Int) = some true := by
  intro d
  induction d with
  | zero =>
    intro i k hi hk
    obtain ⟨k, rfl⟩ : ∃ k', k = k' + 1 := ⟨k - 1, by omega⟩
    unfold incunableref10_Same.l0
    rw [if_neg (by omega)]
  | succ d ih =>
    intro i k hi hk
    obtain ⟨k, rfl⟩ : ∃ k', k = k' + 1 := ⟨k - 1, by omega⟩
    unfold incunableref10_Same.l0
    rw [if_pos (by omega), if_pos (by omega), if_pos (by omega), if_pos rfl, if_pos rfl]
    have hw : wrap64 ((i : Int) + 1) = ((i + 1 : Nat) : Int) := by unfold wrap64; omega
    rw [hw]
    exact ih (i + 1) k (by omega) (by omega)
theorem same_calls (A1 A2 : Option Addr) (c1 c2 : Nat) (xs : List Cy) (w : World) (h1 : Kd.C k38 w A1 xs.length xs) (hc1 : xs.length ≤ c1) (h2 : Kd.C k38 w A2 xs.length xs) (hc2 : xs.length ≤ c2) (hx : xs.length ≤ 1000000) :
    Calls Try.prog 9 #[.slice A1 xs.length c1, .slice A2 xs.length c2] w fun e w' => e = .returned (.bool true) ∧ Below w.heap.size w w' := by
  refine (incunableref10_Same.calls (xs.length + 1) A1 c1 xs A2 c2 xs true w h1 hc1 h2 hc2 ?_).mono (fun e w' h => ⟨h.1, h.2.below⟩)
  unfold incunableref10_Same.f
  rw [if_pos rfl]
  exact same_l0 xs hx xs.length 0 _ (by omega) (by omega)
end Go.Proofs.Ytbldlkmnnhmmnaa.QTracePlays
namespace Go.Proofs.Ytbldlkmnnhmmnaa.QTracePlays
open Go.RowKit Go.Proofs.YtbldlkmnnhmmnaaW.PrintWords Go.Proofs.YtbldlkmnnhmmnaaW.PrintLast Go.Proofs.YtbldlkmnnhmmnaaW.PrintMore Go.Proofs.Ytbldlkmnnhmmnaa.Mono Go.Proofs.Ytbldlkmnnhmmnaa.Box
set_option linter.unusedVariables false
set_option linter.unusedSimpArgs false
theorem Rst.start {w0 w1 w2 : World} {g gm : Nat} (hB : Below w0.heap.size w0 w1) (hg : w1.heap.size ≤ g) (hgm : w1.heap.size ≤ gm) (hc : w2.heap[g]? = some (RC (.slice none 0 0) 0 gm)) (hm : MP w2 gm 0 (.map [])) (hb : Below w1.heap.size w1 w2) : Rst w0 w2 g gm (.slice none 0 0) (.slice none 0 0) 0 [] [] 0 (.map []) :=
  ⟨hc, Kd.R_nil _ _ _ _ _, Kd.R_nil _ _ _ _ _, ne_nil _, hm, below_step hB hb, Nat.le_trans hB.size hg, Nat.le_trans hB.size hgm⟩
theorem row_tou {W W' : World} {B g gm n c : Nat} {A : Option Addr} {ys : List Cy} {vr : Value} {al : Int} (h : RW W B (.slice A n c) ys) (hg : W.heap[g]? = some (RC vr al gm)) (ht : Tou (fun k => k = g) W W') : Kd.C k38 W' A ys.length ys :=
  (Kd.R_reads' (rw_move h (fun k hk => ht.block k (rw_lt h hk) (fun e => rw_ne h hg (by decide) (by rw [hk, e]))))).2.2
theorem rec_Add0 (g gm : Nat) (A2 : Option Addr) (c2 : Nat) (ys : List Cy) (al : Int) (B : Nat) (w : World) (hB : B ≤ w.heap.size) (h : w.heap[g]? = some (RC (.slice none 0 0) al gm)) (hR : RW w B (.slice none 0 0) []) (hy : ∀ W, Tou (fun k => k = g) w W → Kd.C k38 W A2 ys.length ys) (hyc : ys.length ≤ c2) (hn : ys.length ≤ 1000000) (hal : 0 ≤ al ∧ al ≤ 1000000) :
    Calls Try.prog 7 #[.pointer (some ⟨g, 0, none⟩), .slice A2 ys.length c2] w fun e w' => e = .returned (.tuple #[]) ∧ ∃ v', w'.heap[g]? = some (RC v' (al + (ys.length : Int)) gm) ∧ RW w' B v' ys ∧ (v'.ownBlock = (Value.slice none 0 0).ownBlock ∨ ∃ b, v'.ownBlock = some b ∧ w.heap.size ≤ b) ∧ Tou (fun k => k = g ∨ (Value.slice none 0 0).ownBlock = some k) w w' :=
  rec_Add g gm none A2 0 c2 [] ys al B w hB h hR hy hyc (by simpa using hn) hal
theorem addr_add0 (ad : Addr) : ad.add 0 = ad := by
  cases ad
  simp [Addr.add]
set_option maxRecDepth 100000 in
set_option maxHeartbeats 1000000 in
theorem tr_awake (w : World) : Calls Try.prog 4 #[] w fun e w' => e = .returned (.bool true) ∧ Below w.heap.size w w' := by
  obtain ⟨z1, hz1⟩ : ∃ z1 : List Cy, [⟨1, 0⟩, ⟨2, 0⟩] = z1 := ⟨_, rfl⟩
  obtain ⟨L2, hL2⟩ : ∃ L2 : List Cy, [⟨3, 0⟩] = L2 := ⟨_, rfl⟩
  obtain ⟨z2, hz2⟩ : ∃ z2 : List Cy, z1 ++ L2 = z2 := ⟨_, rfl⟩
  have l2 : L2.length = 1 := by rw [← hL2]; rfl
  have m1 : z1.length = 2 := by rw [← hz1]; rfl
  have m2 : z2.length = 3 := by rw [← hz2, List.length_append, m1, l2]
  have hz3 : z2.drop 2 = [⟨3, 0⟩] := by rw [← hz2, ← hz1, ← hL2]; rfl
  have Hz1 := Aside0.mk hz1
  have HL2 := Aside0.mk hL2
  have HZ2 := Aside0.mk hz2
  have HZ3 := Aside0.mk hz3
  have HA1 : Aside0 ((0 : Int) + (z1.length : Int) = 2) := ⟨by rw [m1]; rfl⟩
  have HA2 : Aside0 ((2 : Int) + (L2.length : Int) = 3) := ⟨by rw [l2]; rfl⟩
  have HB1 : Aside0 (z1.length ≤ 1000000) := ⟨by rw [m1]; decide⟩
  have HB3 : Aside0 (z1.length + L2.length ≤ 1000000) := ⟨by rw [m1, l2]; decide⟩
  have HB2 : Aside0 (z2.length ≤ 1000000) := ⟨by rw [m2]; decide⟩
  have HI2 : Aside0 (2 ≤ z2.length) := ⟨by rw [m2]; decide⟩
  have HZL : Aside0 ((z1.length : Int) = 2) := ⟨by rw [m1]; rfl⟩
  clear hz1 hL2 hz2 hz3 l2 m1 m2
  go_enter Try.func4, Try.ntmps4
  go_wp2_with (first | (go_at_call 5; (with_reducible refine (rec_New _).mono ?_); rintro e w2 ⟨g, gm, rfl, hg, hgm, hne, hc, hm, hb⟩; have HS := Aside0.mk (Rst.start (Below.refl _ _) hg hgm hc hm hb); clear hg hgm hne hc hm hb) | ((with_reducible refine gate_dst (N := 8) rfl ?_); refine Kd.R_lit k38 _ 38 ?hg (N := 8) ?hd (xs := ([⟨1, 0⟩, ⟨2, 0⟩] : List Cy)) (inner := [.int .i64 1, .int .u8 0, .int .i64 2, .int .u8 0]) (ok := fun _ => True) (okp := fun _ => True) ?hr ?hp (fun _ hk => hk) trivial (Below.refl _ _) (Nat.le_refl _) (by simp) ?_; (case hd => rfl); (case hg => rfl); (case hr => first | (go_simp; done) | (go_simp; rfl)); (case hp => exact Reps.snoc (Reps.snoc (Reps.none _ _) (k38_mkM _ _ _ (⟨1, 0⟩ : Cy)) rfl) (k38_mkM _ _ _ (⟨2, 0⟩ : Cy)) rfl); intro v1 w3 ho hb hg_ hn_; rw [Hz1.out] at ho; obtain ⟨A1, c1, rfl, hl_, hC_⟩ := Kd.R_reads ho; have HS := Aside0.mk (Rst.below HS.out hb); have HOz1 := Aside0.mk ho; have HLz1 := Aside0.mk hl_; clear ho hb hg_ hn_ hl_ hC_) | (go_at_call 6; (with_reducible refine (rec_Mark g gm 0 Ar cr z1 2 (.map []) ⟨#[97]⟩ _ HS.out.rc HS.out.mp (by decide) (by decide) HB1.out).mono ?_); rintro e w6 ⟨rfl, hm2, ht⟩; rw [HZL.out] at hm2; have HS := Aside0.mk (Rst.mark HS.out ht hm2); clear hm2 ht) | ((with_reducible refine gate_dst (N := 14) rfl ?_); refine Kd.R_lit k38 _ 38 ?hg (N := 14) ?hd (xs := ([⟨3, 0⟩] : List Cy)) (inner := [.int .i64 3, .int .u8 0]) (ok := fun _ => True) (okp := fun _ => True) ?hr ?hp (fun _ hk => hk) trivial (Below.refl _ _) (Nat.le_refl _) (by simp) ?_; (case hd => rfl); (case hg => rfl); (case hr => first | (go_simp; done) | (go_simp; rfl)); (case hp => exact Reps.snoc (Reps.none _ _) (k38_mkM _ _ _ (⟨3, 0⟩ : Cy)) rfl); intro v1 w7 ho hb hg_ hn_; rw [HL2.out] at ho; obtain ⟨A2, c2, rfl, hl_, hC_⟩ := Kd.R_reads ho; have HS := Aside0.mk (Rst.below HS.out hb); have HOL2 := Aside0.mk ho; have HLL2 := Aside0.mk hl_; clear ho hb hg_ hn_ hl_ hC_) | (go_at_call 7; (with_reducible refine (rec_Add0 g gm A1 c1 z1 (0) _ _ HS.out.bel.size HS.out.rc HS.out.rr (fun W hW => row_tou HOz1.out HS.out.rc hW) HLz1.out HB1.out ⟨by decide, by decide⟩).mono ?_); rintro e w4 ⟨rfl, v', hv, hr, hat, ht⟩; rw [HA1.out] at hv; obtain ⟨Ar, cr, rfl, hl_, hC_⟩ := Kd.R_reads hr; have HS := Aside0.mk (Rst.add HS.out hv hr hat ht); clear hv hr hat ht hl_ hC_) | (go_at_call 7; (with_reducible refine (rec_Add g gm Ar A2 cr c2 z1 L2 (2) _ _ HS.out.bel.size HS.out.rc HS.out.rr (fun W hW => row_tou HOL2.out HS.out.rc hW) HLL2.out HB3.out ⟨by decide, by decide⟩).mono ?_); rintro e w8 ⟨rfl, v', hv, hr, hat, ht⟩; rw [HZ2.out] at hr; rw [HA2.out] at hv; obtain ⟨As, cs, rfl, hl_, hC_⟩ := Kd.R_reads hr; have HS := Aside0.mk (Rst.add HS.out hv hr hat ht); clear hv hr hat ht hl_ hC_) | (go_at_call 11; (with_reducible refine (rec_Since g gm 1 As cs z2 3 ((DataW.map []).put (keyS ⟨#[97]⟩) (.lit (.int .i64 2))) ⟨#[97]⟩ 2 _ HS.out.rc (Kd.R_reads' HS.out.rr).2.2 (Kd.R_reads' HS.out.rr).2.1 HB2.out HS.out.mp (by decide) (Maps.has_put_same Maps.isMap_empty (keyS_lit _) _) (Maps.atKey_put_same Maps.isMap_empty (keyS_lit _) _ _) HI2.out).mono ?_); rintro e w9 ⟨v9, rfl, hR, hb⟩; rw [HZ3.out] at hR; obtain ⟨Ag, cg, rfl, hl_, hC_⟩ := Kd.R_reads hR; have HS := Aside0.mk (Rst.below HS.out hb); obtain ⟨ad, rfl, ha_, hb_⟩ := at_T38 hC_ 0 (by decide) (by decide); have ha2_ : w9.cell? (ad.add 0) = some (.int .i64 3) := ha_; have ha3_ := ha2_; rw [addr_add0] at ha3_; clear hR hb hl_ hC_ ha_ hb_) | (go_at_call 8; (with_reducible refine (rec_All g gm _ _ _ HS.out.rc).mono ?_); rintro e w10 ⟨rfl, hb⟩; have HS := Aside0.mk (Rst.below HS.out hb); clear hb))
  go_ret
  exact ⟨rfl, HS.out.bel⟩
end Go.Proofs.Ytbldlkmnnhmmnaa.QTracePlays
namespace Go.Proofs.Ytbldlkmnnhmmnaa.QTracePlays
open Go.RowKit Go.Proofs.YtbldlkmnnhmmnaaW.PrintWords Go.Proofs.YtbldlkmnnhmmnaaW.PrintLast Go.Proofs.YtbldlkmnnhmmnaaW.PrintMore Go.Proofs.Ytbldlkmnnhmmnaa.Mono Go.Proofs.Ytbldlkmnnhmmnaa.Box
set_option linter.unusedVariables false
set_option linter.unusedSimpArgs false
theorem intOf_int (k : IntKind) (q : Int) : intOf (.int k q) = q := rfl
theorem meas_ {n i : Nat} (hi : i < n) (hb : i < 1000000) : n - (intOf (.int .i64 (wrap64 ((i : Int) + 1)))).toNat < n - (intOf (.int .i64 (i : Int))).toNat := by
  have hw : wrap64 ((i : Int) + 1) = ((i + 1 : Nat) : Int) := by unfold wrap64; omega
  rw [intOf_int, intOf_int, hw, Int.toNat_natCast, Int.toNat_natCast]
  exact Nat.sub_lt_sub_left hi (Nat.lt_succ_self i)
theorem em_true {s : ByteArray} (h : s = em) : s.toList.isEmpty = true := by rw [h, Lib.toList_data]; rfl
theorem em_false {s : ByteArray} (h : ¬ s = em) : s.toList.isEmpty = false := by
  rw [Lib.toList_data]
  cases s with
  | mk d =>
    cases hd : d.toList with
    | nil =>
      refine absurd ?_ h
      have : d = #[] := Array.toList_inj.1 (by rw [hd])
      rw [this]
    | cons a t => rfl
theorem mem_take_ {l : List Dd} {q n : Nat} (h : q < l.length) (hn : q < n) : l[q] ∈ l.take n := by
  rw [List.mem_iff_getElem]
  exact ⟨q, by rw [List.length_take]; omega, by simp⟩
theorem tl_ne {s t : ByteArray} (h : ¬ s = t) : ¬ s.toList = t.toList := fun e => h (by
  rw [Lib.toList_data, Lib.toList_data] at e
  cases s
  cases t
  simp only [ByteArray.mk.injEq]
  exact Array.toList_inj.1 e)
theorem slice_toD (A : Option Addr) (c : Nat) (l : List Dd) (m : Nat) (hm : m ≤ l.length) (hc : l.length ≤ c) (w : World) : (Instr.slice 22 (.slice A l.length c) none (some (.int .i64 (m : Int))) none).run Try.prog w = .ok (.slice A m c) w := by
  obtain ⟨ii, hii, hz_, hsz, hb_⟩ := info_parts (show (Try.prog.info? 28).map (fun i => (i.zero, i.size, i.bytes)) = some (some (.agg #[.string ⟨#[]⟩, .slice none 0 0]), 2, 40) by kernel_rfl)
  have h := cut_to (P := Try.prog) 22 28 .i64 Try.underlying22 hii A l.length c (m : Int) (by omega) (by omega) hc
  rw [Int.toNat_natCast] at h
  exact h w
set_option maxRecDepth 100000 in
set_option maxHeartbeats 4000000 in
theorem tr_law (l : List Dd) (A : Option Addr) (c : Nat) (w0 : World) (hC : Kd.C k28 w0 A l.length l) (hc : l.length ≤ c) (hN : ∀ d ∈ l, d.f0.size ≤ maxLen) :
    Calls Try.prog 3 #[.slice A l.length c] w0 fun e w' => e = .returned (.bool true) ∧ Below w0.heap.size w0 w' := by
  have HC := Aside0.mk hC
  have HCL := Aside0.mk hc
  have HNM := Aside0.mk hN
  clear hC hc hN
  go_enter Try.func3, Try.ntmps3
  by_cases h40 : (l.length : Int) > 40
  · have d1_ : decide ((l.length : Int) > 40) = true := decide_eq_true h40
    go_wp2_with (go_at_call 4; (with_reducible refine (tr_awake _).mono ?_); rintro e w1 ⟨rfl, hb⟩; have HB := Aside0.mk hb; clear hb)
    go_ret
    exact ⟨rfl, HB.out⟩
  · have d1_ : decide ((l.length : Int) > 40) = false := decide_eq_false h40
    have H40 : Aside0 (l.length ≤ 40) := ⟨by omega⟩
    clear h40
    go_wp2_with (first | (go_at_call 4; (with_reducible refine (tr_awake _).mono ?_); rintro e w1 ⟨rfl, hb⟩; have HB := Aside0.mk hb; clear hb) | (go_at_call 5; (with_reducible refine (rec_New _).mono ?_); rintro e w2 ⟨g, gm, rfl, hg, hgm, hne, hc, hm, hb⟩; have HS := Aside0.mk (Rst.start HB.out hg hgm hc hm hb); clear hg hgm hne hc hm hb))
    clear d1_ HB
    go_loopw [4, 23] (fun v4 v23 wr => ∃ (vr : Value) (i : Nat) (z : List Cy) (D : DataW Unit) (Aa : Option Addr) (ca : Nat), v4 = .slice Aa z.length ca ∧ v23 = .int .i64 (i : Int) ∧ i ≤ l.length ∧ Aside0 (st (l.take i) = (z, D)) ∧ Aside0 (∀ d ∈ l.take i, d.f1.length ≤ 50) ∧ Aside0 (z.length ≤ 50 * i) ∧ Aside0 (Rst w0 wr g gm vr (.slice Aa z.length ca) (z.length : Int) z z i D)) (fun v4 v23 _ => l.length - (intOf v23).toNat)
    case atStart => exact ⟨_, 0, [], _, none, 0, rfl, rfl, Nat.zero_le _, ⟨rfl⟩, ⟨by simp⟩, ⟨by simp⟩, HS⟩
    case round =>
      clear HS
      obtain ⟨vr, i, z, D, Aa, ca, rfl, rfl, hil, HST, HL5, HZ, HS⟩ := hrel
      obtain ⟨Ar, cr, rfl, hlr_, hCr_⟩ := Kd.R_reads HS.out.rr
      clear hlr_ hCr_
      by_cases hlt : i < l.length
      · obtain ⟨ad, A1, c1, rfl, hx0, hx1, hl1, hC1⟩ := at_D HC.out i hlt
        have hsn := take_snoc hlt
        have hme := List.getElem_mem hlt
        obtain ⟨d, hd_⟩ : ∃ d, l[i] = d := ⟨_, rfl⟩
        rw [hd_] at hx0 hx1 hl1 hC1 hsn hme
        have HSNd := Aside0.mk hsn
        have HCd := Aside0.mk hC1
        have HLd := Aside0.mk hl1
        have HMd := Aside0.mk hme
        have HEd := Aside0.mk hd_
        have cd0_ := (HS.out.bel.cell (World.block_lt_of_cell? w0 _ hx0)).trans hx0
        have cd1_ := (HS.out.bel.cell (World.block_lt_of_cell? w0 _ hx1)).trans hx1
        clear hsn hC1 hl1 hd_ hx0 hx1 hme
        have di1_ : decide ((i : Int) < (l.length : Int)) = true := decide_eq_true (by omega)
        have di2_ : decide (i < l.length) = true := decide_eq_true (by omega)
        have di3_ : ((i : Int) < (l.length : Int)) = True := eq_true (by omega)
        have di4_ : (i < l.length) = True := eq_true (by omega)
        have hw_ : wrap64 ((i : Int) + 1) = ((i + 1 : Nat) : Int) := by have := H40.out; unfold wrap64; omega
        have HI : Aside0 (i < maxLen) := ⟨by have := H40.out; unfold maxLen; omega⟩
        have HBZ : Aside0 (z.length ≤ 1000000) := ⟨by have := HZ.out; have := H40.out; omega⟩
        by_cases h50 : (d.f1.length : Int) > 50
        · have d5_ : decide ((d.f1.length : Int) > 50) = true := decide_eq_true h50
          go_wp2_with ((with_reducible refine gate_dst (N := 6) rfl ?_); refine make_box1 (p := 6) (v := 27) (T := 28) (old := #[.string ⟨#[]⟩, .slice none 0 0]) (cs := #[.string d.f0, .slice A1 d.f1.length c1]) rfl rfl rfl rfl rfl rfl rfl rfl ?hr (Nat.le_of_ble_eq_true rfl) (by decide) (by decide) (by decide) (by decide) rfl rfl (by kernel_rfl) (by rfl) ?_; (case hr => first | (go_simp; done) | (go_simp; rfl)); intro g6 w5 hge_ hx_ hbox_; have HS := Aside0.mk (Rst.below HS.out hx_.below); have BKg6 := Aside0.mk hbox_; have yg60_ : w5.cell? ⟨g6, 0, none⟩ = some (.string d.f0) := (blk_cell hbox_ 0).trans rfl; have yg61_ : w5.cell? ⟨g6, 1, none⟩ = some (.slice A1 d.f1.length c1) := (blk_cell hbox_ 1).trans rfl; clear hge_ hx_ hbox_)
          go_ret
          exact ⟨rfl, HS.out.bel⟩
        · have d5_ : decide ((d.f1.length : Int) > 50) = false := decide_eq_false h50
          have H50 : Aside0 (d.f1.length ≤ 50) := ⟨by omega⟩
          have HL6 : Aside0 (∀ x ∈ l.take (i + 1), x.f1.length ≤ 50) := ⟨fun x hx => by rw [HSNd.out] at hx; rcases List.mem_append.1 hx with h | h; exact HL5.out x h; rw [List.mem_singleton.1 h]; exact H50.out⟩
          clear h50
          by_cases hn : d.f0 = em
          · have n_ : d.f0.toList.isEmpty = true := em_true hn
            obtain ⟨z2, hz2⟩ : ∃ z2, z ++ d.f1 = z2 := ⟨_, rfl⟩
            have hlen2 : z.length + d.f1.length = z2.length := by rw [← hz2, List.length_append]
            have HZ2 := Aside0.mk hz2
            have HAL : Aside0 ((z.length : Int) + (d.f1.length : Int) = (z2.length : Int)) := ⟨by omega⟩
            have HB2 : Aside0 (z2.length ≤ 1000000) := ⟨by have := HZ.out; have := H40.out; have := H50.out; omega⟩
            have HZ3 : Aside0 (z2.length ≤ 50 * (i + 1)) := ⟨by have := HZ.out; have := H50.out; omega⟩
            have HBD : Aside0 (z.length + d.f1.length ≤ 1000000) := ⟨by have := HB2.out; omega⟩
            have HST2 : Aside0 (st (l.take (i + 1)) = (z2, D)) := ⟨by rw [HSNd.out, st_snoc, HST.out]; unfold stStep; rw [if_pos hn]; exact congrArg (fun q => (q, D)) HZ2.out⟩
            have hcut1 := slice_toD (some ad) c l i (by omega) HCL.out
            clear hz2 hlen2 hn
            go_wp2_with (first | ((with_reducible refine gate_dst (N := 6) rfl ?_); refine make_box1 (p := 6) (v := 27) (T := 28) (old := #[.string ⟨#[]⟩, .slice none 0 0]) (cs := #[.string d.f0, .slice A1 d.f1.length c1]) rfl rfl rfl rfl rfl rfl rfl rfl ?hr (Nat.le_of_ble_eq_true rfl) (by decide) (by decide) (by decide) (by decide) rfl rfl (by kernel_rfl) (by rfl) ?_; (case hr => first | (go_simp; done) | (go_simp; rfl)); intro g6 w5 hge_ hx_ hbox_; have HS := Aside0.mk (Rst.below HS.out hx_.below); have BKg6 := Aside0.mk hbox_; have yg60_ : w5.cell? ⟨g6, 0, none⟩ = some (.string d.f0) := (blk_cell hbox_ 0).trans rfl; have yg61_ : w5.cell? ⟨g6, 1, none⟩ = some (.slice A1 d.f1.length c1) := (blk_cell hbox_ 1).trans rfl; clear hge_ hx_ hbox_) | (go_at_call 7; (with_reducible refine (rec_Add g gm Ar A1 cr c1 z d.f1 (z.length : Int) w0.heap.size _ HS.out.bel.size HS.out.rc HS.out.rr (fun W hW => Kd.C_below HCd.out (hW.below HS.out.bel HS.out.bel.size (fun k hk => by rw [hk]; exact HS.out.hg))) HLd.out HBD.out ⟨by omega, by have := HBZ.out; omega⟩).mono ?_); rintro e w6 ⟨rfl, v', hv, hr, hat, ht⟩; have hbk := (ht.block g6 (blk_lt BKg6.out) (fun e => by rcases e with e | e; exact blk_ne BKg6.out HS.out.rc (by decide) e; exact rw_ne HS.out.rr BKg6.out (by decide) e)).trans BKg6.out; rw [HZ2.out] at hr; rw [HAL.out] at hv; obtain ⟨Ar2, cr2, rfl, hl_, hC_⟩ := Kd.R_reads hr; have HS := Aside0.mk (Rst.add HS.out hv hr hat ht); clear BKg6 yg60_ yg61_; have BKg6 := Aside0.mk hbk; have yg61_ : w6.cell? ⟨g6, 1, none⟩ = some (.slice A1 d.f1.length c1) := (blk_cell hbk 1).trans rfl; clear hv hr hat ht hbk hl_ hC_) | ((with_reducible refine gate_builtin (b := .append) (xs := #[.tmp 43, .tmp 45]) rfl ?_); at_builtin; refine Kd.R_append_rows k38 (Rr := k38.K w6) (w0 := w6) w0.heap.size rfl (.tmp 43) (.tmp 45) 26 38 (.agg #[.int .i64 0, .int .u8 0]) 16 rfl Try.underlying26 ?aI rfl (by decide) (by omega) (.slice Aa z.length ca) z d.f1 A1 _ c1 (fun _ => True) (fun _ => False) rfl rfl ?aO ?aR ?aM (fun _ h => h.elim) (fun _ _ => trivial) (Below.refl _ _) ?aS ?aL ?_; (case aI => kernel_rfl); (case aM => intro x_ cs_ h; obtain rfl := k38_open h; exact k38_mkM _ _ _ x_); (case aO => exact HS.out.ra); (case aR => exact Kd.C_below HCd.out HS.out.bel); (case aS => exact HS.out.bel.size); (case aL => have := HBD.out; omega); intro v7 w7 ho hb hgr hat; rw [HZ2.out] at ho; obtain ⟨Aa2, ca2, rfl, hl_, hC_⟩ := Kd.R_reads ho; have HS := Aside0.mk (Rst.app HS.out ho hgr hat); clear ho hb hgr hat hl_ hC_ yg61_ BKg6) | (go_at_call 8; (with_reducible refine (rec_All g gm _ _ _ HS.out.rc).mono ?_); rintro e w8 ⟨rfl, hb⟩; have HS := Aside0.mk (Rst.below HS.out hb); clear hb) | (go_at_call 10; (with_reducible refine (rec_List g gm Ar2 cr2 z2 _ _ HS.out.rc (Kd.R_reads' HS.out.rr).2.2 (Kd.R_reads' HS.out.rr).2.1 HB2.out).mono ?_); rintro e w9 ⟨v9, rfl, hR, hb⟩; obtain ⟨Al, cl, rfl, hl_, hC_⟩ := Kd.R_reads hR; have HS := Aside0.mk (Rst.below HS.out hb); have HLC := Aside0.mk hC_; have HLL := Aside0.mk hl_; clear hR hb hl_ hC_) | (go_at_call 9; (with_reducible refine (same_calls Al Aa2 cl ca2 z2 _ HLC.out HLL.out (Kd.R_reads' HS.out.ra).2.2 (Kd.R_reads' HS.out.ra).2.1 HB2.out).mono ?_); rintro e w10 ⟨rfl, hb⟩; have HS := Aside0.mk (Rst.below HS.out hb); clear hb HLC HLL))
            clear hcut1 n_ hw_ d5_ di1_ di2_ di3_ di4_
            have HLT := Aside0.mk hlt
            clear hil
            go_loopw [63] (fun v63 wq => ∃ j : Nat, v63 = .int .i64 (j : Int) ∧ j ≤ i ∧ Aside0 (Rst w0 wq g gm (.slice Ar2 z2.length cr2) (.slice Aa2 z2.length ca2) (z2.length : Int) z2 z2 i D)) (fun v63 _ => i - (intOf v63).toNat)
            case atStart => exact ⟨0, rfl, Nat.zero_le _, HS⟩
            case round =>
              clear HS
              obtain ⟨j, rfl, hji, HS⟩ := hrel
              by_cases hlj : j < i
              · have hlj2 : j < l.length := by omega
                obtain ⟨ad', Am, cm, hA_, hx0, hx1, hl1, hC1⟩ := at_D HC.out j hlj2
                obtain rfl : ad = ad' := Option.some.inj hA_
                clear hA_
                have hsn := take_snoc hlj2
                have hme := List.getElem_mem hlj2
                obtain ⟨m, hd_⟩ : ∃ m, l[j] = m := ⟨_, rfl⟩
                rw [hd_] at hx0 hx1 hl1 hC1 hsn hme
                have HSNm := Aside0.mk hsn
                have HCm := Aside0.mk hC1
                have HLm := Aside0.mk hl1
                have HMm := Aside0.mk hme
                have HEm := Aside0.mk hd_
                have cm0_ := (HS.out.bel.cell (World.block_lt_of_cell? w0 _ hx0)).trans hx0
                have cm1_ := (HS.out.bel.cell (World.block_lt_of_cell? w0 _ hx1)).trans hx1
                clear hsn hC1 hl1 hd_ hx0 hx1 hme
                have dj1_ : decide ((j : Int) < (i : Int)) = true := decide_eq_true (by omega)
                have dj2_ : decide (j < i) = true := decide_eq_true (by omega)
                have dj3_ : ((j : Int) < (i : Int)) = True := eq_true (by omega)
                have dj4_ : (j < i) = True := eq_true (by omega)
                have hwj_ : wrap64 ((j : Int) + 1) = ((j + 1 : Nat) : Int) := by have := H40.out; have := HLT.out; unfold wrap64; omega
                have hwi_ : wrap64 ((i : Int) + 1) = ((i + 1 : Nat) : Int) := by have := H40.out; have := HLT.out; unfold wrap64; omega
                have HLJ := Aside0.mk hlj
                have hcut2 : ∀ w, (Instr.slice 22 (.slice (some ad) l.length c) none (some (.int .i64 ((i : Int) + 1))) none).run Try.prog w = .ok (.slice (some ad) (i + 1) c) w := slice_toD (some ad) c l (i + 1) (by have := HLT.out; omega) HCL.out
                clear hlj
                go_wp2_with ((with_reducible refine gate_dst (N := 8) rfl ?_); refine make_box (p := 8) (v := 66) (T := 28) (old := #[.string ⟨#[]⟩, .slice none 0 0]) (cs := #[.string m.f0, .slice Am m.f1.length cm]) rfl rfl rfl rfl rfl ?hr (Nat.le_of_ble_eq_true rfl) (by decide) rfl rfl (by kernel_rfl) (by rfl) ?_; (case hr => first | (go_simp; done) | (go_simp; rfl)); intro g8 w10 hge_ hx_ hbox_; have HS := Aside0.mk (Rst.below HS.out hx_.below); have BKg8 := Aside0.mk hbox_; have yg80_ : w10.cell? ⟨g8, 0, none⟩ = some (.string m.f0) := (blk_cell hbox_ 0).trans rfl; have yg81_ : w10.cell? ⟨g8, 1, none⟩ = some (.slice Am m.f1.length cm) := (blk_cell hbox_ 1).trans rfl; clear hge_ hx_ hbox_)
                clear hcut2 hwi_ dj1_ dj2_ dj3_ dj4_
                go_loopw [9, 10, 72] (fun v9 v10 v72 ws => ∃ (As : Option Addr) (cs : Nat) (y : List Cy) (f : Bool) (q : Nat), v9 = .slice As y.length cs ∧ v10 = .bool f ∧ v72 = .int .i64 (q : Int) ∧ q ≤ i + 1 ∧ Aside0 (si m.f0 (l.take q) = (f, y)) ∧ Aside0 (y.length ≤ 50 * q) ∧ Aside0 (RW ws w0.heap.size (.slice As y.length cs) y) ∧ Aside0 (NeRow (.slice Ar2 z2.length cr2) (.slice As y.length cs)) ∧ Aside0 (NeRow (.slice Aa2 z2.length ca2) (.slice As y.length cs)) ∧ Aside0 (ws.heap[g8]? = some (.cells #[.string m.f0, .slice Am m.f1.length cm] 28 (0, 0))) ∧ Aside0 (Rst w0 ws g gm (.slice Ar2 z2.length cr2) (.slice Aa2 z2.length ca2) (z2.length : Int) z2 z2 i D)) (fun v9 v10 v72 _ => i + 1 - (intOf v72).toNat)
                case atStart => exact ⟨none, 0, [], false, 0, rfl, rfl, rfl, Nat.zero_le _, ⟨rfl⟩, ⟨by simp⟩, ⟨Kd.R_nil _ _ _ _ _⟩, ⟨ne_nil _⟩, ⟨ne_nil _⟩, BKg8, HS⟩
                case round =>
                  clear HS
                  obtain ⟨As, cs, y, f, q, rfl, rfl, rfl, hqi, HSI, HY, HRS, HN1, HN2, BKg8, HS⟩ := hrel
                  have yg80_ : wr.cell? ⟨g8, 0, none⟩ = some (.string m.f0) := (blk_cell BKg8.out 0).trans rfl
                  by_cases hlq : q < i + 1
                  · have hlq2 : q < l.length := by omega
                    obtain ⟨ad', Ax, cx, hA_, hx0, hx1, hl1, hC1⟩ := at_D HC.out q hlq2
                    obtain rfl : ad = ad' := Option.some.inj hA_
                    clear hA_
                    have hsn := take_snoc hlq2
                    have hme := List.getElem_mem hlq2
                    obtain ⟨x, hd_⟩ : ∃ x, l[q] = x := ⟨_, rfl⟩
                    rw [hd_] at hx0 hx1 hl1 hC1 hsn hme
                    have HSNx := Aside0.mk hsn
                    have HCx := Aside0.mk hC1
                    have HLx := Aside0.mk hl1
                    have HMx := Aside0.mk hme
                    have HEx := Aside0.mk hd_
                    have cx0_ := (HS.out.bel.cell (World.block_lt_of_cell? w0 _ hx0)).trans hx0
                    have cx1_ := (HS.out.bel.cell (World.block_lt_of_cell? w0 _ hx1)).trans hx1
                    clear hsn hC1 hl1 hd_ hx0 hx1 hme
                    have d71_ : decide ((q : Int) < ((i + 1 : Nat) : Int)) = true := decide_eq_true (by omega)
                    have d72_ : decide (q < i + 1) = true := decide_eq_true hlq
                    have d73_ : ((q : Int) < ((i + 1 : Nat) : Int)) = True := eq_true (by omega)
                    have d74_ : (q < i + 1) = True := eq_true hlq
                    have d75_ : ((q : Int) < (i : Int) + 1) = True := eq_true (by omega)
                    have d76_ : decide ((q : Int) < (i : Int) + 1) = true := decide_eq_true (by omega)
                    have hx5 : x.f1.length ≤ 50 := HL6.out x (by rw [← HEx.out]; exact mem_take_ hlq2 hlq)
                    have HX5 := Aside0.mk hx5
                    have HLQ := Aside0.mk hlq
                    have hwq_ : wrap64 ((q : Int) + 1) = ((q + 1 : Nat) : Int) := by have := H40.out; have := HLT.out; unfold wrap64; omega
                    clear hx5 hlq
                    by_cases hxm : x.f0 = m.f0 ∧ m.f0 ≠ em
                    · have hxq := hxm.1
                      have e1_ : (x.f0.toList == m.f0.toList) = true := beq_iff_eq.2 (congrArg ByteArray.toList hxq)
                      have e2_ : decide (x.f0.toList = m.f0.toList) = true := decide_eq_true (congrArg ByteArray.toList hxq)
                      have e3_ : (x.f0.toList = m.f0.toList) = True := eq_true (congrArg ByteArray.toList hxq)
                      have n1_ : m.f0.toList.isEmpty = false := em_false hxm.2
                      have n2_ : x.f0.toList.isEmpty = false := em_false (fun e => hxm.2 (hxm.1.symm.trans e))
                      have HSI2 : Aside0 (si m.f0 (l.take (q + 1)) = (true, [])) := ⟨by rw [HSNx.out, si_snoc, HSI.out]; unfold siStep; rw [if_pos hxm]⟩
                      have HYB : Aside0 (([] : List Cy).length ≤ 50 * (q + 1)) := ⟨by simp⟩
                      clear hxm hxq
                      cases f with
                      | false =>
                        go_wp2_with ((with_reducible refine gate_dst (N := 12) rfl ?_); refine make_box (p := 12) (v := 75) (T := 28) (old := #[.string ⟨#[]⟩, .slice none 0 0]) (cs := #[.string x.f0, .slice Ax x.f1.length cx]) rfl rfl rfl rfl rfl ?hr (Nat.le_of_ble_eq_true rfl) (by decide) rfl rfl (by kernel_rfl) (by rfl) ?_; (case hr => first | (go_simp; done) | (go_simp; rfl)); intro g12 w11 hge_ hx_ hbox_; have HS := Aside0.mk (Rst.below HS.out hx_.below); have HRS := Aside0.mk (Kd.R_below HRS.out hx_.below); have BKg8 := Aside0.mk (blk_below BKg8.out hx_.below); have yg80_ : w11.cell? ⟨g8, 0, none⟩ = some (.string m.f0) := (blk_cell BKg8.out 0).trans rfl; have BKg12 := Aside0.mk hbox_; have yg120_ : w11.cell? ⟨g12, 0, none⟩ = some (.string x.f0) := (blk_cell hbox_ 0).trans rfl; have yg121_ : w11.cell? ⟨g12, 1, none⟩ = some (.slice Ax x.f1.length cx) := (blk_cell hbox_ 1).trans rfl; clear hge_ hx_ hbox_)
                        clear HRS HN1 HN2
                        have HRS : Aside0 (RW w11 w0.heap.size (.slice none ([] : List Cy).length 0) []) := ⟨Kd.R_nil _ _ _ _ _⟩
                        have HN1 := Aside0.mk (ne_nil (.slice Ar2 z2.length cr2))
                        have HN2 := Aside0.mk (ne_nil (.slice Aa2 z2.length ca2))
                        go_roundw
                        case rel => exact ⟨none, 0, [], true, q + 1, rfl, rfl, (by first | rfl | rw [hwq_] | simp [hwq_]), by have := HLQ.out; omega, HSI2, HYB, HRS, HN1, HN2, BKg8, HS⟩
                        case measure => exact meas_ HLQ.out (by have := H40.out; omega)
                      | true =>
                        go_wp2_with ((with_reducible refine gate_dst (N := 12) rfl ?_); refine make_box (p := 12) (v := 75) (T := 28) (old := #[.string ⟨#[]⟩, .slice none 0 0]) (cs := #[.string x.f0, .slice Ax x.f1.length cx]) rfl rfl rfl rfl rfl ?hr (Nat.le_of_ble_eq_true rfl) (by decide) rfl rfl (by kernel_rfl) (by rfl) ?_; (case hr => first | (go_simp; done) | (go_simp; rfl)); intro g12 w11 hge_ hx_ hbox_; have HS := Aside0.mk (Rst.below HS.out hx_.below); have HRS := Aside0.mk (Kd.R_below HRS.out hx_.below); have BKg8 := Aside0.mk (blk_below BKg8.out hx_.below); have yg80_ : w11.cell? ⟨g8, 0, none⟩ = some (.string m.f0) := (blk_cell BKg8.out 0).trans rfl; have BKg12 := Aside0.mk hbox_; have yg120_ : w11.cell? ⟨g12, 0, none⟩ = some (.string x.f0) := (blk_cell hbox_ 0).trans rfl; have yg121_ : w11.cell? ⟨g12, 1, none⟩ = some (.slice Ax x.f1.length cx) := (blk_cell hbox_ 1).trans rfl; clear hge_ hx_ hbox_)
                        clear HRS HN1 HN2
                        have HRS : Aside0 (RW w11 w0.heap.size (.slice none ([] : List Cy).length 0) []) := ⟨Kd.R_nil _ _ _ _ _⟩
                        have HN1 := Aside0.mk (ne_nil (.slice Ar2 z2.length cr2))
                        have HN2 := Aside0.mk (ne_nil (.slice Aa2 z2.length ca2))
                        go_roundw
                        case rel => exact ⟨none, 0, [], true, q + 1, rfl, rfl, (by first | rfl | rw [hwq_] | simp [hwq_]), by have := HLQ.out; omega, HSI2, HYB, HRS, HN1, HN2, BKg8, HS⟩
                        case measure => exact meas_ HLQ.out (by have := H40.out; omega)
                    · by_cases hxq : x.f0 = m.f0
                      · have e1_ : (x.f0.toList == m.f0.toList) = true := beq_iff_eq.2 (congrArg ByteArray.toList hxq)
                        have e2_ : decide (x.f0.toList = m.f0.toList) = true := decide_eq_true (congrArg ByteArray.toList hxq)
                        have e3_ : (x.f0.toList = m.f0.toList) = True := eq_true (congrArg ByteArray.toList hxq)
                        have hme_ : m.f0 = em := Classical.byContradiction fun e => hxm ⟨hxq, e⟩
                        have hxe : x.f0 = em := hxq.trans hme_
                        have n1_ : m.f0.toList.isEmpty = true := em_true hme_
                        have n2_ : x.f0.toList.isEmpty = true := em_true hxe
                        clear hme_
                        cases f with
                        | false =>
                          have HSI2 : Aside0 (si m.f0 (l.take (q + 1)) = (false, y)) := ⟨by rw [HSNx.out, si_snoc, HSI.out]; unfold siStep; rw [if_neg hxm, if_neg (fun z => by cases z.2)]⟩
                          have HYB : Aside0 (y.length ≤ 50 * (q + 1)) := ⟨by have := HY.out; omega⟩
                          clear hxe hxm hxq
                          go_wp2_with ((with_reducible refine gate_dst (N := 12) rfl ?_); refine make_box (p := 12) (v := 75) (T := 28) (old := #[.string ⟨#[]⟩, .slice none 0 0]) (cs := #[.string x.f0, .slice Ax x.f1.length cx]) rfl rfl rfl rfl rfl ?hr (Nat.le_of_ble_eq_true rfl) (by decide) rfl rfl (by kernel_rfl) (by rfl) ?_; (case hr => first | (go_simp; done) | (go_simp; rfl)); intro g12 w11 hge_ hx_ hbox_; have HS := Aside0.mk (Rst.below HS.out hx_.below); have HRS := Aside0.mk (Kd.R_below HRS.out hx_.below); have BKg8 := Aside0.mk (blk_below BKg8.out hx_.below); have yg80_ : w11.cell? ⟨g8, 0, none⟩ = some (.string m.f0) := (blk_cell BKg8.out 0).trans rfl; have BKg12 := Aside0.mk hbox_; have yg120_ : w11.cell? ⟨g12, 0, none⟩ = some (.string x.f0) := (blk_cell hbox_ 0).trans rfl; have yg121_ : w11.cell? ⟨g12, 1, none⟩ = some (.slice Ax x.f1.length cx) := (blk_cell hbox_ 1).trans rfl; clear hge_ hx_ hbox_)
                          go_roundw
                          case rel => exact ⟨As, cs, y, false, q + 1, rfl, rfl, (by first | rfl | rw [hwq_] | simp [hwq_]), by have := HLQ.out; omega, HSI2, HYB, HRS, HN1, HN2, BKg8, HS⟩
                          case measure => exact meas_ HLQ.out (by have := H40.out; omega)
                        | true =>
                          obtain ⟨y3, hy3⟩ : ∃ y3, y ++ x.f1 = y3 := ⟨_, rfl⟩
                          have HY3 := Aside0.mk hy3
                          have hl3 : y.length + x.f1.length = y3.length := by rw [← hy3, List.length_append]
                          have HBD : Aside0 (y.length + x.f1.length ≤ 1000000) := ⟨by have := HY.out; have := HX5.out; have := H40.out; have := HLQ.out; omega⟩
                          have HYB : Aside0 (y3.length ≤ 50 * (q + 1)) := ⟨by have := HY.out; have := HX5.out; omega⟩
                          have HSI2 : Aside0 (si m.f0 (l.take (q + 1)) = (true, y3)) := ⟨by rw [HSNx.out, si_snoc, HSI.out]; unfold siStep; rw [if_neg hxm, if_pos ⟨hxe, rfl⟩]; exact congrArg (fun t => (true, t)) HY3.out⟩
                          clear hy3 hl3 hxe hxm hxq
                          go_wp2_with (first | ((with_reducible refine gate_dst (N := 12) rfl ?_); refine make_box (p := 12) (v := 75) (T := 28) (old := #[.string ⟨#[]⟩, .slice none 0 0]) (cs := #[.string x.f0, .slice Ax x.f1.length cx]) rfl rfl rfl rfl rfl ?hr (Nat.le_of_ble_eq_true rfl) (by decide) rfl rfl (by kernel_rfl) (by rfl) ?_; (case hr => first | (go_simp; done) | (go_simp; rfl)); intro g12 w11 hge_ hx_ hbox_; have HS := Aside0.mk (Rst.below HS.out hx_.below); have HRS := Aside0.mk (Kd.R_below HRS.out hx_.below); have BKg8 := Aside0.mk (blk_below BKg8.out hx_.below); have yg80_ : w11.cell? ⟨g8, 0, none⟩ = some (.string m.f0) := (blk_cell BKg8.out 0).trans rfl; have BKg12 := Aside0.mk hbox_; have yg120_ : w11.cell? ⟨g12, 0, none⟩ = some (.string x.f0) := (blk_cell hbox_ 0).trans rfl; have yg121_ : w11.cell? ⟨g12, 1, none⟩ = some (.slice Ax x.f1.length cx) := (blk_cell hbox_ 1).trans rfl; clear hge_ hx_ hbox_) | ((with_reducible refine gate_builtin (b := .append) (xs := #[.tmp 82, .tmp 84]) rfl ?_); at_builtin; refine Kd.R_append_rows k38 (Rr := k38.K w11) (w0 := w11) w0.heap.size rfl (.tmp 82) (.tmp 84) 26 38 (.agg #[.int .i64 0, .int .u8 0]) 16 rfl Try.underlying26 ?aI rfl (by decide) (by omega) (.slice As y.length cs) y x.f1 Ax _ cx (fun _ => True) (fun _ => False) rfl rfl ?aO ?aR ?aM (fun _ h => h.elim) (fun _ _ => trivial) (Below.refl _ _) ?aS ?aL ?_; (case aI => kernel_rfl); (case aM => intro x_ cs_ h; obtain rfl := k38_open h; exact k38_mkM _ _ _ x_); (case aO => exact HRS.out); (case aR => exact Kd.C_below HCx.out HS.out.bel); (case aS => exact HS.out.bel.size); (case aL => have := HBD.out; omega); intro v12 w12 ho hb hgr hat; rw [HY3.out] at ho; obtain ⟨As2, cs2, rfl, hl_, hC_⟩ := Kd.R_reads ho; have hb12 := (hgr.block g12 (blk_lt BKg12.out) (fun e => rw_ne HRS.out BKg12.out (by decide) e.symm)).trans BKg12.out; have hb8 := (hgr.block g8 (blk_lt BKg8.out) (fun e => rw_ne HRS.out BKg8.out (by decide) e.symm)).trans BKg8.out; have N1 := ne_new HN1.out HS.out.rr hat; have N2 := ne_new HN2.out HS.out.ra hat; have hs_ := Rst.other HS.out HRS.out HN1.out HN2.out hgr; clear HS HRS HN1 HN2 BKg8; have HS := Aside0.mk hs_; have HRS := Aside0.mk ho; have HN1 := Aside0.mk N1; have HN2 := Aside0.mk N2; have BKg8 := Aside0.mk hb8; have yg80_ : w12.cell? ⟨g8, 0, none⟩ = some (.string m.f0) := (blk_cell BKg8.out 0).trans rfl; have yg120_ : w12.cell? ⟨g12, 0, none⟩ = some (.string x.f0) := (blk_cell hb12 0).trans rfl; clear hb12 ho hb hgr hat hl_ hC_ hb8 N1 N2 hs_))
                          go_roundw
                          case rel => exact ⟨As2, cs2, y3, true, q + 1, rfl, rfl, (by first | rfl | rw [hwq_] | simp [hwq_]), by have := HLQ.out; omega, HSI2, HYB, HRS, HN1, HN2, BKg8, HS⟩
                          case measure => exact meas_ HLQ.out (by have := H40.out; omega)
                      · have e1_ : (x.f0.toList == m.f0.toList) = false := beq_eq_false_iff_ne.2 (tl_ne hxq)
                        have e2_ : decide (x.f0.toList = m.f0.toList) = false := decide_eq_false (tl_ne hxq)
                        have e3_ : (x.f0.toList = m.f0.toList) = False := eq_false (tl_ne hxq)
                        by_cases hxe : x.f0 = em
                        · have n2_ : x.f0.toList.isEmpty = true := em_true hxe
                          cases f with
                          | false =>
                            have HSI2 : Aside0 (si m.f0 (l.take (q + 1)) = (false, y)) := ⟨by rw [HSNx.out, si_snoc, HSI.out]; unfold siStep; rw [if_neg hxm, if_neg (fun z => by cases z.2)]⟩
                            have HYB : Aside0 (y.length ≤ 50 * (q + 1)) := ⟨by have := HY.out; omega⟩
                            clear hxe hxm hxq
                            go_wp2_with ((with_reducible refine gate_dst (N := 12) rfl ?_); refine make_box (p := 12) (v := 75) (T := 28) (old := #[.string ⟨#[]⟩, .slice none 0 0]) (cs := #[.string x.f0, .slice Ax x.f1.length cx]) rfl rfl rfl rfl rfl ?hr (Nat.le_of_ble_eq_true rfl) (by decide) rfl rfl (by kernel_rfl) (by rfl) ?_; (case hr => first | (go_simp; done) | (go_simp; rfl)); intro g12 w11 hge_ hx_ hbox_; have HS := Aside0.mk (Rst.below HS.out hx_.below); have HRS := Aside0.mk (Kd.R_below HRS.out hx_.below); have BKg8 := Aside0.mk (blk_below BKg8.out hx_.below); have yg80_ : w11.cell? ⟨g8, 0, none⟩ = some (.string m.f0) := (blk_cell BKg8.out 0).trans rfl; have BKg12 := Aside0.mk hbox_; have yg120_ : w11.cell? ⟨g12, 0, none⟩ = some (.string x.f0) := (blk_cell hbox_ 0).trans rfl; have yg121_ : w11.cell? ⟨g12, 1, none⟩ = some (.slice Ax x.f1.length cx) := (blk_cell hbox_ 1).trans rfl; clear hge_ hx_ hbox_)
                            go_roundw
                            case rel => exact ⟨As, cs, y, false, q + 1, rfl, rfl, (by first | rfl | rw [hwq_] | simp [hwq_]), by have := HLQ.out; omega, HSI2, HYB, HRS, HN1, HN2, BKg8, HS⟩
                            case measure => exact meas_ HLQ.out (by have := H40.out; omega)
                          | true =>
                            obtain ⟨y3, hy3⟩ : ∃ y3, y ++ x.f1 = y3 := ⟨_, rfl⟩
                            have HY3 := Aside0.mk hy3
                            have hl3 : y.length + x.f1.length = y3.length := by rw [← hy3, List.length_append]
                            have HBD : Aside0 (y.length + x.f1.length ≤ 1000000) := ⟨by have := HY.out; have := HX5.out; have := H40.out; have := HLQ.out; omega⟩
                            have HYB : Aside0 (y3.length ≤ 50 * (q + 1)) := ⟨by have := HY.out; have := HX5.out; omega⟩
                            have HSI2 : Aside0 (si m.f0 (l.take (q + 1)) = (true, y3)) := ⟨by rw [HSNx.out, si_snoc, HSI.out]; unfold siStep; rw [if_neg hxm, if_pos ⟨hxe, rfl⟩]; exact congrArg (fun t => (true, t)) HY3.out⟩
                            clear hy3 hl3 hxe hxm hxq
                            go_wp2_with (first | ((with_reducible refine gate_dst (N := 12) rfl ?_); refine make_box (p := 12) (v := 75) (T := 28) (old := #[.string ⟨#[]⟩, .slice none 0 0]) (cs := #[.string x.f0, .slice Ax x.f1.length cx]) rfl rfl rfl rfl rfl ?hr (Nat.le_of_ble_eq_true rfl) (by decide) rfl rfl (by kernel_rfl) (by rfl) ?_; (case hr => first | (go_simp; done) | (go_simp; rfl)); intro g12 w11 hge_ hx_ hbox_; have HS := Aside0.mk (Rst.below HS.out hx_.below); have HRS := Aside0.mk (Kd.R_below HRS.out hx_.below); have BKg8 := Aside0.mk (blk_below BKg8.out hx_.below); have yg80_ : w11.cell? ⟨g8, 0, none⟩ = some (.string m.f0) := (blk_cell BKg8.out 0).trans rfl; have BKg12 := Aside0.mk hbox_; have yg120_ : w11.cell? ⟨g12, 0, none⟩ = some (.string x.f0) := (blk_cell hbox_ 0).trans rfl; have yg121_ : w11.cell? ⟨g12, 1, none⟩ = some (.slice Ax x.f1.length cx) := (blk_cell hbox_ 1).trans rfl; clear hge_ hx_ hbox_) | ((with_reducible refine gate_builtin (b := .append) (xs := #[.tmp 82, .tmp 84]) rfl ?_); at_builtin; refine Kd.R_append_rows k38 (Rr := k38.K w11) (w0 := w11) w0.heap.size rfl (.tmp 82) (.tmp 84) 26 38 (.agg #[.int .i64 0, .int .u8 0]) 16 rfl Try.underlying26 ?aI rfl (by decide) (by omega) (.slice As y.length cs) y x.f1 Ax _ cx (fun _ => True) (fun _ => False) rfl rfl ?aO ?aR ?aM (fun _ h => h.elim) (fun _ _ => trivial) (Below.refl _ _) ?aS ?aL ?_; (case aI => kernel_rfl); (case aM => intro x_ cs_ h; obtain rfl := k38_open h; exact k38_mkM _ _ _ x_); (case aO => exact HRS.out); (case aR => exact Kd.C_below HCx.out HS.out.bel); (case aS => exact HS.out.bel.size); (case aL => have := HBD.out; omega); intro v12 w12 ho hb hgr hat; rw [HY3.out] at ho; obtain ⟨As2, cs2, rfl, hl_, hC_⟩ := Kd.R_reads ho; have hb12 := (hgr.block g12 (blk_lt BKg12.out) (fun e => rw_ne HRS.out BKg12.out (by decide) e.symm)).trans BKg12.out; have hb8 := (hgr.block g8 (blk_lt BKg8.out) (fun e => rw_ne HRS.out BKg8.out (by decide) e.symm)).trans BKg8.out; have N1 := ne_new HN1.out HS.out.rr hat; have N2 := ne_new HN2.out HS.out.ra hat; have hs_ := Rst.other HS.out HRS.out HN1.out HN2.out hgr; clear HS HRS HN1 HN2 BKg8; have HS := Aside0.mk hs_; have HRS := Aside0.mk ho; have HN1 := Aside0.mk N1; have HN2 := Aside0.mk N2; have BKg8 := Aside0.mk hb8; have yg80_ : w12.cell? ⟨g8, 0, none⟩ = some (.string m.f0) := (blk_cell BKg8.out 0).trans rfl; have yg120_ : w12.cell? ⟨g12, 0, none⟩ = some (.string x.f0) := (blk_cell hb12 0).trans rfl; clear hb12 ho hb hgr hat hl_ hC_ hb8 N1 N2 hs_))
                            go_roundw
                            case rel => exact ⟨As2, cs2, y3, true, q + 1, rfl, rfl, (by first | rfl | rw [hwq_] | simp [hwq_]), by have := HLQ.out; omega, HSI2, HYB, HRS, HN1, HN2, BKg8, HS⟩
                            case measure => exact meas_ HLQ.out (by have := H40.out; omega)
                        · have n2_ : x.f0.toList.isEmpty = false := em_false hxe
                          have HSI2 : Aside0 (si m.f0 (l.take (q + 1)) = (f, y)) := ⟨by rw [HSNx.out, si_snoc, HSI.out]; unfold siStep; rw [if_neg hxm, if_neg (fun z => hxe z.1)]⟩
                          have HYB : Aside0 (y.length ≤ 50 * (q + 1)) := ⟨by have := HY.out; omega⟩
                          clear hxe hxm hxq
                          go_wp2_with ((with_reducible refine gate_dst (N := 12) rfl ?_); refine make_box (p := 12) (v := 75) (T := 28) (old := #[.string ⟨#[]⟩, .slice none 0 0]) (cs := #[.string x.f0, .slice Ax x.f1.length cx]) rfl rfl rfl rfl rfl ?hr (Nat.le_of_ble_eq_true rfl) (by decide) rfl rfl (by kernel_rfl) (by rfl) ?_; (case hr => first | (go_simp; done) | (go_simp; rfl)); intro g12 w11 hge_ hx_ hbox_; have HS := Aside0.mk (Rst.below HS.out hx_.below); have HRS := Aside0.mk (Kd.R_below HRS.out hx_.below); have BKg8 := Aside0.mk (blk_below BKg8.out hx_.below); have yg80_ : w11.cell? ⟨g8, 0, none⟩ = some (.string m.f0) := (blk_cell BKg8.out 0).trans rfl; have BKg12 := Aside0.mk hbox_; have yg120_ : w11.cell? ⟨g12, 0, none⟩ = some (.string x.f0) := (blk_cell hbox_ 0).trans rfl; have yg121_ : w11.cell? ⟨g12, 1, none⟩ = some (.slice Ax x.f1.length cx) := (blk_cell hbox_ 1).trans rfl; clear hge_ hx_ hbox_)
                          go_roundw
                          case rel => exact ⟨As, cs, y, f, q + 1, rfl, rfl, (by first | rfl | rw [hwq_] | simp [hwq_]), by have := HLQ.out; omega, HSI2, HYB, HRS, HN1, HN2, BKg8, HS⟩
                          case measure => exact meas_ HLQ.out (by have := H40.out; omega)
                  · obtain rfl : q = i + 1 := by omega
                    have d71_ : decide (((i + 1 : Nat) : Int) < ((i + 1 : Nat) : Int)) = false := decide_eq_false (by omega)
                    have d72_ : decide (i + 1 < i + 1) = false := decide_eq_false (by omega)
                    have HBY : Aside0 (y.length ≤ 1000000) := ⟨by have := HY.out; have := H40.out; omega⟩
                    by_cases hs : m.f0 = em
                    · have HNO : Aside0 (Maps.has D (keyS m.f0) = false) := ⟨by rw [hs]; have := st_none (l.take (i + 1)); rw [HST2.out] at this; exact this⟩
                      have n1_ : m.f0.toList.isEmpty = true := em_true hs
                      clear hs
                      go_wp2_with (go_at_call 11; (with_reducible refine (rec_Since_no g gm i _ _ D m.f0 _ HS.out.rc HS.out.mp (HNM.out _ HMm.out) HNO.out).mono ?_); rintro e w13 ⟨rfl, hb⟩; have HS := Aside0.mk (Rst.below HS.out hb); have yg80_ : w13.cell? ⟨g8, 0, none⟩ = some (.string m.f0) := (blk_cell (blk_below BKg8.out hb) 0).trans rfl; clear hb)
                      go_roundw
                      case rel => exact ⟨j + 1, (by first | rfl | rw [hwj_] | simp [hwj_]), by have := HLJ.out; omega, HS⟩
                      case measure => exact meas_ HLJ.out (by have := H40.out; omega)
                    · obtain ⟨hs1, hs2⟩ := st_since hs (l.take (i + 1))
                      have hf : (si m.f0 (l.take (i + 1))).1 = true := hs2 ⟨m, by rw [← HEm.out]; exact mem_take_ hlj2 (by have := HLJ.out; omega), rfl⟩
                      obtain ⟨i0, hi0, hh0, ha0, hy0⟩ := hs1 hf
                      rw [HSI.out] at hf hy0
                      rw [HST2.out] at hi0 hh0 ha0 hy0
                      dsimp only at hf hi0 hh0 ha0 hy0
                      subst hf
                      have HI0 := Aside0.mk hi0
                      have HH0 := Aside0.mk hh0
                      have HA0 := Aside0.mk ha0
                      have HY0 := Aside0.mk hy0.symm
                      have n1_ : m.f0.toList.isEmpty = false := em_false hs
                      clear hs1 hs2 hi0 hh0 ha0 hy0 hs
                      go_wp2_with (first | (go_at_call 11; (with_reducible refine (rec_Since g gm i Ar2 cr2 z2 _ D m.f0 i0 _ HS.out.rc (Kd.R_reads' HS.out.rr).2.2 (Kd.R_reads' HS.out.rr).2.1 HB2.out HS.out.mp (HNM.out _ HMm.out) HH0.out HA0.out HI0.out).mono ?_); rintro e w13 ⟨v13, rfl, hR, hb⟩; rw [HY0.out] at hR; obtain ⟨Ag, cg, rfl, hl_, hC_⟩ := Kd.R_reads hR; have HS := Aside0.mk (Rst.below HS.out hb); have HRS := Aside0.mk (Kd.R_below HRS.out hb); have HGC := Aside0.mk hC_; have HGL := Aside0.mk hl_; have yg80_ : w13.cell? ⟨g8, 0, none⟩ = some (.string m.f0) := (blk_cell (blk_below BKg8.out hb) 0).trans rfl; clear hR hb hl_ hC_) | (go_at_call 9; (with_reducible refine (same_calls Ag As cg cs y _ HGC.out HGL.out (Kd.R_reads' HRS.out).2.2 (Kd.R_reads' HRS.out).2.1 HBY.out).mono ?_); rintro e w14 ⟨rfl, hb⟩; have HS := Aside0.mk (Rst.below HS.out hb); clear hb))
                      go_roundw
                      case rel => exact ⟨j + 1, (by first | rfl | rw [hwj_] | simp [hwj_]), by have := HLJ.out; omega, HS⟩
                      case measure => exact meas_ HLJ.out (by have := H40.out; omega)
              · obtain rfl : j = i := by omega
                have dj1_ : decide ((j : Int) < (j : Int)) = false := decide_eq_false (by omega)
                have dj2_ : decide (j < j) = false := decide_eq_false (by omega)
                have hwj_ : wrap64 ((j : Int) + 1) = ((j + 1 : Nat) : Int) := by have := H40.out; have := HLT.out; unfold wrap64; omega
                go_wp2
                go_roundw
                case rel => exact ⟨_, j + 1, z2, D, Aa2, ca2, rfl, (by first | rfl | rw [hwj_] | simp [hwj_]), HLT.out, HST2, HL6, HZ3, ⟨HS.out.mono (by omega)⟩⟩
                case measure => exact meas_ HLT.out (by have := H40.out; omega)
          · have n_ : d.f0.toList.isEmpty = false := em_false hn
            have HST2 : Aside0 (st (l.take (i + 1)) = (z, D.put (keyS d.f0) (.lit (.int .i64 (z.length : Int))))) := ⟨by rw [HSNd.out, st_snoc, HST.out]; unfold stStep; rw [if_neg hn]⟩
            clear hn
            go_wp2_with (first | ((with_reducible refine gate_dst (N := 6) rfl ?_); refine make_box1 (p := 6) (v := 27) (T := 28) (old := #[.string ⟨#[]⟩, .slice none 0 0]) (cs := #[.string d.f0, .slice A1 d.f1.length c1]) rfl rfl rfl rfl rfl rfl rfl rfl ?hr (Nat.le_of_ble_eq_true rfl) (by decide) (by decide) (by decide) (by decide) rfl rfl (by kernel_rfl) (by rfl) ?_; (case hr => first | (go_simp; done) | (go_simp; rfl)); intro g6 w5 hge_ hx_ hbox_; have HS := Aside0.mk (Rst.below HS.out hx_.below); have BKg6 := Aside0.mk hbox_; have yg60_ : w5.cell? ⟨g6, 0, none⟩ = some (.string d.f0) := (blk_cell hbox_ 0).trans rfl; have yg61_ : w5.cell? ⟨g6, 1, none⟩ = some (.slice A1 d.f1.length c1) := (blk_cell hbox_ 1).trans rfl; clear hge_ hx_ hbox_) | (go_at_call 6; (with_reducible refine (rec_Mark g gm i Ar cr z (z.length : Int) D d.f0 _ HS.out.rc HS.out.mp (HNM.out _ HMd.out) HI.out HBZ.out).mono ?_); rintro e w6 ⟨rfl, hm2, ht⟩; have HS2 := Aside0.mk (Rst.mark HS.out ht hm2); clear hm2 ht))
            go_roundw
            case rel => exact ⟨_, i + 1, z, _, Aa, ca, rfl, (by first | rfl | rw [hw_] | simp [hw_]), by omega, HST2, HL6, ⟨by have := HZ.out; omega⟩, HS2⟩
            case measure => exact meas_ hlt (by have := H40.out; omega)
      · obtain rfl : i = l.length := by omega
        have di1_ : decide ((l.length : Int) < (l.length : Int)) = false := decide_eq_false (by omega)
        have di2_ : decide (l.length < l.length) = false := decide_eq_false (by omega)
        go_wp2
        go_ret
        exact ⟨rfl, HS.out.bel⟩
end Go.Proofs.Ytbldlkmnnhmmnaa.QTracePlays
namespace Go.Proofs.Ytbldlkmnnhmmnaa.QTracePlays
open Go.RowKit Go.Proofs.YtbldlkmnnhmmnaaW.PrintWords
def incunablelaw11_TracePlays.f (l0 : List S28) : Option Bool := if ∀ d ∈ l0, d.f0.size ≤ maxLen then some true else none
theorem incunablelaw11_TracePlays.calls (A0 : Option Addr) (c0 : Nat) (l0 : List (S28)) (r : Bool) (w : World) (hr0 : Kd.C k28 w A0 l0.length l0) (hc0 : l0.length ≤ c0) (h : incunablelaw11_TracePlays.f l0 = some r) :
    Calls Try.prog 3 #[.slice A0 l0.length c0] w fun e w' => e = .returned (.bool r) ∧ Below w.heap.size w w' := by
  unfold incunablelaw11_TracePlays.f at h
  split at h
  · rename_i hn
    obtain rfl := Option.some.inj h
    exact tr_law l0 A0 c0 w hr0 hc0 hn
  · cases h
end Go.Proofs.Ytbldlkmnnhmmnaa.QTracePlays
namespace Go.Proofs.Ytbldlkmnnhmmnaa.OpenKit
open Go.RowKit Go.Proofs.YtbldlkmnnhmmnaaW.PrintWords Go.ChangeShapes Go.WideShapes
def Opens {α : Type} (P : Program) (t : TypeId) (d : Kd α) (wf : α → Prop) : Prop :=
  ∀ {H : Type} (enc : TypeId × Value → H) (W : World) (spare : Nat → Bool) (held : Bool) (fuel : Nat) (cs : List Value) (x : DataW H × List MemPlace),
    DataW.trod enc P W 0 spare held fuel t cs = some x → ∃ a, d.K W a cs ∧ wf a
section
variable {P : Program} {t e : TypeId}
theorem opens_int {k : IntKind} (ht : P.underlying t = some (.int k)) : Opens P t (Kd.int k) (fun a => (Lit.int k a).wf = true) := by
  intro H enc W spare held fuel cs x h
  obtain ⟨n, rfl, _, hw⟩ := DataW.trod_int ht h
  exact ⟨n, rfl, hw⟩
theorem opens_string (ht : P.underlying t = some .string) : Opens P t Kd.string (fun s => s.size ≤ maxLen) := by
  intro H enc W spare held fuel cs x h
  obtain ⟨n, rfl, _, hs⟩ := DataW.trod_string ht h
  exact ⟨n, rfl, hs⟩
theorem cells_some {W : World} {a : Addr} {n : Nat} {cs : List Value} (h : W.cells? 0 a n = some cs) : cs.length = n ∧ ∀ i u, cs[i]? = some u → W.cell? (a.add i) = some u := by
  unfold World.cells? at h
  rw [if_pos (Nat.zero_le _)] at h
  have hl := mapM_some_length h
  rw [List.length_range] at hl
  refine ⟨hl, fun i u hu => ?_⟩
  have hi : i < n := by
    rw [← hl]
    exact (List.getElem?_eq_some_iff.1 hu).1
  have := mapM_some_get h i i (by simp [hi])
  rw [this, hu]
theorem opens_slice {α : Type} [Inhabited α] {d : Kd α} {wf : α → Prop} (ht : P.underlying t = some (.slice e)) (he : Opens P e d wf) (hsz : P.cellsOf e = d.sz) :
    Opens P t (Kd.slice e d) (fun xs => xs.length ≤ maxLen ∧ ∀ x ∈ xs, wf x) := by
  intro H enc W spare held fuel cs x h
  rcases Go.Deep.open_slice ht h with ⟨rfl, _⟩ | ⟨a, len, cap, m, n, D, Pl, rfl, _, hl, hm, hmm, _, hel⟩
  · exact ⟨[], ⟨none, 0, rfl, Nat.le_refl _, ⟨rfl, Nat.zero_le _, fun h => absurd h (Nat.lt_irrefl 0)⟩⟩, Nat.zero_le _, by simp⟩
  have hlm : len ≤ m := by rw [hmm]; split <;> omega
  have hx : ∀ i, i < len → ∃ y : α, ∃ c : List Value, c.length = d.sz ∧ d.K W y c ∧ wf y ∧ ∀ j u, c[j]? = some u → W.cell? ((a.add (i * d.sz)).add j) = some u := by
    intro i hi
    obtain ⟨c, hc, hr⟩ := hel i (by omega)
    obtain ⟨y, hy, hw⟩ := he enc W spare held n c _ hr
    rw [hsz] at hc
    obtain ⟨h1, h2⟩ := cells_some hc
    exact ⟨y, c, h1, hy, hw, h2⟩
  obtain ⟨f, hf⟩ := Go.Deep.choose_lt hx
  have hlen : ((List.range len).map f).length = len := by simp
  have hmax : len ≤ maxLen := Nat.le_trans hl hm
  refine ⟨(List.range len).map f, ⟨some a, cap, by rw [hlen], by rw [hlen]; exact hl, ?_⟩, by rw [hlen]; exact hmax, ?_⟩
  · refine ⟨rfl, by rw [hlen]; exact hmax, fun _ => ⟨a, rfl, fun j p hj => ?_⟩⟩
    have hj' : j < len := by
      have := (List.getElem?_eq_some_iff.1 hj).1
      rwa [hlen] at this
    have e1 : f j = p := by simpa [hj'] using hj
    subst e1
    obtain ⟨c, h1, h2, _, h3⟩ := hf j hj'
    exact ⟨c, h1, h2, fun i u hu => by rw [← Go.Deep.add_add]; exact h3 i u hu⟩
  · intro y hy
    obtain ⟨i, hi, rfl⟩ := List.mem_map.1 hy
    obtain ⟨_, _, _, hw, _⟩ := hf i (List.mem_range.1 hi)
    exact hw
def OpensF {α : Type} (P : Program) (o : Nat) (fs : List Field) (d : Kd α) (wf : α → Prop) : Prop :=
  ∀ {H : Type} (enc : TypeId × Value → H) (W : World) (spare : Nat → Bool) (held : Bool) (n : Nat) (cs : List Value),
    (∀ f, f ∈ fs → ∃ x, DataW.trod enc P W 0 spare held n f.type ((cs.drop f.offset).take (P.cellsOf f.type)) = some x) → ∃ a, d.K W a ((cs.drop o).take d.sz) ∧ wf a
theorem opensF_one {α : Type} {d : Kd α} {wf : α → Prop} {f : Field} {o : Nat} (ho : f.offset = o) (he : Opens P f.type d wf) (hsz : P.cellsOf f.type = d.sz) : OpensF P o [f] d wf := by
  intro H enc W spare held n cs h
  obtain ⟨x, hx⟩ := h f (by simp)
  rw [ho, hsz] at hx
  exact he enc W spare held n _ _ hx
theorem opensF_cons {α β : Type} {d : Kd α} {d' : Kd β} {wf : α → Prop} {wf' : β → Prop} {f : Field} {fs : List Field} {o : Nat} (ho : f.offset = o) (he : Opens P f.type d wf) (hsz : P.cellsOf f.type = d.sz)
    (hr : OpensF P (o + d.sz) fs d' wf') : OpensF P o (f :: fs) (Kd.pair d d') (fun x => wf x.1 ∧ wf' x.2) := by
  intro H enc W spare held n cs h
  obtain ⟨x, hx⟩ := h f (by simp)
  rw [ho, hsz] at hx
  obtain ⟨a, ha, hwa⟩ := he enc W spare held n _ _ hx
  obtain ⟨b, hb, hwb⟩ := hr enc W spare held n cs fun g hg => h g (by simp [hg])
  refine ⟨(a, b), ⟨_, _, ?_, ha, hb⟩, hwa, hwb⟩
  show (cs.drop o).take (d.sz + d'.sz) = _
  rw [List.take_add, List.drop_drop]
theorem opens_struct {α β : Type} {d : Kd α} {wf : α → Prop} {fs : Array Field} (ht : P.underlying t = some (.struct fs)) (hf : OpensF P 0 fs.toList d wf) (hsz : P.cellsOf t = d.sz) (g : β → α) (mk : α → β) (hg : ∀ x, g (mk x) = x) :
    Opens P t (Kd.iso d g) (fun y => wf (g y)) := by
  intro H enc W spare held fuel cs x h
  obtain ⟨xs, n, _, _, hl, hn, hfs⟩ := DataW.trod_struct ht h
  obtain ⟨a, ha, hw⟩ := hf enc W spare held n cs (by
    intro f hf
    obtain ⟨i, hi, e⟩ := List.getElem_of_mem hf
    have e' : fs[i]? = some f := by
      rw [← Array.getElem?_toList]
      rw [List.getElem?_eq_getElem hi, e]
    have hlt : i < xs.length := by rw [hn]; simpa using hi
    exact ⟨xs[i], by rw [hfs i f e', List.getElem?_eq_getElem hlt]⟩)
  refine ⟨mk a, ?_, ?_⟩
  · show d.K W (g (mk a)) cs
    rw [hg]
    rwa [List.drop_zero, List.take_of_length_le (by omega)] at ha
  · show wf (g (mk a))
    rw [hg]
    exact hw
theorem sized_any {H : Type} {enc : TypeId × Value → H} {W : World} {base : Nat} {spare : Nat → Bool} {held : Bool} {a : Option Addr} {len cap : Nat} {d : DataW H} {ps : List MemPlace} {ts : List TypeId} {ds : List (DataW H)} {j : Nat}
    (hsz : (DataW.weightsEach P ts ds).all (· ≤ reachBytes) = true) (ht : ts[j]? = some t) (hd : ds[j]? = some d) (hu : P.underlying t = some (.slice e)) {B : Nat} (hB : P.bytesOf e = B)
    (h : DataW.Trod enc P W base spare held t (.slice a len cap) d ps) : len * B ≤ 140737488351232 := by
  obtain ⟨fuel, hf⟩ := h
  rcases Go.Deep.open_slice hu hf with ⟨hcs, _⟩ | ⟨x, l, c, m, n, D, Pl, hcs, _, hl, _, _, hx, _⟩
  · simp [Value.cells] at hcs
    obtain ⟨rfl, rfl, rfl⟩ := hcs
    simp
  · simp [Value.cells] at hcs
    obtain ⟨rfl, rfl, rfl⟩ := hcs
    obtain ⟨hx, _⟩ := Prod.mk.inj hx
    subst hx
    have z := sized_slice hsz ht hd hu
    rw [hB] at z
    refine Nat.le_trans (Nat.mul_le_mul_right _ ?_) z
    simp
end
end Go.Proofs.Ytbldlkmnnhmmnaa.OpenKit
namespace Go.Proofs.Ytbldlkmnnhmmnaa.Pure
open Go.RowKit Go.Proofs.Ytbldlkmnnhmmnaa.QTracePlays Go.Proofs.YtbldlkmnnhmmnaaW.PrintWords
def StmTracePlays : Prop := ∀ (l0 : List (S28)), (l0.length * 40 ≤ 140737488351232) → ((fun xs : List (S28) => xs.length ≤ maxLen ∧ ∀ x ∈ xs, (fun y : S28 => (fun s : ByteArray => s.size ≤ maxLen) y.f0 ∧ (fun xs : List (S38) => xs.length ≤ maxLen ∧ ∀ x ∈ xs, (fun y : S38 => (fun a : Int => (Lit.int .i64 a).wf = true) y.f0 ∧ (fun a : Int => (Lit.int .u8 a).wf = true) y.f1) x) y.f1) x) l0) → incunablelaw11_TracePlays.f l0 = some true
end Go.Proofs.Ytbldlkmnnhmmnaa.Pure
namespace Go.Proofs.Ytbldlkmnnhmmnaa.Pure
open Go.RowKit Go.Proofs.Ytbldlkmnnhmmnaa.QTracePlays Go.Proofs.YtbldlkmnnhmmnaaW.PrintWords
theorem TracePlays : StmTracePlays := by
  intro l _ hl
  unfold incunablelaw11_TracePlays.f
  rw [if_pos]
  exact fun d hd => (hl.2 d hd).1
end Go.Proofs.Ytbldlkmnnhmmnaa.Pure
