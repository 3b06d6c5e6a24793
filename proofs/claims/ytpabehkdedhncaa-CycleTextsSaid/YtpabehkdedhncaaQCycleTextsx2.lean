-- Written by my program pp.py for this claim
import Derived.Test.YtpabehkdedhncaaQCycleTextsx0
namespace Go.Proofs.Ytpabehkdedhncaa.QCycleTexts
open Go.RowKit Go.Proofs.YtpabehkdedhncaaW.PrintWords Go.Proofs.YtpabehkdedhncaaW.PrintLast Go.Proofs.YtpabehkdedhncaaW.PrintMore
attribute [local go_sem] max2_int min2_int max_two min_two max_three min_three max_four min_four   -- for this text's walks alone
set_option linter.unusedVariables false
set_option linter.unusedSimpArgs false

/-! ### cycle_Right: function 23 -/
def cycle_Right.f (a0_0 : Int) (a0_1 : Int) : Option (Bool) := if a0_0 ≥ 1 then (some (decide (a0_0 ≤ 4))) else (some false)
set_option maxHeartbeats 8000000 in
set_option maxRecDepth 100000 in
theorem cycle_Right.calls (a0_0 : Int) (a0_1 : Int) (r : Bool) (w : World) (h : cycle_Right.f a0_0 a0_1 = some r) :
    Calls Try.prog 23 #[.agg #[.int .i64 a0_0, .int .u8 a0_1]] w fun e w' => e = .returned (.bool r) ∧ Below w.heap.size w w' := by
  have hu42 := Try.underlying42
  have HB := Aside0.mk (Below.refl w.heap.size w)
  have H : (if a0_0 ≥ 1 then (some (decide (a0_0 ≤ 4))) else (some false)) = some r := h
  clear h
  by_cases c2 : a0_0 ≥ 1
  · rw [if_pos c2] at H
    have c2b0 : decide (1 ≤ a0_0) = true := decide_eq_true c2
    clear c2
    obtain rfl := Option.some.inj H
    go_enter Try.func23, Try.ntmps23
    go_wp2_with (first | ((with_reducible refine gate_dst (N := 1) rfl ?_); refine box_event ?hg (N := 1) ?hd (cs := #[.int .i64 a0_0, .int .u8 a0_1]) (t := 42) ?hr ?_; (case hd => rfl); (case hg => rfl); (case hr => first | (go_simp; done) | (go_simp; rfl)); intro gb101 hg w3 hbox hb; have n0_ := Aside0.mk (below_step (by repeat (first | (with_reducible first | exact HB.out | apply below_alloc | apply pw_below_drewN | apply below_drew1) | exact HB.out)) hb); have n1_ := Aside0.mk (hbox); have n2_ := Aside0.mk ((by rw [hg]; exact (below_size (by repeat (first | (with_reducible first | exact HB.out | apply below_alloc | apply pw_below_drewN | apply below_drew1) | exact HB.out))) : w.heap.size ≤ gb101)); have n3_ := Aside0.mk ((by rw [hg]; exact (below_size (by repeat (first | (with_reducible first | exact HB.out | apply below_alloc | apply pw_below_drewN | apply below_drew1) | exact HB.out))) : w.heap.size ≤ gb101)); clear HB; have HB := n0_; have BK101 := n1_; have GW101 := n2_; have GE101 := n3_; clear n0_ n1_ n2_ n3_; clear hb hbox hg; have hcz4_0 : w3.cell? ⟨gb101, 0, none⟩ = some (.int .i64 a0_0) := (blk_cell BK101.out 0).trans rfl; have hcz4_1 : w3.cell? ⟨gb101, 1, none⟩ = some (.int .u8 a0_1) := (blk_cell BK101.out 1).trans rfl; have hfz4_0 := blk_frozen BK101.out 0; have hfz4_1 := blk_frozen BK101.out 1))
    go_ret
    exact ⟨by first | rfl | (simp [errW_none, errW_some] <;> rfl) | (simp [*, errW_none, errW_some] <;> rfl) | (have hz_ : ∀ z : Int, -9223372036854775808 ≤ z → z ≤ 9223372036854775807 → wrap64 z = z := (fun z h1_ h2_ => by unfold wrap64; omega); rw [hz_] <;> first | rfl | omega), by repeat (first | (with_reducible first | exact HB.out | apply below_alloc | apply pw_below_drewN | apply below_drew1 | refine below_set ?_ GE101.out) | exact HB.out)⟩
  · rw [if_neg c2] at H
    have c2b0 : decide (1 ≤ a0_0) = false := decide_eq_false c2
    clear c2
    obtain rfl := Option.some.inj H
    go_enter Try.func23, Try.ntmps23
    go_wp2_with (first | ((with_reducible refine gate_dst (N := 1) rfl ?_); refine box_event ?hg (N := 1) ?hd (cs := #[.int .i64 a0_0, .int .u8 a0_1]) (t := 42) ?hr ?_; (case hd => rfl); (case hg => rfl); (case hr => first | (go_simp; done) | (go_simp; rfl)); intro gb101 hg w5 hbox hb; have n0_ := Aside0.mk (below_step (by repeat (first | (with_reducible first | exact HB.out | apply below_alloc | apply pw_below_drewN | apply below_drew1) | exact HB.out)) hb); have n1_ := Aside0.mk (hbox); have n2_ := Aside0.mk ((by rw [hg]; exact (below_size (by repeat (first | (with_reducible first | exact HB.out | apply below_alloc | apply pw_below_drewN | apply below_drew1) | exact HB.out))) : w.heap.size ≤ gb101)); have n3_ := Aside0.mk ((by rw [hg]; exact (below_size (by repeat (first | (with_reducible first | exact HB.out | apply below_alloc | apply pw_below_drewN | apply below_drew1) | exact HB.out))) : w.heap.size ≤ gb101)); clear HB; have HB := n0_; have BK101 := n1_; have GW101 := n2_; have GE101 := n3_; clear n0_ n1_ n2_ n3_; clear hb hbox hg; have hcz6_0 : w5.cell? ⟨gb101, 0, none⟩ = some (.int .i64 a0_0) := (blk_cell BK101.out 0).trans rfl; have hcz6_1 : w5.cell? ⟨gb101, 1, none⟩ = some (.int .u8 a0_1) := (blk_cell BK101.out 1).trans rfl; have hfz6_0 := blk_frozen BK101.out 0; have hfz6_1 := blk_frozen BK101.out 1))
    go_ret
    exact ⟨by first | rfl | (simp [errW_none, errW_some] <;> rfl) | (simp [*, errW_none, errW_some] <;> rfl) | (have hz_ : ∀ z : Int, -9223372036854775808 ≤ z → z ≤ 9223372036854775807 → wrap64 z = z := (fun z h1_ h2_ => by unfold wrap64; omega); rw [hz_] <;> first | rfl | omega), by repeat (first | (with_reducible first | exact HB.out | apply below_alloc | apply pw_below_drewN | apply below_drew1 | refine below_set ?_ GE101.out) | exact HB.out)⟩

/-! ### cycle_Text: function 20 (given) -/
def cycle_Text_letters : List UInt8 := [99, 97, 119, 114]
def cycle_Text_digits : List UInt8 := [48, 49, 50, 51, 52, 53, 54, 55, 56, 57, 97, 98, 99, 100, 101, 102]
/-- a cycle's three letters -/
def cycle_Text_item (c : S42) : List UInt8 := [cycle_Text_letters.getD (c.f0 - 1).toNat 0, cycle_Text_digits.getD (c.f1.toNat / 16) 0, cycle_Text_digits.getD (c.f1.toNat % 16) 0]
def cycle_Text_text : List S42 → List UInt8
  | [] => []
  | c :: l => cycle_Text_item c ++ l.flatMap fun c => 32 :: cycle_Text_item c
theorem cycle_Text_text_snoc (l : List S42) (c : S42) : cycle_Text_text (l ++ [c]) = cycle_Text_text l ++ ((if l = [] then [] else [32]) ++ cycle_Text_item c) := by
  cases l with
  | nil => simp [cycle_Text_text]
  | cons d l => simp [cycle_Text_text, List.flatMap_append]
theorem cycle_Text_text_length : ∀ l : List S42, (cycle_Text_text l).length ≤ 4 * l.length
  | [] => Nat.le_refl _
  | c :: l => by
    have h : ∀ l : List S42, (l.flatMap fun c => 32 :: cycle_Text_item c).length = 4 * l.length := by
      intro l
      induction l with
      | nil => rfl
      | cons d l ih => rw [List.flatMap_cons, List.length_append, ih, List.length_cons, List.length_cons]; show 3 + 1 + 4 * l.length = _; omega
    show (cycle_Text_item c ++ l.flatMap fun c => 32 :: cycle_Text_item c).length ≤ _
    rw [List.length_append, h, List.length_cons]
    show 3 + 4 * l.length ≤ _
    omega
def cycle_Text_right (c : S42) : Bool := decide (1 ≤ c.f0) && decide (c.f0 ≤ 4)
def cycle_Text_byte (c : S42) : Bool := decide (0 ≤ c.f1) && decide (c.f1 < 256)
def cycle_Text.f (l : List S42) : Option (ByteArray × Int) := if l.all cycle_Text_byte then some (if 16777216 < l.length then (⟨#[]⟩, 3) else if l.all cycle_Text_right then (⟨(cycle_Text_text l).toArray⟩, 0) else (⟨#[]⟩, 2)) else none
theorem cycle_Text_take {l : List S42} {k : Nat} (h : k < l.length) : l.take (k + 1) = l.take k ++ [rd_T42 l (k : Int)] := by
  rw [List.take_succ_eq_append_getElem h]
  congr 2
  simp [rd_T42, h]
theorem cycle_Text_right_f {c : S42} {b : Bool} (h : cycle_Text_right c = b) : cycle_Right.f c.f0 c.f1 = some b := by
  subst h
  unfold cycle_Right.f cycle_Text_right
  by_cases h : c.f0 ≥ 1
  · rw [if_pos h, decide_eq_true h, Bool.true_and]
  · rw [if_neg h, decide_eq_false h, Bool.false_and]
theorem cycle_Text_and15 {v : Int} (h0 : 0 ≤ v) (h1 : v < 256) : Go.bits .and .u8 v 15 = ((v.toNat % 16 : Nat) : Int) := by
  have key : ∀ n : Nat, n < 256 → Go.bits .and .u8 (n : Int) 15 = ((n % 16 : Nat) : Int) := by decide +kernel
  have := key v.toNat (by omega)
  rwa [show ((v.toNat : Nat) : Int) = v by omega] at this
theorem cycle_Text_take_nil {l : List S42} {k : Nat} (h : k < l.length) (e : l.take k = []) : k = 0 := by
  have := congrArg List.length e
  rw [List.length_take, List.length_nil] at this
  omega
theorem cycle_Text_meas {n k : Nat} (h : k < n) : n - (intOf (.int .i64 ((k : Int) + 1))).toNat < n - (intOf (.int .i64 (k : Int))).toNat := by
  simp only [intOf]
  omega
set_option maxHeartbeats 8000000 in
set_option maxRecDepth 100000 in
theorem cycle_Text.calls (A0 : Option Addr) (c0 : Nat) (l0 : List S42) (r1 : ByteArray) (r2 : Int) (w : World) (hr0 : Kd.C k42 w A0 l0.length l0) (hc0 : l0.length ≤ c0) (h : cycle_Text.f l0 = some (r1, r2)) :
    Calls Try.prog 20 #[.slice A0 l0.length c0] w fun e w' => e = .returned (.tuple #[.string r1, .int .i64 r2]) ∧ Below w.heap.size w w' := by
  have hu := Try.underlying42
  have HR0 := Aside0.mk hr0
  clear hr0 hc0
  unfold cycle_Text.f at h
  split at h
  · rename_i hby
    have HBY := Aside0.mk hby
    clear hby
    have H := Option.some.inj h
    clear h
    by_cases hbig : 16777216 < l0.length
    · rw [if_pos hbig] at H
      obtain ⟨rfl, rfl⟩ := Prod.mk.inj H
      have cb : decide ((16777216 : Int) < (l0.length : Int)) = true := decide_eq_true (by omega)
      have cb' : decide (16777216 < l0.length) = true := decide_eq_true hbig
      clear hbig H
      go_enter Try.func20, Try.ntmps20
      go_wp2
      go_ret2
      exact ⟨rfl, Below.refl _ _⟩
    rw [if_neg hbig] at H
    have HH := Aside0.mk H
    clear H
    have HN := Aside0.mk hbig
    have cb : decide ((16777216 : Int) < (l0.length : Int)) = false := decide_eq_false (by omega)
    have cb' : decide (16777216 < l0.length) = false := decide_eq_false hbig
    clear hbig
    have HO := Aside0.mk (BuilderKit.holds_new w)
    have HB := Aside0.mk (below_alloc (Below.refl w.heap.size w) (.cells #[.pointer none, .slice none 0 0] 81))
    go_enter Try.func20, Try.ntmps20
    go_wp2
    go_loopw [12] (fun v12 wr => ∃ k : Nat, k ≤ l0.length ∧ v12 = .int .i64 (k : Int) ∧ Aside0 ((l0.take k).all cycle_Text_right = true) ∧ Aside0 (BuilderKit.Holds w.heap.size (cycle_Text_text (l0.take k)) wr) ∧ Aside0 (Below w.heap.size w wr)) (fun v12 _ => l0.length - (intOf v12).toNat)
    case atStart => exact ⟨0, Nat.zero_le _, rfl, ⟨rfl⟩, HO, HB⟩
    case round =>
      clear HO HB
      obtain ⟨k, hk, rfl, HA, HO, HB⟩ := hrel
      by_cases hlt : k < l0.length
      · have p1 : 0 ≤ (k : Int) := by omega
        have q1 : (k : Int) < (l0.length : Int) := by omega
        obtain ⟨ad, ead, hx, hx1⟩ := at_T42 HR0.out (k : Int) p1 q1
        cases ead
        replace hx := (HB.out.cell (World.block_lt_of_cell? w _ hx)).trans hx
        replace hx1 := (HB.out.cell (World.block_lt_of_cell? w _ hx1)).trans hx1
        rw [Int.toNat_natCast] at hx hx1
        have HT := Aside0.mk (cycle_Text_take hlt)
        have HL := Aside0.mk (show k < l0.length ∧ l0.length ≤ 16777216 from ⟨hlt, by have := HN.out; omega⟩)
        have hcb : cycle_Text_byte (rd_T42 l0 (k : Int)) = true := List.all_eq_true.1 HBY.out _ (by
          have e : rd_T42 l0 (k : Int) = l0[k] := by simp [rd_T42, hlt]
          rw [e]
          exact List.getElem_mem hlt)
        have hmem : rd_T42 l0 (k : Int) ∈ l0 := by
          have e : rd_T42 l0 (k : Int) = l0[k] := by simp [rd_T42, hlt]
          rw [e]
          exact List.getElem_mem hlt
        have HM := Aside0.mk hmem
        clear hmem
        generalize rd_T42 l0 (k : Int) = c at hx hx1 HT hcb HM
        have hw : wrap64 ((k : Int) + 1) = (k : Int) + 1 := by have := HL.out; unfold wrap64; omega
        have c1 : decide ((k : Int) < (l0.length : Int)) = true := decide_eq_true q1
        have c1b : decide (k < l0.length) = true := decide_eq_true hlt
        replace p1 := eq_true p1
        replace q1 := eq_true q1
        clear hlt hk
        unfold cycle_Text_byte at hcb
        rw [Bool.and_eq_true, decide_eq_true_eq, decide_eq_true_eq] at hcb
        have HCB := Aside0.mk hcb
        clear hcb
        have BKc := Aside0.mk (blk_new wr (.cells #[.int .i64 c.f0, .int .u8 c.f1] 42))
        have HO1 := Aside0.mk (HO.out.alloc (.cells #[.int .i64 c.f0, .int .u8 c.f1] 42))
        have HB1 := Aside0.mk (below_alloc HB.out (.cells #[.int .i64 c.f0, .int .u8 c.f1] 42))
        have HNE := Aside0.mk (Nat.ne_of_gt HO.out.lt)
        clear HO HB
        cases hR : cycle_Text_right c
        · have HRf := Aside0.mk (cycle_Text_right_f hR)
          have HF := Aside0.mk (show l0.all cycle_Text_right = false from by
            rw [List.all_eq_false]
            exact ⟨c, HM.out, by rw [hR]; decide⟩)
          clear hR
          have H := HH.out
          rw [HF.out, if_neg (by decide)] at H
          obtain ⟨rfl, rfl⟩ := Prod.mk.inj H
          clear H
          go_wp2_with (go_at_call 23; (with_reducible refine (cycle_Right.calls _ _ _ _ HRf.out).mono ?_); rintro e w1 ⟨rfl, hb1⟩; have HB2 := Aside0.mk (below_step HB1.out hb1); clear hb1)
          go_ret2
          exact ⟨rfl, HB2.out⟩
        · have HRf := Aside0.mk (cycle_Text_right_f hR)
          have HR1 := Aside0.mk hR
          unfold cycle_Text_right at hR
          rw [Bool.and_eq_true, decide_eq_true_eq, decide_eq_true_eq] at hR
          obtain ⟨hk1, hk4⟩ := hR
          obtain ⟨uK, huK⟩ : ∃ u : UInt8, u = cycle_Text_letters.getD (c.f0 - 1).toNat 0 := ⟨_, rfl⟩
          obtain ⟨uH, huH⟩ : ∃ u : UInt8, u = cycle_Text_digits.getD (c.f1.toNat / 16) 0 := ⟨_, rfl⟩
          obtain ⟨uL, huL⟩ : ∃ u : UInt8, u = cycle_Text_digits.getD (c.f1.toNat % 16) 0 := ⟨_, rfl⟩
          have hixK : ∀ w, (Instr.index 9 (.string ⟨#[99, 97, 119, 114]⟩) (.int .i64 (c.f0 - 1))).run Try.prog w = .ok (.int .u8 (uK.toNat : Int)) w := fun w => by
            have := BuilderKit.index_str cycle_Text_letters .i64 (c.f0 - 1).toNat (by show (c.f0 - 1).toNat < 4; omega) w
            rw [huK]
            rwa [show (((c.f0 - 1).toNat : Nat) : Int) = c.f0 - 1 by omega] at this
          have hixH : ∀ w, (Instr.index 9 (.string ⟨#[48, 49, 50, 51, 52, 53, 54, 55, 56, 57, 97, 98, 99, 100, 101, 102]⟩) (.int .u8 (c.f1 / 16))).run Try.prog w = .ok (.int .u8 (uH.toNat : Int)) w := fun w => by
            have h2 := HCB.out
            have := BuilderKit.index_str cycle_Text_digits .u8 (c.f1.toNat / 16) (by show c.f1.toNat / 16 < 16; omega) w
            rw [huH]
            rwa [show ((c.f1.toNat / 16 : Nat) : Int) = c.f1 / 16 by omega] at this
          have hixL : ∀ w, (Instr.index 9 (.string ⟨#[48, 49, 50, 51, 52, 53, 54, 55, 56, 57, 97, 98, 99, 100, 101, 102]⟩) (.int .u8 (Go.bits .and .u8 c.f1 15))).run Try.prog w = .ok (.int .u8 (uL.toNat : Int)) w := fun w => by
            have h2 := HCB.out
            rw [cycle_Text_and15 h2.1 h2.2, huL]
            exact BuilderKit.index_str cycle_Text_digits .u8 (c.f1.toNat % 16) (by show c.f1.toNat % 16 < 16; omega) w
          have HIT := Aside0.mk (show cycle_Text_item c = [uK, uH, uL] from by rw [huK, huH, huL]; rfl)
          clear huK huH huL
          have HLEN := Aside0.mk (cycle_Text_text_length (l0.take k))
          by_cases hk0 : k = 0
          · have ck : decide ((0 : Int) < (k : Int)) = false := decide_eq_false (by omega)
            have ckb : decide (0 < k) = false := decide_eq_false (by omega)
            have HK0 := Aside0.mk hk0
            clear hk0
            go_wp2_with (go_at_call 23; (with_reducible refine (cycle_Right.calls _ _ _ _ HRf.out).mono ?_); rintro e w1 ⟨rfl, hb1⟩; have HB2 := Aside0.mk (below_step HB1.out hb1); have HO2 := Aside0.mk (HO1.out.below hb1); have BK2 := Aside0.mk (blk_below BKc.out hb1); have hc0 := blk_cell BK2.out 0; have hc1 := blk_cell BK2.out 1; clear hb1 HB1 HO1 BKc)
            (with_reducible refine (BuilderKit.write w.heap.size _ _ uK _ HO2.out rfl ?hlz2).mono ?_)
            case hlz2 => have := HLEN.out; have := HL.out; simp only [List.length_append, List.length_cons, List.length_nil, List.length_take] at *; omega
            rintro e w3 ⟨rfl, ho, hb, hkk⟩
            have HO3 := Aside0.mk ho
            have HB3 := Aside0.mk (HB2.out.trans hb)
            have BK3 := Aside0.mk (BuilderKit.kept_blk hkk BK2.out HNE.out (by decide))
            clear hc0 hc1
            have hc0 := blk_cell BK3.out 0
            have hc1 := blk_cell BK3.out 1
            clear HO2 HB2 BK2
            clear ho hb hkk
            go_wp2_with fail
            (with_reducible refine (BuilderKit.write w.heap.size _ _ uH _ HO3.out rfl ?hlz3).mono ?_)
            case hlz3 => have := HLEN.out; have := HL.out; simp only [List.length_append, List.length_cons, List.length_nil, List.length_take] at *; omega
            rintro e w4 ⟨rfl, ho, hb, hkk⟩
            have HO4 := Aside0.mk ho
            have HB4 := Aside0.mk (HB3.out.trans hb)
            have BK4 := Aside0.mk (BuilderKit.kept_blk hkk BK3.out HNE.out (by decide))
            clear hc0 hc1
            have hc0 := blk_cell BK4.out 0
            have hc1 := blk_cell BK4.out 1
            clear HO3 HB3 BK3
            clear ho hb hkk
            go_wp2_with fail
            (with_reducible refine (BuilderKit.write w.heap.size _ _ uL _ HO4.out rfl ?hlz4).mono ?_)
            case hlz4 => have := HLEN.out; have := HL.out; simp only [List.length_append, List.length_cons, List.length_nil, List.length_take] at *; omega
            rintro e w5 ⟨rfl, ho, hb, hkk⟩
            have HO5 := Aside0.mk ho
            have HB5 := Aside0.mk (HB4.out.trans hb)
            clear hc0 hc1 HO4 HB4 BK4
            clear ho hb hkk
            go_wp2
            go_roundw
            case rel => exact ⟨k + 1, HL.out.1, by go_num, ⟨by rw [HT.out, List.all_append, HA.out]; simp [HR1.out]⟩, ⟨by rw [HT.out, cycle_Text_text_snoc, if_pos (by rw [HK0.out]; rfl), HIT.out]; simpa using HO5.out⟩, HB5⟩
            case measure => rw [hw]; exact cycle_Text_meas HL.out.1
          · have ck : decide ((0 : Int) < (k : Int)) = true := decide_eq_true (by omega)
            have ckb : decide (0 < k) = true := decide_eq_true (by omega)
            have HK0 := Aside0.mk hk0
            clear hk0
            go_wp2_with (go_at_call 23; (with_reducible refine (cycle_Right.calls _ _ _ _ HRf.out).mono ?_); rintro e w1 ⟨rfl, hb1⟩; have HB2 := Aside0.mk (below_step HB1.out hb1); have HO2 := Aside0.mk (HO1.out.below hb1); have BK2 := Aside0.mk (blk_below BKc.out hb1); have hc0 := blk_cell BK2.out 0; have hc1 := blk_cell BK2.out 1; clear hb1 HB1 HO1 BKc)
            (with_reducible refine (BuilderKit.write w.heap.size _ 32 32 _ HO2.out (by decide) ?hln2).mono ?_)
            case hln2 => have := HLEN.out; have := HL.out; simp only [List.length_append, List.length_cons, List.length_nil, List.length_take] at *; omega
            rintro e w3 ⟨rfl, ho, hb, hkk⟩
            have HO3 := Aside0.mk ho
            have HB3 := Aside0.mk (HB2.out.trans hb)
            have BK3 := Aside0.mk (BuilderKit.kept_blk hkk BK2.out HNE.out (by decide))
            clear hc0 hc1
            have hc0 := blk_cell BK3.out 0
            have hc1 := blk_cell BK3.out 1
            clear HO2 HB2 BK2
            clear ho hb hkk
            go_wp2_with fail
            (with_reducible refine (BuilderKit.write w.heap.size _ _ uK _ HO3.out rfl ?hln3).mono ?_)
            case hln3 => have := HLEN.out; have := HL.out; simp only [List.length_append, List.length_cons, List.length_nil, List.length_take] at *; omega
            rintro e w4 ⟨rfl, ho, hb, hkk⟩
            have HO4 := Aside0.mk ho
            have HB4 := Aside0.mk (HB3.out.trans hb)
            have BK4 := Aside0.mk (BuilderKit.kept_blk hkk BK3.out HNE.out (by decide))
            clear hc0 hc1
            have hc0 := blk_cell BK4.out 0
            have hc1 := blk_cell BK4.out 1
            clear HO3 HB3 BK3
            clear ho hb hkk
            go_wp2_with fail
            (with_reducible refine (BuilderKit.write w.heap.size _ _ uH _ HO4.out rfl ?hln4).mono ?_)
            case hln4 => have := HLEN.out; have := HL.out; simp only [List.length_append, List.length_cons, List.length_nil, List.length_take] at *; omega
            rintro e w5 ⟨rfl, ho, hb, hkk⟩
            have HO5 := Aside0.mk ho
            have HB5 := Aside0.mk (HB4.out.trans hb)
            have BK5 := Aside0.mk (BuilderKit.kept_blk hkk BK4.out HNE.out (by decide))
            clear hc0 hc1
            have hc0 := blk_cell BK5.out 0
            have hc1 := blk_cell BK5.out 1
            clear HO4 HB4 BK4
            clear ho hb hkk
            go_wp2_with fail
            (with_reducible refine (BuilderKit.write w.heap.size _ _ uL _ HO5.out rfl ?hln5).mono ?_)
            case hln5 => have := HLEN.out; have := HL.out; simp only [List.length_append, List.length_cons, List.length_nil, List.length_take] at *; omega
            rintro e w6 ⟨rfl, ho, hb, hkk⟩
            have HO6 := Aside0.mk ho
            have HB6 := Aside0.mk (HB5.out.trans hb)
            clear hc0 hc1 HO5 HB5 BK5
            clear ho hb hkk
            go_wp2
            go_roundw
            case rel => exact ⟨k + 1, HL.out.1, by go_num, ⟨by rw [HT.out, List.all_append, HA.out]; simp [HR1.out]⟩, ⟨by rw [HT.out, cycle_Text_text_snoc, if_neg (fun e => HK0.out (cycle_Text_take_nil HL.out.1 e)), HIT.out]; simpa using HO6.out⟩, HB6⟩
            case measure => rw [hw]; exact cycle_Text_meas HL.out.1
      · obtain rfl : k = l0.length := by omega
        rw [List.take_length] at HA HO
        have H := HH.out
        rw [HA.out, if_pos rfl] at H
        obtain ⟨rfl, rfl⟩ := Prod.mk.inj H
        have c1 : decide ((l0.length : Int) < (l0.length : Int)) = false := decide_eq_false (by omega)
        clear H hlt hk
        go_wp2_with (go_at_call 44; (with_reducible refine (BuilderKit.told w.heap.size (cycle_Text_text l0) _ HO.out).mono ?_); rintro e w2 ⟨rfl, ho, hb, hkk⟩; have HB2 := Aside0.mk (HB.out.trans hb); clear ho hb hkk)
        go_ret2
        exact ⟨rfl, HB2.out⟩
  · exact absurd h (by simp)

/-! ### incunablelaw10_awake: function 19 -/
def incunablelaw10_awake.f  : Option (Bool) := (cycle_Text.f (([(⟨1, 112⟩ : S42), (⟨4, 224⟩ : S42)] : List (S42)))).bind fun bt105 => (if bt105.2 = 0 then (some (bt105.1.toList == ([99, 55, 48, 32, 114, 101, 48] : List UInt8))) else (some false))
set_option maxHeartbeats 8000000 in
set_option maxRecDepth 100000 in
theorem incunablelaw10_awake.calls  (r : Bool) (w : World) (h : incunablelaw10_awake.f  = some r) :
    Calls Try.prog 19 #[] w fun e w' => e = .returned (.bool r) ∧ Below w.heap.size w w' := by
  have hu42 := Try.underlying42
  have HB := Aside0.mk (Below.refl w.heap.size w)
  have H : ((cycle_Text.f (([(⟨1, 112⟩ : S42), (⟨4, 224⟩ : S42)] : List (S42)))).bind fun bt105 => (if bt105.2 = 0 then (some (bt105.1.toList == ([99, 55, 48, 32, 114, 101, 48] : List UInt8))) else (some false))) = some r := h
  clear h
  obtain ⟨y102, hy102⟩ : ∃ y_ : List (S42), y_ = (([(⟨1, 112⟩ : S42), (⟨4, 224⟩ : S42)] : List (S42))) := ⟨_, rfl⟩
  replace H : ((cycle_Text.f y102).bind fun bt105 => (if bt105.2 = 0 then (some (bt105.1.toList == ([99, 55, 48, 32, 114, 101, 48] : List UInt8))) else (some false))) = some r := by first | (rw [hy102]; with_reducible exact H) | (have H2_ := (Option.bind_some _ _).symm.trans H; rw [hy102]; with_reducible exact H2_) | (have H2_ := (Option.bind_some _ _).symm.trans H; with_reducible exact H2_) | with_reducible exact H | (rw [hy102]; exact H) | exact H
  have Ny102 := Aside0.mk hy102
  clear hy102
  replace H := Option.bind_eq_some_iff.mp H
  obtain ⟨⟨t105, t106⟩, A10, H⟩ := H
  replace H : (if t106 = 0 then (some (t105.toList == ([99, 55, 48, 32, 114, 101, 48] : List UInt8))) else (some false)) = some r := H
  have A1 := Aside0.mk A10
  clear A10
  by_cases c2 : t106 = 0
  · rw [if_pos c2] at H
    have c2b0 : (t106 == 0) = true := beq_iff_eq.mpr c2
    have c2b1 : (t106 != 0) = false := bne_eq_false_iff_eq.mpr c2
    clear c2
    obtain rfl := Option.some.inj H
    go_enter Try.func19, Try.ntmps19
    go_wp2_with (first | ((with_reducible refine gate_dst (N := 6) rfl ?_); refine Kd.R_lit k42 _ 42 ?hg (N := 6) ?hd (xs := ([(⟨1, 112⟩ : S42), (⟨4, 224⟩ : S42)] : List (S42))) (inner := [.int .i64 1, .int .u8 112, .int .i64 4, .int .u8 224]) (ok := fun _ => True) (okp := fun _ => True) ?hr ?hp (fun _ hk => hk) trivial (Below.refl _ _) (Nat.le_refl _) (by simp) ?_; (case hd => rfl); (case hg => rfl); (case hr => first | (go_simp; done) | (go_simp; rfl)); (case hp => exact (Reps.c2 (show Kd.M k42 _ _ _ (⟨1, 112⟩ : S42) [.int .i64 1, .int .u8 112] from (k42_mkM _ _ _ (⟨1, 112⟩ : S42) )) (Reps.c2 (show Kd.M k42 _ _ _ (⟨4, 224⟩ : S42) [.int .i64 4, .int .u8 224] from (k42_mkM _ _ _ (⟨4, 224⟩ : S42) )) (Reps.none _ _)))); intro v103 w3 ho4 hb hg_ hnew_; clear hg_ hnew_; (first | rw [← Ny102.out] at ho4 | (simp only [Int.reduceToNat] at ho4; rw [← Ny102.out] at ho4)); have n0_ := Aside0.mk (Kd.R_lower ho4 (below_size (by repeat (first | (with_reducible first | exact HB.out | apply below_alloc | apply pw_below_drewN | apply below_drew1) | exact HB.out)))); have n1_ := Aside0.mk (below_step (by repeat (first | (with_reducible first | exact HB.out | apply below_alloc | apply pw_below_drewN | apply below_drew1) | exact HB.out)) hb); clear HB; have HO104 := n0_; have HB := n1_; clear n0_ n1_; clear hb ho4; obtain ⟨Ao5, co5, eo5⟩ := Kd.R_slice HO104.out; subst eo5) | ((with_reducible refine gate_callee (f := 20) rfl ?_); refine goesL_ (some 7) rfl rfl Try.func20 (by kernel_rfl) rfl #[.slice Ao5 y102.length co5] rfl (by (try simp only [List.map_toArray, List.map_cons, List.map_nil]); first | done | rfl | (simp only [List.length_drop, List.length_take]; rfl)) ?_; (with_reducible refine (cycle_Text.calls _ _ y102 t105 t106 _ ?side1 ?side2 A1.out).mono ?_); (case side1 => repeat (first | exact (Kd.R_reads' HO104.out).2.2 | (with_reducible refine Kd.C_alloc ?_ _) | (with_reducible refine Kd.C_drewN ?_ _) | (with_reducible refine Kd.C_drew ?_))); (case side2 => exact (Kd.R_reads' HO104.out).2.1); rintro e w6 ⟨rfl, hb⟩; refine ⟨_, rfl, ?_⟩; have n0_ := Aside0.mk (Kd.R_below (by (with_reducible repeat (first | apply Kd.R_alloc | apply Kd.R_drewN | apply Kd.R_drew)); exact HO104.out) hb); have n1_ := Aside0.mk (below_step (by repeat (first | (with_reducible first | exact HB.out | apply below_alloc | apply pw_below_drewN | apply below_drew1) | exact HB.out)) hb); clear HO104; clear HB; have HO104 := n0_; have HB := n1_; clear n0_ n1_; (try clear hb); (try clear hb2); (try clear hk); (try clear hi)))
    go_ret
    exact ⟨by first | rfl | (simp [errW_none, errW_some] <;> rfl) | (simp [*, errW_none, errW_some] <;> rfl) | (have hz_ : ∀ z : Int, -9223372036854775808 ≤ z → z ≤ 9223372036854775807 → wrap64 z = z := (fun z h1_ h2_ => by unfold wrap64; omega); rw [hz_] <;> first | rfl | omega), by repeat (first | (with_reducible first | exact HB.out | apply below_alloc | apply pw_below_drewN | apply below_drew1) | exact HB.out)⟩
  · rw [if_neg c2] at H
    have c2b0 : (t106 == 0) = false := beq_eq_false_iff_ne.mpr c2
    have c2b1 : (t106 != 0) = true := bne_iff_ne.mpr c2
    obtain rfl := Option.some.inj H
    go_enter Try.func19, Try.ntmps19
    go_wp2_with (first | ((with_reducible refine gate_dst (N := 6) rfl ?_); refine Kd.R_lit k42 _ 42 ?hg (N := 6) ?hd (xs := ([(⟨1, 112⟩ : S42), (⟨4, 224⟩ : S42)] : List (S42))) (inner := [.int .i64 1, .int .u8 112, .int .i64 4, .int .u8 224]) (ok := fun _ => True) (okp := fun _ => True) ?hr ?hp (fun _ hk => hk) trivial (Below.refl _ _) (Nat.le_refl _) (by simp) ?_; (case hd => rfl); (case hg => rfl); (case hr => first | (go_simp; done) | (go_simp; rfl)); (case hp => exact (Reps.c2 (show Kd.M k42 _ _ _ (⟨1, 112⟩ : S42) [.int .i64 1, .int .u8 112] from (k42_mkM _ _ _ (⟨1, 112⟩ : S42) )) (Reps.c2 (show Kd.M k42 _ _ _ (⟨4, 224⟩ : S42) [.int .i64 4, .int .u8 224] from (k42_mkM _ _ _ (⟨4, 224⟩ : S42) )) (Reps.none _ _)))); intro v103 w7 ho8 hb hg_ hnew_; clear hg_ hnew_; (first | rw [← Ny102.out] at ho8 | (simp only [Int.reduceToNat] at ho8; rw [← Ny102.out] at ho8)); have n0_ := Aside0.mk (Kd.R_lower ho8 (below_size (by repeat (first | (with_reducible first | exact HB.out | apply below_alloc | apply pw_below_drewN | apply below_drew1) | exact HB.out)))); have n1_ := Aside0.mk (below_step (by repeat (first | (with_reducible first | exact HB.out | apply below_alloc | apply pw_below_drewN | apply below_drew1) | exact HB.out)) hb); clear HB; have HO104 := n0_; have HB := n1_; clear n0_ n1_; clear hb ho8; obtain ⟨Ao9, co9, eo9⟩ := Kd.R_slice HO104.out; subst eo9) | ((with_reducible refine gate_callee (f := 20) rfl ?_); refine goesL_ (some 7) rfl rfl Try.func20 (by kernel_rfl) rfl #[.slice Ao9 y102.length co9] rfl (by (try simp only [List.map_toArray, List.map_cons, List.map_nil]); first | done | rfl | (simp only [List.length_drop, List.length_take]; rfl)) ?_; (with_reducible refine (cycle_Text.calls _ _ y102 t105 t106 _ ?side1 ?side2 A1.out).mono ?_); (case side1 => repeat (first | exact (Kd.R_reads' HO104.out).2.2 | (with_reducible refine Kd.C_alloc ?_ _) | (with_reducible refine Kd.C_drewN ?_ _) | (with_reducible refine Kd.C_drew ?_))); (case side2 => exact (Kd.R_reads' HO104.out).2.1); rintro e w10 ⟨rfl, hb⟩; refine ⟨_, rfl, ?_⟩; have n0_ := Aside0.mk (Kd.R_below (by (with_reducible repeat (first | apply Kd.R_alloc | apply Kd.R_drewN | apply Kd.R_drew)); exact HO104.out) hb); have n1_ := Aside0.mk (below_step (by repeat (first | (with_reducible first | exact HB.out | apply below_alloc | apply pw_below_drewN | apply below_drew1) | exact HB.out)) hb); clear HO104; clear HB; have HO104 := n0_; have HB := n1_; clear n0_ n1_; (try clear hb); (try clear hb2); (try clear hk); (try clear hi)))
    go_ret
    exact ⟨by first | rfl | (simp [errW_none, errW_some] <;> rfl) | (simp [*, errW_none, errW_some] <;> rfl) | (have hz_ : ∀ z : Int, -9223372036854775808 ≤ z → z ≤ 9223372036854775807 → wrap64 z = z := (fun z h1_ h2_ => by unfold wrap64; omega); rw [hz_] <;> first | rfl | omega), by repeat (first | (with_reducible first | exact HB.out | apply below_alloc | apply pw_below_drewN | apply below_drew1) | exact HB.out)⟩

/-! ### incunablelaw10_right: function 21 -/
def incunablelaw10_right.l0 : Nat → List (S42) → Int → Int → Option (Bool)
  | 0, _, _, _ => none
  | k + 1, x5, x6, x7 => if x7 < x6 then (if 0 ≤ x7 then (if x7 < (x5.length : Int) then (if ((rd_T42 x5 x7).f0) < 1 then (some false) else (if ((rd_T42 x5 x7).f0) > 4 then (some false) else (incunablelaw10_right.l0 k x5 x6 (wrap64 (x7 + 1))))) else (none)) else (none)) else (some true)
def incunablelaw10_right.f (k : Nat) (l0 : List (S42)) : Option (Bool) := incunablelaw10_right.l0 k l0 (l0.length : Int) 0
theorem incunablelaw10_right.mono_l : ∀ k, (∀ y0 y1 y2, LeO (incunablelaw10_right.l0 k y0 y1 y2) (incunablelaw10_right.l0 (k + 1) y0 y1 y2))
  | 0 => fun _ _ _ r h => by simp [incunablelaw10_right.l0] at h
  | k + 1 => by
    have ih0 := incunablelaw10_right.mono_l k
    · intro y0 y1 y2
      unfold incunablelaw10_right.l0
      repeat' first
      | (with_reducible exact ih0 _ _ _)
      | (with_reducible exact LeO.refl _)
      | (with_reducible exact LeO.none _)
      | (with_reducible refine LeO.ite ?_ ?_)
      | (with_reducible refine LeO.bind ?_ (fun _ => ?_))
      | exact ih0 _ _ _
      | exact LeO.none _
      | refine LeO.ite ?_ ?_
      | refine LeO.bind ?_ (fun _ => ?_)
theorem incunablelaw10_right.mono : ∀ a0 k, LeO (incunablelaw10_right.f k a0) (incunablelaw10_right.f (k + 1) a0) := by
  intro a0 k
  have ih0 := incunablelaw10_right.mono_l k
  unfold incunablelaw10_right.f
  repeat' first
      | (with_reducible exact ih0 _ _ _)
      | (with_reducible exact LeO.refl _)
      | (with_reducible exact LeO.none _)
      | (with_reducible refine LeO.ite ?_ ?_)
      | (with_reducible refine LeO.bind ?_ (fun _ => ?_))
      | exact ih0 _ _ _
      | exact LeO.none _
      | refine LeO.ite ?_ ?_
      | refine LeO.bind ?_ (fun _ => ?_)
set_option maxHeartbeats 8000000 in
set_option maxRecDepth 100000 in
theorem incunablelaw10_right.calls (k : Nat) (A0 : Option Addr) (c0 : Nat) (l0 : List (S42)) (r : Bool) (w : World) (hr0 : Kd.C k42 w A0 l0.length l0) (hc0 : l0.length ≤ c0) (h : incunablelaw10_right.f k l0 = some r) :
    Calls Try.prog 21 #[.slice A0 l0.length c0] w fun e w' => e = .returned (.bool r) ∧ Below w.heap.size w w' := by
  have hu42 := Try.underlying42
  have HR0 := Aside0.mk hr0
  have HC0 := Aside0.mk hc0
  clear hr0 hc0
  have HB := Aside0.mk (Below.refl w.heap.size w)
  have H : (incunablelaw10_right.l0 k l0 (l0.length : Int) 0) = some r := h
  clear h
  have H' := Aside0.mk H
  clear H
  go_enter Try.func21, Try.ntmps21
  go_wp2
  go_loopg [7] k (fun kq v7 w' => ∃ (x7_1 : Int), v7 = .int .i64 x7_1 ∧ Aside0 (incunablelaw10_right.l0 kq l0 (l0.length : Int) x7_1 = some r) ∧ Aside0 (kq ≤ k) ∧ Aside0 (Below w.heap.size w w'))
  case atStart => exact ⟨(0), (by first | rfl | (simp; done) | (simp [*]; done)), H', ⟨Nat.le_refl _⟩, ⟨by repeat (first | (with_reducible first | exact HB.out | apply below_alloc | apply pw_below_drewN | apply below_drew1) | exact HB.out)⟩⟩
  case round =>
    clear H'
    obtain ⟨x7_1, rfl, HA, HK1, HB⟩ := hrel
    cases gk with
    | zero => exact absurd HA.out (by simp [incunablelaw10_right.l0])
    | succ k1 =>
      have H := HA.out
      clear HA
      simp only [incunablelaw10_right.l0] at H
      by_cases c2 : x7_1 < (l0.length : Int)
      · rw [if_pos c2] at H
        have c2b0 : decide (x7_1 < (l0.length : Int)) = true := decide_eq_true c2
        clear c2
        by_cases c3 : 0 ≤ x7_1
        · rw [if_pos c3] at H
          have c3b0 : decide (0 ≤ x7_1) = true := decide_eq_true c3
          clear c3
          by_cases c4 : x7_1 < (l0.length : Int)
          · rw [if_pos c4] at H
            have c4b0 : decide (x7_1 < (l0.length : Int)) = true := decide_eq_true c4
            clear c4
            by_cases c5 : ((rd_T42 l0 x7_1).f0) < 1
            · rw [if_pos c5] at H
              have c5b0 : decide (((rd_T42 l0 x7_1).f0) < 1) = true := decide_eq_true c5
              clear c5
              obtain rfl := Option.some.inj H
              have p107 : 0 ≤ (x7_1 : Int) := of_decide_eq_true (by first | (with_reducible assumption) | assumption)
              have q107 : x7_1 < (l0.length : Int) := of_decide_eq_true (by first | (with_reducible assumption) | assumption)
              obtain ⟨ad107, e107, hx107_0, hx107_1⟩ := at_T42 HR0.out x7_1 p107 q107
              cases e107
              replace hx107_0 := (HB.out.cell (World.block_lt_of_cell? w _ hx107_0)).trans hx107_0
              replace hx107_1 := (HB.out.cell (World.block_lt_of_cell? w _ hx107_1)).trans hx107_1
              replace p107 := eq_true p107
              replace q107 := eq_true q107
              go_wp2_with (first | ((with_reducible refine gate_dst (N := 4) rfl ?_); refine box_event ?hg (N := 4) ?hd (cs := #[.int .i64 0, .int .u8 0]) (t := 42) ?hr ?_; (case hd => rfl); (case hg => rfl); (case hr => first | (go_simp; done) | (go_simp; rfl)); intro gb108 hg w6 hbox hb; have n0_ := Aside0.mk (below_step (by repeat (first | (with_reducible first | exact HB.out | apply below_alloc | apply pw_below_drewN | apply below_drew1) | exact HB.out)) hb); have n1_ := Aside0.mk (hbox); have n2_ := Aside0.mk ((by rw [hg]; exact (below_size (by repeat (first | (with_reducible first | exact HB.out | apply below_alloc | apply pw_below_drewN | apply below_drew1) | exact HB.out))) : w.heap.size ≤ gb108)); have n3_ := Aside0.mk ((by rw [hg]; exact (below_size (by repeat (first | (with_reducible first | exact HB.out | apply below_alloc | apply pw_below_drewN | apply below_drew1) | exact HB.out))) : w.heap.size ≤ gb108)); clear HB; have HB := n0_; have BK108 := n1_; have GW108 := n2_; have GE108 := n3_; clear n0_ n1_ n2_ n3_; clear hb hbox hg; have hcz7_0 : w6.cell? ⟨gb108, 0, none⟩ = some (.int .i64 0) := (blk_cell BK108.out 0).trans rfl; have hcz7_1 : w6.cell? ⟨gb108, 1, none⟩ = some (.int .u8 0) := (blk_cell BK108.out 1).trans rfl; have hfz7_0 := blk_frozen BK108.out 0; have hfz7_1 := blk_frozen BK108.out 1))
              go_ret
              exact ⟨by first | rfl | (simp [errW_none, errW_some] <;> rfl) | (simp [*, errW_none, errW_some] <;> rfl) | (have hz_ : ∀ z : Int, -9223372036854775808 ≤ z → z ≤ 9223372036854775807 → wrap64 z = z := (fun z h1_ h2_ => by unfold wrap64; omega); rw [hz_] <;> first | rfl | omega), by repeat (first | (with_reducible first | exact HB.out | apply below_alloc | apply pw_below_drewN | apply below_drew1 | refine below_set ?_ GE108.out) | exact HB.out)⟩
            · rw [if_neg c5] at H
              have c5b0 : decide (((rd_T42 l0 x7_1).f0) < 1) = false := decide_eq_false c5
              clear c5
              by_cases c8 : ((rd_T42 l0 x7_1).f0) > 4
              · rw [if_pos c8] at H
                have c8b0 : decide (4 < ((rd_T42 l0 x7_1).f0)) = true := decide_eq_true c8
                clear c8
                obtain rfl := Option.some.inj H
                have p107 : 0 ≤ (x7_1 : Int) := of_decide_eq_true (by first | (with_reducible assumption) | assumption)
                have q107 : x7_1 < (l0.length : Int) := of_decide_eq_true (by first | (with_reducible assumption) | assumption)
                obtain ⟨ad107, e107, hx107_0, hx107_1⟩ := at_T42 HR0.out x7_1 p107 q107
                cases e107
                replace hx107_0 := (HB.out.cell (World.block_lt_of_cell? w _ hx107_0)).trans hx107_0
                replace hx107_1 := (HB.out.cell (World.block_lt_of_cell? w _ hx107_1)).trans hx107_1
                replace p107 := eq_true p107
                replace q107 := eq_true q107
                go_wp2_with (first | ((with_reducible refine gate_dst (N := 4) rfl ?_); refine box_event ?hg (N := 4) ?hd (cs := #[.int .i64 0, .int .u8 0]) (t := 42) ?hr ?_; (case hd => rfl); (case hg => rfl); (case hr => first | (go_simp; done) | (go_simp; rfl)); intro gb108 hg w9 hbox hb; have n0_ := Aside0.mk (below_step (by repeat (first | (with_reducible first | exact HB.out | apply below_alloc | apply pw_below_drewN | apply below_drew1) | exact HB.out)) hb); have n1_ := Aside0.mk (hbox); have n2_ := Aside0.mk ((by rw [hg]; exact (below_size (by repeat (first | (with_reducible first | exact HB.out | apply below_alloc | apply pw_below_drewN | apply below_drew1) | exact HB.out))) : w.heap.size ≤ gb108)); have n3_ := Aside0.mk ((by rw [hg]; exact (below_size (by repeat (first | (with_reducible first | exact HB.out | apply below_alloc | apply pw_below_drewN | apply below_drew1) | exact HB.out))) : w.heap.size ≤ gb108)); clear HB; have HB := n0_; have BK108 := n1_; have GW108 := n2_; have GE108 := n3_; clear n0_ n1_ n2_ n3_; clear hb hbox hg; have hcz10_0 : w9.cell? ⟨gb108, 0, none⟩ = some (.int .i64 0) := (blk_cell BK108.out 0).trans rfl; have hcz10_1 : w9.cell? ⟨gb108, 1, none⟩ = some (.int .u8 0) := (blk_cell BK108.out 1).trans rfl; have hfz10_0 := blk_frozen BK108.out 0; have hfz10_1 := blk_frozen BK108.out 1))
                go_ret
                exact ⟨by first | rfl | (simp [errW_none, errW_some] <;> rfl) | (simp [*, errW_none, errW_some] <;> rfl) | (have hz_ : ∀ z : Int, -9223372036854775808 ≤ z → z ≤ 9223372036854775807 → wrap64 z = z := (fun z h1_ h2_ => by unfold wrap64; omega); rw [hz_] <;> first | rfl | omega), by repeat (first | (with_reducible first | exact HB.out | apply below_alloc | apply pw_below_drewN | apply below_drew1 | refine below_set ?_ GE108.out) | exact HB.out)⟩
              · rw [if_neg c8] at H
                have c8b0 : decide (4 < ((rd_T42 l0 x7_1).f0)) = false := decide_eq_false c8
                clear c8
                have H' := Aside0.mk H
                clear H
                have p107 : 0 ≤ (x7_1 : Int) := of_decide_eq_true (by first | (with_reducible assumption) | assumption)
                have q107 : x7_1 < (l0.length : Int) := of_decide_eq_true (by first | (with_reducible assumption) | assumption)
                obtain ⟨ad107, e107, hx107_0, hx107_1⟩ := at_T42 HR0.out x7_1 p107 q107
                cases e107
                replace hx107_0 := (HB.out.cell (World.block_lt_of_cell? w _ hx107_0)).trans hx107_0
                replace hx107_1 := (HB.out.cell (World.block_lt_of_cell? w _ hx107_1)).trans hx107_1
                replace p107 := eq_true p107
                replace q107 := eq_true q107
                go_wp2_with (first | ((with_reducible refine gate_dst (N := 4) rfl ?_); refine box_event ?hg (N := 4) ?hd (cs := #[.int .i64 0, .int .u8 0]) (t := 42) ?hr ?_; (case hd => rfl); (case hg => rfl); (case hr => first | (go_simp; done) | (go_simp; rfl)); intro gb108 hg w11 hbox hb; have n0_ := Aside0.mk (below_step (by repeat (first | (with_reducible first | exact HB.out | apply below_alloc | apply pw_below_drewN | apply below_drew1) | exact HB.out)) hb); have n1_ := Aside0.mk (hbox); have n2_ := Aside0.mk ((by rw [hg]; exact (below_size (by repeat (first | (with_reducible first | exact HB.out | apply below_alloc | apply pw_below_drewN | apply below_drew1) | exact HB.out))) : w.heap.size ≤ gb108)); have n3_ := Aside0.mk ((by rw [hg]; exact (below_size (by repeat (first | (with_reducible first | exact HB.out | apply below_alloc | apply pw_below_drewN | apply below_drew1) | exact HB.out))) : w.heap.size ≤ gb108)); clear HB; have HB := n0_; have BK108 := n1_; have GW108 := n2_; have GE108 := n3_; clear n0_ n1_ n2_ n3_; clear hb hbox hg; have hcz12_0 : w11.cell? ⟨gb108, 0, none⟩ = some (.int .i64 0) := (blk_cell BK108.out 0).trans rfl; have hcz12_1 : w11.cell? ⟨gb108, 1, none⟩ = some (.int .u8 0) := (blk_cell BK108.out 1).trans rfl; have hfz12_0 := blk_frozen BK108.out 0; have hfz12_1 := blk_frozen BK108.out 1))
                go_roundg k1
                case measure => have := HK1.out; omega
                case rel => exact ⟨(wrap64 (x7_1 + 1)), (by first | rfl | (simp; done) | (simp [*]; done)), H', ⟨by have := HK1.out; omega⟩, ⟨by repeat (first | (with_reducible first | exact HB.out | apply below_alloc | apply pw_below_drewN | apply below_drew1 | refine below_set ?_ GE108.out) | exact HB.out)⟩⟩
          · rw [if_neg c4] at H
            exact absurd H (by simp)
        · rw [if_neg c3] at H
          exact absurd H (by simp)
      · rw [if_neg c2] at H
        have c2b0 : decide (x7_1 < (l0.length : Int)) = false := decide_eq_false c2
        clear c2
        obtain rfl := Option.some.inj H
        go_wp2
        go_ret
        exact ⟨by first | rfl | (simp [errW_none, errW_some] <;> rfl) | (simp [*, errW_none, errW_some] <;> rfl) | (have hz_ : ∀ z : Int, -9223372036854775808 ≤ z → z ≤ 9223372036854775807 → wrap64 z = z := (fun z h1_ h2_ => by unfold wrap64; omega); rw [hz_] <;> first | rfl | omega), by repeat (first | (with_reducible first | exact HB.out | apply below_alloc | apply pw_below_drewN | apply below_drew1) | exact HB.out)⟩

/-! ### incunableref10_Text: function 22 -/
theorem ext_size10 {b : ByteArray} {lo hi : Nat} (h : hi ≤ b.size) : (b.extract lo hi).size = hi - lo := by rw [ByteArray.size_extract, Nat.min_eq_left h]
theorem cat_fact10 {a b : ByteArray} {lo hi n M : Nat} (h : a.size + (b.extract lo hi).size ≤ M) (hh : hi ≤ b.size) (hn : a.size = n) : (M < n + (hi - lo)) = False := by
  rw [ext_size10 hh, hn] at h
  exact eq_false (Nat.not_lt.2 h)
theorem cat_size10 {a b : ByteArray} {lo hi n : Nat} (hh : hi ≤ b.size) (hn : a.size = n) : (a ++ b.extract lo hi).size = n + (hi - lo) := by rw [ByteArray.size_append, ext_size10 hh, hn]
def incunableref10_Text.l0 : Nat → List (S42) → ByteArray → ByteArray → Int → Option (ByteArray)
  | 0, _, _, _, _ => none
  | k + 1, x0, x3, x4, x5 => if x5 < (x0.length : Int) then (if x5 > 0 then (if x4.size + 1 ≤ 9223372036854775807 then (if 0 ≤ x5 then (if 0 ≤ ((rd_T42 x0 x5).f0) then (if ((rd_T42 x0 x5).f0) ≤ (wrap64 (((rd_T42 x0 x5).f0) + 1)) then (if (wrap64 (((rd_T42 x0 x5).f0) + 1)) ≤ 5 then (if (x4 ++ (⟨#[32]⟩ : ByteArray)).size + ((⟨#[32, 99, 97, 119, 114]⟩ : ByteArray).extract (((rd_T42 x0 x5).f0) : Int).toNat ((wrap64 (((rd_T42 x0 x5).f0) + 1)) : Int).toNat).size ≤ 9223372036854775807 then (if 0 ≤ (wrap64 (Int.tdiv (wrap64 ((rd_T42 x0 x5).f1)) 16)) then (if (wrap64 (Int.tdiv (wrap64 ((rd_T42 x0 x5).f1)) 16)) ≤ (wrap64 ((wrap64 (Int.tdiv (wrap64 ((rd_T42 x0 x5).f1)) 16)) + 1)) then (if (wrap64 ((wrap64 (Int.tdiv (wrap64 ((rd_T42 x0 x5).f1)) 16)) + 1)) ≤ (x3.size : Int) then (if ((x4 ++ (⟨#[32]⟩ : ByteArray)) ++ ((⟨#[32, 99, 97, 119, 114]⟩ : ByteArray).extract (((rd_T42 x0 x5).f0) : Int).toNat ((wrap64 (((rd_T42 x0 x5).f0) + 1)) : Int).toNat)).size + (x3.extract ((wrap64 (Int.tdiv (wrap64 ((rd_T42 x0 x5).f1)) 16)) : Int).toNat ((wrap64 ((wrap64 (Int.tdiv (wrap64 ((rd_T42 x0 x5).f1)) 16)) + 1)) : Int).toNat).size ≤ 9223372036854775807 then (if 0 ≤ (Int.tmod (wrap64 ((rd_T42 x0 x5).f1)) 16) then (if (Int.tmod (wrap64 ((rd_T42 x0 x5).f1)) 16) ≤ (wrap64 ((Int.tmod (wrap64 ((rd_T42 x0 x5).f1)) 16) + 1)) then (if (wrap64 ((Int.tmod (wrap64 ((rd_T42 x0 x5).f1)) 16) + 1)) ≤ (x3.size : Int) then (if (((x4 ++ (⟨#[32]⟩ : ByteArray)) ++ ((⟨#[32, 99, 97, 119, 114]⟩ : ByteArray).extract (((rd_T42 x0 x5).f0) : Int).toNat ((wrap64 (((rd_T42 x0 x5).f0) + 1)) : Int).toNat)) ++ (x3.extract ((wrap64 (Int.tdiv (wrap64 ((rd_T42 x0 x5).f1)) 16)) : Int).toNat ((wrap64 ((wrap64 (Int.tdiv (wrap64 ((rd_T42 x0 x5).f1)) 16)) + 1)) : Int).toNat)).size + (x3.extract ((Int.tmod (wrap64 ((rd_T42 x0 x5).f1)) 16) : Int).toNat ((wrap64 ((Int.tmod (wrap64 ((rd_T42 x0 x5).f1)) 16) + 1)) : Int).toNat).size ≤ 9223372036854775807 then (incunableref10_Text.l0 k x0 x3 ((((x4 ++ (⟨#[32]⟩ : ByteArray)) ++ ((⟨#[32, 99, 97, 119, 114]⟩ : ByteArray).extract (((rd_T42 x0 x5).f0) : Int).toNat ((wrap64 (((rd_T42 x0 x5).f0) + 1)) : Int).toNat)) ++ (x3.extract ((wrap64 (Int.tdiv (wrap64 ((rd_T42 x0 x5).f1)) 16)) : Int).toNat ((wrap64 ((wrap64 (Int.tdiv (wrap64 ((rd_T42 x0 x5).f1)) 16)) + 1)) : Int).toNat)) ++ (x3.extract ((Int.tmod (wrap64 ((rd_T42 x0 x5).f1)) 16) : Int).toNat ((wrap64 ((Int.tmod (wrap64 ((rd_T42 x0 x5).f1)) 16) + 1)) : Int).toNat)) (wrap64 (x5 + 1))) else (none)) else (none)) else (none)) else (none)) else (none)) else (none)) else (none)) else (none)) else (none)) else (none)) else (none)) else (none)) else (none)) else (none)) else (if 0 ≤ x5 then (if 0 ≤ ((rd_T42 x0 x5).f0) then (if ((rd_T42 x0 x5).f0) ≤ (wrap64 (((rd_T42 x0 x5).f0) + 1)) then (if (wrap64 (((rd_T42 x0 x5).f0) + 1)) ≤ 5 then (if x4.size + ((⟨#[32, 99, 97, 119, 114]⟩ : ByteArray).extract (((rd_T42 x0 x5).f0) : Int).toNat ((wrap64 (((rd_T42 x0 x5).f0) + 1)) : Int).toNat).size ≤ 9223372036854775807 then (if 0 ≤ (wrap64 (Int.tdiv (wrap64 ((rd_T42 x0 x5).f1)) 16)) then (if (wrap64 (Int.tdiv (wrap64 ((rd_T42 x0 x5).f1)) 16)) ≤ (wrap64 ((wrap64 (Int.tdiv (wrap64 ((rd_T42 x0 x5).f1)) 16)) + 1)) then (if (wrap64 ((wrap64 (Int.tdiv (wrap64 ((rd_T42 x0 x5).f1)) 16)) + 1)) ≤ (x3.size : Int) then (if (x4 ++ ((⟨#[32, 99, 97, 119, 114]⟩ : ByteArray).extract (((rd_T42 x0 x5).f0) : Int).toNat ((wrap64 (((rd_T42 x0 x5).f0) + 1)) : Int).toNat)).size + (x3.extract ((wrap64 (Int.tdiv (wrap64 ((rd_T42 x0 x5).f1)) 16)) : Int).toNat ((wrap64 ((wrap64 (Int.tdiv (wrap64 ((rd_T42 x0 x5).f1)) 16)) + 1)) : Int).toNat).size ≤ 9223372036854775807 then (if 0 ≤ (Int.tmod (wrap64 ((rd_T42 x0 x5).f1)) 16) then (if (Int.tmod (wrap64 ((rd_T42 x0 x5).f1)) 16) ≤ (wrap64 ((Int.tmod (wrap64 ((rd_T42 x0 x5).f1)) 16) + 1)) then (if (wrap64 ((Int.tmod (wrap64 ((rd_T42 x0 x5).f1)) 16) + 1)) ≤ (x3.size : Int) then (if ((x4 ++ ((⟨#[32, 99, 97, 119, 114]⟩ : ByteArray).extract (((rd_T42 x0 x5).f0) : Int).toNat ((wrap64 (((rd_T42 x0 x5).f0) + 1)) : Int).toNat)) ++ (x3.extract ((wrap64 (Int.tdiv (wrap64 ((rd_T42 x0 x5).f1)) 16)) : Int).toNat ((wrap64 ((wrap64 (Int.tdiv (wrap64 ((rd_T42 x0 x5).f1)) 16)) + 1)) : Int).toNat)).size + (x3.extract ((Int.tmod (wrap64 ((rd_T42 x0 x5).f1)) 16) : Int).toNat ((wrap64 ((Int.tmod (wrap64 ((rd_T42 x0 x5).f1)) 16) + 1)) : Int).toNat).size ≤ 9223372036854775807 then (incunableref10_Text.l0 k x0 x3 (((x4 ++ ((⟨#[32, 99, 97, 119, 114]⟩ : ByteArray).extract (((rd_T42 x0 x5).f0) : Int).toNat ((wrap64 (((rd_T42 x0 x5).f0) + 1)) : Int).toNat)) ++ (x3.extract ((wrap64 (Int.tdiv (wrap64 ((rd_T42 x0 x5).f1)) 16)) : Int).toNat ((wrap64 ((wrap64 (Int.tdiv (wrap64 ((rd_T42 x0 x5).f1)) 16)) + 1)) : Int).toNat)) ++ (x3.extract ((Int.tmod (wrap64 ((rd_T42 x0 x5).f1)) 16) : Int).toNat ((wrap64 ((Int.tmod (wrap64 ((rd_T42 x0 x5).f1)) 16) + 1)) : Int).toNat)) (wrap64 (x5 + 1))) else (none)) else (none)) else (none)) else (none)) else (none)) else (none)) else (none)) else (none)) else (none)) else (none)) else (none)) else (none)) else (none))) else (some x4)
def incunableref10_Text.f (k : Nat) (l0 : List (S42)) : Option (ByteArray) := incunableref10_Text.l0 k l0 (⟨#[48, 49, 50, 51, 52, 53, 54, 55, 56, 57, 97, 98, 99, 100, 101, 102]⟩ : ByteArray) (⟨#[]⟩ : ByteArray) 0
theorem incunableref10_Text.mono_l : ∀ k, (∀ y0 y1 y2 y3, LeO (incunableref10_Text.l0 k y0 y1 y2 y3) (incunableref10_Text.l0 (k + 1) y0 y1 y2 y3))
  | 0 => fun _ _ _ _ r h => by simp [incunableref10_Text.l0] at h
  | k + 1 => by
    have ih0 := incunableref10_Text.mono_l k
    · intro y0 y1 y2 y3
      unfold incunableref10_Text.l0
      repeat' first
      | (with_reducible exact ih0 _ _ _ _)
      | (with_reducible exact LeO.refl _)
      | (with_reducible exact LeO.none _)
      | (with_reducible refine LeO.ite ?_ ?_)
      | (with_reducible refine LeO.bind ?_ (fun _ => ?_))
      | exact ih0 _ _ _ _
      | exact LeO.none _
      | refine LeO.ite ?_ ?_
      | refine LeO.bind ?_ (fun _ => ?_)
theorem incunableref10_Text.mono : ∀ a0 k, LeO (incunableref10_Text.f k a0) (incunableref10_Text.f (k + 1) a0) := by
  intro a0 k
  have ih0 := incunableref10_Text.mono_l k
  unfold incunableref10_Text.f
  repeat' first
      | (with_reducible exact ih0 _ _ _ _)
      | (with_reducible exact LeO.refl _)
      | (with_reducible exact LeO.none _)
      | (with_reducible refine LeO.ite ?_ ?_)
      | (with_reducible refine LeO.bind ?_ (fun _ => ?_))
      | exact ih0 _ _ _ _
      | exact LeO.none _
      | refine LeO.ite ?_ ?_
      | refine LeO.bind ?_ (fun _ => ?_)
set_option maxHeartbeats 8000000 in
set_option maxRecDepth 100000 in
theorem incunableref10_Text.calls (k : Nat) (A0 : Option Addr) (c0 : Nat) (l0 : List (S42)) (r : ByteArray) (w : World) (hr0 : Kd.C k42 w A0 l0.length l0) (hc0 : l0.length ≤ c0) (h : incunableref10_Text.f k l0 = some r) :
    Calls Try.prog 22 #[.slice A0 l0.length c0] w fun e w' => e = .returned (.string r) ∧ Drawn0 w w' := by
  have HR0 := Aside0.mk hr0
  have HC0 := Aside0.mk hc0
  clear hr0 hc0
  have H : (incunableref10_Text.l0 k l0 (⟨#[48, 49, 50, 51, 52, 53, 54, 55, 56, 57, 97, 98, 99, 100, 101, 102]⟩ : ByteArray) (⟨#[]⟩ : ByteArray) 0) = some r := h
  clear h
  have H' := Aside0.mk H
  clear H
  go_enter Try.func22, Try.ntmps22
  go_wp2
  repeat (go_quiet (fail); try go_wp2)
  go_loopg [4, 5] k (fun kq v4 v5 w' => ∃ (x4_1 : ByteArray) (x5_1 : Int), v4 = .string x4_1 ∧ v5 = .int .i64 x5_1 ∧ Aside0 (incunableref10_Text.l0 kq l0 (⟨#[48, 49, 50, 51, 52, 53, 54, 55, 56, 57, 97, 98, 99, 100, 101, 102]⟩ : ByteArray) x4_1 x5_1 = some r) ∧ Aside0 (kq ≤ k) ∧ Drawn0 w w')
  case atStart => exact ⟨((⟨#[]⟩ : ByteArray)), (0), (by first | rfl | (simp; done) | (simp [*]; done)), (by first | rfl | (simp; done) | (simp [*]; done)), H', ⟨Nat.le_refl _⟩, by repeat (first | exact Drawn0.refl _ | apply Drawn0.step)⟩
  case round =>
    clear H'
    obtain ⟨x4_1, x5_1, rfl, rfl, HA, HK1, ⟨m1, rfl⟩⟩ := hrel
    cases gk with
    | zero => exact absurd HA.out (by simp [incunableref10_Text.l0])
    | succ k1 =>
      have H := HA.out
      clear HA
      simp only [incunableref10_Text.l0] at H
      by_cases c2 : x5_1 < (l0.length : Int)
      · rw [if_pos c2] at H
        have c2b0 : decide (x5_1 < (l0.length : Int)) = true := decide_eq_true c2
        clear c2
        by_cases c3 : x5_1 > 0
        · rw [if_pos c3] at H
          have c3b0 : decide (0 < x5_1) = true := decide_eq_true c3
          clear c3
          by_cases c4 : x4_1.size + 1 ≤ 9223372036854775807
          · rw [if_pos c4] at H
            have c4b0 := eq_true c4
            have c4b1 : decide (x4_1.size + 1 ≤ 9223372036854775807) = true := decide_eq_true c4
            try have c4b2 : (9223372036854775807 < x4_1.size + 1) = False := eq_false (Nat.not_lt.2 c4)
            by_cases c5 : 0 ≤ x5_1
            · rw [if_pos c5] at H
              have c5b0 : decide (0 ≤ x5_1) = true := decide_eq_true c5
              clear c5
              by_cases c6 : 0 ≤ ((rd_T42 l0 x5_1).f0)
              · rw [if_pos c6] at H
                have c6b0 := eq_true c6
                have c6b1 : decide (0 ≤ ((rd_T42 l0 x5_1).f0)) = true := decide_eq_true c6
                clear c6
                by_cases c7 : ((rd_T42 l0 x5_1).f0) ≤ (wrap64 (((rd_T42 l0 x5_1).f0) + 1))
                · rw [if_pos c7] at H
                  have c7b0 := eq_true c7
                  have c7b1 : decide (((rd_T42 l0 x5_1).f0) ≤ (wrap64 (((rd_T42 l0 x5_1).f0) + 1))) = true := decide_eq_true c7
                  by_cases c8 : (wrap64 (((rd_T42 l0 x5_1).f0) + 1)) ≤ 5
                  · rw [if_pos c8] at H
                    have c8b0 := eq_true c8
                    have c8b1 : decide ((wrap64 (((rd_T42 l0 x5_1).f0) + 1)) ≤ 5) = true := decide_eq_true c8
                    by_cases c9 : (x4_1 ++ (⟨#[32]⟩ : ByteArray)).size + ((⟨#[32, 99, 97, 119, 114]⟩ : ByteArray).extract (((rd_T42 l0 x5_1).f0) : Int).toNat ((wrap64 (((rd_T42 l0 x5_1).f0) + 1)) : Int).toNat).size ≤ 9223372036854775807
                    · rw [if_pos c9] at H
                      have c9b0 := eq_true c9
                      have c9b1 : decide ((x4_1 ++ (⟨#[32]⟩ : ByteArray)).size + ((⟨#[32, 99, 97, 119, 114]⟩ : ByteArray).extract (((rd_T42 l0 x5_1).f0) : Int).toNat ((wrap64 (((rd_T42 l0 x5_1).f0) + 1)) : Int).toNat).size ≤ 9223372036854775807) = true := decide_eq_true c9
                      try have c9b2 : (9223372036854775807 < (x4_1 ++ (⟨#[32]⟩ : ByteArray)).size + ((⟨#[32, 99, 97, 119, 114]⟩ : ByteArray).extract (((rd_T42 l0 x5_1).f0) : Int).toNat ((wrap64 (((rd_T42 l0 x5_1).f0) + 1)) : Int).toNat).size) = False := eq_false (Nat.not_lt.2 c9)
                      obtain ⟨ji10, hji10⟩ : ∃ j_ : Int, (wrap64 (Int.tdiv (wrap64 ((rd_T42 l0 x5_1).f1)) 16)) = j_ := ⟨_, rfl⟩
                      replace H : (if 0 ≤ (ji10) then (if (ji10) ≤ (wrap64 ((ji10) + 1)) then (if (wrap64 ((ji10) + 1)) ≤ ((⟨#[48, 49, 50, 51, 52, 53, 54, 55, 56, 57, 97, 98, 99, 100, 101, 102]⟩ : ByteArray).size : Int) then (if ((x4_1 ++ (⟨#[32]⟩ : ByteArray)) ++ ((⟨#[32, 99, 97, 119, 114]⟩ : ByteArray).extract (((rd_T42 l0 x5_1).f0) : Int).toNat ((wrap64 (((rd_T42 l0 x5_1).f0) + 1)) : Int).toNat)).size + ((⟨#[48, 49, 50, 51, 52, 53, 54, 55, 56, 57, 97, 98, 99, 100, 101, 102]⟩ : ByteArray).extract ((ji10) : Int).toNat ((wrap64 ((ji10) + 1)) : Int).toNat).size ≤ 9223372036854775807 then (if 0 ≤ (Int.tmod (wrap64 ((rd_T42 l0 x5_1).f1)) 16) then (if (Int.tmod (wrap64 ((rd_T42 l0 x5_1).f1)) 16) ≤ (wrap64 ((Int.tmod (wrap64 ((rd_T42 l0 x5_1).f1)) 16) + 1)) then (if (wrap64 ((Int.tmod (wrap64 ((rd_T42 l0 x5_1).f1)) 16) + 1)) ≤ ((⟨#[48, 49, 50, 51, 52, 53, 54, 55, 56, 57, 97, 98, 99, 100, 101, 102]⟩ : ByteArray).size : Int) then (if (((x4_1 ++ (⟨#[32]⟩ : ByteArray)) ++ ((⟨#[32, 99, 97, 119, 114]⟩ : ByteArray).extract (((rd_T42 l0 x5_1).f0) : Int).toNat ((wrap64 (((rd_T42 l0 x5_1).f0) + 1)) : Int).toNat)) ++ ((⟨#[48, 49, 50, 51, 52, 53, 54, 55, 56, 57, 97, 98, 99, 100, 101, 102]⟩ : ByteArray).extract ((ji10) : Int).toNat ((wrap64 ((ji10) + 1)) : Int).toNat)).size + ((⟨#[48, 49, 50, 51, 52, 53, 54, 55, 56, 57, 97, 98, 99, 100, 101, 102]⟩ : ByteArray).extract ((Int.tmod (wrap64 ((rd_T42 l0 x5_1).f1)) 16) : Int).toNat ((wrap64 ((Int.tmod (wrap64 ((rd_T42 l0 x5_1).f1)) 16) + 1)) : Int).toNat).size ≤ 9223372036854775807 then (incunableref10_Text.l0 k1 l0 (⟨#[48, 49, 50, 51, 52, 53, 54, 55, 56, 57, 97, 98, 99, 100, 101, 102]⟩ : ByteArray) ((((x4_1 ++ (⟨#[32]⟩ : ByteArray)) ++ ((⟨#[32, 99, 97, 119, 114]⟩ : ByteArray).extract (((rd_T42 l0 x5_1).f0) : Int).toNat ((wrap64 (((rd_T42 l0 x5_1).f0) + 1)) : Int).toNat)) ++ ((⟨#[48, 49, 50, 51, 52, 53, 54, 55, 56, 57, 97, 98, 99, 100, 101, 102]⟩ : ByteArray).extract ((ji10) : Int).toNat ((wrap64 ((ji10) + 1)) : Int).toNat)) ++ ((⟨#[48, 49, 50, 51, 52, 53, 54, 55, 56, 57, 97, 98, 99, 100, 101, 102]⟩ : ByteArray).extract ((Int.tmod (wrap64 ((rd_T42 l0 x5_1).f1)) 16) : Int).toNat ((wrap64 ((Int.tmod (wrap64 ((rd_T42 l0 x5_1).f1)) 16) + 1)) : Int).toNat)) (wrap64 (x5_1 + 1))) else (none)) else (none)) else (none)) else (none)) else (none)) else (none)) else (none)) else (none)) = some r := by first | (rw [hji10] at H; exact H) | (simp only [hji10] at H ⊢; exact H)
                      have hji10w : (IntKind.i64.wrap (Int.tdiv (wrap64 ((rd_T42 l0 x5_1).f1)) 16)) = ji10 := (i64_w _).trans hji10
                      by_cases c11 : 0 ≤ (ji10)
                      · rw [if_pos c11] at H
                        have c11b0 := eq_true c11
                        have c11b1 : decide (0 ≤ (ji10)) = true := decide_eq_true c11
                        clear c11
                        by_cases c12 : (ji10) ≤ (wrap64 ((ji10) + 1))
                        · rw [if_pos c12] at H
                          have c12b0 := eq_true c12
                          have c12b1 : decide ((ji10) ≤ (wrap64 ((ji10) + 1))) = true := decide_eq_true c12
                          by_cases c13 : (wrap64 ((ji10) + 1)) ≤ ((⟨#[48, 49, 50, 51, 52, 53, 54, 55, 56, 57, 97, 98, 99, 100, 101, 102]⟩ : ByteArray).size : Int)
                          · rw [if_pos c13] at H
                            have c13b0 := eq_true c13
                            have c13b1 : decide ((wrap64 ((ji10) + 1)) ≤ ((⟨#[48, 49, 50, 51, 52, 53, 54, 55, 56, 57, 97, 98, 99, 100, 101, 102]⟩ : ByteArray).size : Int)) = true := decide_eq_true c13
                            have c13b7 : decide ((wrap64 ((ji10) + 1)) ≤ 16) = true := c13b1
                            by_cases c14 : ((x4_1 ++ (⟨#[32]⟩ : ByteArray)) ++ ((⟨#[32, 99, 97, 119, 114]⟩ : ByteArray).extract (((rd_T42 l0 x5_1).f0) : Int).toNat ((wrap64 (((rd_T42 l0 x5_1).f0) + 1)) : Int).toNat)).size + ((⟨#[48, 49, 50, 51, 52, 53, 54, 55, 56, 57, 97, 98, 99, 100, 101, 102]⟩ : ByteArray).extract ((ji10) : Int).toNat ((wrap64 ((ji10) + 1)) : Int).toNat).size ≤ 9223372036854775807
                            · rw [if_pos c14] at H
                              have c14b0 := eq_true c14
                              have c14b1 : decide (((x4_1 ++ (⟨#[32]⟩ : ByteArray)) ++ ((⟨#[32, 99, 97, 119, 114]⟩ : ByteArray).extract (((rd_T42 l0 x5_1).f0) : Int).toNat ((wrap64 (((rd_T42 l0 x5_1).f0) + 1)) : Int).toNat)).size + ((⟨#[48, 49, 50, 51, 52, 53, 54, 55, 56, 57, 97, 98, 99, 100, 101, 102]⟩ : ByteArray).extract ((ji10) : Int).toNat ((wrap64 ((ji10) + 1)) : Int).toNat).size ≤ 9223372036854775807) = true := decide_eq_true c14
                              try have c14b2 : (9223372036854775807 < ((x4_1 ++ (⟨#[32]⟩ : ByteArray)) ++ ((⟨#[32, 99, 97, 119, 114]⟩ : ByteArray).extract (((rd_T42 l0 x5_1).f0) : Int).toNat ((wrap64 (((rd_T42 l0 x5_1).f0) + 1)) : Int).toNat)).size + ((⟨#[48, 49, 50, 51, 52, 53, 54, 55, 56, 57, 97, 98, 99, 100, 101, 102]⟩ : ByteArray).extract ((ji10) : Int).toNat ((wrap64 ((ji10) + 1)) : Int).toNat).size) = False := eq_false (Nat.not_lt.2 c14)
                              obtain ⟨ji15, hji15⟩ : ∃ j_ : Int, (Int.tmod (wrap64 ((rd_T42 l0 x5_1).f1)) 16) = j_ := ⟨_, rfl⟩
                              replace H : (if 0 ≤ (ji15) then (if (ji15) ≤ (wrap64 ((ji15) + 1)) then (if (wrap64 ((ji15) + 1)) ≤ ((⟨#[48, 49, 50, 51, 52, 53, 54, 55, 56, 57, 97, 98, 99, 100, 101, 102]⟩ : ByteArray).size : Int) then (if (((x4_1 ++ (⟨#[32]⟩ : ByteArray)) ++ ((⟨#[32, 99, 97, 119, 114]⟩ : ByteArray).extract (((rd_T42 l0 x5_1).f0) : Int).toNat ((wrap64 (((rd_T42 l0 x5_1).f0) + 1)) : Int).toNat)) ++ ((⟨#[48, 49, 50, 51, 52, 53, 54, 55, 56, 57, 97, 98, 99, 100, 101, 102]⟩ : ByteArray).extract ((ji10) : Int).toNat ((wrap64 ((ji10) + 1)) : Int).toNat)).size + ((⟨#[48, 49, 50, 51, 52, 53, 54, 55, 56, 57, 97, 98, 99, 100, 101, 102]⟩ : ByteArray).extract ((ji15) : Int).toNat ((wrap64 ((ji15) + 1)) : Int).toNat).size ≤ 9223372036854775807 then (incunableref10_Text.l0 k1 l0 (⟨#[48, 49, 50, 51, 52, 53, 54, 55, 56, 57, 97, 98, 99, 100, 101, 102]⟩ : ByteArray) ((((x4_1 ++ (⟨#[32]⟩ : ByteArray)) ++ ((⟨#[32, 99, 97, 119, 114]⟩ : ByteArray).extract (((rd_T42 l0 x5_1).f0) : Int).toNat ((wrap64 (((rd_T42 l0 x5_1).f0) + 1)) : Int).toNat)) ++ ((⟨#[48, 49, 50, 51, 52, 53, 54, 55, 56, 57, 97, 98, 99, 100, 101, 102]⟩ : ByteArray).extract ((ji10) : Int).toNat ((wrap64 ((ji10) + 1)) : Int).toNat)) ++ ((⟨#[48, 49, 50, 51, 52, 53, 54, 55, 56, 57, 97, 98, 99, 100, 101, 102]⟩ : ByteArray).extract ((ji15) : Int).toNat ((wrap64 ((ji15) + 1)) : Int).toNat)) (wrap64 (x5_1 + 1))) else (none)) else (none)) else (none)) else (none)) = some r := by first | (rw [hji15] at H; exact H) | (simp only [hji15] at H ⊢; exact H)
                              by_cases c16 : 0 ≤ (ji15)
                              · rw [if_pos c16] at H
                                have c16b0 := eq_true c16
                                have c16b1 : decide (0 ≤ (ji15)) = true := decide_eq_true c16
                                clear c16
                                by_cases c17 : (ji15) ≤ (wrap64 ((ji15) + 1))
                                · rw [if_pos c17] at H
                                  have c17b0 := eq_true c17
                                  have c17b1 : decide ((ji15) ≤ (wrap64 ((ji15) + 1))) = true := decide_eq_true c17
                                  by_cases c18 : (wrap64 ((ji15) + 1)) ≤ ((⟨#[48, 49, 50, 51, 52, 53, 54, 55, 56, 57, 97, 98, 99, 100, 101, 102]⟩ : ByteArray).size : Int)
                                  · rw [if_pos c18] at H
                                    have c18b0 := eq_true c18
                                    have c18b1 : decide ((wrap64 ((ji15) + 1)) ≤ ((⟨#[48, 49, 50, 51, 52, 53, 54, 55, 56, 57, 97, 98, 99, 100, 101, 102]⟩ : ByteArray).size : Int)) = true := decide_eq_true c18
                                    have c18b7 : decide ((wrap64 ((ji15) + 1)) ≤ 16) = true := c18b1
                                    by_cases c19 : (((x4_1 ++ (⟨#[32]⟩ : ByteArray)) ++ ((⟨#[32, 99, 97, 119, 114]⟩ : ByteArray).extract (((rd_T42 l0 x5_1).f0) : Int).toNat ((wrap64 (((rd_T42 l0 x5_1).f0) + 1)) : Int).toNat)) ++ ((⟨#[48, 49, 50, 51, 52, 53, 54, 55, 56, 57, 97, 98, 99, 100, 101, 102]⟩ : ByteArray).extract ((ji10) : Int).toNat ((wrap64 ((ji10) + 1)) : Int).toNat)).size + ((⟨#[48, 49, 50, 51, 52, 53, 54, 55, 56, 57, 97, 98, 99, 100, 101, 102]⟩ : ByteArray).extract ((ji15) : Int).toNat ((wrap64 ((ji15) + 1)) : Int).toNat).size ≤ 9223372036854775807
                                    · rw [if_pos c19] at H
                                      have c19b0 := eq_true c19
                                      have c19b1 : decide ((((x4_1 ++ (⟨#[32]⟩ : ByteArray)) ++ ((⟨#[32, 99, 97, 119, 114]⟩ : ByteArray).extract (((rd_T42 l0 x5_1).f0) : Int).toNat ((wrap64 (((rd_T42 l0 x5_1).f0) + 1)) : Int).toNat)) ++ ((⟨#[48, 49, 50, 51, 52, 53, 54, 55, 56, 57, 97, 98, 99, 100, 101, 102]⟩ : ByteArray).extract ((ji10) : Int).toNat ((wrap64 ((ji10) + 1)) : Int).toNat)).size + ((⟨#[48, 49, 50, 51, 52, 53, 54, 55, 56, 57, 97, 98, 99, 100, 101, 102]⟩ : ByteArray).extract ((ji15) : Int).toNat ((wrap64 ((ji15) + 1)) : Int).toNat).size ≤ 9223372036854775807) = true := decide_eq_true c19
                                      try have c19b2 : (9223372036854775807 < (((x4_1 ++ (⟨#[32]⟩ : ByteArray)) ++ ((⟨#[32, 99, 97, 119, 114]⟩ : ByteArray).extract (((rd_T42 l0 x5_1).f0) : Int).toNat ((wrap64 (((rd_T42 l0 x5_1).f0) + 1)) : Int).toNat)) ++ ((⟨#[48, 49, 50, 51, 52, 53, 54, 55, 56, 57, 97, 98, 99, 100, 101, 102]⟩ : ByteArray).extract ((ji10) : Int).toNat ((wrap64 ((ji10) + 1)) : Int).toNat)).size + ((⟨#[48, 49, 50, 51, 52, 53, 54, 55, 56, 57, 97, 98, 99, 100, 101, 102]⟩ : ByteArray).extract ((ji15) : Int).toNat ((wrap64 ((ji15) + 1)) : Int).toNat).size) = False := eq_false (Nat.not_lt.2 c19)
                                      have H' := Aside0.mk H
                                      clear H
                                      have p109 : 0 ≤ (x5_1 : Int) := of_decide_eq_true (by first | (with_reducible assumption) | assumption)
                                      have q109 : x5_1 < (l0.length : Int) := of_decide_eq_true (by first | (with_reducible assumption) | assumption)
                                      obtain ⟨ad109, e109, hx109_0, hx109_1⟩ := at_T42 HR0.out x5_1 p109 q109
                                      cases e109
                                      replace p109 := eq_true p109
                                      replace q109 := eq_true q109
                                      have p110 : 0 ≤ (x5_1 : Int) := of_decide_eq_true (by first | (with_reducible assumption) | assumption)
                                      have q110 : x5_1 < (l0.length : Int) := of_decide_eq_true (by first | (with_reducible assumption) | assumption)
                                      obtain ⟨ad110, e110, hx110_0, hx110_1⟩ := at_T42 HR0.out x5_1 p110 q110
                                      obtain rfl : ad109 = ad110 := (by injection e110)
                                      replace p110 := eq_true p110
                                      replace q110 := eq_true q110
                                      go_wp2
                                      have wz1 := i64_w ((rd_T42 l0 x5_1).f0 + 1)
                                      have wz2 := i64_w (ji10 + 1)
                                      have wz3 := i64_w (ji15 + 1)
                                      have nn0 : (x4_1 ++ (⟨#[32]⟩ : ByteArray)).size = x4_1.size + 1 := (by rw [ByteArray.size_append]; rfl)
                                      have hh1 := Int.toNat_le.2 c8
                                      have n1 := cat_fact10 c9 hh1 nn0
                                      have nn1 : ((x4_1 ++ (⟨#[32]⟩ : ByteArray)) ++ ((⟨#[32, 99, 97, 119, 114]⟩ : ByteArray).extract (((rd_T42 l0 x5_1).f0) : Int).toNat ((wrap64 (((rd_T42 l0 x5_1).f0) + 1)) : Int).toNat)).size = _ := cat_size10 hh1 nn0
                                      have hh2 := Int.toNat_le.2 c13
                                      have n2 := cat_fact10 c14 hh2 nn1
                                      have nn2 : (((x4_1 ++ (⟨#[32]⟩ : ByteArray)) ++ ((⟨#[32, 99, 97, 119, 114]⟩ : ByteArray).extract (((rd_T42 l0 x5_1).f0) : Int).toNat ((wrap64 (((rd_T42 l0 x5_1).f0) + 1)) : Int).toNat)) ++ ((⟨#[48, 49, 50, 51, 52, 53, 54, 55, 56, 57, 97, 98, 99, 100, 101, 102]⟩ : ByteArray).extract ((ji10) : Int).toNat ((wrap64 ((ji10) + 1)) : Int).toNat)).size = _ := cat_size10 hh2 nn1
                                      have hh3 := Int.toNat_le.2 c18
                                      have n3 := cat_fact10 c19 hh3 nn2
                                      have w2b : (wrap64 (ji10 + 1) ≤ 16) = True := eq_true c13
                                      have w2c : (0 ≤ wrap64 (ji10 + 1)) = True := eq_true (Int.le_trans (of_decide_eq_true (by assumption : decide (0 ≤ ji10) = true)) (of_decide_eq_true (by assumption : decide (ji10 ≤ wrap64 (ji10 + 1)) = true)))
                                      have w3b : (wrap64 (ji15 + 1) ≤ 16) = True := eq_true c18
                                      have w3c : (0 ≤ wrap64 (ji15 + 1)) = True := eq_true (Int.le_trans (of_decide_eq_true (by assumption : decide (0 ≤ ji15) = true)) (of_decide_eq_true (by assumption : decide (ji15 ≤ wrap64 (ji15 + 1)) = true)))
                                      clear nn0 hh1 nn1 hh2 nn2 hh3
                                      repeat (go_quiet (fail); try go_wp2)
                                      go_roundg k1
                                      case measure => have := HK1.out; omega
                                      case rel => exact ⟨((((x4_1 ++ (⟨#[32]⟩ : ByteArray)) ++ ((⟨#[32, 99, 97, 119, 114]⟩ : ByteArray).extract (((rd_T42 l0 x5_1).f0) : Int).toNat ((wrap64 (((rd_T42 l0 x5_1).f0) + 1)) : Int).toNat)) ++ ((⟨#[48, 49, 50, 51, 52, 53, 54, 55, 56, 57, 97, 98, 99, 100, 101, 102]⟩ : ByteArray).extract ((ji10) : Int).toNat ((wrap64 ((ji10) + 1)) : Int).toNat)) ++ ((⟨#[48, 49, 50, 51, 52, 53, 54, 55, 56, 57, 97, 98, 99, 100, 101, 102]⟩ : ByteArray).extract ((ji15) : Int).toNat ((wrap64 ((ji15) + 1)) : Int).toNat)), (wrap64 (x5_1 + 1)), (by first | rfl | (simp; done) | (simp only [← hji10, ← hji15] <;> (first | rfl | simp)) | (simp [*]; done)), (by first | rfl | (simp; done) | (simp [*]; done)), H', ⟨by have := HK1.out; omega⟩, by repeat (first | exact Drawn0.refl _ | apply Drawn0.step)⟩
                                    · rw [if_neg c19] at H
                                      exact absurd H (by simp)
                                  · rw [if_neg c18] at H
                                    exact absurd H (by simp)
                                · rw [if_neg c17] at H
                                  exact absurd H (by simp)
                              · rw [if_neg c16] at H
                                exact absurd H (by simp)
                            · rw [if_neg c14] at H
                              exact absurd H (by simp)
                          · rw [if_neg c13] at H
                            exact absurd H (by simp)
                        · rw [if_neg c12] at H
                          exact absurd H (by simp)
                      · rw [if_neg c11] at H
                        exact absurd H (by simp)
                    · rw [if_neg c9] at H
                      exact absurd H (by simp)
                  · rw [if_neg c8] at H
                    exact absurd H (by simp)
                · rw [if_neg c7] at H
                  exact absurd H (by simp)
              · rw [if_neg c6] at H
                exact absurd H (by simp)
            · rw [if_neg c5] at H
              exact absurd H (by simp)
          · rw [if_neg c4] at H
            exact absurd H (by simp)
        · rw [if_neg c3] at H
          have c3b0 : decide (0 < x5_1) = false := decide_eq_false c3
          clear c3
          by_cases c20 : 0 ≤ x5_1
          · rw [if_pos c20] at H
            have c20b0 : decide (0 ≤ x5_1) = true := decide_eq_true c20
            clear c20
            by_cases c21 : 0 ≤ ((rd_T42 l0 x5_1).f0)
            · rw [if_pos c21] at H
              have c21b0 := eq_true c21
              have c21b1 : decide (0 ≤ ((rd_T42 l0 x5_1).f0)) = true := decide_eq_true c21
              clear c21
              by_cases c22 : ((rd_T42 l0 x5_1).f0) ≤ (wrap64 (((rd_T42 l0 x5_1).f0) + 1))
              · rw [if_pos c22] at H
                have c22b0 := eq_true c22
                have c22b1 : decide (((rd_T42 l0 x5_1).f0) ≤ (wrap64 (((rd_T42 l0 x5_1).f0) + 1))) = true := decide_eq_true c22
                by_cases c23 : (wrap64 (((rd_T42 l0 x5_1).f0) + 1)) ≤ 5
                · rw [if_pos c23] at H
                  have c23b0 := eq_true c23
                  have c23b1 : decide ((wrap64 (((rd_T42 l0 x5_1).f0) + 1)) ≤ 5) = true := decide_eq_true c23
                  by_cases c24 : x4_1.size + ((⟨#[32, 99, 97, 119, 114]⟩ : ByteArray).extract (((rd_T42 l0 x5_1).f0) : Int).toNat ((wrap64 (((rd_T42 l0 x5_1).f0) + 1)) : Int).toNat).size ≤ 9223372036854775807
                  · rw [if_pos c24] at H
                    have c24b0 := eq_true c24
                    have c24b1 : decide (x4_1.size + ((⟨#[32, 99, 97, 119, 114]⟩ : ByteArray).extract (((rd_T42 l0 x5_1).f0) : Int).toNat ((wrap64 (((rd_T42 l0 x5_1).f0) + 1)) : Int).toNat).size ≤ 9223372036854775807) = true := decide_eq_true c24
                    try have c24b2 : (9223372036854775807 < x4_1.size + ((⟨#[32, 99, 97, 119, 114]⟩ : ByteArray).extract (((rd_T42 l0 x5_1).f0) : Int).toNat ((wrap64 (((rd_T42 l0 x5_1).f0) + 1)) : Int).toNat).size) = False := eq_false (Nat.not_lt.2 c24)
                    obtain ⟨ji25, hji25⟩ : ∃ j_ : Int, (wrap64 (Int.tdiv (wrap64 ((rd_T42 l0 x5_1).f1)) 16)) = j_ := ⟨_, rfl⟩
                    replace H : (if 0 ≤ (ji25) then (if (ji25) ≤ (wrap64 ((ji25) + 1)) then (if (wrap64 ((ji25) + 1)) ≤ ((⟨#[48, 49, 50, 51, 52, 53, 54, 55, 56, 57, 97, 98, 99, 100, 101, 102]⟩ : ByteArray).size : Int) then (if (x4_1 ++ ((⟨#[32, 99, 97, 119, 114]⟩ : ByteArray).extract (((rd_T42 l0 x5_1).f0) : Int).toNat ((wrap64 (((rd_T42 l0 x5_1).f0) + 1)) : Int).toNat)).size + ((⟨#[48, 49, 50, 51, 52, 53, 54, 55, 56, 57, 97, 98, 99, 100, 101, 102]⟩ : ByteArray).extract ((ji25) : Int).toNat ((wrap64 ((ji25) + 1)) : Int).toNat).size ≤ 9223372036854775807 then (if 0 ≤ (Int.tmod (wrap64 ((rd_T42 l0 x5_1).f1)) 16) then (if (Int.tmod (wrap64 ((rd_T42 l0 x5_1).f1)) 16) ≤ (wrap64 ((Int.tmod (wrap64 ((rd_T42 l0 x5_1).f1)) 16) + 1)) then (if (wrap64 ((Int.tmod (wrap64 ((rd_T42 l0 x5_1).f1)) 16) + 1)) ≤ ((⟨#[48, 49, 50, 51, 52, 53, 54, 55, 56, 57, 97, 98, 99, 100, 101, 102]⟩ : ByteArray).size : Int) then (if ((x4_1 ++ ((⟨#[32, 99, 97, 119, 114]⟩ : ByteArray).extract (((rd_T42 l0 x5_1).f0) : Int).toNat ((wrap64 (((rd_T42 l0 x5_1).f0) + 1)) : Int).toNat)) ++ ((⟨#[48, 49, 50, 51, 52, 53, 54, 55, 56, 57, 97, 98, 99, 100, 101, 102]⟩ : ByteArray).extract ((ji25) : Int).toNat ((wrap64 ((ji25) + 1)) : Int).toNat)).size + ((⟨#[48, 49, 50, 51, 52, 53, 54, 55, 56, 57, 97, 98, 99, 100, 101, 102]⟩ : ByteArray).extract ((Int.tmod (wrap64 ((rd_T42 l0 x5_1).f1)) 16) : Int).toNat ((wrap64 ((Int.tmod (wrap64 ((rd_T42 l0 x5_1).f1)) 16) + 1)) : Int).toNat).size ≤ 9223372036854775807 then (incunableref10_Text.l0 k1 l0 (⟨#[48, 49, 50, 51, 52, 53, 54, 55, 56, 57, 97, 98, 99, 100, 101, 102]⟩ : ByteArray) (((x4_1 ++ ((⟨#[32, 99, 97, 119, 114]⟩ : ByteArray).extract (((rd_T42 l0 x5_1).f0) : Int).toNat ((wrap64 (((rd_T42 l0 x5_1).f0) + 1)) : Int).toNat)) ++ ((⟨#[48, 49, 50, 51, 52, 53, 54, 55, 56, 57, 97, 98, 99, 100, 101, 102]⟩ : ByteArray).extract ((ji25) : Int).toNat ((wrap64 ((ji25) + 1)) : Int).toNat)) ++ ((⟨#[48, 49, 50, 51, 52, 53, 54, 55, 56, 57, 97, 98, 99, 100, 101, 102]⟩ : ByteArray).extract ((Int.tmod (wrap64 ((rd_T42 l0 x5_1).f1)) 16) : Int).toNat ((wrap64 ((Int.tmod (wrap64 ((rd_T42 l0 x5_1).f1)) 16) + 1)) : Int).toNat)) (wrap64 (x5_1 + 1))) else (none)) else (none)) else (none)) else (none)) else (none)) else (none)) else (none)) else (none)) = some r := by first | (rw [hji25] at H; exact H) | (simp only [hji25] at H ⊢; exact H)
                    have hji25w : (IntKind.i64.wrap (Int.tdiv (wrap64 ((rd_T42 l0 x5_1).f1)) 16)) = ji25 := (i64_w _).trans hji25
                    by_cases c26 : 0 ≤ (ji25)
                    · rw [if_pos c26] at H
                      have c26b0 := eq_true c26
                      have c26b1 : decide (0 ≤ (ji25)) = true := decide_eq_true c26
                      clear c26
                      by_cases c27 : (ji25) ≤ (wrap64 ((ji25) + 1))
                      · rw [if_pos c27] at H
                        have c27b0 := eq_true c27
                        have c27b1 : decide ((ji25) ≤ (wrap64 ((ji25) + 1))) = true := decide_eq_true c27
                        by_cases c28 : (wrap64 ((ji25) + 1)) ≤ ((⟨#[48, 49, 50, 51, 52, 53, 54, 55, 56, 57, 97, 98, 99, 100, 101, 102]⟩ : ByteArray).size : Int)
                        · rw [if_pos c28] at H
                          have c28b0 := eq_true c28
                          have c28b1 : decide ((wrap64 ((ji25) + 1)) ≤ ((⟨#[48, 49, 50, 51, 52, 53, 54, 55, 56, 57, 97, 98, 99, 100, 101, 102]⟩ : ByteArray).size : Int)) = true := decide_eq_true c28
                          have c28b7 : decide ((wrap64 ((ji25) + 1)) ≤ 16) = true := c28b1
                          by_cases c29 : (x4_1 ++ ((⟨#[32, 99, 97, 119, 114]⟩ : ByteArray).extract (((rd_T42 l0 x5_1).f0) : Int).toNat ((wrap64 (((rd_T42 l0 x5_1).f0) + 1)) : Int).toNat)).size + ((⟨#[48, 49, 50, 51, 52, 53, 54, 55, 56, 57, 97, 98, 99, 100, 101, 102]⟩ : ByteArray).extract ((ji25) : Int).toNat ((wrap64 ((ji25) + 1)) : Int).toNat).size ≤ 9223372036854775807
                          · rw [if_pos c29] at H
                            have c29b0 := eq_true c29
                            have c29b1 : decide ((x4_1 ++ ((⟨#[32, 99, 97, 119, 114]⟩ : ByteArray).extract (((rd_T42 l0 x5_1).f0) : Int).toNat ((wrap64 (((rd_T42 l0 x5_1).f0) + 1)) : Int).toNat)).size + ((⟨#[48, 49, 50, 51, 52, 53, 54, 55, 56, 57, 97, 98, 99, 100, 101, 102]⟩ : ByteArray).extract ((ji25) : Int).toNat ((wrap64 ((ji25) + 1)) : Int).toNat).size ≤ 9223372036854775807) = true := decide_eq_true c29
                            try have c29b2 : (9223372036854775807 < (x4_1 ++ ((⟨#[32, 99, 97, 119, 114]⟩ : ByteArray).extract (((rd_T42 l0 x5_1).f0) : Int).toNat ((wrap64 (((rd_T42 l0 x5_1).f0) + 1)) : Int).toNat)).size + ((⟨#[48, 49, 50, 51, 52, 53, 54, 55, 56, 57, 97, 98, 99, 100, 101, 102]⟩ : ByteArray).extract ((ji25) : Int).toNat ((wrap64 ((ji25) + 1)) : Int).toNat).size) = False := eq_false (Nat.not_lt.2 c29)
                            obtain ⟨ji30, hji30⟩ : ∃ j_ : Int, (Int.tmod (wrap64 ((rd_T42 l0 x5_1).f1)) 16) = j_ := ⟨_, rfl⟩
                            replace H : (if 0 ≤ (ji30) then (if (ji30) ≤ (wrap64 ((ji30) + 1)) then (if (wrap64 ((ji30) + 1)) ≤ ((⟨#[48, 49, 50, 51, 52, 53, 54, 55, 56, 57, 97, 98, 99, 100, 101, 102]⟩ : ByteArray).size : Int) then (if ((x4_1 ++ ((⟨#[32, 99, 97, 119, 114]⟩ : ByteArray).extract (((rd_T42 l0 x5_1).f0) : Int).toNat ((wrap64 (((rd_T42 l0 x5_1).f0) + 1)) : Int).toNat)) ++ ((⟨#[48, 49, 50, 51, 52, 53, 54, 55, 56, 57, 97, 98, 99, 100, 101, 102]⟩ : ByteArray).extract ((ji25) : Int).toNat ((wrap64 ((ji25) + 1)) : Int).toNat)).size + ((⟨#[48, 49, 50, 51, 52, 53, 54, 55, 56, 57, 97, 98, 99, 100, 101, 102]⟩ : ByteArray).extract ((ji30) : Int).toNat ((wrap64 ((ji30) + 1)) : Int).toNat).size ≤ 9223372036854775807 then (incunableref10_Text.l0 k1 l0 (⟨#[48, 49, 50, 51, 52, 53, 54, 55, 56, 57, 97, 98, 99, 100, 101, 102]⟩ : ByteArray) (((x4_1 ++ ((⟨#[32, 99, 97, 119, 114]⟩ : ByteArray).extract (((rd_T42 l0 x5_1).f0) : Int).toNat ((wrap64 (((rd_T42 l0 x5_1).f0) + 1)) : Int).toNat)) ++ ((⟨#[48, 49, 50, 51, 52, 53, 54, 55, 56, 57, 97, 98, 99, 100, 101, 102]⟩ : ByteArray).extract ((ji25) : Int).toNat ((wrap64 ((ji25) + 1)) : Int).toNat)) ++ ((⟨#[48, 49, 50, 51, 52, 53, 54, 55, 56, 57, 97, 98, 99, 100, 101, 102]⟩ : ByteArray).extract ((ji30) : Int).toNat ((wrap64 ((ji30) + 1)) : Int).toNat)) (wrap64 (x5_1 + 1))) else (none)) else (none)) else (none)) else (none)) = some r := by first | (rw [hji30] at H; exact H) | (simp only [hji30] at H ⊢; exact H)
                            by_cases c31 : 0 ≤ (ji30)
                            · rw [if_pos c31] at H
                              have c31b0 := eq_true c31
                              have c31b1 : decide (0 ≤ (ji30)) = true := decide_eq_true c31
                              clear c31
                              by_cases c32 : (ji30) ≤ (wrap64 ((ji30) + 1))
                              · rw [if_pos c32] at H
                                have c32b0 := eq_true c32
                                have c32b1 : decide ((ji30) ≤ (wrap64 ((ji30) + 1))) = true := decide_eq_true c32
                                by_cases c33 : (wrap64 ((ji30) + 1)) ≤ ((⟨#[48, 49, 50, 51, 52, 53, 54, 55, 56, 57, 97, 98, 99, 100, 101, 102]⟩ : ByteArray).size : Int)
                                · rw [if_pos c33] at H
                                  have c33b0 := eq_true c33
                                  have c33b1 : decide ((wrap64 ((ji30) + 1)) ≤ ((⟨#[48, 49, 50, 51, 52, 53, 54, 55, 56, 57, 97, 98, 99, 100, 101, 102]⟩ : ByteArray).size : Int)) = true := decide_eq_true c33
                                  have c33b7 : decide ((wrap64 ((ji30) + 1)) ≤ 16) = true := c33b1
                                  by_cases c34 : ((x4_1 ++ ((⟨#[32, 99, 97, 119, 114]⟩ : ByteArray).extract (((rd_T42 l0 x5_1).f0) : Int).toNat ((wrap64 (((rd_T42 l0 x5_1).f0) + 1)) : Int).toNat)) ++ ((⟨#[48, 49, 50, 51, 52, 53, 54, 55, 56, 57, 97, 98, 99, 100, 101, 102]⟩ : ByteArray).extract ((ji25) : Int).toNat ((wrap64 ((ji25) + 1)) : Int).toNat)).size + ((⟨#[48, 49, 50, 51, 52, 53, 54, 55, 56, 57, 97, 98, 99, 100, 101, 102]⟩ : ByteArray).extract ((ji30) : Int).toNat ((wrap64 ((ji30) + 1)) : Int).toNat).size ≤ 9223372036854775807
                                  · rw [if_pos c34] at H
                                    have c34b0 := eq_true c34
                                    have c34b1 : decide (((x4_1 ++ ((⟨#[32, 99, 97, 119, 114]⟩ : ByteArray).extract (((rd_T42 l0 x5_1).f0) : Int).toNat ((wrap64 (((rd_T42 l0 x5_1).f0) + 1)) : Int).toNat)) ++ ((⟨#[48, 49, 50, 51, 52, 53, 54, 55, 56, 57, 97, 98, 99, 100, 101, 102]⟩ : ByteArray).extract ((ji25) : Int).toNat ((wrap64 ((ji25) + 1)) : Int).toNat)).size + ((⟨#[48, 49, 50, 51, 52, 53, 54, 55, 56, 57, 97, 98, 99, 100, 101, 102]⟩ : ByteArray).extract ((ji30) : Int).toNat ((wrap64 ((ji30) + 1)) : Int).toNat).size ≤ 9223372036854775807) = true := decide_eq_true c34
                                    try have c34b2 : (9223372036854775807 < ((x4_1 ++ ((⟨#[32, 99, 97, 119, 114]⟩ : ByteArray).extract (((rd_T42 l0 x5_1).f0) : Int).toNat ((wrap64 (((rd_T42 l0 x5_1).f0) + 1)) : Int).toNat)) ++ ((⟨#[48, 49, 50, 51, 52, 53, 54, 55, 56, 57, 97, 98, 99, 100, 101, 102]⟩ : ByteArray).extract ((ji25) : Int).toNat ((wrap64 ((ji25) + 1)) : Int).toNat)).size + ((⟨#[48, 49, 50, 51, 52, 53, 54, 55, 56, 57, 97, 98, 99, 100, 101, 102]⟩ : ByteArray).extract ((ji30) : Int).toNat ((wrap64 ((ji30) + 1)) : Int).toNat).size) = False := eq_false (Nat.not_lt.2 c34)
                                    have H' := Aside0.mk H
                                    clear H
                                    have p111 : 0 ≤ (x5_1 : Int) := of_decide_eq_true (by first | (with_reducible assumption) | assumption)
                                    have q111 : x5_1 < (l0.length : Int) := of_decide_eq_true (by first | (with_reducible assumption) | assumption)
                                    obtain ⟨ad111, e111, hx111_0, hx111_1⟩ := at_T42 HR0.out x5_1 p111 q111
                                    cases e111
                                    replace p111 := eq_true p111
                                    replace q111 := eq_true q111
                                    have p112 : 0 ≤ (x5_1 : Int) := of_decide_eq_true (by first | (with_reducible assumption) | assumption)
                                    have q112 : x5_1 < (l0.length : Int) := of_decide_eq_true (by first | (with_reducible assumption) | assumption)
                                    obtain ⟨ad112, e112, hx112_0, hx112_1⟩ := at_T42 HR0.out x5_1 p112 q112
                                    obtain rfl : ad111 = ad112 := (by injection e112)
                                    replace p112 := eq_true p112
                                    replace q112 := eq_true q112
                                    go_wp2
                                    have wz1 := i64_w ((rd_T42 l0 x5_1).f0 + 1)
                                    have wz2 := i64_w (ji25 + 1)
                                    have wz3 := i64_w (ji30 + 1)
                                    have nn0 : x4_1.size = x4_1.size := rfl
                                    have hh1 := Int.toNat_le.2 c23
                                    have n1 := cat_fact10 c24 hh1 nn0
                                    have nn1 : (x4_1 ++ ((⟨#[32, 99, 97, 119, 114]⟩ : ByteArray).extract (((rd_T42 l0 x5_1).f0) : Int).toNat ((wrap64 (((rd_T42 l0 x5_1).f0) + 1)) : Int).toNat)).size = _ := cat_size10 hh1 nn0
                                    have hh2 := Int.toNat_le.2 c28
                                    have n2 := cat_fact10 c29 hh2 nn1
                                    have nn2 : ((x4_1 ++ ((⟨#[32, 99, 97, 119, 114]⟩ : ByteArray).extract (((rd_T42 l0 x5_1).f0) : Int).toNat ((wrap64 (((rd_T42 l0 x5_1).f0) + 1)) : Int).toNat)) ++ ((⟨#[48, 49, 50, 51, 52, 53, 54, 55, 56, 57, 97, 98, 99, 100, 101, 102]⟩ : ByteArray).extract ((ji25) : Int).toNat ((wrap64 ((ji25) + 1)) : Int).toNat)).size = _ := cat_size10 hh2 nn1
                                    have hh3 := Int.toNat_le.2 c33
                                    have n3 := cat_fact10 c34 hh3 nn2
                                    have w2b : (wrap64 (ji25 + 1) ≤ 16) = True := eq_true c28
                                    have w2c : (0 ≤ wrap64 (ji25 + 1)) = True := eq_true (Int.le_trans (of_decide_eq_true (by assumption : decide (0 ≤ ji25) = true)) (of_decide_eq_true (by assumption : decide (ji25 ≤ wrap64 (ji25 + 1)) = true)))
                                    have w3b : (wrap64 (ji30 + 1) ≤ 16) = True := eq_true c33
                                    have w3c : (0 ≤ wrap64 (ji30 + 1)) = True := eq_true (Int.le_trans (of_decide_eq_true (by assumption : decide (0 ≤ ji30) = true)) (of_decide_eq_true (by assumption : decide (ji30 ≤ wrap64 (ji30 + 1)) = true)))
                                    clear nn0 hh1 nn1 hh2 nn2 hh3
                                    repeat (go_quiet (fail); try go_wp2)
                                    go_roundg k1
                                    case measure => have := HK1.out; omega
                                    case rel => exact ⟨(((x4_1 ++ ((⟨#[32, 99, 97, 119, 114]⟩ : ByteArray).extract (((rd_T42 l0 x5_1).f0) : Int).toNat ((wrap64 (((rd_T42 l0 x5_1).f0) + 1)) : Int).toNat)) ++ ((⟨#[48, 49, 50, 51, 52, 53, 54, 55, 56, 57, 97, 98, 99, 100, 101, 102]⟩ : ByteArray).extract ((ji25) : Int).toNat ((wrap64 ((ji25) + 1)) : Int).toNat)) ++ ((⟨#[48, 49, 50, 51, 52, 53, 54, 55, 56, 57, 97, 98, 99, 100, 101, 102]⟩ : ByteArray).extract ((ji30) : Int).toNat ((wrap64 ((ji30) + 1)) : Int).toNat)), (wrap64 (x5_1 + 1)), (by first | rfl | (simp; done) | (simp only [← hji25, ← hji30] <;> (first | rfl | simp)) | (simp [*]; done)), (by first | rfl | (simp; done) | (simp [*]; done)), H', ⟨by have := HK1.out; omega⟩, by repeat (first | exact Drawn0.refl _ | apply Drawn0.step)⟩
                                  · rw [if_neg c34] at H
                                    exact absurd H (by simp)
                                · rw [if_neg c33] at H
                                  exact absurd H (by simp)
                              · rw [if_neg c32] at H
                                exact absurd H (by simp)
                            · rw [if_neg c31] at H
                              exact absurd H (by simp)
                          · rw [if_neg c29] at H
                            exact absurd H (by simp)
                        · rw [if_neg c28] at H
                          exact absurd H (by simp)
                      · rw [if_neg c27] at H
                        exact absurd H (by simp)
                    · rw [if_neg c26] at H
                      exact absurd H (by simp)
                  · rw [if_neg c24] at H
                    exact absurd H (by simp)
                · rw [if_neg c23] at H
                  exact absurd H (by simp)
              · rw [if_neg c22] at H
                exact absurd H (by simp)
            · rw [if_neg c21] at H
              exact absurd H (by simp)
          · rw [if_neg c20] at H
            exact absurd H (by simp)
      · rw [if_neg c2] at H
        have c2b0 : decide (x5_1 < (l0.length : Int)) = false := decide_eq_false c2
        clear c2
        obtain rfl := Option.some.inj H
        go_wp2
        repeat (go_quiet (fail); try go_wp2)
        go_ret
        exact ⟨by first | rfl | (simp; done) | (simp [*]; done), by repeat (first | exact Drawn0.refl _ | apply Drawn0.step)⟩

/-! ### cycle_Of: function 24 -/
def cycle_Of.l0 : Nat → Int → List (S42) → List Int → Int → Int → Option ((List (S42)))
  | 0, _, _, _, _, _ => none
  | k + 1, x0, x5, x8, x9, x10 => if x10 < x9 then (if 0 ≤ x10 then (if x10 < (x8.length : Int) then (if x5.length < 8796093022208 then (cycle_Of.l0 k x0 (x5 ++ [(⟨x0, rd x8 x10⟩ : S42)]) x8 x9 (wrap64 (x10 + 1))) else (none)) else (none)) else (none)) else (some x5)
def cycle_Of.f (k : Nat) (a0 : Int) (l1 : List Int) : Option ((List (S42))) := cycle_Of.l0 k a0 ([] : List (S42)) l1 (l1.length : Int) 0
theorem cycle_Of.mono_l : ∀ k, (∀ y0 y1 y2 y3 y4, LeO (cycle_Of.l0 k y0 y1 y2 y3 y4) (cycle_Of.l0 (k + 1) y0 y1 y2 y3 y4))
  | 0 => fun _ _ _ _ _ r h => by simp [cycle_Of.l0] at h
  | k + 1 => by
    have ih0 := cycle_Of.mono_l k
    · intro y0 y1 y2 y3 y4
      unfold cycle_Of.l0
      repeat' first
      | (with_reducible exact ih0 _ _ _ _ _)
      | (with_reducible exact LeO.refl _)
      | (with_reducible exact LeO.none _)
      | (with_reducible refine LeO.ite ?_ ?_)
      | (with_reducible refine LeO.bind ?_ (fun _ => ?_))
      | exact ih0 _ _ _ _ _
      | exact LeO.none _
      | refine LeO.ite ?_ ?_
      | refine LeO.bind ?_ (fun _ => ?_)
theorem cycle_Of.mono : ∀ a0 a1 k, LeO (cycle_Of.f k a0 a1) (cycle_Of.f (k + 1) a0 a1) := by
  intro a0 a1 k
  have ih0 := cycle_Of.mono_l k
  unfold cycle_Of.f
  repeat' first
      | (with_reducible exact ih0 _ _ _ _ _)
      | (with_reducible exact LeO.refl _)
      | (with_reducible exact LeO.none _)
      | (with_reducible refine LeO.ite ?_ ?_)
      | (with_reducible refine LeO.bind ?_ (fun _ => ?_))
      | exact ih0 _ _ _ _ _
      | exact LeO.none _
      | refine LeO.ite ?_ ?_
      | refine LeO.bind ?_ (fun _ => ?_)
set_option maxHeartbeats 8000000 in
set_option maxRecDepth 100000 in
theorem cycle_Of.calls (k : Nat) (a0 : Int) (A1 : Option Addr) (c1 : Nat) (l1 : List Int) (r : List (S42)) (w : World) (hr1 : Kd.C (Kd.int .u8) w A1 l1.length l1) (hc1 : l1.length ≤ c1) (h : cycle_Of.f k a0 l1 = some r) :
    Calls Try.prog 24 #[.int .i64 a0, .slice A1 l1.length c1] w fun e w' => ∃ v0_ : Value, e = .returned (v0_) ∧ Kd.R k42 42 w' w.heap.size (fun _ => True) v0_ r ∧ Below w.heap.size w w' := by
  have hu42 := Try.underlying42
  have HR1 := Aside0.mk hr1
  have HC1 := Aside0.mk hc1
  clear hr1 hc1
  have HB := Aside0.mk (Below.refl w.heap.size w)
  have H : (cycle_Of.l0 k a0 ([] : List (S42)) l1 (l1.length : Int) 0) = some r := h
  clear h
  have H' := Aside0.mk H
  clear H
  go_enter Try.func24, Try.ntmps24
  go_wp2
  go_loopg [5, 10] k (fun kq v5 v10 w' => ∃ (x5_1 : List (S42)) (x10_1 : Int), v10 = .int .i64 x10_1 ∧ Aside0 (cycle_Of.l0 kq a0 x5_1 l1 (l1.length : Int) x10_1 = some r) ∧ Aside0 (kq ≤ k) ∧ Aside0 (Kd.R k42 42 w' w.heap.size (fun _ => True) v5 x5_1) ∧ Aside0 (Below w.heap.size w w'))
  case atStart => exact ⟨(([] : List (S42))), (0), (by first | rfl | (simp; done) | (simp [*]; done)), H', ⟨Nat.le_refl _⟩, ⟨by first | exact Kd.R_nil _ _ _ _ _ | exact Kd.N_nil _ _ _ _ _ | exact Kd.V_nil _ _ _ _ _ | exact Kd.Q_nil _ _ _ _ _ | exact Kd.S_nil _ _ _ _ _⟩, ⟨by repeat (first | (with_reducible first | exact HB.out | apply below_alloc | apply pw_below_drewN | apply below_drew1) | exact HB.out)⟩⟩
  case round =>
    clear H'
    try clear c1
    try clear c2
    try clear p2
    obtain ⟨x5_1, x10_1, rfl, HA, HK1, HO_5, HB⟩ := hrel
    cases gk with
    | zero => exact absurd HA.out (by simp [cycle_Of.l0])
    | succ k1 =>
      have H := HA.out
      clear HA
      simp only [cycle_Of.l0] at H
      by_cases c3 : x10_1 < (l1.length : Int)
      · rw [if_pos c3] at H
        have c3b0 : decide (x10_1 < (l1.length : Int)) = true := decide_eq_true c3
        clear c3
        by_cases c4 : 0 ≤ x10_1
        · rw [if_pos c4] at H
          have c4b0 : decide (0 ≤ x10_1) = true := decide_eq_true c4
          clear c4
          by_cases c5 : x10_1 < (l1.length : Int)
          · rw [if_pos c5] at H
            have c5b0 : decide (x10_1 < (l1.length : Int)) = true := decide_eq_true c5
            clear c5
            by_cases c6 : x5_1.length < 8796093022208
            · rw [if_pos c6] at H
              have LMc6 := Aside0.mk c6
              clear c6
              obtain ⟨y114, hy114⟩ : ∃ y_ : List (S42), y_ = (x5_1 ++ [(⟨a0, rd l1 x10_1⟩ : S42)]) := ⟨_, rfl⟩
              replace H : (cycle_Of.l0 k1 a0 y114 l1 (l1.length : Int) (wrap64 (x10_1 + 1))) = some r := by first | (rw [hy114]; with_reducible exact H) | (have H2_ := (Option.bind_some _ _).symm.trans H; rw [hy114]; with_reducible exact H2_) | (have H2_ := (Option.bind_some _ _).symm.trans H; with_reducible exact H2_) | with_reducible exact H | (rw [hy114]; exact H) | exact H
              have Ny114 := Aside0.mk hy114
              clear hy114
              have H' := Aside0.mk H
              clear H
              have p113 : 0 ≤ (x10_1 : Int) := of_decide_eq_true (by first | (with_reducible assumption) | assumption)
              have q113 : x10_1 < (l1.length : Int) := of_decide_eq_true (by first | (with_reducible assumption) | assumption)
              obtain ⟨ad113, e113, hx113_0⟩ := Kd.at_int HR1.out x10_1 p113 q113
              cases e113
              replace hx113_0 := (HB.out.cell (World.block_lt_of_cell? w _ hx113_0)).trans hx113_0
              replace p113 := eq_true p113
              replace q113 := eq_true q113
              go_wp2_with (first | ((with_reducible refine gate_builtin (b := .append) (xs := #[.tmp 14, .tmp 18]) rfl ?_); at_builtin; refine Kd.R_append k42 (w0 := w) w.heap.size rfl (.tmp 14) (.tmp 18) 34 42 (.agg #[(.int .i64 0), (.int .u8 0)]) 16 rfl Try.underlying34 info42 rfl (by decide) (by omega) u5 x5_1 (⟨a0, rd l1 x10_1⟩ : S42) [.int .i64 a0, .int .u8 (rd l1 x10_1)] (fun _ => True) (fun _ => False) rfl rfl ?aP (fun _ hk => hk.elim) ?aF ?aO ?aB ?aS ?aL ?_; (case aP => exact k42_mkM _ _ _ (⟨a0, rd l1 x10_1⟩ : S42)); (case aB => exact (by repeat (first | (with_reducible first | exact HB.out | apply below_alloc | apply pw_below_drewN | apply below_drew1) | exact HB.out))); (case aF => exact (fun _ _ => trivial)); (case aO => exact (by (with_reducible repeat (first | apply Kd.R_alloc | apply Kd.R_drewN | apply Kd.R_drew)); exact HO_5.out)); (case aS => exact (below_size (by repeat (first | (with_reducible first | exact HB.out | apply below_alloc | apply pw_below_drewN | apply below_drew1) | exact HB.out)))); (case aL => have := LMc6.out; omega); intro v115 w7 ho hb hg hat; rw [← Ny114.out] at ho; have n0_ := Aside0.mk (hb); have n1_ := Aside0.mk (ho); clear HB; clear HO_5; have HB := n0_; have HO116 := n1_; clear n0_ n1_; clear ho hb hg hat))
              go_roundg k1
              case measure => have := HK1.out; omega
              case rel => exact ⟨(y114), (wrap64 (x10_1 + 1)), (by first | rfl | (simp; done) | (simp [*]; done)), H', ⟨by have := HK1.out; omega⟩, ⟨by (with_reducible repeat (first | apply Kd.R_alloc | apply Kd.R_drewN | apply Kd.R_drew)); exact HO116.out⟩, ⟨by repeat (first | (with_reducible first | exact HB.out | apply below_alloc | apply pw_below_drewN | apply below_drew1) | exact HB.out)⟩⟩
            · rw [if_neg c6] at H
              exact absurd H (by simp)
          · rw [if_neg c5] at H
            exact absurd H (by simp)
        · rw [if_neg c4] at H
          exact absurd H (by simp)
      · rw [if_neg c3] at H
        have c3b0 : decide (x10_1 < (l1.length : Int)) = false := decide_eq_false c3
        clear c3
        obtain rfl := Option.some.inj H
        go_wp2
        go_ret
        exact ⟨_, by first | rfl | (simp [errW_none, errW_some] <;> rfl) | (simp [*, errW_none, errW_some] <;> rfl), by (with_reducible repeat (first | apply Kd.R_alloc | apply Kd.R_drewN | apply Kd.R_drew)); exact HO_5.out, by repeat (first | (with_reducible first | exact HB.out | apply below_alloc | apply pw_below_drewN | apply below_drew1) | exact HB.out)⟩

end Go.Proofs.Ytpabehkdedhncaa.QCycleTexts
