import Derived.Test.YtmehbabchakkpaaMLadderWalksx5
namespace Go.Proofs.Ytmehbabchakkpaa.QLadderWalks
open Go.RowKit YtmehbabchakkpaaW.PrintWords YtmehbabchakkpaaW.PrintLast YtmehbabchakkpaaW.PrintMore Short
attribute [local go_sem] max2_int min2_int max_two min_two max_three min_three max_four min_four
set_option linter.unusedVariables false
set_option maxHeartbeats 8000000
set_option maxRecDepth 100000
set_option linter.unusedSimpArgs false
def crc_Check.f (k : Nat) (l0 : List Int) : Option (Bool) := if (wrap64 ((l0.length : Int) - 4)) ≥ 0 then (if 0 ≤ (wrap64 ((l0.length : Int) - 4)) then (if (wrap64 ((l0.length : Int) - 4)) ≤ (l0.length : Int) then ((crc_Sum.f k (([(l0.take ((wrap64 ((l0.length : Int) - 4)) : Int).toNat)] : List (List Int)))).bind fun t188 => ((crc_Bytes.f k t188).bind fun t189 => (some ((strOfNums t189).toList == (strOfNums (l0.drop ((wrap64 ((l0.length : Int) - 4)) : Int).toNat)).toList)))) else (none)) else (none)) else (some false)
theorem crc_Check.mono : ∀ a0 k, LeO (crc_Check.f k a0) (crc_Check.f (k + 1) a0) := by
 intro a0 k
 unfold crc_Check.f
 repeat' with_reducible first
  | exact crc_Bytes.mono _ _
  | exact crc_Sum.mono _ _
  | exact LeO.refl _
  | exact LeO.none _
  | refine LeO.ite ?_ ?_
  | refine LeO.bind ?_ (fun _ => ?_)
def crc_Check.T2 : Bool × List (List Nat × List Nat) := (true, [([], []), ([0], [0]), ([1], [1]), ([2], [2]), ([2], [2]), ([3, 4, 2], [2, 3, 4]), ([5, 2], [2, 5]), ([6, 2, 2], [2, 6]), ([7, 7, 2], [2, 7]), ([8, 2], [2, 8]), ([2], [2]), ([2], [2]), ([10, 11, 2], [2, 10, 11]), ([12, 2], [2, 12]), ([9, 13, 2], [2, 9, 13]), ([2, 14], [2, 14]), ([15, 8, 0, 1, 2, 3, 4, 5, 6, 7, 8, 9, 10, 11, 12, 13, 14, 15], [15])])
def crc_Check.B2 : List Nat := [0, 1, 3, 7, 7, 31, 63, 127, 255, 511, 7, 7, 3079, 7175, 16383, 32767, 65535]
theorem crc_Check.tab2 : rtab .any (opsOf Try.f61 2) = crc_Check.T2 := by kernel_rfl
theorem crc_Check.bits2 : waitsOk crc_Check.T2.2 crc_Check.B2 = true := by kernel_rfl
theorem crc_Check.calls (k : Nat) (P0_ : Nat → Prop) (A0 : Option Addr) (c0 : Nat) (l0 : List Int) (r : Bool) (w : World) (hs0 : Kd.V (Kd.int .u8) 5 w w.heap.size (fun k_ => P0_ k_) (.slice A0 l0.length c0) l0) (h : crc_Check.f k l0 = some r) :
  Calls Try.prog 61 #[.slice A0 l0.length c0] w fun e w' => e = .returned (.bool r) ∧ Below w.heap.size w w' := by
 have HO0 := ak_ (show Kd.V (Kd.int .u8) 5 w w.heap.size (fun k_ => (P0_ k_ ∨ w.heap.size ≤ k_)) (.slice A0 l0.length c0) l0 from Kd.V_mono hs0 (fun k_ hk => .inl hk))
 have HB := br_ w
 unfold crc_Check.f at h
 have H := h
 clear h
 by_cases c2 : (wrap64 ((l0.length : Int) - 4)) ≥ 0
 ·rw [if_pos c2] at H
  have c2b0 : decide (0 ≤ (wrap64 ((l0.length : Int) - 4))) = true := dt_ c2
  clear c2
  obtain ⟨ji3, hji3⟩ : ∃ j_ : Int, (wrap64 ((l0.length : Int) - 4)) = j_ := ⟨_, rfl⟩
  replace H : (if 0 ≤ (ji3) then (if (ji3) ≤ (l0.length : Int) then ((crc_Sum.f k (([(l0.take ((ji3) : Int).toNat)] : List (List Int)))).bind fun t180 => ((crc_Bytes.f k t180).bind fun t181 => (some ((strOfNums t181).toList == (strOfNums (l0.drop ((ji3) : Int).toNat)).toList)))) else (none)) else (none)) = some r := (by rw [hji3] at H; exact H)
  (try rw [hji3] at c2b0)
  have hji3w : (IntKind.i64.wrap ((l0.length : Int) - 4)) = ji3 := (i64_w _).trans hji3
  by_cases c4 : 0 ≤ (ji3)
  ·rw [if_pos c4] at H
   have c4b0 := eq_true c4
   have c4b1 := dt_ c4
   clear c4
   by_cases c5 : (ji3) ≤ (l0.length : Int)
   ·rw [if_pos c5] at H
    have c5b0 := eq_true c5
    have c5b1 := dt_ c5
    clear c5
    obtain ⟨y172, hy172⟩ : ∃ y_ : List Int, y_ = (l0.take ((ji3) : Int).toNat) := ⟨_, rfl⟩
    replace H : ((crc_Sum.f k (([y172] : List (List Int)))).bind fun t180 => ((crc_Bytes.f k t180).bind fun t181 => (some ((strOfNums t181).toList == (strOfNums (l0.drop ((ji3) : Int).toNat)).toList)))) = some r := (by rw [hy172]; with_reducible exact H)
    have Ny172 := ak_ hy172
    clear hy172
    obtain ⟨y177, hy177⟩ : ∃ y_ : List (List Int), y_ = (([y172] : List (List Int))) := ⟨_, rfl⟩
    replace H : ((crc_Sum.f k y177).bind fun t180 => ((crc_Bytes.f k t180).bind fun t181 => (some ((strOfNums t181).toList == (strOfNums (l0.drop ((ji3) : Int).toNat)).toList)))) = some r := (by rw [hy177]; with_reducible exact H)
    have Ny177 := ak_ hy177
    clear hy177
    obtain ⟨t180, A6, H⟩ := bs_ H
    obtain ⟨t181, A7, H⟩ := bs_ H
    have c8b0 := eq_true (od_ ‹_› : 0 ≤ (ji3))
    have c9b0 := eq_true (od_ ‹_› : (ji3) ≤ (l0.length : Int))
    obtain ⟨y184, hy184⟩ : ∃ y_ : List Int, y_ = (l0.drop ((ji3) : Int).toNat) := ⟨_, rfl⟩
    replace H : (some ((strOfNums t181).toList == (strOfNums y184).toList)) = some r := (by rw [hy184]; with_reducible exact H)
    have Ny184 := ak_ hy184
    clear hy184
    obtain rfl := si_ H
    go_enter Try.func61, Try.ntmps61
    try go_wp2
    replace HO0 := ak_ (Kd.V_drew HO0.out)
    replace HB := ak_ (below_drew1 HB.out)
    have q11 : ((ji3) : Int) ≤ ((l0.length : Int) : Int) := od_ ‹_›
    obtain ⟨i011, hi011, _, hsz11, _⟩ := info_parts info5
    have hroom11 : l0.length ≤ c0 := (Kd.V_reads' HO0.out).2.1
    have hC11 : Kd.F (Kd.int .u8) _ _ A0 l0.length l0 := (Kd.V_at (base := w.heap.size) HO0.out).2.2
    have hcut11 := cut_to (P := Try.prog) 24 5 .i64 Try.underlying24 hi011 A0 l0.length c0 (ji3) (od_ ‹_›) q11 hroom11
    have hr11 := Kd.F_take (m := ((ji3) : Int).toNat) hC11 (by omega)
    have hy11 : y172.length = ((ji3) : Int).toNat := (by rw [Ny172.out, List.length_take]; omega)
    rw [← Ny172.out] at hr11
    rw [← hy11] at hcut11
    have HO176 := ak_ (show Kd.V (Kd.int .u8) 5 _ w.heap.size _ (.slice A0 y172.length c0) y172 from Kd.V_mk (by omega) hr11)
    have HC176 := ak_ (show y172.length ≤ c0 from by omega)
    clear hr11 hC11 hroom11 hi011 hsz11
    have KY11 := ak_ hy11
    clear hy11
    replace q11 := eq_true q11
    have q12 : ((ji3) : Int) ≤ ((l0.length : Int) : Int) := od_ ‹_›
    obtain ⟨i012, hi012, _, hsz12, _⟩ := info_parts info5
    have hroom12 : l0.length ≤ c0 := (Kd.V_reads' HO0.out).2.1
    have hC12 : Kd.F (Kd.int .u8) _ _ A0 l0.length l0 := (Kd.V_at (base := w.heap.size) HO0.out).2.2
    have q012 : (0 : Int) ≤ ((ji3) : Int) := od_ ‹_›
    have hcut12 := cut_from (P := Try.prog) 24 5 .i64 Try.underlying24 hi012 1 hsz12 A0 l0.length c0 (ji3) q012 q12
    have hr12 := Kd.F_cut (m := ((ji3) : Int).toNat) (c := c0) hC12 (by omega) hroom12
    obtain ⟨A12, hA12⟩ : ∃ A1, A1 = (if c0 = ((ji3) : Int).toNat then A0 else (A0 : Option Addr).map (·.add (((ji3) : Int).toNat * 1))) := ⟨_, rfl⟩
    obtain ⟨c12, hc12⟩ : ∃ c1, c1 = c0 - ((ji3) : Int).toNat := ⟨_, rfl⟩
    have hy12 : y184.length = l0.length - ((ji3) : Int).toNat := (by rw [Ny184.out, List.length_drop] <;> omega)
    rw [show (l0).drop ((ji3) : Int).toNat = y184 from Ny184.out.symm] at hr12
    replace hr12 : Kd.F (Kd.int .u8) _ _ A12 y184.length y184 := (by rw [hA12]; exact hr12)
    rw [← hy12, ← hA12, ← hc12] at hcut12
    have HO188 := ak_ (show Kd.V (Kd.int .u8) 5 _ w.heap.size _ (.slice A12 y184.length c12) y184 from Kd.V_mk (by rw [hy12, hc12]; exact Nat.sub_le_sub_right hroom12 _) hr12)
    have HC188 := ak_ (show y184.length ≤ c12 from by rw [hy12, hc12]; exact Nat.sub_le_sub_right hroom12 _)
    clear hr12 hC12 hroom12 hi012 hsz12 hc12
    have KY12 := ak_ hy12
    have KA12 := ak_ hA12
    clear hy12 hA12
    replace q12 := eq_true q12
    refine start_ (n := 17) (S := fun w' => True) (ds := []) #[false, false, false, false, false, false, false, false, false, false, false, false, false, false, false, false, false] (by kernel_rfl) rfl rfl trivial (fun hHeld => ?_); refine with_tabW crc_Check.tab2 crc_Check.bits2 (fun HT_ HW_ => ?_)
    generalize w.drew = w10 at HO0 HB HO176 HO188 hHeld ⊢
    refine pu 0 (some 7) #[true, false, false, false, false, false, false, false, false, false, false, false, false, false, false, false, false] HT_.out rfl rfl ?_
    refine pu 1 (some 8) #[true, true, false, false, false, false, false, false, false, false, false, false, false, false, false, false, false] HT_.out rfl rfl ?_
    refine pu 2 (some 9) #[true, true, true, false, false, false, false, false, false, false, false, false, false, false, false, false, false] HT_.out rfl rfl ?_
    refine pu 3 (some 10) #[true, true, true, true, false, false, false, false, false, false, false, false, false, false, false, false, false] HT_.out rfl rfl ?_
    refine pu 4 (some 11) #[true, true, true, true, true, false, false, false, false, false, false, false, false, false, false, false, false] HT_.out rfl rfl ?_
    refine pu 5 (some 12) #[true, true, true, true, true, true, false, false, false, false, false, false, false, false, false, false, false] HT_.out rfl rfl ?_
    refine pu 10 (some 17) #[true, true, true, true, true, true, false, false, false, false, true, false, false, false, false, false, false] HT_.out rfl rfl ?_
    refine pu 11 (some 18) #[true, true, true, true, true, true, false, false, false, false, true, true, false, false, false, false, false] HT_.out rfl rfl ?_
    refine pu 12 (some 19) #[true, true, true, true, true, true, false, false, false, false, true, true, true, false, false, false, false] HT_.out rfl rfl ?_
    refine join_ (σ := Value × Value) 3 #[true, true, true, true, true, true, true, true, true, true, true, true, true, true, false, false, false] (fun s_ => [(13, s_.1), (14, .int .u32 t180), (15, s_.2), (16, .string (strOfNums t181)), (20, .string (strOfNums y184))]) (fun s_ w' => (Kd.V (Kd.int .u8) 5 w' w.heap.size (fun k_ => (P0_ k_ ∨ w.heap.size ≤ k_) ∧ some k_ ≠ (s_.1 : Value).ownBlock ∧ some k_ ≠ (s_.2 : Value).ownBlock) (.slice A0 l0.length c0) l0) ∧ (Kd.V (Kd.int .u8) 5 w' w.heap.size (fun k_ => (P0_ k_ ∨ w.heap.size ≤ k_) ∧ some k_ ≠ (s_.1 : Value).ownBlock ∧ some k_ ≠ (s_.2 : Value).ownBlock) (.slice A0 y172.length c0) y172) ∧ (Kd.N (Kd.slice 5 (Kd.int .u8)) 24 w' w.heap.size (fun k_ => (P0_ k_ ∨ w.heap.size ≤ k_) ∧ some k_ ≠ (s_.2 : Value).ownBlock) s_.1 y177) ∧ (Kd.R (Kd.int .u8) 5 w' w.heap.size (fun k_ => (w.heap.size ≤ k_)) s_.2 t181) ∧ (Kd.V (Kd.int .u8) 5 w' w.heap.size (fun k_ => (P0_ k_ ∨ w.heap.size ≤ k_) ∧ some k_ ≠ (s_.1 : Value).ownBlock ∧ some k_ ≠ (s_.2 : Value).ownBlock) (.slice A12 y184.length c12) y184) ∧ (Below w.heap.size w w')) ?_ ?_
    rotate_left
    ·intro hJ6_7_8_9_13
     refine join_ (σ := Value × Value) 4 #[true, true, true, true, true, true, true, true, true, true, true, true, true, false, false, false, false] (fun s_ => [(13, s_.1), (14, .int .u32 t180), (15, s_.2), (16, .string (strOfNums t181))]) (fun s_ w' => (Kd.V (Kd.int .u8) 5 w' w.heap.size (fun k_ => (P0_ k_ ∨ w.heap.size ≤ k_) ∧ some k_ ≠ (s_.1 : Value).ownBlock ∧ some k_ ≠ (s_.2 : Value).ownBlock) (.slice A0 l0.length c0) l0) ∧ (Kd.V (Kd.int .u8) 5 w' w.heap.size (fun k_ => (P0_ k_ ∨ w.heap.size ≤ k_) ∧ some k_ ≠ (s_.1 : Value).ownBlock ∧ some k_ ≠ (s_.2 : Value).ownBlock) (.slice A0 y172.length c0) y172) ∧ (Kd.N (Kd.slice 5 (Kd.int .u8)) 24 w' w.heap.size (fun k_ => (P0_ k_ ∨ w.heap.size ≤ k_) ∧ some k_ ≠ (s_.2 : Value).ownBlock) s_.1 y177) ∧ (Kd.R (Kd.int .u8) 5 w' w.heap.size (fun k_ => (w.heap.size ≤ k_)) s_.2 t181) ∧ (Kd.V (Kd.int .u8) 5 w' w.heap.size (fun k_ => (P0_ k_ ∨ w.heap.size ≤ k_) ∧ some k_ ≠ (s_.1 : Value).ownBlock ∧ some k_ ≠ (s_.2 : Value).ownBlock) (.slice A12 y184.length c12) y184) ∧ (Below w.heap.size w w')) ?_ ?_
     rotate_left
     ·intro hJ6_7_8_9
      refine join_ (σ := Value × Value) 4 #[true, true, true, true, true, true, true, true, true, false, true, true, true, true, false, false, false] (fun s_ => [(13, s_.1), (14, .int .u32 t180), (15, s_.2), (20, .string (strOfNums y184))]) (fun s_ w' => (Kd.V (Kd.int .u8) 5 w' w.heap.size (fun k_ => (P0_ k_ ∨ w.heap.size ≤ k_) ∧ some k_ ≠ (s_.1 : Value).ownBlock ∧ some k_ ≠ (s_.2 : Value).ownBlock) (.slice A0 l0.length c0) l0) ∧ (Kd.V (Kd.int .u8) 5 w' w.heap.size (fun k_ => (P0_ k_ ∨ w.heap.size ≤ k_) ∧ some k_ ≠ (s_.1 : Value).ownBlock ∧ some k_ ≠ (s_.2 : Value).ownBlock) (.slice A0 y172.length c0) y172) ∧ (Kd.N (Kd.slice 5 (Kd.int .u8)) 24 w' w.heap.size (fun k_ => (P0_ k_ ∨ w.heap.size ≤ k_) ∧ some k_ ≠ (s_.2 : Value).ownBlock) s_.1 y177) ∧ (Kd.R (Kd.int .u8) 5 w' w.heap.size (fun k_ => (w.heap.size ≤ k_)) s_.2 t181) ∧ (Kd.V (Kd.int .u8) 5 w' w.heap.size (fun k_ => (P0_ k_ ∨ w.heap.size ≤ k_) ∧ some k_ ≠ (s_.1 : Value).ownBlock ∧ some k_ ≠ (s_.2 : Value).ownBlock) (.slice A12 y184.length c12) y184) ∧ (Below w.heap.size w w')) ?_ ?_
      rotate_left
      ·intro hJ6_7_8_13
       refine join_ (σ := Value × Value) 5 #[true, true, true, true, true, true, true, true, true, false, true, true, true, false, false, false, false] (fun s_ => [(13, s_.1), (14, .int .u32 t180), (15, s_.2)]) (fun s_ w' => (Kd.V (Kd.int .u8) 5 w' w.heap.size (fun k_ => (P0_ k_ ∨ w.heap.size ≤ k_) ∧ some k_ ≠ (s_.1 : Value).ownBlock ∧ some k_ ≠ (s_.2 : Value).ownBlock) (.slice A0 l0.length c0) l0) ∧ (Kd.V (Kd.int .u8) 5 w' w.heap.size (fun k_ => (P0_ k_ ∨ w.heap.size ≤ k_) ∧ some k_ ≠ (s_.1 : Value).ownBlock ∧ some k_ ≠ (s_.2 : Value).ownBlock) (.slice A0 y172.length c0) y172) ∧ (Kd.N (Kd.slice 5 (Kd.int .u8)) 24 w' w.heap.size (fun k_ => (P0_ k_ ∨ w.heap.size ≤ k_) ∧ some k_ ≠ (s_.2 : Value).ownBlock) s_.1 y177) ∧ (Kd.R (Kd.int .u8) 5 w' w.heap.size (fun k_ => (w.heap.size ≤ k_)) s_.2 t181) ∧ (Kd.V (Kd.int .u8) 5 w' w.heap.size (fun k_ => (P0_ k_ ∨ w.heap.size ≤ k_) ∧ some k_ ≠ (s_.1 : Value).ownBlock ∧ some k_ ≠ (s_.2 : Value).ownBlock) (.slice A12 y184.length c12) y184) ∧ (Below w.heap.size w w')) ?_ ?_
       rotate_left
       ·intro hJ6_7_8
        refine join_ (σ := Value) 5 #[true, true, true, true, true, true, true, true, false, false, true, true, true, true, false, false, false] (fun s_ => [(13, s_), (14, .int .u32 t180), (20, .string (strOfNums y184))]) (fun s_ w' => (Kd.V (Kd.int .u8) 5 w' w.heap.size (fun k_ => (P0_ k_ ∨ w.heap.size ≤ k_) ∧ some k_ ≠ (s_ : Value).ownBlock) (.slice A0 l0.length c0) l0) ∧ (Kd.V (Kd.int .u8) 5 w' w.heap.size (fun k_ => (P0_ k_ ∨ w.heap.size ≤ k_) ∧ some k_ ≠ (s_ : Value).ownBlock) (.slice A0 y172.length c0) y172) ∧ (Kd.N (Kd.slice 5 (Kd.int .u8)) 24 w' w.heap.size (fun k_ => (P0_ k_ ∨ w.heap.size ≤ k_)) s_ y177) ∧ (Kd.V (Kd.int .u8) 5 w' w.heap.size (fun k_ => (P0_ k_ ∨ w.heap.size ≤ k_) ∧ some k_ ≠ (s_ : Value).ownBlock) (.slice A12 y184.length c12) y184) ∧ (Below w.heap.size w w')) ?_ ?_
        rotate_left
        ·intro hJ6_7_13
         refine join_ (σ := Value) 6 #[true, true, true, true, true, true, true, true, false, false, true, true, true, false, false, false, false] (fun s_ => [(13, s_), (14, .int .u32 t180)]) (fun s_ w' => (Kd.V (Kd.int .u8) 5 w' w.heap.size (fun k_ => (P0_ k_ ∨ w.heap.size ≤ k_) ∧ some k_ ≠ (s_ : Value).ownBlock) (.slice A0 l0.length c0) l0) ∧ (Kd.V (Kd.int .u8) 5 w' w.heap.size (fun k_ => (P0_ k_ ∨ w.heap.size ≤ k_) ∧ some k_ ≠ (s_ : Value).ownBlock) (.slice A0 y172.length c0) y172) ∧ (Kd.N (Kd.slice 5 (Kd.int .u8)) 24 w' w.heap.size (fun k_ => (P0_ k_ ∨ w.heap.size ≤ k_)) s_ y177) ∧ (Kd.V (Kd.int .u8) 5 w' w.heap.size (fun k_ => (P0_ k_ ∨ w.heap.size ≤ k_) ∧ some k_ ≠ (s_ : Value).ownBlock) (.slice A12 y184.length c12) y184) ∧ (Below w.heap.size w w')) ?_ ?_
         rotate_left
         ·intro hJ6_7
          refine join_ (σ := Value) 6 #[true, true, true, true, true, true, true, false, false, false, true, true, true, true, false, false, false] (fun s_ => [(13, s_), (20, .string (strOfNums y184))]) (fun s_ w' => (Kd.V (Kd.int .u8) 5 w' w.heap.size (fun k_ => (P0_ k_ ∨ w.heap.size ≤ k_) ∧ some k_ ≠ (s_ : Value).ownBlock) (.slice A0 l0.length c0) l0) ∧ (Kd.V (Kd.int .u8) 5 w' w.heap.size (fun k_ => (P0_ k_ ∨ w.heap.size ≤ k_) ∧ some k_ ≠ (s_ : Value).ownBlock) (.slice A0 y172.length c0) y172) ∧ (Kd.N (Kd.slice 5 (Kd.int .u8)) 24 w' w.heap.size (fun k_ => (P0_ k_ ∨ w.heap.size ≤ k_)) s_ y177) ∧ (Kd.V (Kd.int .u8) 5 w' w.heap.size (fun k_ => (P0_ k_ ∨ w.heap.size ≤ k_) ∧ some k_ ≠ (s_ : Value).ownBlock) (.slice A12 y184.length c12) y184) ∧ (Below w.heap.size w w')) ?_ ?_
          rotate_left
          ·intro hJ6_13
           refine join_ (σ := Value) 7 #[true, true, true, true, true, true, true, false, false, false, true, true, true, false, false, false, false] (fun s_ => [(13, s_)]) (fun s_ w' => (Kd.V (Kd.int .u8) 5 w' w.heap.size (fun k_ => (P0_ k_ ∨ w.heap.size ≤ k_) ∧ some k_ ≠ (s_ : Value).ownBlock) (.slice A0 l0.length c0) l0) ∧ (Kd.V (Kd.int .u8) 5 w' w.heap.size (fun k_ => (P0_ k_ ∨ w.heap.size ≤ k_) ∧ some k_ ≠ (s_ : Value).ownBlock) (.slice A0 y172.length c0) y172) ∧ (Kd.N (Kd.slice 5 (Kd.int .u8)) 24 w' w.heap.size (fun k_ => (P0_ k_ ∨ w.heap.size ≤ k_)) s_ y177) ∧ (Kd.V (Kd.int .u8) 5 w' w.heap.size (fun k_ => (P0_ k_ ∨ w.heap.size ≤ k_) ∧ some k_ ≠ (s_ : Value).ownBlock) (.slice A12 y184.length c12) y184) ∧ (Below w.heap.size w w')) ?_ ?_
           rotate_left
           ·intro hJ6
            refine join_ (σ := Unit) 7 #[true, true, true, true, true, true, false, false, false, false, true, true, true, true, false, false, false] (fun s_ => [(20, .string (strOfNums y184))]) (fun s_ w' => (Kd.V (Kd.int .u8) 5 w' w.heap.size (fun k_ => (P0_ k_ ∨ w.heap.size ≤ k_)) (.slice A0 l0.length c0) l0) ∧ (Kd.V (Kd.int .u8) 5 w' w.heap.size (fun k_ => (P0_ k_ ∨ w.heap.size ≤ k_)) (.slice A0 y172.length c0) y172) ∧ (Kd.V (Kd.int .u8) 5 w' w.heap.size (fun k_ => (P0_ k_ ∨ w.heap.size ≤ k_)) (.slice A12 y184.length c12) y184) ∧ (Below w.heap.size w w')) ?_ ?_
            rotate_left
            ·intro hJ13
             refine two_ (i := 6) (j := 13) (Ni := some 13) (Nj := some 20) #[true, true, true, true, true, true, true, false, false, false, true, true, true, false, false, false, false] #[true, true, true, true, true, true, false, false, false, false, true, true, true, true, false, false, false] rfl rfl rfl rfl (two_of HT_.out (by kernel_rfl)) (by decide) (by decide) (fun K hK => ?_) (fun K hK => ?_)
             ·skip
              refine Kd.N_lit_step (Kd.slice 5 (Kd.int .u8)) _ 24 ?hg (N' := 13) ?hd (xs := ([y172] : List (List Int))) (inner := [.slice A0 y172.length c0]) (ok := (fun k_ => (P0_ k_ ∨ w.heap.size ≤ k_))) (okp := (fun k_ => (P0_ k_ ∨ w.heap.size ≤ k_))) ?hr ?hp (fun _ hk => hk) ((show ∀ k_, w10.heap.size ≤ k_ → (fun k_ => (P0_ k_ ∨ w.heap.size ≤ k_)) k_ from fun k_ hk => (.inr (Nat.le_trans (below_size HB.out) hk))) _ (Nat.le_refl _)) (Below.refl _ _) (Nat.le_refl _) (by simp) ?_; (case hd => rfl); (case hg => rfl); (case hr => (go_simp; done)); (case hp => exact (Reps.one (show Kd.FK (Kd.slice 5 (Kd.int .u8)) _ _ y172 [.slice A0 y172.length c0] from (Kd.FK_slice_mk (Kd.V_reads' (Kd.V_mono (ok' := (fun k_ => (P0_ k_ ∨ w.heap.size ≤ k_))) (HO176.out) (fun k_ hk => hk))).2.1 (Kd.V_F (Kd.V_mono (ok' := (fun k_ => (P0_ k_ ∨ w.heap.size ≤ k_))) (HO176.out) (fun k_ hk => hk))))) (Reps.none _ _)))
              intro v178 w13 ho14 hb hg_ hnew_
              clear hg_ hnew_
              (rw [← Ny177.out] at ho14)
              have n0_ := ak_ (Kd.V_elder' HO0.out (Kd.N_base ho14) hb)
              have n1_ := ak_ (Kd.V_elder' HO176.out (Kd.N_base ho14) hb)
              have n2_ := ak_ (Kd.V_elder' HO188.out (Kd.N_base ho14) hb)
              have n3_ := ak_ (Kd.N_lower ho14 (below_size HB.out))
              have n4_ := ak_ (below_step HB.out hb)
              clear HO0 HO176 HO188 HB
              have HO0 := n0_
              have HO176 := n1_
              have HO188 := n2_
              have HO179 := n3_
              have HB := n4_
              clear n0_ n1_ n2_ n3_ n4_ hb ho14
              refine hK.out _ _ trivial (fun hHeld => ?_)
              clear hK K
              refine norm_ (a' := ?_) ?_ ?_
              rotate_left
              ·show Act.put _ (some 13) _ = _
               simp only [Act.put, sb_, sz_, su_, i64_w, i32_w]
               rfl
              exact norm_ ((by simp only [putAll, Act.put, sb_, sz_, su_]; done)) (hJ6 _ _ ⟨HO0.out, HO176.out, HO179.out, HO188.out, HB.out⟩)
             ·skip
              have hcv13 := (fun {A_ : Option Addr} {n_ c_ : Nat} (h_ : Kd.V _ _ _ _ _ (.slice A_ n_ c_) _) => Kd.C_string (P := Try.prog) (c := c_) Try.underlying24 Try.underlying5 Try.underlying9 (Kd.V_reads' h_).2.2) HO188.out
              refine value_ (w1 := ?_) (v := ?_) (by rfl) rfl ?_ ?_
              rotate_left 2
              ·go_simp
               constructor
               ·rfl
               ·rfl
              clear hcv13
              refine hK.out _ _ trivial (fun hHeld => ?_)
              clear hK K
              refine norm_ (a' := ?_) ?_ ?_
              rotate_left
              ·show Act.put _ (some 20) _ = _
               simp only [Act.put, sb_, sz_, su_, i64_w, i32_w]
               rfl
              exact norm_ ((by simp only [putAll, Act.put, sb_, sz_, su_]; done)) (hJ13 () _ ⟨HO0.out, HO176.out, HO188.out, HB.out⟩)
            ·skip
             rintro _ w14 ⟨h0_, h1_, h2_, h3_⟩
             have n0_ : Aside0 (Kd.V (Kd.int .u8) 5 w14 w.heap.size (fun k_ => (P0_ k_ ∨ w.heap.size ≤ k_)) (.slice A0 l0.length c0) l0) := ⟨h0_⟩
             have n1_ : Aside0 (Kd.V (Kd.int .u8) 5 w14 w.heap.size (fun k_ => (P0_ k_ ∨ w.heap.size ≤ k_)) (.slice A0 y172.length c0) y172) := ⟨h1_⟩
             have n2_ : Aside0 (Kd.V (Kd.int .u8) 5 w14 w.heap.size (fun k_ => (P0_ k_ ∨ w.heap.size ≤ k_)) (.slice A12 y184.length c12) y184) := ⟨h2_⟩
             have n3_ : Aside0 (Below w.heap.size w w14) := ⟨h3_⟩
             clear HO0 HB h0_ h1_ h2_ h3_
             have HO0 := n0_
             have HO176 := n1_
             have HO188 := n2_
             have HB := n3_
             clear n0_ n1_ n2_ n3_
             have hHeld := trivial
             refine norm_ (a' := ?_) ?_ ?_
             rotate_left
             ·simp only [putAll, Act.put, sb_, sz_, su_]
              rfl
             refine one_ (i := 6) (N := some 13) #[true, true, true, true, true, true, true, false, false, false, true, true, true, true, false, false, false] rfl rfl (one_of HT_.out (by kernel_rfl)) (by decide) (fun K hK => ?_)
             refine Kd.N_lit_step (Kd.slice 5 (Kd.int .u8)) _ 24 ?hg (N' := 13) ?hd (xs := ([y172] : List (List Int))) (inner := [.slice A0 y172.length c0]) (ok := (fun k_ => (P0_ k_ ∨ w.heap.size ≤ k_))) (okp := (fun k_ => (P0_ k_ ∨ w.heap.size ≤ k_))) ?hr ?hp (fun _ hk => hk) ((show ∀ k_, w14.heap.size ≤ k_ → (fun k_ => (P0_ k_ ∨ w.heap.size ≤ k_)) k_ from fun k_ hk => (.inr (Nat.le_trans (below_size HB.out) hk))) _ (Nat.le_refl _)) (Below.refl _ _) (Nat.le_refl _) (by simp) ?_; (case hd => rfl); (case hg => rfl); (case hr => (go_simp; done)); (case hp => exact (Reps.one (show Kd.FK (Kd.slice 5 (Kd.int .u8)) _ _ y172 [.slice A0 y172.length c0] from (Kd.FK_slice_mk (Kd.V_reads' (Kd.V_mono (ok' := (fun k_ => (P0_ k_ ∨ w.heap.size ≤ k_))) (HO176.out) (fun k_ hk => hk))).2.1 (Kd.V_F (Kd.V_mono (ok' := (fun k_ => (P0_ k_ ∨ w.heap.size ≤ k_))) (HO176.out) (fun k_ hk => hk))))) (Reps.none _ _)))
             intro v178 w15 ho16 hb hg_ hnew_
             clear hg_ hnew_
             (rw [← Ny177.out] at ho16)
             have n0_ := ak_ (Kd.V_elder' HO0.out (Kd.N_base ho16) hb)
             have n1_ := ak_ (Kd.V_elder' HO176.out (Kd.N_base ho16) hb)
             have n2_ := ak_ (Kd.V_elder' HO188.out (Kd.N_base ho16) hb)
             have n3_ := ak_ (Kd.N_lower ho16 (below_size HB.out))
             have n4_ := ak_ (below_step HB.out hb)
             clear HO0 HO176 HO188 HB
             have HO0 := n0_
             have HO176 := n1_
             have HO188 := n2_
             have HO179 := n3_
             have HB := n4_
             clear n0_ n1_ n2_ n3_ n4_ hb ho16
             refine hK.out _ _ trivial (fun hHeld => ?_)
             clear hK K
             refine norm_ (a' := ?_) ?_ ?_
             rotate_left
             ·show Act.put _ (some 13) _ = _
              simp only [Act.put, sb_, sz_, su_, i64_w, i32_w]
              rfl
             exact norm_ ((by simp only [putAll, Act.put, sb_, sz_, su_]; done)) (hJ6_13 _ _ ⟨HO0.out, HO176.out, HO179.out, HO188.out, HB.out⟩)
           ·skip
            rintro v178 w15 ⟨h0_, h1_, h2_, h3_, h4_⟩
            have n0_ : Aside0 (Kd.V (Kd.int .u8) 5 w15 w.heap.size (fun k_ => (P0_ k_ ∨ w.heap.size ≤ k_) ∧ some k_ ≠ (v178 : Value).ownBlock) (.slice A0 l0.length c0) l0) := ⟨h0_⟩
            have n1_ : Aside0 (Kd.V (Kd.int .u8) 5 w15 w.heap.size (fun k_ => (P0_ k_ ∨ w.heap.size ≤ k_) ∧ some k_ ≠ (v178 : Value).ownBlock) (.slice A0 y172.length c0) y172) := ⟨h1_⟩
            have n2_ : Aside0 (Kd.N (Kd.slice 5 (Kd.int .u8)) 24 w15 w.heap.size (fun k_ => (P0_ k_ ∨ w.heap.size ≤ k_)) v178 y177) := ⟨h2_⟩
            have n3_ : Aside0 (Kd.V (Kd.int .u8) 5 w15 w.heap.size (fun k_ => (P0_ k_ ∨ w.heap.size ≤ k_) ∧ some k_ ≠ (v178 : Value).ownBlock) (.slice A12 y184.length c12) y184) := ⟨h3_⟩
            have n4_ : Aside0 (Below w.heap.size w w15) := ⟨h4_⟩
            clear HO0 HB h0_ h1_ h2_ h3_ h4_
            have HO0 := n0_
            have HO176 := n1_
            have HO179 := n2_
            have HO188 := n3_
            have HB := n4_
            clear n0_ n1_ n2_ n3_ n4_
            have hHeld := trivial
            obtain ⟨Ao16, co16, eo16⟩ := Kd.N_slice HO179.out
            (subst eo16)
            refine norm_ (a' := ?_) ?_ ?_
            rotate_left
            ·simp only [putAll, Act.put, sb_, sz_, su_]
             rfl
            refine two_ (i := 7) (j := 13) (Ni := some 14) (Nj := some 20) #[true, true, true, true, true, true, true, true, false, false, true, true, true, false, false, false, false] #[true, true, true, true, true, true, true, false, false, false, true, true, true, true, false, false, false] rfl rfl rfl rfl (two_of HT_.out (by kernel_rfl)) (by decide) (by decide) (fun K hK => ?_) (fun K hK => ?_)
            ·skip
             refine goes_ Try.func42 (by kernel_rfl) rfl #[.slice Ao16 y177.length co16] (by rfl) rfl rfl (by (try simp only [List.map_toArray, List.map_cons, List.map_nil]); first | done | rfl | (simp only [List.length_drop, List.length_take]; rfl)) ?_
             with_reducible refine (crc_Sum.calls k _ _ y177 t180 _ ?side1 ?side2 A6.out).mono ?_
             (case side1 => exact (Kd.N_reads' HO179.out).2.2)
             (case side2 => exact (Kd.N_reads' HO179.out).2.1)
             rintro e w' ⟨rfl, ⟨nd, rfl⟩⟩
             refine ⟨_, rfl, ?_⟩
             refine hK.out _ _ trivial (fun hHeld => ?_)
             clear hK K
             refine norm_ (a' := ?_) ?_ ?_
             rotate_left
             ·show Act.put _ (some 14) _ = _
              simp only [Act.put, sb_, sz_, su_, i64_w, i32_w]
              rfl
             exact norm_ ((by simp only [putAll, Act.put, sb_, sz_, su_]; done)) (hJ6_7 (.slice Ao16 y177.length co16) _ ⟨(by (with_reducible repeat (first | apply Kd.V_alloc | apply Kd.V_drewN | apply Kd.V_drew)); exact HO0.out), (by (with_reducible repeat (first | apply Kd.V_alloc | apply Kd.V_drewN | apply Kd.V_drew)); exact HO176.out), (by (with_reducible repeat (first | apply Kd.N_alloc | apply Kd.N_drewN | apply Kd.N_drew)); exact HO179.out), (by (with_reducible repeat (first | apply Kd.V_alloc | apply Kd.V_drewN | apply Kd.V_drew)); exact HO188.out), (by repeat (first | (with_reducible first | exact HB.out | apply below_alloc | apply pw_below_drewN | apply below_drew1) | exact HB.out))⟩)
            ·skip
             have hcv16 := (fun {A_ : Option Addr} {n_ c_ : Nat} (h_ : Kd.V _ _ _ _ _ (.slice A_ n_ c_) _) => Kd.C_string (P := Try.prog) (c := c_) Try.underlying24 Try.underlying5 Try.underlying9 (Kd.V_reads' h_).2.2) HO188.out
             refine value_ (w1 := ?_) (v := ?_) (by rfl) rfl ?_ ?_
             rotate_left 2
             ·go_simp
              constructor
              ·rfl
              ·rfl
             clear hcv16
             refine hK.out _ _ trivial (fun hHeld => ?_)
             clear hK K
             refine norm_ (a' := ?_) ?_ ?_
             rotate_left
             ·show Act.put _ (some 20) _ = _
              simp only [Act.put, sb_, sz_, su_, i64_w, i32_w]
              rfl
             exact norm_ ((by simp only [putAll, Act.put, sb_, sz_, su_]; done)) (hJ6_13 _ _ ⟨HO0.out, HO176.out, HO179.out, HO188.out, HB.out⟩)
          ·skip
           rintro v178 w16 ⟨h0_, h1_, h2_, h3_, h4_⟩
           have n0_ : Aside0 (Kd.V (Kd.int .u8) 5 w16 w.heap.size (fun k_ => (P0_ k_ ∨ w.heap.size ≤ k_) ∧ some k_ ≠ (v178 : Value).ownBlock) (.slice A0 l0.length c0) l0) := ⟨h0_⟩
           have n1_ : Aside0 (Kd.V (Kd.int .u8) 5 w16 w.heap.size (fun k_ => (P0_ k_ ∨ w.heap.size ≤ k_) ∧ some k_ ≠ (v178 : Value).ownBlock) (.slice A0 y172.length c0) y172) := ⟨h1_⟩
           have n2_ : Aside0 (Kd.N (Kd.slice 5 (Kd.int .u8)) 24 w16 w.heap.size (fun k_ => (P0_ k_ ∨ w.heap.size ≤ k_)) v178 y177) := ⟨h2_⟩
           have n3_ : Aside0 (Kd.V (Kd.int .u8) 5 w16 w.heap.size (fun k_ => (P0_ k_ ∨ w.heap.size ≤ k_) ∧ some k_ ≠ (v178 : Value).ownBlock) (.slice A12 y184.length c12) y184) := ⟨h3_⟩
           have n4_ : Aside0 (Below w.heap.size w w16) := ⟨h4_⟩
           clear HO0 HB h0_ h1_ h2_ h3_ h4_
           have HO0 := n0_
           have HO176 := n1_
           have HO179 := n2_
           have HO188 := n3_
           have HB := n4_
           clear n0_ n1_ n2_ n3_ n4_
           have hHeld := trivial
           obtain ⟨Ao17, co17, eo17⟩ := Kd.N_slice HO179.out
           (subst eo17)
           refine norm_ (a' := ?_) ?_ ?_
           rotate_left
           ·simp only [putAll, Act.put, sb_, sz_, su_]
            rfl
           refine one_ (i := 7) (N := some 14) #[true, true, true, true, true, true, true, true, false, false, true, true, true, true, false, false, false] rfl rfl (one_of HT_.out (by kernel_rfl)) (by decide) (fun K hK => ?_)
           refine goes_ Try.func42 (by kernel_rfl) rfl #[.slice Ao17 y177.length co17] (by rfl) rfl rfl (by (try simp only [List.map_toArray, List.map_cons, List.map_nil]); first | done | rfl | (simp only [List.length_drop, List.length_take]; rfl)) ?_
           with_reducible refine (crc_Sum.calls k _ _ y177 t180 _ ?side1 ?side2 A6.out).mono ?_
           (case side1 => exact (Kd.N_reads' HO179.out).2.2)
           (case side2 => exact (Kd.N_reads' HO179.out).2.1)
           rintro e w' ⟨rfl, ⟨nd, rfl⟩⟩
           refine ⟨_, rfl, ?_⟩
           refine hK.out _ _ trivial (fun hHeld => ?_)
           clear hK K
           refine norm_ (a' := ?_) ?_ ?_
           rotate_left
           ·show Act.put _ (some 14) _ = _
            simp only [Act.put, sb_, sz_, su_, i64_w, i32_w]
            rfl
           exact norm_ ((by simp only [putAll, Act.put, sb_, sz_, su_]; done)) (hJ6_7_13 (.slice Ao17 y177.length co17) _ ⟨(by (with_reducible repeat (first | apply Kd.V_alloc | apply Kd.V_drewN | apply Kd.V_drew)); exact HO0.out), (by (with_reducible repeat (first | apply Kd.V_alloc | apply Kd.V_drewN | apply Kd.V_drew)); exact HO176.out), (by (with_reducible repeat (first | apply Kd.N_alloc | apply Kd.N_drewN | apply Kd.N_drew)); exact HO179.out), (by (with_reducible repeat (first | apply Kd.V_alloc | apply Kd.V_drewN | apply Kd.V_drew)); exact HO188.out), (by repeat (first | (with_reducible first | exact HB.out | apply below_alloc | apply pw_below_drewN | apply below_drew1) | exact HB.out))⟩)
         ·skip
          rintro v178 w16 ⟨h0_, h1_, h2_, h3_, h4_⟩
          have n0_ : Aside0 (Kd.V (Kd.int .u8) 5 w16 w.heap.size (fun k_ => (P0_ k_ ∨ w.heap.size ≤ k_) ∧ some k_ ≠ (v178 : Value).ownBlock) (.slice A0 l0.length c0) l0) := ⟨h0_⟩
          have n1_ : Aside0 (Kd.V (Kd.int .u8) 5 w16 w.heap.size (fun k_ => (P0_ k_ ∨ w.heap.size ≤ k_) ∧ some k_ ≠ (v178 : Value).ownBlock) (.slice A0 y172.length c0) y172) := ⟨h1_⟩
          have n2_ : Aside0 (Kd.N (Kd.slice 5 (Kd.int .u8)) 24 w16 w.heap.size (fun k_ => (P0_ k_ ∨ w.heap.size ≤ k_)) v178 y177) := ⟨h2_⟩
          have n3_ : Aside0 (Kd.V (Kd.int .u8) 5 w16 w.heap.size (fun k_ => (P0_ k_ ∨ w.heap.size ≤ k_) ∧ some k_ ≠ (v178 : Value).ownBlock) (.slice A12 y184.length c12) y184) := ⟨h3_⟩
          have n4_ : Aside0 (Below w.heap.size w w16) := ⟨h4_⟩
          clear HO0 HB h0_ h1_ h2_ h3_ h4_
          have HO0 := n0_
          have HO176 := n1_
          have HO179 := n2_
          have HO188 := n3_
          have HB := n4_
          clear n0_ n1_ n2_ n3_ n4_
          have hHeld := trivial
          refine norm_ (a' := ?_) ?_ ?_
          rotate_left
          ·simp only [putAll, Act.put, sb_, sz_, su_]
           rfl
          refine two_ (i := 8) (j := 13) (Ni := some 15) (Nj := some 20) #[true, true, true, true, true, true, true, true, true, false, true, true, true, false, false, false, false] #[true, true, true, true, true, true, true, true, false, false, true, true, true, true, false, false, false] rfl rfl rfl rfl (two_of HT_.out (by kernel_rfl)) (by decide) (by decide) (fun K hK => ?_) (fun K hK => ?_)
          ·skip
           refine goes_ Try.func41 (by kernel_rfl) rfl #[.int .u32 t180] (by rfl) rfl rfl (by (try simp only [List.map_toArray, List.map_cons, List.map_nil]); first | done | rfl | (simp only [List.length_drop, List.length_take]; rfl)) ?_
           with_reducible refine (crc_Bytes.calls k t180 t181 _ A7.out).mono ?_
           rintro e w17 ⟨v182, rfl, ho0, hb⟩
           refine ⟨_, rfl, ?_⟩
           replace HO0 := ak_ (Kd.V_elder' HO0.out (Kd.R_base ho0) hb)
           replace HO176 := ak_ (Kd.V_elder' HO176.out (Kd.R_base ho0) hb)
           replace HO188 := ak_ (Kd.V_elder' HO188.out (Kd.R_base ho0) hb)
           replace HO179 := ak_ (Kd.N_elder' HO179.out (Kd.R_base ho0) hb)
           have HO183 := ak_ (Kd.R_lower (Kd.R_newM (M := fun k_ => (w.heap.size ≤ k_)) ho0 (below_size HB.out) (fun k_ h_ => h_)) (below_size HB.out))
           replace HB := ak_ (below_step HB.out hb)
           (try clear hb)
           (try clear hb2)
           (try clear hk)
           (try clear hi)
           (try clear ho0)
           refine hK.out _ _ trivial (fun hHeld => ?_)
           clear hK K
           refine norm_ (a' := ?_) ?_ ?_
           rotate_left
           ·show Act.put _ (some 15) _ = _
            simp only [Act.put, sb_, sz_, su_, i64_w, i32_w]
            rfl
           exact norm_ ((by simp only [putAll, Act.put, sb_, sz_, su_]; done)) (hJ6_7_8 (v178, v182) _ ⟨(Kd.V_mono HO0.out (fun _ hk => ⟨hk.1.1, ⟨hk.1.2, hk.2⟩⟩)), (Kd.V_mono HO176.out (fun _ hk => ⟨hk.1.1, ⟨hk.1.2, hk.2⟩⟩)), HO179.out, (Kd.R_mono HO183.out (fun _ hk => hk.1)), (Kd.V_mono HO188.out (fun _ hk => ⟨hk.1.1, ⟨hk.1.2, hk.2⟩⟩)), HB.out⟩)
          ·skip
           have hcv17 := (fun {A_ : Option Addr} {n_ c_ : Nat} (h_ : Kd.V _ _ _ _ _ (.slice A_ n_ c_) _) => Kd.C_string (P := Try.prog) (c := c_) Try.underlying24 Try.underlying5 Try.underlying9 (Kd.V_reads' h_).2.2) HO188.out
           refine value_ (w1 := ?_) (v := ?_) (by rfl) rfl ?_ ?_
           rotate_left 2
           ·go_simp
            constructor
            ·rfl
            ·rfl
           clear hcv17
           refine hK.out _ _ trivial (fun hHeld => ?_)
           clear hK K
           refine norm_ (a' := ?_) ?_ ?_
           rotate_left
           ·show Act.put _ (some 20) _ = _
            simp only [Act.put, sb_, sz_, su_, i64_w, i32_w]
            rfl
           exact norm_ ((by simp only [putAll, Act.put, sb_, sz_, su_]; done)) (hJ6_7_13 _ _ ⟨HO0.out, HO176.out, HO179.out, HO188.out, HB.out⟩)
        ·skip
         rintro v178 w17 ⟨h0_, h1_, h2_, h3_, h4_⟩
         have n0_ : Aside0 (Kd.V (Kd.int .u8) 5 w17 w.heap.size (fun k_ => (P0_ k_ ∨ w.heap.size ≤ k_) ∧ some k_ ≠ (v178 : Value).ownBlock) (.slice A0 l0.length c0) l0) := ⟨h0_⟩
         have n1_ : Aside0 (Kd.V (Kd.int .u8) 5 w17 w.heap.size (fun k_ => (P0_ k_ ∨ w.heap.size ≤ k_) ∧ some k_ ≠ (v178 : Value).ownBlock) (.slice A0 y172.length c0) y172) := ⟨h1_⟩
         have n2_ : Aside0 (Kd.N (Kd.slice 5 (Kd.int .u8)) 24 w17 w.heap.size (fun k_ => (P0_ k_ ∨ w.heap.size ≤ k_)) v178 y177) := ⟨h2_⟩
         have n3_ : Aside0 (Kd.V (Kd.int .u8) 5 w17 w.heap.size (fun k_ => (P0_ k_ ∨ w.heap.size ≤ k_) ∧ some k_ ≠ (v178 : Value).ownBlock) (.slice A12 y184.length c12) y184) := ⟨h3_⟩
         have n4_ : Aside0 (Below w.heap.size w w17) := ⟨h4_⟩
         clear HO0 HB h0_ h1_ h2_ h3_ h4_
         have HO0 := n0_
         have HO176 := n1_
         have HO179 := n2_
         have HO188 := n3_
         have HB := n4_
         clear n0_ n1_ n2_ n3_ n4_
         have hHeld := trivial
         refine norm_ (a' := ?_) ?_ ?_
         rotate_left
         ·simp only [putAll, Act.put, sb_, sz_, su_]
          rfl
         refine one_ (i := 8) (N := some 15) #[true, true, true, true, true, true, true, true, true, false, true, true, true, true, false, false, false] rfl rfl (one_of HT_.out (by kernel_rfl)) (by decide) (fun K hK => ?_)
         refine goes_ Try.func41 (by kernel_rfl) rfl #[.int .u32 t180] (by rfl) rfl rfl (by (try simp only [List.map_toArray, List.map_cons, List.map_nil]); first | done | rfl | (simp only [List.length_drop, List.length_take]; rfl)) ?_
         with_reducible refine (crc_Bytes.calls k t180 t181 _ A7.out).mono ?_
         rintro e w18 ⟨v182, rfl, ho0, hb⟩
         refine ⟨_, rfl, ?_⟩
         replace HO0 := ak_ (Kd.V_elder' HO0.out (Kd.R_base ho0) hb)
         replace HO176 := ak_ (Kd.V_elder' HO176.out (Kd.R_base ho0) hb)
         replace HO188 := ak_ (Kd.V_elder' HO188.out (Kd.R_base ho0) hb)
         replace HO179 := ak_ (Kd.N_elder' HO179.out (Kd.R_base ho0) hb)
         have HO183 := ak_ (Kd.R_lower (Kd.R_newM (M := fun k_ => (w.heap.size ≤ k_)) ho0 (below_size HB.out) (fun k_ h_ => h_)) (below_size HB.out))
         replace HB := ak_ (below_step HB.out hb)
         (try clear hb)
         (try clear hb2)
         (try clear hk)
         (try clear hi)
         (try clear ho0)
         refine hK.out _ _ trivial (fun hHeld => ?_)
         clear hK K
         refine norm_ (a' := ?_) ?_ ?_
         rotate_left
         ·show Act.put _ (some 15) _ = _
          simp only [Act.put, sb_, sz_, su_, i64_w, i32_w]
          rfl
         exact norm_ ((by simp only [putAll, Act.put, sb_, sz_, su_]; done)) (hJ6_7_8_13 (v178, v182) _ ⟨(Kd.V_mono HO0.out (fun _ hk => ⟨hk.1.1, ⟨hk.1.2, hk.2⟩⟩)), (Kd.V_mono HO176.out (fun _ hk => ⟨hk.1.1, ⟨hk.1.2, hk.2⟩⟩)), HO179.out, (Kd.R_mono HO183.out (fun _ hk => hk.1)), (Kd.V_mono HO188.out (fun _ hk => ⟨hk.1.1, ⟨hk.1.2, hk.2⟩⟩)), HB.out⟩)
       ·skip
        rintro ⟨v178, v182⟩ w17 ⟨h0_, h1_, h2_, h3_, h4_, h5_⟩
        have n0_ : Aside0 (Kd.V (Kd.int .u8) 5 w17 w.heap.size (fun k_ => (P0_ k_ ∨ w.heap.size ≤ k_) ∧ some k_ ≠ (v178 : Value).ownBlock ∧ some k_ ≠ (v182 : Value).ownBlock) (.slice A0 l0.length c0) l0) := ⟨h0_⟩
        have n1_ : Aside0 (Kd.V (Kd.int .u8) 5 w17 w.heap.size (fun k_ => (P0_ k_ ∨ w.heap.size ≤ k_) ∧ some k_ ≠ (v178 : Value).ownBlock ∧ some k_ ≠ (v182 : Value).ownBlock) (.slice A0 y172.length c0) y172) := ⟨h1_⟩
        have n2_ : Aside0 (Kd.N (Kd.slice 5 (Kd.int .u8)) 24 w17 w.heap.size (fun k_ => (P0_ k_ ∨ w.heap.size ≤ k_) ∧ some k_ ≠ (v182 : Value).ownBlock) v178 y177) := ⟨h2_⟩
        have n3_ : Aside0 (Kd.R (Kd.int .u8) 5 w17 w.heap.size (fun k_ => (w.heap.size ≤ k_)) v182 t181) := ⟨h3_⟩
        have n4_ : Aside0 (Kd.V (Kd.int .u8) 5 w17 w.heap.size (fun k_ => (P0_ k_ ∨ w.heap.size ≤ k_) ∧ some k_ ≠ (v178 : Value).ownBlock ∧ some k_ ≠ (v182 : Value).ownBlock) (.slice A12 y184.length c12) y184) := ⟨h4_⟩
        have n5_ : Aside0 (Below w.heap.size w w17) := ⟨h5_⟩
        clear HO0 HB h0_ h1_ h2_ h3_ h4_ h5_
        have HO0 := n0_
        have HO176 := n1_
        have HO179 := n2_
        have HO183 := n3_
        have HO188 := n4_
        have HB := n5_
        clear n0_ n1_ n2_ n3_ n4_ n5_
        have hHeld := trivial
        refine norm_ (a' := ?_) ?_ ?_
        rotate_left
        ·simp only [putAll, Act.put, sb_, sz_, su_]
         rfl
        refine two_ (i := 9) (j := 13) (Ni := some 16) (Nj := some 20) #[true, true, true, true, true, true, true, true, true, true, true, true, true, false, false, false, false] #[true, true, true, true, true, true, true, true, true, false, true, true, true, true, false, false, false] rfl rfl rfl rfl (two_of HT_.out (by kernel_rfl)) (by decide) (by decide) (fun K hK => ?_) (fun K hK => ?_)
        ·skip
         have hcv18 := own_string (P := Try.prog) Try.underlying24 Try.underlying5 Try.underlying9 (Kd.own_of_R HO183.out)
         refine value_ (w1 := ?_) (v := ?_) (by rfl) rfl ?_ ?_
         rotate_left 2
         ·go_simp
          constructor
          ·rfl
          ·rfl
         clear hcv18
         refine hK.out _ _ trivial (fun hHeld => ?_)
         clear hK K
         refine norm_ (a' := ?_) ?_ ?_
         rotate_left
         ·show Act.put _ (some 16) _ = _
          simp only [Act.put, sb_, sz_, su_, i64_w, i32_w]
          rfl
         exact norm_ ((by simp only [putAll, Act.put, sb_, sz_, su_]; done)) (hJ6_7_8_9 (v178, v182) _ ⟨HO0.out, HO176.out, HO179.out, HO183.out, HO188.out, HB.out⟩)
        ·skip
         have hcv18 := (fun {A_ : Option Addr} {n_ c_ : Nat} (h_ : Kd.V _ _ _ _ _ (.slice A_ n_ c_) _) => Kd.C_string (P := Try.prog) (c := c_) Try.underlying24 Try.underlying5 Try.underlying9 (Kd.V_reads' h_).2.2) HO188.out
         refine value_ (w1 := ?_) (v := ?_) (by rfl) rfl ?_ ?_
         rotate_left 2
         ·go_simp
          constructor
          ·rfl
          ·rfl
         clear hcv18
         refine hK.out _ _ trivial (fun hHeld => ?_)
         clear hK K
         refine norm_ (a' := ?_) ?_ ?_
         rotate_left
         ·show Act.put _ (some 20) _ = _
          simp only [Act.put, sb_, sz_, su_, i64_w, i32_w]
          rfl
         exact norm_ ((by simp only [putAll, Act.put, sb_, sz_, su_]; done)) (hJ6_7_8_13 (v178, v182) _ ⟨HO0.out, HO176.out, HO179.out, HO183.out, HO188.out, HB.out⟩)
      ·skip
       rintro ⟨v178, v182⟩ w18 ⟨h0_, h1_, h2_, h3_, h4_, h5_⟩
       have n0_ : Aside0 (Kd.V (Kd.int .u8) 5 w18 w.heap.size (fun k_ => (P0_ k_ ∨ w.heap.size ≤ k_) ∧ some k_ ≠ (v178 : Value).ownBlock ∧ some k_ ≠ (v182 : Value).ownBlock) (.slice A0 l0.length c0) l0) := ⟨h0_⟩
       have n1_ : Aside0 (Kd.V (Kd.int .u8) 5 w18 w.heap.size (fun k_ => (P0_ k_ ∨ w.heap.size ≤ k_) ∧ some k_ ≠ (v178 : Value).ownBlock ∧ some k_ ≠ (v182 : Value).ownBlock) (.slice A0 y172.length c0) y172) := ⟨h1_⟩
       have n2_ : Aside0 (Kd.N (Kd.slice 5 (Kd.int .u8)) 24 w18 w.heap.size (fun k_ => (P0_ k_ ∨ w.heap.size ≤ k_) ∧ some k_ ≠ (v182 : Value).ownBlock) v178 y177) := ⟨h2_⟩
       have n3_ : Aside0 (Kd.R (Kd.int .u8) 5 w18 w.heap.size (fun k_ => (w.heap.size ≤ k_)) v182 t181) := ⟨h3_⟩
       have n4_ : Aside0 (Kd.V (Kd.int .u8) 5 w18 w.heap.size (fun k_ => (P0_ k_ ∨ w.heap.size ≤ k_) ∧ some k_ ≠ (v178 : Value).ownBlock ∧ some k_ ≠ (v182 : Value).ownBlock) (.slice A12 y184.length c12) y184) := ⟨h4_⟩
       have n5_ : Aside0 (Below w.heap.size w w18) := ⟨h5_⟩
       clear HO0 HB h0_ h1_ h2_ h3_ h4_ h5_
       have HO0 := n0_
       have HO176 := n1_
       have HO179 := n2_
       have HO183 := n3_
       have HO188 := n4_
       have HB := n5_
       clear n0_ n1_ n2_ n3_ n4_ n5_
       have hHeld := trivial
       refine norm_ (a' := ?_) ?_ ?_
       rotate_left
       ·simp only [putAll, Act.put, sb_, sz_, su_]
        rfl
       refine one_ (i := 9) (N := some 16) #[true, true, true, true, true, true, true, true, true, true, true, true, true, true, false, false, false] rfl rfl (one_of HT_.out (by kernel_rfl)) (by decide) (fun K hK => ?_)
       have hcv19 := own_string (P := Try.prog) Try.underlying24 Try.underlying5 Try.underlying9 (Kd.own_of_R HO183.out)
       refine value_ (w1 := ?_) (v := ?_) (by rfl) rfl ?_ ?_
       rotate_left 2
       ·go_simp
        constructor
        ·rfl
        ·rfl
       clear hcv19
       refine hK.out _ _ trivial (fun hHeld => ?_)
       clear hK K
       refine norm_ (a' := ?_) ?_ ?_
       rotate_left
       ·show Act.put _ (some 16) _ = _
        simp only [Act.put, sb_, sz_, su_, i64_w, i32_w]
        rfl
       exact norm_ ((by simp only [putAll, Act.put, sb_, sz_, su_]; done)) (hJ6_7_8_9_13 (v178, v182) _ ⟨HO0.out, HO176.out, HO179.out, HO183.out, HO188.out, HB.out⟩)
     ·skip
      rintro ⟨v178, v182⟩ w18 ⟨h0_, h1_, h2_, h3_, h4_, h5_⟩
      have n0_ : Aside0 (Kd.V (Kd.int .u8) 5 w18 w.heap.size (fun k_ => (P0_ k_ ∨ w.heap.size ≤ k_) ∧ some k_ ≠ (v178 : Value).ownBlock ∧ some k_ ≠ (v182 : Value).ownBlock) (.slice A0 l0.length c0) l0) := ⟨h0_⟩
      have n1_ : Aside0 (Kd.V (Kd.int .u8) 5 w18 w.heap.size (fun k_ => (P0_ k_ ∨ w.heap.size ≤ k_) ∧ some k_ ≠ (v178 : Value).ownBlock ∧ some k_ ≠ (v182 : Value).ownBlock) (.slice A0 y172.length c0) y172) := ⟨h1_⟩
      have n2_ : Aside0 (Kd.N (Kd.slice 5 (Kd.int .u8)) 24 w18 w.heap.size (fun k_ => (P0_ k_ ∨ w.heap.size ≤ k_) ∧ some k_ ≠ (v182 : Value).ownBlock) v178 y177) := ⟨h2_⟩
      have n3_ : Aside0 (Kd.R (Kd.int .u8) 5 w18 w.heap.size (fun k_ => (w.heap.size ≤ k_)) v182 t181) := ⟨h3_⟩
      have n4_ : Aside0 (Kd.V (Kd.int .u8) 5 w18 w.heap.size (fun k_ => (P0_ k_ ∨ w.heap.size ≤ k_) ∧ some k_ ≠ (v178 : Value).ownBlock ∧ some k_ ≠ (v182 : Value).ownBlock) (.slice A12 y184.length c12) y184) := ⟨h4_⟩
      have n5_ : Aside0 (Below w.heap.size w w18) := ⟨h5_⟩
      clear HO0 HB h0_ h1_ h2_ h3_ h4_ h5_
      have HO0 := n0_
      have HO176 := n1_
      have HO179 := n2_
      have HO183 := n3_
      have HO188 := n4_
      have HB := n5_
      clear n0_ n1_ n2_ n3_ n4_ n5_
      have hHeld := trivial
      refine norm_ (a' := ?_) ?_ ?_
      rotate_left
      ·simp only [putAll, Act.put, sb_, sz_, su_]
       rfl
      refine one_ (i := 13) (N := some 20) #[true, true, true, true, true, true, true, true, true, true, true, true, true, true, false, false, false] rfl rfl (one_of HT_.out (by kernel_rfl)) (by decide) (fun K hK => ?_)
      have hcv19 := (fun {A_ : Option Addr} {n_ c_ : Nat} (h_ : Kd.V _ _ _ _ _ (.slice A_ n_ c_) _) => Kd.C_string (P := Try.prog) (c := c_) Try.underlying24 Try.underlying5 Try.underlying9 (Kd.V_reads' h_).2.2) HO188.out
      refine value_ (w1 := ?_) (v := ?_) (by rfl) rfl ?_ ?_
      rotate_left 2
      ·go_simp
       constructor
       ·rfl
       ·rfl
      clear hcv19
      refine hK.out _ _ trivial (fun hHeld => ?_)
      clear hK K
      refine norm_ (a' := ?_) ?_ ?_
      rotate_left
      ·show Act.put _ (some 20) _ = _
       simp only [Act.put, sb_, sz_, su_, i64_w, i32_w]
       rfl
      exact norm_ ((by simp only [putAll, Act.put, sb_, sz_, su_]; done)) (hJ6_7_8_9_13 (v178, v182) _ ⟨HO0.out, HO176.out, HO179.out, HO183.out, HO188.out, HB.out⟩)
    rintro ⟨v178, v182⟩ w19 ⟨h0_, h1_, h2_, h3_, h4_, h5_⟩
    have n0_ : Aside0 (Kd.V (Kd.int .u8) 5 w19 w.heap.size (fun k_ => (P0_ k_ ∨ w.heap.size ≤ k_) ∧ some k_ ≠ (v178 : Value).ownBlock ∧ some k_ ≠ (v182 : Value).ownBlock) (.slice A0 l0.length c0) l0) := ⟨h0_⟩
    have n1_ : Aside0 (Kd.V (Kd.int .u8) 5 w19 w.heap.size (fun k_ => (P0_ k_ ∨ w.heap.size ≤ k_) ∧ some k_ ≠ (v178 : Value).ownBlock ∧ some k_ ≠ (v182 : Value).ownBlock) (.slice A0 y172.length c0) y172) := ⟨h1_⟩
    have n2_ : Aside0 (Kd.N (Kd.slice 5 (Kd.int .u8)) 24 w19 w.heap.size (fun k_ => (P0_ k_ ∨ w.heap.size ≤ k_) ∧ some k_ ≠ (v182 : Value).ownBlock) v178 y177) := ⟨h2_⟩
    have n3_ : Aside0 (Kd.R (Kd.int .u8) 5 w19 w.heap.size (fun k_ => (w.heap.size ≤ k_)) v182 t181) := ⟨h3_⟩
    have n4_ : Aside0 (Kd.V (Kd.int .u8) 5 w19 w.heap.size (fun k_ => (P0_ k_ ∨ w.heap.size ≤ k_) ∧ some k_ ≠ (v178 : Value).ownBlock ∧ some k_ ≠ (v182 : Value).ownBlock) (.slice A12 y184.length c12) y184) := ⟨h4_⟩
    have n5_ : Aside0 (Below w.heap.size w w19) := ⟨h5_⟩
    clear HO0 HB h0_ h1_ h2_ h3_ h4_ h5_
    have HO0 := n0_
    have HO176 := n1_
    have HO179 := n2_
    have HO183 := n3_
    have HO188 := n4_
    have HB := n5_
    clear n0_ n1_ n2_ n3_ n4_ n5_
    have hHeld := trivial
    refine norm_ (a' := ?_) ?_ ?_
    rotate_left
    ·simp only [putAll, Act.put, sb_, sz_, su_]
     rfl
    refine pu 14 (some 21) #[true, true, true, true, true, true, true, true, true, true, true, true, true, true, true, false, false] HT_.out rfl rfl ?_
    refine pu 15 (some 22) #[true, true, true, true, true, true, true, true, true, true, true, true, true, true, true, true, false] HT_.out rfl rfl ?_
    refine pu 16 (some 2) #[true, true, true, true, true, true, true, true, true, true, true, true, true, true, true, true, true] HT_.out rfl rfl ?_
    refine done_ (done_of HT_.out (by kernel_rfl)) ?_
    try go_wp2
    go_ret
    exact ⟨by rfl, HB.out⟩
   ·rw [if_neg c5] at H
    exact absurd H (by simp)
  ·rw [if_neg c4] at H
   exact absurd H (by simp)
 ·rw [if_neg c2] at H
  have c2b0 : decide (0 ≤ (wrap64 ((l0.length : Int) - 4))) = false := df_ c2
  clear c2
  obtain rfl := si_ H
  go_enter Try.func61, Try.ntmps61
  try go_wp2
  replace HO0 := ak_ (Kd.V_drew HO0.out)
  replace HB := ak_ (below_drew1 HB.out)
  refine start_ (n := 17) (S := fun w' => True) (ds := []) #[false, false, false, false, false, false, false, false, false, false, false, false, false, false, false, false, false] (by kernel_rfl) rfl rfl trivial (fun hHeld => ?_); refine with_tabW crc_Check.tab2 crc_Check.bits2 (fun HT_ HW_ => ?_)
  generalize w.drew = w20 at HO0 HB hHeld ⊢
  refine pu 0 (some 7) #[true, false, false, false, false, false, false, false, false, false, false, false, false, false, false, false, false] HT_.out rfl rfl ?_
  refine pu 1 (some 8) #[true, true, false, false, false, false, false, false, false, false, false, false, false, false, false, false, false] HT_.out rfl rfl ?_
  refine pu 2 (some 9) #[true, true, true, false, false, false, false, false, false, false, false, false, false, false, false, false, false] HT_.out rfl rfl ?_
  refine pure_ (i := 3) (N := some 10) (v := undef) (a' := ?_) #[true, true, true, true, false, false, false, false, false, false, false, false, false, false, false, false, false] rfl rfl (any_of HT_.out (by kernel_rfl)) (fun _ _ _ h => h) (Or.inr ⟨by rfl, rfl⟩) ?_ ?_
  rotate_left
  ·simp only [Act.put, sb_, sz_, su_, i64_w, i32_w]
   rfl
  refine pure_ (i := 4) (N := some 11) (v := undef) (a' := ?_) #[true, true, true, true, true, false, false, false, false, false, false, false, false, false, false, false, false] rfl rfl (any_of HT_.out (by kernel_rfl)) (fun _ _ _ h => h) (Or.inr ⟨by rfl, rfl⟩) ?_ ?_
  rotate_left
  ·simp only [Act.put, sb_, sz_, su_, i64_w, i32_w]
   rfl
  refine pure_ (i := 5) (N := some 12) (v := undef) (a' := ?_) #[true, true, true, true, true, true, false, false, false, false, false, false, false, false, false, false, false] rfl rfl (any_of HT_.out (by kernel_rfl)) (fun _ _ _ h => h) (Or.inr ⟨by rfl, rfl⟩) ?_ ?_
  rotate_left
  ·simp only [Act.put, sb_, sz_, su_, i64_w, i32_w]
   rfl
  refine pure_ (i := 6) (N := some 13) (v := undef) (a' := ?_) #[true, true, true, true, true, true, true, false, false, false, false, false, false, false, false, false, false] rfl rfl (any_of HT_.out (by kernel_rfl)) (fun _ _ _ h => h) (Or.inr ⟨by rfl, rfl⟩) ?_ ?_
  rotate_left
  ·simp only [Act.put, sb_, sz_, su_, i64_w, i32_w]
   rfl
  refine pure_ (i := 7) (N := some 14) (v := undef) (a' := ?_) #[true, true, true, true, true, true, true, true, false, false, false, false, false, false, false, false, false] rfl rfl (any_of HT_.out (by kernel_rfl)) (fun _ _ _ h => h) (Or.inr ⟨by rfl, rfl⟩) ?_ ?_
  rotate_left
  ·simp only [Act.put, sb_, sz_, su_, i64_w, i32_w]
   rfl
  refine pure_ (i := 8) (N := some 15) (v := undef) (a' := ?_) #[true, true, true, true, true, true, true, true, true, false, false, false, false, false, false, false, false] rfl rfl (any_of HT_.out (by kernel_rfl)) (fun _ _ _ h => h) (Or.inr ⟨by rfl, rfl⟩) ?_ ?_
  rotate_left
  ·simp only [Act.put, sb_, sz_, su_, i64_w, i32_w]
   rfl
  refine pure_ (i := 9) (N := some 16) (v := undef) (a' := ?_) #[true, true, true, true, true, true, true, true, true, true, false, false, false, false, false, false, false] rfl rfl (any_of HT_.out (by kernel_rfl)) (fun _ _ _ h => h) (Or.inr ⟨by rfl, rfl⟩) ?_ ?_
  rotate_left
  ·simp only [Act.put, sb_, sz_, su_, i64_w, i32_w]
   rfl
  refine pure_ (i := 10) (N := some 17) (v := undef) (a' := ?_) #[true, true, true, true, true, true, true, true, true, true, true, false, false, false, false, false, false] rfl rfl (any_of HT_.out (by kernel_rfl)) (fun _ _ _ h => h) (Or.inr ⟨by rfl, rfl⟩) ?_ ?_
  rotate_left
  ·simp only [Act.put, sb_, sz_, su_, i64_w, i32_w]
   rfl
  refine pure_ (i := 11) (N := some 18) (v := undef) (a' := ?_) #[true, true, true, true, true, true, true, true, true, true, true, true, false, false, false, false, false] rfl rfl (any_of HT_.out (by kernel_rfl)) (fun _ _ _ h => h) (Or.inr ⟨by rfl, rfl⟩) ?_ ?_
  rotate_left
  ·simp only [Act.put, sb_, sz_, su_, i64_w, i32_w]
   rfl
  refine pure_ (i := 12) (N := some 19) (v := undef) (a' := ?_) #[true, true, true, true, true, true, true, true, true, true, true, true, true, false, false, false, false] rfl rfl (any_of HT_.out (by kernel_rfl)) (fun _ _ _ h => h) (Or.inr ⟨by rfl, rfl⟩) ?_ ?_
  rotate_left
  ·simp only [Act.put, sb_, sz_, su_, i64_w, i32_w]
   rfl
  refine pure_ (i := 13) (N := some 20) (v := undef) (a' := ?_) #[true, true, true, true, true, true, true, true, true, true, true, true, true, true, false, false, false] rfl rfl (any_of HT_.out (by kernel_rfl)) (fun _ _ _ h => h) (Or.inr ⟨by rfl, rfl⟩) ?_ ?_
  rotate_left
  ·simp only [Act.put, sb_, sz_, su_, i64_w, i32_w]
   rfl
  refine pure_ (i := 14) (N := some 21) (v := undef) (a' := ?_) #[true, true, true, true, true, true, true, true, true, true, true, true, true, true, true, false, false] rfl rfl (any_of HT_.out (by kernel_rfl)) (fun _ _ _ h => h) (Or.inr ⟨by rfl, rfl⟩) ?_ ?_
  rotate_left
  ·simp only [Act.put, sb_, sz_, su_, i64_w, i32_w]
   rfl
  refine pu 15 (some 22) #[true, true, true, true, true, true, true, true, true, true, true, true, true, true, true, true, false] HT_.out rfl rfl ?_
  refine pu 16 (some 2) #[true, true, true, true, true, true, true, true, true, true, true, true, true, true, true, true, true] HT_.out rfl rfl ?_
  refine done_ (done_of HT_.out (by kernel_rfl)) ?_
  try go_wp2
  go_ret
  exact ⟨by rfl, HB.out⟩
def tag_within.f (a0 : Int) (a1 : Int) (a2 : Int) : Option (Bool) := if a0 ≥ a1 then (some (decide (a0 ≤ a2))) else (some false)
theorem tag_within.calls (a0 : Int) (a1 : Int) (a2 : Int) (r : Bool) (w : World) (h : tag_within.f a0 a1 a2 = some r) :
  Calls Try.prog 81 #[.int .i64 a0, .int .i64 a1, .int .i64 a2] w fun e w' => e = .returned (.bool r) ∧ Drawn0 w w' := by
 unfold tag_within.f at h
 have H := h
 clear h
 by_cases c4 : a0 ≥ a1
 ·rw [if_pos c4] at H
  have c4b0 : decide (a1 ≤ a0) = true := dt_ c4
  clear c4
  obtain rfl := si_ H
  go_enter Try.func81, Try.ntmps81
  go_wp2
  go_ret
  exact ⟨by rfl, by repeat (first | exact Drawn0.refl _ | apply Drawn0.step)⟩
 ·rw [if_neg c4] at H
  have c4b0 : decide (a1 ≤ a0) = false := df_ c4
  clear c4
  obtain rfl := si_ H
  go_enter Try.func81, Try.ntmps81
  go_wp2
  go_ret
  exact ⟨by rfl, by repeat (first | exact Drawn0.refl _ | apply Drawn0.step)⟩
end Go.Proofs.Ytmehbabchakkpaa.QLadderWalks
