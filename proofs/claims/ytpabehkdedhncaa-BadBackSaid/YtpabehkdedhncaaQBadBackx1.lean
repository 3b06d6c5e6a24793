-- Written by my program pp.py for this claim
import Derived.Test.YtpabehkdedhncaaQBadBackx0
namespace Go.Proofs.Ytpabehkdedhncaa.QBadBack
open Go.RowKit Go.Proofs.YtpabehkdedhncaaW.PrintWords Go.Proofs.YtpabehkdedhncaaW.PrintLast Go.Proofs.YtpabehkdedhncaaW.PrintMore
attribute [local go_sem] max2_int min2_int max_two min_two max_three min_three max_four min_four   -- for this text's walks alone
set_option linter.unusedVariables false
set_option linter.unusedSimpArgs false

/-! ### bad_Room: function 39 -/
def bad_Room.f (a0 : Int) : Option (Int) := if a0 < 14 then (some 0) else (some (mn (wrap64 (Int.tdiv (wrap64 (a0 - 14)) 2)) 256))
set_option maxHeartbeats 8000000 in
set_option maxRecDepth 100000 in
theorem bad_Room.calls (a0 : Int) (r : Int) (w : World) (h : bad_Room.f a0 = some r) :
    Calls Try.prog 39 #[.int .i64 a0] w fun e w' => e = .returned (.int .i64 r) ∧ Below w.heap.size w w' := by
  have HB := Aside0.mk (Below.refl w.heap.size w)
  have H : (if a0 < 14 then (some 0) else (some (mn (wrap64 (Int.tdiv (wrap64 (a0 - 14)) 2)) 256))) = some r := h
  clear h
  by_cases c2 : a0 < 14
  · rw [if_pos c2] at H
    have c2b0 : decide (a0 < 14) = true := decide_eq_true c2
    clear c2
    obtain rfl := Option.some.inj H
    go_enter Try.func39, Try.ntmps39
    go_wp2
    go_ret
    exact ⟨by first | rfl | (simp [errW_none, errW_some] <;> rfl) | (simp [*, errW_none, errW_some] <;> rfl) | (have hz_ : ∀ z : Int, -9223372036854775808 ≤ z → z ≤ 9223372036854775807 → wrap64 z = z := (fun z h1_ h2_ => by unfold wrap64; omega); rw [hz_] <;> first | rfl | omega), by repeat (first | (with_reducible first | exact HB.out | apply below_alloc | apply pw_below_drewN | apply below_drew1) | exact HB.out)⟩
  · rw [if_neg c2] at H
    have c2b0 : decide (a0 < 14) = false := decide_eq_false c2
    clear c2
    obtain ⟨ji3, hji3⟩ : ∃ j_ : Int, (mn (wrap64 (Int.tdiv (wrap64 (a0 - 14)) 2)) 256) = j_ := ⟨_, rfl⟩
    replace H : (some ji3) = some r := by first | (rw [hji3] at H; exact H) | (simp only [hji3] at H ⊢; exact H)
    (try (have hji3h : ji3 ≤ 256 := by (rw [← hji3]; unfold mn; (repeat' split) <;> omega)))
    (try (have hji3g : ji3 ≤ 64 := by omega))
    have hji3_ : (if 256 < (wrap64 (Int.tdiv (wrap64 (a0 - 14)) 2)) then 256 else (wrap64 (Int.tdiv (wrap64 (a0 - 14)) 2))) = ji3 := hji3
    obtain rfl := Option.some.inj H
    go_enter Try.func39, Try.ntmps39
    go_wp2
    go_ret
    exact ⟨by first | rfl | (simp [errW_none, errW_some] <;> rfl) | (simp only [← hji3]; first | rfl | (simp [errW_none, errW_some] <;> rfl)) | (simp [*, errW_none, errW_some] <;> rfl), by repeat (first | (with_reducible first | exact HB.out | apply below_alloc | apply pw_below_drewN | apply below_drew1) | exact HB.out)⟩

/-! ### incunablelaw25_awake: function 14 -/
def incunablelaw25_awake.f  : Option (Bool) := (bad_Room.f 32).bind fun t101 => (some (t101 == 9))
set_option maxHeartbeats 8000000 in
set_option maxRecDepth 100000 in
theorem incunablelaw25_awake.calls  (r : Bool) (w : World) (h : incunablelaw25_awake.f  = some r) :
    Calls Try.prog 14 #[] w fun e w' => e = .returned (.bool r) ∧ Below w.heap.size w w' := by
  have HB := Aside0.mk (Below.refl w.heap.size w)
  have H : ((bad_Room.f 32).bind fun t101 => (some (t101 == 9))) = some r := h
  clear h
  replace H := Option.bind_eq_some_iff.mp H
  obtain ⟨t101, A10, H⟩ := H
  replace H : (some (t101 == 9)) = some r := H
  have A1 := Aside0.mk A10
  clear A10
  obtain rfl := Option.some.inj H
  go_enter Try.func14, Try.ntmps14
  go_wp2_with (first | ((with_reducible refine gate_callee (f := 39) rfl ?_); refine goesL_ (some 1) rfl rfl Try.func39 (by kernel_rfl) rfl #[.int .i64 32] rfl (by (try simp only [List.map_toArray, List.map_cons, List.map_nil]); first | done | rfl | (simp only [List.length_drop, List.length_take]; rfl)) ?_; (with_reducible refine (bad_Room.calls 32 t101 _ A1.out).mono ?_); rintro e w2 ⟨rfl, hb⟩; refine ⟨_, rfl, ?_⟩; have n0_ := Aside0.mk (below_step (by repeat (first | (with_reducible first | exact HB.out | apply below_alloc | apply pw_below_drewN | apply below_drew1) | exact HB.out)) hb); clear HB; have HB := n0_; clear n0_; (try clear hb); (try clear hb2); (try clear hk); (try clear hi)))
  go_ret
  exact ⟨by first | rfl | (simp [errW_none, errW_some] <;> rfl) | (simp [*, errW_none, errW_some] <;> rfl) | (have hz_ : ∀ z : Int, -9223372036854775808 ≤ z → z ≤ 9223372036854775807 → wrap64 z = z := (fun z h1_ h2_ => by unfold wrap64; omega); rw [hz_] <;> first | rfl | omega), by repeat (first | (with_reducible first | exact HB.out | apply below_alloc | apply pw_below_drewN | apply below_drew1) | exact HB.out)⟩

/-! ### bad_Join: function 15 (given) -/
/-- which of 256 are, as cells -/
def bad_Join_cells (s : Int → Bool) : Array Value := ((List.range 256).map fun i : Nat => Value.bool (s (i : Int))).toArray
theorem bad_Join_cells_get (s : Int → Bool) {i : Nat} (h : i < 256) : (bad_Join_cells s)[i]? = some (.bool (s (i : Int))) := by
  unfold bad_Join_cells
  rw [List.getElem?_toArray, List.getElem?_map, List.getElem?_range h]
  rfl
theorem bad_Join_cells_set (s t : Int → Bool) {i : Nat} (h : i < 256) (ht : ∀ j : Int, t j = (s j || decide (j = (i : Int)))) : (bad_Join_cells s).setIfInBounds i (.bool true) = bad_Join_cells t := by
  apply Array.ext_getElem?
  intro j
  rw [Array.getElem?_setIfInBounds]
  have hsz : (bad_Join_cells s).size = 256 := by simp [bad_Join_cells]
  by_cases hj : j < 256
  · by_cases e : i = j
    · subst e
      rw [if_pos rfl, if_pos (by omega), bad_Join_cells_get _ hj, ht]
      simp
    · rw [if_neg e, bad_Join_cells_get _ hj, bad_Join_cells_get _ hj, ht, decide_eq_false (by omega), Bool.or_false]
  · have h2 : ∀ u, (bad_Join_cells u)[j]? = none := fun u => by
      rw [Array.getElem?_eq_none]
      simp [bad_Join_cells]
      omega
    rw [h2, h2, if_neg (by omega)]
theorem bad_Join_cells_size (s : Int → Bool) : (bad_Join_cells s).size = 256 := by simp [bad_Join_cells]
theorem bad_Join_info (s : Int → Bool) : (Try.prog.info? 77).map (·.size) = some (bad_Join_cells s).size := by
  rw [bad_Join_cells_size]
  kernel_rfl
theorem bad_Join_cells_same (s t : Int → Bool) (ht : ∀ j : Int, 0 ≤ j → j < 256 → t j = s j) : bad_Join_cells s = bad_Join_cells t := by
  unfold bad_Join_cells
  congr 1
  refine List.map_congr_left fun j hj => ?_
  have := List.mem_range.1 hj
  rw [ht (j : Int) (by omega) (by omega)]
theorem bad_Join_zero : Try.zeroCells77 = bad_Join_cells (fun _ => false) := by kernel_rfl
theorem bad_Join_index2_0 (p0 p1 : Value) (w : World) : (Instr.index 78 (.agg #[p0, p1]) (.int .i64 0)).run Try.prog w = .ok p0 w := by
  simp [Instr.index, run_underlying (P := Try.prog) Try.underlying78, asIntOf, go_sem]
theorem bad_Join_index2_1 (p0 p1 : Value) (w : World) : (Instr.index 78 (.agg #[p0, p1]) (.int .i64 1)).run Try.prog w = .ok p1 w := by
  simp [Instr.index, run_underlying (P := Try.prog) Try.underlying78, asIntOf, go_sem]
attribute [local go_sem] bad_Join_index2_0 bad_Join_index2_1
theorem bad_Join_index (s : Int → Bool) {k : Nat} (h : k < 256) (w : World) : (Instr.index 77 (.agg (bad_Join_cells s)) (.int .i64 (k : Int))).run Try.prog w = .ok (.bool (s (k : Int))) w := by
  have hsz : (bad_Join_cells s).size = 256 := by simp [bad_Join_cells]
  have hg := bad_Join_cells_get s h
  simp [Instr.index, run_underlying (P := Try.prog) Try.underlying77, asIntOf, go_sem, hsz, h]
  exact (Array.getElem?_eq_some_iff.1 hg).2
def bad_Join_upto (l0 l1 : List Int) (k : Nat) : List Int := ((List.range k).filter fun i : Nat => decide ((i : Int) ∈ l0) || decide ((i : Int) ∈ l1)).map fun i : Nat => (i : Int)
theorem bad_Join_upto_succ (l0 l1 : List Int) (k : Nat) : bad_Join_upto l0 l1 (k + 1) = if (decide ((k : Int) ∈ l0) || decide ((k : Int) ∈ l1)) = true then bad_Join_upto l0 l1 k ++ [(k : Int)] else bad_Join_upto l0 l1 k := by
  unfold bad_Join_upto
  rw [List.range_succ, List.filter_append, List.map_append]
  split
  · rename_i h
    rw [List.filter_cons_of_pos (by simpa using h)]
    rfl
  · rename_i h
    rw [List.filter_cons_of_neg (by simpa using h)]
    exact List.append_nil _
theorem bad_Join_upto_le (l0 l1 : List Int) (k : Nat) : (bad_Join_upto l0 l1 k).length ≤ k := by
  unfold bad_Join_upto
  rw [List.length_map]
  have := List.length_filter_le (fun i : Nat => decide ((i : Int) ∈ l0) || decide ((i : Int) ∈ l1)) (List.range k)
  rwa [List.length_range] at this
def bad_Join.f (l0 l1 : List Int) : Option (List Int) := some (bad_Join_upto l0 l1 256)
theorem bad_Join_take {l : List Int} {k : Nat} (h : k < l.length) : l.take (k + 1) = l.take k ++ [rd l (k : Int)] := by
  rw [List.take_succ_eq_append_getElem h]
  congr 2
  simp [rd, h]
theorem bad_Join_meas {n k : Nat} (h : k < n) : n - (intOf (.int .i64 ((k : Int) + 1))).toNat < n - (intOf (.int .i64 (k : Int))).toNat := by
  simp only [intOf]
  omega
set_option maxHeartbeats 8000000 in
set_option maxRecDepth 100000 in
theorem bad_Join.calls (A0 : Option Addr) (c0 : Nat) (l0 : List Int) (A1 : Option Addr) (c1 : Nat) (l1 : List Int) (r : List Int) (w : World) (hr0 : Kd.C (Kd.int .i64) w A0 l0.length l0) (hc0 : l0.length ≤ c0) (hr1 : Kd.C (Kd.int .i64) w A1 l1.length l1) (hc1 : l1.length ≤ c1) (h : bad_Join.f l0 l1 = some r) :
    Calls Try.prog 15 #[.slice A0 l0.length c0, .slice A1 l1.length c1] w fun e w' => ∃ v0_ : Value, e = .returned v0_ ∧ Kd.R (Kd.int .i64) 3 w' w.heap.size (fun _ => True) v0_ r ∧ Below w.heap.size w w' := by
  have HR0 := Aside0.mk hr0
  have HR1 := Aside0.mk hr1
  clear hr0 hc0 hr1 hc1
  obtain rfl := Option.some.inj h
  clear h
  have HL0 := Aside0.mk HR0.out.2.1
  have HL1 := Aside0.mk HR1.out.2.1
  go_enter Try.func15, Try.ntmps15
  go_wp2
  refine wp_loop_rounds 3 ?_
  rw [rounds_succ]
  generalize hR0 : Code.rounds _ _ _ 2 = R0
  go_wp2_with fail
  have BK := Aside0.mk (blk_new w (.cells Try.zeroCells77 77))
  have HB := Aside0.mk (below_alloc (Below.refl w.heap.size w) (.cells Try.zeroCells77 77))
  go_loopw [21] (fun v21 wr => ∃ k : Nat, k ≤ l0.length ∧ v21 = .int .i64 (k : Int) ∧ Aside0 (wr.heap[w.heap.size]? = some (.cells (bad_Join_cells fun i => decide (i ∈ l0.take k)) 77 (0, 0))) ∧ Aside0 (Below w.heap.size w wr)) (fun v21 _ => l0.length - (intOf v21).toNat)
  case atStart => exact ⟨0, Nat.zero_le _, rfl, ⟨by rw [BK.out, bad_Join_zero]; exact congrArg (fun c => some (Obj.cells c 77 (0, 0))) (bad_Join_cells_same _ _ (fun j _ _ => by simp))⟩, HB⟩
  case round =>
    clear BK HB
    obtain ⟨k, hk, rfl, BK, HB⟩ := hrel
    by_cases hlt : k < l0.length
    · have p1 : 0 ≤ (k : Int) := by omega
      have q1 : (k : Int) < (l0.length : Int) := by omega
      obtain ⟨ad, ead, hx⟩ := Kd.at_int HR0.out (k : Int) p1 q1
      cases ead
      replace hx := (HB.out.cell (World.block_lt_of_cell? w _ hx)).trans hx
      rw [Int.toNat_natCast] at hx
      have HT := Aside0.mk (bad_Join_take hlt)
      have HL := Aside0.mk (show k < l0.length ∧ k < 9223372036854775807 from by have := HL0.out; unfold maxLen at this; omega)
      have hw : wrap64 ((k : Int) + 1) = (k : Int) + 1 := by have := HL.out; unfold wrap64; omega
      generalize rd l0 (k : Int) = x at hx HT
      have c1 : decide ((k : Int) < (l0.length : Int)) = true := decide_eq_true q1
      have c1b : decide (k < l0.length) = true := decide_eq_true hlt
      replace p1 := eq_true p1
      replace q1 := eq_true q1
      clear hlt hk
      by_cases h0 : 0 ≤ x
      · by_cases h1 : x < 256
        · obtain ⟨i, rfl⟩ := Int.eq_ofNat_of_zero_le h0
          have hi := Aside0.mk (show i < 256 by omega)
          have hc := (blk_cell BK.out i).trans (bad_Join_cells_get _ hi.out)
          have hf : wr.frozen? ⟨w.heap.size, i, none⟩ = false := blk_frozen BK.out i
          go_wp2
          go_roundw
          case rel => exact ⟨k + 1, HL.out.1, by go_num, ⟨blk_put BK.out i _ (bad_Join_cells_set _ _ hi.out (fun j => by rw [HT.out]; simp [Bool.decide_or, Bool.or_assoc]))⟩, ⟨HB.out.setCell (Nat.le_refl _) _⟩⟩
          case measure => rw [hw]; exact bad_Join_meas HL.out.1
        · have d0 : decide (0 ≤ x) = true := decide_eq_true h0
          have d1 : decide (x < 256) = false := decide_eq_false h1
          have E := Aside0.mk (show (bad_Join_cells fun i => decide (i ∈ l0.take k)) = bad_Join_cells fun i => decide (i ∈ l0.take (k + 1)) from bad_Join_cells_same _ _ (fun j j0 j1 => by rw [HT.out]; simp [show ¬ j = x by omega]))
          clear h0 h1
          go_wp2
          go_roundw
          case rel => exact ⟨k + 1, HL.out.1, by go_num, ⟨by rw [← E.out]; exact BK.out⟩, HB⟩
          case measure => rw [hw]; exact bad_Join_meas HL.out.1
      · have d0 : decide (0 ≤ x) = false := decide_eq_false h0
        have E := Aside0.mk (show (bad_Join_cells fun i => decide (i ∈ l0.take k)) = bad_Join_cells fun i => decide (i ∈ l0.take (k + 1)) from bad_Join_cells_same _ _ (fun j j0 j1 => by rw [HT.out]; simp [show ¬ j = x by omega]))
        clear h0
        go_wp2
        go_roundw
        case rel => exact ⟨k + 1, HL.out.1, by go_num, ⟨by rw [← E.out]; exact BK.out⟩, HB⟩
        case measure => rw [hw]; exact bad_Join_meas HL.out.1
    · obtain rfl : k = l0.length := by omega
      rw [List.take_length] at BK
      have c1 : decide ((l0.length : Int) < (l0.length : Int)) = false := decide_eq_false (by omega)
      clear hlt hk
      go_wp2_with fail
      subst hR0
      rw [rounds_succ]
      generalize hR1 : Code.rounds _ _ _ 1 = R1
      go_wp2_with fail
      go_loopw [21] (fun v21 wr => ∃ k : Nat, k ≤ l1.length ∧ v21 = .int .i64 (k : Int) ∧ Aside0 (wr.heap[w.heap.size]? = some (.cells (bad_Join_cells fun i => decide (i ∈ l0) || decide (i ∈ l1.take k)) 77 (0, 0))) ∧ Aside0 (Below w.heap.size w wr)) (fun v21 _ => l1.length - (intOf v21).toNat)
      case atStart => exact ⟨0, Nat.zero_le _, rfl, ⟨by rw [BK.out]; simp⟩, HB⟩
      case round =>
        clear BK HB
        obtain ⟨k, hk, rfl, BK, HB⟩ := hrel
        by_cases hlt : k < l1.length
        · have p1 : 0 ≤ (k : Int) := by omega
          have q1 : (k : Int) < (l1.length : Int) := by omega
          obtain ⟨ad, ead, hx⟩ := Kd.at_int HR1.out (k : Int) p1 q1
          cases ead
          replace hx := (HB.out.cell (World.block_lt_of_cell? w _ hx)).trans hx
          rw [Int.toNat_natCast] at hx
          have HT := Aside0.mk (bad_Join_take hlt)
          have HL := Aside0.mk (show k < l1.length ∧ k < 9223372036854775807 from by have := HL1.out; unfold maxLen at this; omega)
          have hw : wrap64 ((k : Int) + 1) = (k : Int) + 1 := by have := HL.out; unfold wrap64; omega
          generalize rd l1 (k : Int) = x at hx HT
          have c1 : decide ((k : Int) < (l1.length : Int)) = true := decide_eq_true q1
          have c1b : decide (k < l1.length) = true := decide_eq_true hlt
          replace p1 := eq_true p1
          replace q1 := eq_true q1
          clear hlt hk
          by_cases h0 : 0 ≤ x
          · by_cases h1 : x < 256
            · obtain ⟨i, rfl⟩ := Int.eq_ofNat_of_zero_le h0
              have hi := Aside0.mk (show i < 256 by omega)
              have hc := (blk_cell BK.out i).trans (bad_Join_cells_get _ hi.out)
              have hf : wr.frozen? ⟨w.heap.size, i, none⟩ = false := blk_frozen BK.out i
              go_wp2
              go_roundw
              case rel => exact ⟨k + 1, HL.out.1, by go_num, ⟨blk_put BK.out i _ (bad_Join_cells_set _ _ hi.out (fun j => by rw [HT.out]; simp [Bool.decide_or, Bool.or_assoc]))⟩, ⟨HB.out.setCell (Nat.le_refl _) _⟩⟩
              case measure => rw [hw]; exact bad_Join_meas HL.out.1
            · have d0 : decide (0 ≤ x) = true := decide_eq_true h0
              have d1 : decide (x < 256) = false := decide_eq_false h1
              have E := Aside0.mk (show (bad_Join_cells fun i => decide (i ∈ l0) || decide (i ∈ l1.take k)) = bad_Join_cells fun i => decide (i ∈ l0) || decide (i ∈ l1.take (k + 1)) from bad_Join_cells_same _ _ (fun j j0 j1 => by rw [HT.out]; simp [show ¬ j = x by omega]))
              clear h0 h1
              go_wp2
              go_roundw
              case rel => exact ⟨k + 1, HL.out.1, by go_num, ⟨by rw [← E.out]; exact BK.out⟩, HB⟩
              case measure => rw [hw]; exact bad_Join_meas HL.out.1
          · have d0 : decide (0 ≤ x) = false := decide_eq_false h0
            have E := Aside0.mk (show (bad_Join_cells fun i => decide (i ∈ l0) || decide (i ∈ l1.take k)) = bad_Join_cells fun i => decide (i ∈ l0) || decide (i ∈ l1.take (k + 1)) from bad_Join_cells_same _ _ (fun j j0 j1 => by rw [HT.out]; simp [show ¬ j = x by omega]))
            clear h0
            go_wp2
            go_roundw
            case rel => exact ⟨k + 1, HL.out.1, by go_num, ⟨by rw [← E.out]; exact BK.out⟩, HB⟩
            case measure => rw [hw]; exact bad_Join_meas HL.out.1
        · obtain rfl : k = l1.length := by omega
          rw [List.take_length] at BK
          have c1 : decide ((l1.length : Int) < (l1.length : Int)) = false := decide_eq_false (by omega)
          clear hlt hk
          go_wp2_with fail
          subst hR1
          rw [rounds_succ]
          go_wp2_with (refine wpList_load_row rfl 77 (.tmp 5) rfl w.heap.size rfl 77 _ (0, 0) _ BK.out Try.underlying77 rfl (bad_Join_info _) ?_)
          generalize hS : (bad_Join_cells fun i => decide (i ∈ l0) || decide (i ∈ l1)) = S
          have HS := Aside0.mk hS
          clear hS BK
          go_loopw [10, 36] (fun v10 v36 wr => ∃ k : Nat, k ≤ 256 ∧ v36 = .int .i64 (k : Int) ∧ Aside0 (Kd.R (Kd.int .i64) 3 wr w.heap.size (fun _ => True) v10 (bad_Join_upto l0 l1 k)) ∧ Aside0 (Below w.heap.size w wr)) (fun _ v36 _ => 256 - (intOf v36).toNat)
          case atStart => exact ⟨0, Nat.zero_le _, rfl, ⟨Kd.R_nil _ _ _ _ _⟩, HB⟩
          case round =>
            clear HB
            obtain ⟨k, hk, rfl, HO, HB⟩ := hrel
            by_cases hlt : k < 256
            · have hix := fun w => bad_Join_index (fun i => decide (i ∈ l0) || decide (i ∈ l1)) hlt w
              rw [HS.out] at hix
              have HU := Aside0.mk (bad_Join_upto_succ l0 l1 k)
              have HL := Aside0.mk (show k < 256 from hlt)
              have hle := Aside0.mk (bad_Join_upto_le l0 l1 k)
              have hw : wrap64 ((k : Int) + 1) = (k : Int) + 1 := by unfold wrap64; omega
              have c1 : decide ((k : Int) < 256) = true := decide_eq_true (by omega)
              have c1b : decide (k < 256) = true := decide_eq_true hlt
              clear hlt hk
              by_cases hb : (decide ((k : Int) ∈ l0) || decide ((k : Int) ∈ l1)) = true
              · rw [hb] at hix
                have HU2 := HU.out
                rw [if_pos hb] at HU2
                replace HU := Aside0.mk HU2
                clear HU2 hb
                obtain ⟨y, hy⟩ : ∃ y_ : List Int, y_ = bad_Join_upto l0 l1 k := ⟨_, rfl⟩
                have HY := Aside0.mk hy
                clear hy
                rw [← HY.out] at HO HU hle
                go_wp2_with ((with_reducible refine gate_builtin (b := .append) (xs := #[.tmp 41, .tmp 43]) rfl ?_); at_builtin; refine Kd.R_append (Kd.int .i64) (w0 := w) w.heap.size rfl (.tmp 41) (.tmp 43) 22 3 (.int .i64 0) 8 rfl Try.underlying22 info3 rfl (by decide) (by omega) u10 y (k : Int) [.int .i64 (k : Int)] (fun _ => True) (fun _ => False) rfl rfl ?aP (fun _ hk => hk.elim) ?aF ?aO ?aB ?aS ?aL ?_; (case aP => exact rfl); (case aB => exact (by repeat (first | (with_reducible first | exact HB.out | apply below_alloc | apply pw_below_drewN | apply below_drew1) | exact HB.out))); (case aF => exact (fun _ _ => trivial)); (case aO => exact (by (with_reducible repeat (first | apply Kd.R_alloc | apply Kd.R_drewN | apply Kd.R_drew)); exact HO.out)); (case aS => exact (below_size (by repeat (first | (with_reducible first | exact HB.out | apply below_alloc | apply pw_below_drewN | apply below_drew1) | exact HB.out)))); (case aL => have := hle.out; have := HL.out; omega); intro v141 w5 ho hb hg hat; have n0_ := Aside0.mk (hb); have n1_ := Aside0.mk (ho); clear HB; clear HO; have HB := n0_; have HO := n1_; clear n0_ n1_; clear ho hb hg hat)
                go_roundw
                case rel => exact ⟨k + 1, HL.out, by go_num, ⟨by rw [HU.out]; exact HO.out⟩, HB⟩
                case measure => rw [hw]; exact bad_Join_meas HL.out
              · rw [eq_false_of_ne_true hb] at hix
                have HU2 := HU.out
                rw [if_neg hb] at HU2
                replace HU := Aside0.mk HU2
                clear HU2 hb
                go_wp2
                go_roundw
                case rel => exact ⟨k + 1, HL.out, by go_num, ⟨by rw [HU.out]; exact HO.out⟩, HB⟩
                case measure => rw [hw]; exact bad_Join_meas HL.out
            · obtain rfl : k = 256 := by omega
              clear hlt hk
              go_wp2
              go_ret
              exact ⟨_, rfl, HO.out, HB.out⟩

/-! ### incunableref01_Ints: function 16 -/
def incunableref01_Ints.l0 : Nat → List Int → List Int → Int → Option (Bool)
  | 0, _, _, _ => none
  | k + 1, x0, x1, x5 => if x5 < (x0.length : Int) then (if 0 ≤ x5 then (if x5 < (x1.length : Int) then (if (rd x0 x5) = (rd x1 x5) then (incunableref01_Ints.l0 k x0 x1 (wrap64 (x5 + 1))) else (some false)) else (none)) else (none)) else (some true)
def incunableref01_Ints.f (k : Nat) (l0 : List Int) (l1 : List Int) : Option (Bool) := if (l0.length : Int) = (l1.length : Int) then (incunableref01_Ints.l0 k l0 l1 0) else (some false)
theorem incunableref01_Ints.mono_l : ∀ k, (∀ y0 y1 y2, LeO (incunableref01_Ints.l0 k y0 y1 y2) (incunableref01_Ints.l0 (k + 1) y0 y1 y2))
  | 0 => fun _ _ _ r h => by simp [incunableref01_Ints.l0] at h
  | k + 1 => by
    have ih0 := incunableref01_Ints.mono_l k
    · intro y0 y1 y2
      unfold incunableref01_Ints.l0
      repeat' first
      | (with_reducible exact ih0 _ _ _)
      | (with_reducible exact LeO.refl _)
      | (with_reducible exact LeO.none _)
      | (with_reducible refine LeO.ite ?_ ?_)
      | (with_reducible refine LeO.bind ?_ (fun _ => ?_))
      | exact ih0 _ _ _
      | exact LeO.none _
      | refine LeO.ite ?_ ?_
      | refine LeO.bind ?_ (fun _ => ?_)
theorem incunableref01_Ints.mono : ∀ a0 a1 k, LeO (incunableref01_Ints.f k a0 a1) (incunableref01_Ints.f (k + 1) a0 a1) := by
  intro a0 a1 k
  have ih0 := incunableref01_Ints.mono_l k
  unfold incunableref01_Ints.f
  repeat' first
      | (with_reducible exact ih0 _ _ _)
      | (with_reducible exact LeO.refl _)
      | (with_reducible exact LeO.none _)
      | (with_reducible refine LeO.ite ?_ ?_)
      | (with_reducible refine LeO.bind ?_ (fun _ => ?_))
      | exact ih0 _ _ _
      | exact LeO.none _
      | refine LeO.ite ?_ ?_
      | refine LeO.bind ?_ (fun _ => ?_)
set_option maxHeartbeats 8000000 in
set_option maxRecDepth 100000 in
theorem incunableref01_Ints.calls (k : Nat) (A0 : Option Addr) (c0 : Nat) (l0 : List Int) (A1 : Option Addr) (c1 : Nat) (l1 : List Int) (r : Bool) (w : World) (hr0 : Kd.C (Kd.int .i64) w A0 l0.length l0) (hc0 : l0.length ≤ c0) (hr1 : Kd.C (Kd.int .i64) w A1 l1.length l1) (hc1 : l1.length ≤ c1) (h : incunableref01_Ints.f k l0 l1 = some r) :
    Calls Try.prog 16 #[.slice A0 l0.length c0, .slice A1 l1.length c1] w fun e w' => e = .returned (.bool r) ∧ Drawn0 w w' := by
  have HR0 := Aside0.mk hr0
  have HC0 := Aside0.mk hc0
  clear hr0 hc0
  have HR1 := Aside0.mk hr1
  have HC1 := Aside0.mk hc1
  clear hr1 hc1
  have H : (if (l0.length : Int) = (l1.length : Int) then (incunableref01_Ints.l0 k l0 l1 0) else (some false)) = some r := h
  clear h
  by_cases c3 : (l0.length : Int) = (l1.length : Int)
  · rw [if_pos c3] at H
    have c3b0 : ((l0.length : Int) == (l1.length : Int)) = true := beq_iff_eq.mpr c3
    have c3b1 : ((l0.length : Int) != (l1.length : Int)) = false := bne_eq_false_iff_eq.mpr c3
    have c3b2 : (l0.length == l1.length) = true := by first | simpa using c3 | (simp at c3 ⊢; omega)
    clear c3
    have H' := Aside0.mk H
    clear H
    go_enter Try.func16, Try.ntmps16
    go_wp2
    repeat (go_quiet (fail); try go_wp2)
    go_loopg [5] k (fun kq v5 w' => ∃ (x5_1 : Int), v5 = .int .i64 x5_1 ∧ Aside0 (incunableref01_Ints.l0 kq l0 l1 x5_1 = some r) ∧ Aside0 (kq ≤ k) ∧ Drawn0 w w')
    case atStart => exact ⟨(0), (by first | rfl | (simp; done) | (simp [*]; done)), H', ⟨Nat.le_refl _⟩, by repeat (first | exact Drawn0.refl _ | apply Drawn0.step)⟩
    case round =>
      clear H'
      try clear c1
      try clear p2
      try clear c3
      try clear c3b0
      try clear c3b1
      try clear c3b2
      obtain ⟨x5_1, rfl, HA, HK1, ⟨m1, rfl⟩⟩ := hrel
      cases gk with
      | zero => exact absurd HA.out (by simp [incunableref01_Ints.l0])
      | succ k1 =>
        have H := HA.out
        clear HA
        simp only [incunableref01_Ints.l0] at H
        by_cases c4 : x5_1 < (l0.length : Int)
        · rw [if_pos c4] at H
          have c4b0 : decide (x5_1 < (l0.length : Int)) = true := decide_eq_true c4
          clear c4
          by_cases c5 : 0 ≤ x5_1
          · rw [if_pos c5] at H
            have c5b0 : decide (0 ≤ x5_1) = true := decide_eq_true c5
            clear c5
            by_cases c6 : x5_1 < (l1.length : Int)
            · rw [if_pos c6] at H
              have c6b0 : decide (x5_1 < (l1.length : Int)) = true := decide_eq_true c6
              clear c6
              by_cases c7 : (rd l0 x5_1) = (rd l1 x5_1)
              · rw [if_pos c7] at H
                have c7b0 : ((rd l0 x5_1) == (rd l1 x5_1)) = true := beq_iff_eq.mpr c7
                have c7b1 : ((rd l0 x5_1) != (rd l1 x5_1)) = false := bne_eq_false_iff_eq.mpr c7
                clear c7
                have H' := Aside0.mk H
                clear H
                have p102 : 0 ≤ (x5_1 : Int) := of_decide_eq_true (by first | (with_reducible assumption) | assumption)
                have q102 : x5_1 < (l0.length : Int) := of_decide_eq_true (by first | (with_reducible assumption) | assumption)
                obtain ⟨ad102, e102, hx102_0⟩ := Kd.at_int HR0.out x5_1 p102 q102
                cases e102
                replace p102 := eq_true p102
                replace q102 := eq_true q102
                have p103 : 0 ≤ (x5_1 : Int) := of_decide_eq_true (by first | (with_reducible assumption) | assumption)
                have q103 : x5_1 < (l1.length : Int) := of_decide_eq_true (by first | (with_reducible assumption) | assumption)
                obtain ⟨ad103, e103, hx103_0⟩ := Kd.at_int HR1.out x5_1 p103 q103
                cases e103
                replace p103 := eq_true p103
                replace q103 := eq_true q103
                go_wp2
                repeat (go_quiet (fail); try go_wp2)
                go_roundg k1
                case measure => have := HK1.out; omega
                case rel => exact ⟨(wrap64 (x5_1 + 1)), (by first | rfl | (simp; done) | (simp [*]; done)), H', ⟨by have := HK1.out; omega⟩, by repeat (first | exact Drawn0.refl _ | apply Drawn0.step)⟩
              · rw [if_neg c7] at H
                have c7b0 : ((rd l0 x5_1) == (rd l1 x5_1)) = false := beq_eq_false_iff_ne.mpr c7
                have c7b1 : ((rd l0 x5_1) != (rd l1 x5_1)) = true := bne_iff_ne.mpr c7
                obtain rfl := Option.some.inj H
                have p102 : 0 ≤ (x5_1 : Int) := of_decide_eq_true (by first | (with_reducible assumption) | assumption)
                have q102 : x5_1 < (l0.length : Int) := of_decide_eq_true (by first | (with_reducible assumption) | assumption)
                obtain ⟨ad102, e102, hx102_0⟩ := Kd.at_int HR0.out x5_1 p102 q102
                cases e102
                replace p102 := eq_true p102
                replace q102 := eq_true q102
                have p103 : 0 ≤ (x5_1 : Int) := of_decide_eq_true (by first | (with_reducible assumption) | assumption)
                have q103 : x5_1 < (l1.length : Int) := of_decide_eq_true (by first | (with_reducible assumption) | assumption)
                obtain ⟨ad103, e103, hx103_0⟩ := Kd.at_int HR1.out x5_1 p103 q103
                cases e103
                replace p103 := eq_true p103
                replace q103 := eq_true q103
                go_wp2
                repeat (go_quiet (fail); try go_wp2)
                go_ret
                exact ⟨by first | rfl | (simp; done) | (simp [*]; done), by repeat (first | exact Drawn0.refl _ | apply Drawn0.step)⟩
            · rw [if_neg c6] at H
              exact absurd H (by simp)
          · rw [if_neg c5] at H
            exact absurd H (by simp)
        · rw [if_neg c4] at H
          have c4b0 : decide (x5_1 < (l0.length : Int)) = false := decide_eq_false c4
          clear c4
          obtain rfl := Option.some.inj H
          go_wp2
          repeat (go_quiet (fail); try go_wp2)
          go_ret
          exact ⟨by first | rfl | (simp; done) | (simp [*]; done), by repeat (first | exact Drawn0.refl _ | apply Drawn0.step)⟩
  · rw [if_neg c3] at H
    have c3b0 : ((l0.length : Int) == (l1.length : Int)) = false := beq_eq_false_iff_ne.mpr c3
    have c3b1 : ((l0.length : Int) != (l1.length : Int)) = true := bne_iff_ne.mpr c3
    have c3b2 : (l0.length == l1.length) = false := by first | simpa using c3 | (simp at c3 ⊢; omega)
    obtain rfl := Option.some.inj H
    go_enter Try.func16, Try.ntmps16
    go_wp2
    repeat (go_quiet (fail); try go_wp2)
    go_ret
    exact ⟨by first | rfl | (simp; done) | (simp [*]; done), by repeat (first | exact Drawn0.refl _ | apply Drawn0.step)⟩

/-! ### incunableref01_Same: function 32 -/
def incunableref01_Same.l0 : Nat → List Int → List Int → Int → Option (Bool)
  | 0, _, _, _ => none
  | k + 1, x0, x1, x5 => if x5 < (x0.length : Int) then (if 0 ≤ x5 then (if x5 < (x1.length : Int) then (if (rd x0 x5) = (rd x1 x5) then (incunableref01_Same.l0 k x0 x1 (wrap64 (x5 + 1))) else (some false)) else (none)) else (none)) else (some true)
def incunableref01_Same.f (k : Nat) (l0 : List Int) (l1 : List Int) : Option (Bool) := if (l0.length : Int) = (l1.length : Int) then (incunableref01_Same.l0 k l0 l1 0) else (some false)
theorem incunableref01_Same.mono_l : ∀ k, (∀ y0 y1 y2, LeO (incunableref01_Same.l0 k y0 y1 y2) (incunableref01_Same.l0 (k + 1) y0 y1 y2))
  | 0 => fun _ _ _ r h => by simp [incunableref01_Same.l0] at h
  | k + 1 => by
    have ih0 := incunableref01_Same.mono_l k
    · intro y0 y1 y2
      unfold incunableref01_Same.l0
      repeat' first
      | (with_reducible exact ih0 _ _ _)
      | (with_reducible exact LeO.refl _)
      | (with_reducible exact LeO.none _)
      | (with_reducible refine LeO.ite ?_ ?_)
      | (with_reducible refine LeO.bind ?_ (fun _ => ?_))
      | exact ih0 _ _ _
      | exact LeO.none _
      | refine LeO.ite ?_ ?_
      | refine LeO.bind ?_ (fun _ => ?_)
theorem incunableref01_Same.mono : ∀ a0 a1 k, LeO (incunableref01_Same.f k a0 a1) (incunableref01_Same.f (k + 1) a0 a1) := by
  intro a0 a1 k
  have ih0 := incunableref01_Same.mono_l k
  unfold incunableref01_Same.f
  repeat' first
      | (with_reducible exact ih0 _ _ _)
      | (with_reducible exact LeO.refl _)
      | (with_reducible exact LeO.none _)
      | (with_reducible refine LeO.ite ?_ ?_)
      | (with_reducible refine LeO.bind ?_ (fun _ => ?_))
      | exact ih0 _ _ _
      | exact LeO.none _
      | refine LeO.ite ?_ ?_
      | refine LeO.bind ?_ (fun _ => ?_)
set_option maxHeartbeats 8000000 in
set_option maxRecDepth 100000 in
theorem incunableref01_Same.calls (k : Nat) (A0 : Option Addr) (c0 : Nat) (l0 : List Int) (A1 : Option Addr) (c1 : Nat) (l1 : List Int) (r : Bool) (w : World) (hr0 : Kd.C (Kd.int .u8) w A0 l0.length l0) (hc0 : l0.length ≤ c0) (hr1 : Kd.C (Kd.int .u8) w A1 l1.length l1) (hc1 : l1.length ≤ c1) (h : incunableref01_Same.f k l0 l1 = some r) :
    Calls Try.prog 32 #[.slice A0 l0.length c0, .slice A1 l1.length c1] w fun e w' => e = .returned (.bool r) ∧ Drawn0 w w' := by
  have HR0 := Aside0.mk hr0
  have HC0 := Aside0.mk hc0
  clear hr0 hc0
  have HR1 := Aside0.mk hr1
  have HC1 := Aside0.mk hc1
  clear hr1 hc1
  have H : (if (l0.length : Int) = (l1.length : Int) then (incunableref01_Same.l0 k l0 l1 0) else (some false)) = some r := h
  clear h
  by_cases c3 : (l0.length : Int) = (l1.length : Int)
  · rw [if_pos c3] at H
    have c3b0 : ((l0.length : Int) == (l1.length : Int)) = true := beq_iff_eq.mpr c3
    have c3b1 : ((l0.length : Int) != (l1.length : Int)) = false := bne_eq_false_iff_eq.mpr c3
    have c3b2 : (l0.length == l1.length) = true := by first | simpa using c3 | (simp at c3 ⊢; omega)
    clear c3
    have H' := Aside0.mk H
    clear H
    go_enter Try.func32, Try.ntmps32
    go_wp2
    repeat (go_quiet (fail); try go_wp2)
    go_loopg [5] k (fun kq v5 w' => ∃ (x5_1 : Int), v5 = .int .i64 x5_1 ∧ Aside0 (incunableref01_Same.l0 kq l0 l1 x5_1 = some r) ∧ Aside0 (kq ≤ k) ∧ Drawn0 w w')
    case atStart => exact ⟨(0), (by first | rfl | (simp; done) | (simp [*]; done)), H', ⟨Nat.le_refl _⟩, by repeat (first | exact Drawn0.refl _ | apply Drawn0.step)⟩
    case round =>
      clear H'
      try clear c1
      try clear p2
      try clear c3
      try clear c3b0
      try clear c3b1
      try clear c3b2
      obtain ⟨x5_1, rfl, HA, HK1, ⟨m1, rfl⟩⟩ := hrel
      cases gk with
      | zero => exact absurd HA.out (by simp [incunableref01_Same.l0])
      | succ k1 =>
        have H := HA.out
        clear HA
        simp only [incunableref01_Same.l0] at H
        by_cases c4 : x5_1 < (l0.length : Int)
        · rw [if_pos c4] at H
          have c4b0 : decide (x5_1 < (l0.length : Int)) = true := decide_eq_true c4
          clear c4
          by_cases c5 : 0 ≤ x5_1
          · rw [if_pos c5] at H
            have c5b0 : decide (0 ≤ x5_1) = true := decide_eq_true c5
            clear c5
            by_cases c6 : x5_1 < (l1.length : Int)
            · rw [if_pos c6] at H
              have c6b0 : decide (x5_1 < (l1.length : Int)) = true := decide_eq_true c6
              clear c6
              by_cases c7 : (rd l0 x5_1) = (rd l1 x5_1)
              · rw [if_pos c7] at H
                have c7b0 : ((rd l0 x5_1) == (rd l1 x5_1)) = true := beq_iff_eq.mpr c7
                have c7b1 : ((rd l0 x5_1) != (rd l1 x5_1)) = false := bne_eq_false_iff_eq.mpr c7
                clear c7
                have H' := Aside0.mk H
                clear H
                have p104 : 0 ≤ (x5_1 : Int) := of_decide_eq_true (by first | (with_reducible assumption) | assumption)
                have q104 : x5_1 < (l0.length : Int) := of_decide_eq_true (by first | (with_reducible assumption) | assumption)
                obtain ⟨ad104, e104, hx104_0⟩ := Kd.at_int HR0.out x5_1 p104 q104
                cases e104
                replace p104 := eq_true p104
                replace q104 := eq_true q104
                have p105 : 0 ≤ (x5_1 : Int) := of_decide_eq_true (by first | (with_reducible assumption) | assumption)
                have q105 : x5_1 < (l1.length : Int) := of_decide_eq_true (by first | (with_reducible assumption) | assumption)
                obtain ⟨ad105, e105, hx105_0⟩ := Kd.at_int HR1.out x5_1 p105 q105
                cases e105
                replace p105 := eq_true p105
                replace q105 := eq_true q105
                go_wp2
                repeat (go_quiet (fail); try go_wp2)
                go_roundg k1
                case measure => have := HK1.out; omega
                case rel => exact ⟨(wrap64 (x5_1 + 1)), (by first | rfl | (simp; done) | (simp [*]; done)), H', ⟨by have := HK1.out; omega⟩, by repeat (first | exact Drawn0.refl _ | apply Drawn0.step)⟩
              · rw [if_neg c7] at H
                have c7b0 : ((rd l0 x5_1) == (rd l1 x5_1)) = false := beq_eq_false_iff_ne.mpr c7
                have c7b1 : ((rd l0 x5_1) != (rd l1 x5_1)) = true := bne_iff_ne.mpr c7
                obtain rfl := Option.some.inj H
                have p104 : 0 ≤ (x5_1 : Int) := of_decide_eq_true (by first | (with_reducible assumption) | assumption)
                have q104 : x5_1 < (l0.length : Int) := of_decide_eq_true (by first | (with_reducible assumption) | assumption)
                obtain ⟨ad104, e104, hx104_0⟩ := Kd.at_int HR0.out x5_1 p104 q104
                cases e104
                replace p104 := eq_true p104
                replace q104 := eq_true q104
                have p105 : 0 ≤ (x5_1 : Int) := of_decide_eq_true (by first | (with_reducible assumption) | assumption)
                have q105 : x5_1 < (l1.length : Int) := of_decide_eq_true (by first | (with_reducible assumption) | assumption)
                obtain ⟨ad105, e105, hx105_0⟩ := Kd.at_int HR1.out x5_1 p105 q105
                cases e105
                replace p105 := eq_true p105
                replace q105 := eq_true q105
                go_wp2
                repeat (go_quiet (fail); try go_wp2)
                go_ret
                exact ⟨by first | rfl | (simp; done) | (simp [*]; done), by repeat (first | exact Drawn0.refl _ | apply Drawn0.step)⟩
            · rw [if_neg c6] at H
              exact absurd H (by simp)
          · rw [if_neg c5] at H
            exact absurd H (by simp)
        · rw [if_neg c4] at H
          have c4b0 : decide (x5_1 < (l0.length : Int)) = false := decide_eq_false c4
          clear c4
          obtain rfl := Option.some.inj H
          go_wp2
          repeat (go_quiet (fail); try go_wp2)
          go_ret
          exact ⟨by first | rfl | (simp; done) | (simp [*]; done), by repeat (first | exact Drawn0.refl _ | apply Drawn0.step)⟩
  · rw [if_neg c3] at H
    have c3b0 : ((l0.length : Int) == (l1.length : Int)) = false := beq_eq_false_iff_ne.mpr c3
    have c3b1 : ((l0.length : Int) != (l1.length : Int)) = true := bne_iff_ne.mpr c3
    have c3b2 : (l0.length == l1.length) = false := by first | simpa using c3 | (simp at c3 ⊢; omega)
    obtain rfl := Option.some.inj H
    go_enter Try.func32, Try.ntmps32
    go_wp2
    repeat (go_quiet (fail); try go_wp2)
    go_ret
    exact ⟨by first | rfl | (simp; done) | (simp [*]; done), by repeat (first | exact Drawn0.refl _ | apply Drawn0.step)⟩

/-! ### pack_Size: function 67 -/
def pack_Size.l0 : Nat → Int → List Int → Int → Int → Option (Int × Bool)
  | 0, _, _, _, _ => none
  | k + 1, x4, x10, x11, x12 => if x12 < x11 then (if 0 ≤ x12 then (if x12 < (x10.length : Int) then (if (rd x10 x12) < 1 then (some (0, false)) else (if (rd x10 x12) > 8 then (some (0, false)) else (pack_Size.l0 k (wrap64 (x4 + (rd x10 x12))) x10 x11 (wrap64 (x12 + 1))))) else (none)) else (none)) else (some (x4, true))
def pack_Size.f (k : Nat) (l0 : List Int) : Option (Int × Bool) := if (l0.length : Int) > 64 then (some (0, false)) else (pack_Size.l0 k 0 l0 (l0.length : Int) 0)
theorem pack_Size.mono_l : ∀ k, (∀ y0 y1 y2 y3, LeO (pack_Size.l0 k y0 y1 y2 y3) (pack_Size.l0 (k + 1) y0 y1 y2 y3))
  | 0 => fun _ _ _ _ r h => by simp [pack_Size.l0] at h
  | k + 1 => by
    have ih0 := pack_Size.mono_l k
    · intro y0 y1 y2 y3
      unfold pack_Size.l0
      repeat' first
      | (with_reducible exact ih0 _ _ _ _)
      | (with_reducible exact LeO.refl _)
      | (with_reducible exact LeO.none _)
      | (with_reducible refine LeO.ite ?_ ?_)
      | (with_reducible refine LeO.bind ?_ (fun _ => ?_))
      | exact ih0 _ _ _ _
      | exact LeO.none _
      | refine LeO.ite ?_ ?_
      | refine LeO.bind ?_ (fun _ => ?_)
theorem pack_Size.mono : ∀ a0 k, LeO (pack_Size.f k a0) (pack_Size.f (k + 1) a0) := by
  intro a0 k
  have ih0 := pack_Size.mono_l k
  unfold pack_Size.f
  repeat' first
      | (with_reducible exact ih0 _ _ _ _)
      | (with_reducible exact LeO.refl _)
      | (with_reducible exact LeO.none _)
      | (with_reducible refine LeO.ite ?_ ?_)
      | (with_reducible refine LeO.bind ?_ (fun _ => ?_))
      | exact ih0 _ _ _ _
      | exact LeO.none _
      | refine LeO.ite ?_ ?_
      | refine LeO.bind ?_ (fun _ => ?_)
set_option maxHeartbeats 8000000 in
set_option maxRecDepth 100000 in
theorem pack_Size.calls (k : Nat) (A0 : Option Addr) (c0 : Nat) (l0 : List Int) (r1 : Int) (r2 : Bool) (w : World) (hr0 : Kd.C (Kd.int .i64) w A0 l0.length l0) (hc0 : l0.length ≤ c0) (h : pack_Size.f k l0 = some (r1, r2)) :
    Calls Try.prog 67 #[.slice A0 l0.length c0] w fun e w' => e = .returned (.tuple #[.int .i64 r1, .bool r2]) ∧ Drawn0 w w' := by
  have HR0 := Aside0.mk hr0
  have HC0 := Aside0.mk hc0
  clear hr0 hc0
  have H : (if (l0.length : Int) > 64 then (some (0, false)) else (pack_Size.l0 k 0 l0 (l0.length : Int) 0)) = some (r1, r2) := h
  clear h
  by_cases c2 : (l0.length : Int) > 64
  · rw [if_pos c2] at H
    have c2b0 : decide (64 < (l0.length : Int)) = true := decide_eq_true c2
    have c2b1 : decide (64 < l0.length) = true := decide_eq_true (by omega)
    clear c2
    simp only [Option.some.injEq, Prod.mk.injEq] at H
    obtain ⟨rfl, rfl⟩ := H
    go_enter Try.func67, Try.ntmps67
    go_wp2
    go_ret2
    exact ⟨by first | rfl | (simp; done) | (simp [*]; done), by repeat (first | exact Drawn0.refl _ | apply Drawn0.step)⟩
  · rw [if_neg c2] at H
    have c2b0 : decide (64 < (l0.length : Int)) = false := decide_eq_false c2
    have c2b1 : decide (64 < l0.length) = false := decide_eq_false (by omega)
    clear c2
    have H' := Aside0.mk H
    clear H
    go_enter Try.func67, Try.ntmps67
    go_wp2
    go_loopg [4, 12] k (fun kq v4 v12 w' => ∃ (x4_1 : Int) (x12_1 : Int), v4 = .int .i64 x4_1 ∧ v12 = .int .i64 x12_1 ∧ Aside0 (pack_Size.l0 kq x4_1 l0 (l0.length : Int) x12_1 = some (r1, r2)) ∧ Aside0 (kq ≤ k) ∧ Drawn0 w w')
    case atStart => exact ⟨(0), (0), (by first | rfl | (simp; done) | (simp [*]; done)), (by first | rfl | (simp; done) | (simp [*]; done)), H', ⟨Nat.le_refl _⟩, by repeat (first | exact Drawn0.refl _ | apply Drawn0.step)⟩
    case round =>
      clear H'
      try clear c2
      try clear c2b0
      try clear c2b1
      try clear p2
      obtain ⟨x4_1, x12_1, rfl, rfl, HA, HK1, ⟨m1, rfl⟩⟩ := hrel
      cases gk with
      | zero => exact absurd HA.out (by simp [pack_Size.l0])
      | succ k1 =>
        have H := HA.out
        clear HA
        simp only [pack_Size.l0] at H
        by_cases c3 : x12_1 < (l0.length : Int)
        · rw [if_pos c3] at H
          have c3b0 : decide (x12_1 < (l0.length : Int)) = true := decide_eq_true c3
          clear c3
          by_cases c4 : 0 ≤ x12_1
          · rw [if_pos c4] at H
            have c4b0 : decide (0 ≤ x12_1) = true := decide_eq_true c4
            clear c4
            by_cases c5 : x12_1 < (l0.length : Int)
            · rw [if_pos c5] at H
              have c5b0 : decide (x12_1 < (l0.length : Int)) = true := decide_eq_true c5
              clear c5
              by_cases c6 : (rd l0 x12_1) < 1
              · rw [if_pos c6] at H
                have c6b0 : decide ((rd l0 x12_1) < 1) = true := decide_eq_true c6
                clear c6
                simp only [Option.some.injEq, Prod.mk.injEq] at H
                obtain ⟨rfl, rfl⟩ := H
                have p106 : 0 ≤ (x12_1 : Int) := of_decide_eq_true (by first | (with_reducible assumption) | assumption)
                have q106 : x12_1 < (l0.length : Int) := of_decide_eq_true (by first | (with_reducible assumption) | assumption)
                obtain ⟨ad106, e106, hx106_0⟩ := Kd.at_int HR0.out x12_1 p106 q106
                cases e106
                replace p106 := eq_true p106
                replace q106 := eq_true q106
                go_wp2
                go_ret2
                exact ⟨by first | rfl | (simp; done) | (simp [*]; done), by repeat (first | exact Drawn0.refl _ | apply Drawn0.step)⟩
              · rw [if_neg c6] at H
                have c6b0 : decide ((rd l0 x12_1) < 1) = false := decide_eq_false c6
                clear c6
                by_cases c7 : (rd l0 x12_1) > 8
                · rw [if_pos c7] at H
                  have c7b0 : decide (8 < (rd l0 x12_1)) = true := decide_eq_true c7
                  clear c7
                  simp only [Option.some.injEq, Prod.mk.injEq] at H
                  obtain ⟨rfl, rfl⟩ := H
                  have p106 : 0 ≤ (x12_1 : Int) := of_decide_eq_true (by first | (with_reducible assumption) | assumption)
                  have q106 : x12_1 < (l0.length : Int) := of_decide_eq_true (by first | (with_reducible assumption) | assumption)
                  obtain ⟨ad106, e106, hx106_0⟩ := Kd.at_int HR0.out x12_1 p106 q106
                  cases e106
                  replace p106 := eq_true p106
                  replace q106 := eq_true q106
                  go_wp2
                  go_ret2
                  exact ⟨by first | rfl | (simp; done) | (simp [*]; done), by repeat (first | exact Drawn0.refl _ | apply Drawn0.step)⟩
                · rw [if_neg c7] at H
                  have c7b0 : decide (8 < (rd l0 x12_1)) = false := decide_eq_false c7
                  clear c7
                  have H' := Aside0.mk H
                  clear H
                  have p106 : 0 ≤ (x12_1 : Int) := of_decide_eq_true (by first | (with_reducible assumption) | assumption)
                  have q106 : x12_1 < (l0.length : Int) := of_decide_eq_true (by first | (with_reducible assumption) | assumption)
                  obtain ⟨ad106, e106, hx106_0⟩ := Kd.at_int HR0.out x12_1 p106 q106
                  cases e106
                  replace p106 := eq_true p106
                  replace q106 := eq_true q106
                  go_wp2
                  go_roundg k1
                  case measure => have := HK1.out; omega
                  case rel => exact ⟨(wrap64 (x4_1 + (rd l0 x12_1))), (wrap64 (x12_1 + 1)), (by first | rfl | (simp; done) | (simp [*]; done)), (by first | rfl | (simp; done) | (simp [*]; done)), H', ⟨by have := HK1.out; omega⟩, by repeat (first | exact Drawn0.refl _ | apply Drawn0.step)⟩
            · rw [if_neg c5] at H
              exact absurd H (by simp)
          · rw [if_neg c4] at H
            exact absurd H (by simp)
        · rw [if_neg c3] at H
          have c3b0 : decide (x12_1 < (l0.length : Int)) = false := decide_eq_false c3
          clear c3
          simp only [Option.some.injEq, Prod.mk.injEq] at H
          obtain ⟨rfl, rfl⟩ := H
          go_wp2
          go_ret2
          exact ⟨by first | rfl | (simp; done) | (simp [*]; done), by repeat (first | exact Drawn0.refl _ | apply Drawn0.step)⟩

/-! ### pack_Fits: function 68 -/
def pack_Fits.j0 : Nat → Int → Int → Bool → Option (Bool)
  | 0, _, _, _ => none
  | k + 1, x0, x1, x14 => if x14 = true then (some false) else (if x1 = 8 then (some (decide (x0 ≤ 4611686018427387904))) else (if 0 ≤ (IntKind.u64.wrap (wrap64 (8 * x1))) then (some ((shr .i64 x0 (IntKind.u64.wrap (wrap64 (8 * x1)))) == 0)) else (none)))
def pack_Fits.f (k : Nat) (a0 : Int) (a1 : Int) : Option (Bool) := if a1 < 1 then (pack_Fits.j0 k a0 a1 true) else (if a1 > 8 then (pack_Fits.j0 k a0 a1 true) else (pack_Fits.j0 k a0 a1 (decide (a0 < 0))))
theorem pack_Fits.mono_l : ∀ k, (∀ y0 y1 y2, LeO (pack_Fits.j0 k y0 y1 y2) (pack_Fits.j0 (k + 1) y0 y1 y2))
  | 0 => fun _ _ _ r h => by simp [pack_Fits.j0] at h
  | k + 1 => by
    have ih0 := pack_Fits.mono_l k
    · intro y0 y1 y2
      unfold pack_Fits.j0
      repeat' first
      | (with_reducible exact ih0 _ _ _)
      | (with_reducible exact LeO.refl _)
      | (with_reducible exact LeO.none _)
      | (with_reducible refine LeO.ite ?_ ?_)
      | (with_reducible refine LeO.bind ?_ (fun _ => ?_))
      | exact ih0 _ _ _
      | exact LeO.none _
      | refine LeO.ite ?_ ?_
      | refine LeO.bind ?_ (fun _ => ?_)
theorem pack_Fits.mono : ∀ a0 a1 k, LeO (pack_Fits.f k a0 a1) (pack_Fits.f (k + 1) a0 a1) := by
  intro a0 a1 k
  have ih0 := pack_Fits.mono_l k
  unfold pack_Fits.f
  repeat' first
      | (with_reducible exact ih0 _ _ _)
      | (with_reducible exact LeO.refl _)
      | (with_reducible exact LeO.none _)
      | (with_reducible refine LeO.ite ?_ ?_)
      | (with_reducible refine LeO.bind ?_ (fun _ => ?_))
      | exact ih0 _ _ _
      | exact LeO.none _
      | refine LeO.ite ?_ ?_
      | refine LeO.bind ?_ (fun _ => ?_)
set_option maxHeartbeats 8000000 in
set_option maxRecDepth 100000 in
theorem pack_Fits.calls (k : Nat) (a0 : Int) (a1 : Int) (r : Bool) (w : World) (h : pack_Fits.f k a0 a1 = some r) :
    Calls Try.prog 68 #[.int .i64 a0, .int .i64 a1] w fun e w' => e = .returned (.bool r) ∧ Drawn0 w w' := by
  have H : (if a1 < 1 then (pack_Fits.j0 k a0 a1 true) else (if a1 > 8 then (pack_Fits.j0 k a0 a1 true) else (pack_Fits.j0 k a0 a1 (decide (a0 < 0))))) = some r := h
  clear h
  have HC3 := Aside0.mk H
  clear H
  go_enter Try.func68, Try.ntmps68
  go_upto_region 1 with (fail)
  go_cut [14] (fun v14 wc => ∃ (kq : Nat) (x14_2 : Bool), v14 = .bool x14_2 ∧ Aside0 (pack_Fits.j0 kq a0 a1 x14_2 = some r) ∧ Aside0 (kq ≤ k) ∧ Drawn0 w wc)
  case first =>
    have H := HC3.out
    clear HC3
    by_cases c4 : a1 < 1
    · rw [if_pos c4] at H
      have c4b0 : decide (a1 < 1) = true := decide_eq_true c4
      clear c4
      (first | rw [c4b0] | (simp only [i64_w, i32_w]; rw [c4b0]) | skip)
      have H' := Aside0.mk H
      clear H
      go_wp2
      go_meet
      case rel => exact ⟨_, (true), (by first | rfl | (simp; done) | (simp [*]; done)), H', ⟨by first | omega | exact Nat.le_refl _⟩, by repeat (first | exact Drawn0.refl _ | apply Drawn0.step)⟩
    · rw [if_neg c4] at H
      have c4b0 : decide (a1 < 1) = false := decide_eq_false c4
      clear c4
      (first | rw [c4b0] | (simp only [i64_w, i32_w]; rw [c4b0]) | skip)
      by_cases c5 : a1 > 8
      · rw [if_pos c5] at H
        have c5b0 : decide (8 < a1) = true := decide_eq_true c5
        clear c5
        have H' := Aside0.mk H
        clear H
        go_wp2
        go_meet
        case rel => exact ⟨_, (true), (by first | rfl | (simp; done) | (simp [*]; done)), H', ⟨by first | omega | exact Nat.le_refl _⟩, by repeat (first | exact Drawn0.refl _ | apply Drawn0.step)⟩
      · rw [if_neg c5] at H
        have c5b0 : decide (8 < a1) = false := decide_eq_false c5
        clear c5
        have H' := Aside0.mk H
        clear H
        go_wp2
        go_meet
        case rel => exact ⟨_, (decide (a0 < 0)), (by first | rfl | (simp; done) | (simp [*]; done)), H', ⟨by first | omega | exact Nat.le_refl _⟩, by repeat (first | exact Drawn0.refl _ | apply Drawn0.step)⟩
  case rest =>
    clear HC3
    try clear p2
    try clear c4
    try clear c4b0
    try clear c5
    try clear c5b0
    obtain ⟨kq, x14_2, rfl, HA, HJ2, ⟨mc2, rfl⟩⟩ := hcut
    cases kq with
    | zero => exact absurd HA.out (by simp [pack_Fits.j0])
    | succ kj2 =>
      have H := HA.out
      clear HA
      simp only [pack_Fits.j0] at H
      by_cases c6 : x14_2 = true
      · subst c6
        have H1 : (some false) = some r := by rw [if_pos rfl] at H; exact H
        clear H
        have H := H1
        clear H1
        obtain rfl := Option.some.inj H
        go_wp2
        go_ret
        exact ⟨by first | rfl | (simp; done) | (simp [*]; done), by repeat (first | exact Drawn0.refl _ | apply Drawn0.step)⟩
      · replace c6 := Bool.eq_false_iff.mpr c6
        subst c6
        have H1 : (if a1 = 8 then (some (decide (a0 ≤ 4611686018427387904))) else (if 0 ≤ (IntKind.u64.wrap (wrap64 (8 * a1))) then (some ((shr .i64 a0 (IntKind.u64.wrap (wrap64 (8 * a1)))) == 0)) else (none))) = some r := by rw [if_neg (show ¬ (false = true) by decide)] at H; exact H
        clear H
        have H := H1
        clear H1
        by_cases c7 : a1 = 8
        · rw [if_pos c7] at H
          have c7b0 : (a1 == 8) = true := beq_iff_eq.mpr c7
          have c7b1 : (a1 != 8) = false := bne_eq_false_iff_eq.mpr c7
          clear c7
          obtain rfl := Option.some.inj H
          go_wp2
          go_ret
          exact ⟨by first | rfl | (simp; done) | (simp [*]; done), by repeat (first | exact Drawn0.refl _ | apply Drawn0.step)⟩
        · rw [if_neg c7] at H
          have c7b0 : (a1 == 8) = false := beq_eq_false_iff_ne.mpr c7
          have c7b1 : (a1 != 8) = true := bne_iff_ne.mpr c7
          obtain ⟨ji8, hji8⟩ : ∃ j_ : Int, (IntKind.u64.wrap (wrap64 (8 * a1))) = j_ := ⟨_, rfl⟩
          replace H : (if 0 ≤ (ji8) then (some ((shr .i64 a0 (ji8)) == 0)) else (none)) = some r := by first | (rw [hji8] at H; exact H) | (simp only [hji8] at H ⊢; exact H)
          by_cases c9 : 0 ≤ (ji8)
          · rw [if_pos c9] at H
            have c9b0 := eq_true c9
            have c9b1 : decide (0 ≤ (ji8)) = true := decide_eq_true c9
            clear c9
            obtain ⟨ji10, hji10⟩ : ∃ j_ : Int, (shr .i64 a0 (ji8)) = j_ := ⟨_, rfl⟩
            replace H : (some ((ji10) == 0)) = some r := by first | (rw [hji10] at H; exact H) | (simp only [hji10] at H ⊢; exact H)
            have hji10_ : (a0 / 2 ^ min (ji8).toNat 64) = ji10 := hji10
            have hji10z : (ji8) ≤ 64 → (a0 / 2 ^ (ji8).toNat) = ji10 := shr_small hji10
            obtain rfl := Option.some.inj H
            go_wp2
            go_ret
            exact ⟨by first | rfl | (simp; done) | (simp only [← hji8, ← hji10] <;> (first | rfl | simp)) | (simp [*]; done), by repeat (first | exact Drawn0.refl _ | apply Drawn0.step)⟩
          · rw [if_neg c9] at H
            exact absurd H (by simp)

end Go.Proofs.Ytpabehkdedhncaa.QBadBack
