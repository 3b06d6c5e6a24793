import Derived.Test.YtmehbabchakkpaaMLadderWalksx11
namespace Go.Proofs.Ytmehbabchakkpaa.QLadderWalks
open Go.RowKit YtmehbabchakkpaaW.PrintWords YtmehbabchakkpaaW.PrintLast YtmehbabchakkpaaW.PrintMore Short
attribute [local go_sem] max2_int min2_int max_two min_two max_three min_three max_four min_four
set_option linter.unusedVariables false
set_option maxHeartbeats 8000000
set_option maxRecDepth 100000
set_option linter.unusedSimpArgs false
mutual
def r07_Take.j0 : Nat → List Int → Option (Int × Int × Int × Int × Int)
 | 0, _ => none
 | k + 1, x4 => if 1 < (x4.length : Int) then (if 2 < (x4.length : Int) then (if 3 < (x4.length : Int) then (if 4 < (x4.length : Int) then (if 0 < (x4.length : Int) then (if (rd x4 0) = 0 then (if 5 < (x4.length : Int) then (if (rd x4 5) = 0 then ((r07_May.f (rd x4 1) (rd x4 2) (rd x4 3) (rd x4 4)).bind fun t455 => (r07_Take.j1 k (!t455) (rd x4 1) (rd x4 2) (rd x4 3) (rd x4 4))) else (r07_Take.j1 k true (rd x4 1) (rd x4 2) (rd x4 3) (rd x4 4))) else (none)) else (r07_Take.j1 k true (rd x4 1) (rd x4 2) (rd x4 3) (rd x4 4))) else (none)) else (none)) else (none)) else (none)) else (none)
def r07_Take.j1 : Nat → Bool → Int → Int → Int → Int → Option (Int × Int × Int × Int × Int)
 | 0, _, _, _, _, _ => none
 | k + 1, x44, x453000, x453001, x453002, x453003 => if x44 = true then (some (0, 0, 0, 0, 11)) else (some (x453000, x453001, x453002, x453003, 0))
end
def r07_Take.f (k : Nat) (l0 : List Int) : Option (Int × Int × Int × Int × Int) := (r07_sizes.f).bind fun t441 => ((r03_Take.f k t441 l0).bind fun bt444 => (if bt444.2 = 0 then (r07_Take.j0 k bt444.1) else (some (0, 0, 0, 0, bt444.2))))
theorem r07_Take.mono_l : ∀ k, (∀ y0, LeO (r07_Take.j0 k y0) (r07_Take.j0 (k + 1) y0)) ∧ (∀ y0 y1 y2 y3 y4, LeO (r07_Take.j1 k y0 y1 y2 y3 y4) (r07_Take.j1 (k + 1) y0 y1 y2 y3 y4))
 | 0 => ⟨fun _ r h => by simp [r07_Take.j0] at h, fun _ _ _ _ _ r h => by simp [r07_Take.j1] at h⟩
 | k + 1 => by
  obtain ⟨ih0, ih1⟩ := r07_Take.mono_l k
  refine ⟨?_, ?_⟩
  ·intro y0
   unfold r07_Take.j0
   repeat' first
   | (with_reducible exact ih0 _)
   | (with_reducible exact ih1 _ _ _ _ _)
   | (with_reducible exact r03_Take.mono _ _ _)
   | (with_reducible exact LeO.refl _)
   | (with_reducible exact LeO.none _)
   | (with_reducible refine LeO.ite ?_ ?_)
   | (with_reducible refine LeO.bind ?_ (fun _ => ?_))
  ·intro y0 y1 y2 y3 y4
   unfold r07_Take.j1
   repeat' first
   | (with_reducible exact ih0 _)
   | (with_reducible exact ih1 _ _ _ _ _)
   | (with_reducible exact r03_Take.mono _ _ _)
   | (with_reducible exact LeO.refl _)
   | (with_reducible exact LeO.none _)
   | (with_reducible refine LeO.ite ?_ ?_)
   | (with_reducible refine LeO.bind ?_ (fun _ => ?_))
theorem r07_Take.mono : ∀ a0 k, LeO (r07_Take.f k a0) (r07_Take.f (k + 1) a0) := by
 intro a0 k
 obtain ⟨ih0, ih1⟩ := r07_Take.mono_l k
 unfold r07_Take.f
 repeat' with_reducible first
  | exact ih0 _
  | exact ih1 _ _ _ _ _
  | exact r03_Take.mono _ _ _
  | exact LeO.refl _
  | exact LeO.none _
  | refine LeO.ite ?_ ?_
  | refine LeO.bind ?_ (fun _ => ?_)
def r07_Take.T4 : Bool × List (List Nat × List Nat) := (true, [([], []), ([0], [0]), ([1], [1]), ([], []), ([3], [3]), ([4], [4]), ([], []), ([6], [6]), ([7], [7]), ([], []), ([9], [9]), ([10], [10]), ([2, 5, 8, 11], [2, 5, 8, 11]), ([], []), ([13, 12, 0, 1, 2, 3, 4, 5, 6, 7, 8, 9, 10, 11, 12, 13], [12, 13])])
def r07_Take.B4 : List Nat := [0, 1, 3, 0, 8, 24, 0, 64, 192, 0, 512, 1536, 4095, 0, 16383]
theorem r07_Take.tab4 : rtab .any (opsOf Try.f55 4) = r07_Take.T4 := by kernel_rfl
theorem r07_Take.bits4 : waitsOk r07_Take.T4.2 r07_Take.B4 = true := by kernel_rfl
theorem r07_Take.calls (k : Nat) (A0 : Option Addr) (c0 : Nat) (l0 : List Int) (r1 : Int) (r2 : Int) (r3 : Int) (r4 : Int) (r5 : Int) (w : World) (hr0 : Kd.C (Kd.int .u8) w A0 l0.length l0) (hc0 : l0.length ≤ c0) (h : r07_Take.f k l0 = some (r1, r2, r3, r4, r5)) :
  Calls Try.prog 55 #[.slice A0 l0.length c0] w fun e w' => e = .returned (.tuple #[.agg #[.int .i64 r1, .int .i64 r2, .int .i64 r3, .int .i64 r4], .int .i64 r5]) ∧ Below w.heap.size w w' := by
 have hu26 := Try.underlying26
 have HR0 := ak_ hr0
 have HC0 := ak_ hc0
 clear hr0 hc0
 have HB := br_ w
 unfold r07_Take.f at h
 have H := h
 clear h
 obtain ⟨t346, A2, H⟩ := bs_ H
 obtain ⟨⟨t349, t350⟩, A3, H⟩ := bs_ H
 try dsimp only at H
 have HC4 := ak_ H
 clear H
 go_enter Try.func55, Try.ntmps55
 go_upto_if 14 with (first | ((with_reducible refine gate_dst (N := 2) rfl ?_); refine box_event ?hg (N := 2) ?hd (cs := #[.int .i64 0, .int .i64 0, .int .i64 0, .int .i64 0]) (t := 26) ?hr ?_; (case hd => rfl); (case hg => rfl); (case hr => (go_simp; done)); intro gb345 hg w5 hbox hb; have BK345 := ak_ (hbox); have GW345 := ak_ (gw_ hg (below_size HB.out)); have GE345 := ak_ (gw_ hg (below_size HB.out)); replace HB := ak_ (below_step HB.out hb); clear hb hbox hg) | ((with_reducible refine gate_callee (f := 72) rfl ?_); refine goesL_ (some 8) rfl rfl Try.func72 (by kernel_rfl) rfl #[] rfl (by (try simp only [List.map_toArray, List.map_cons, List.map_nil]); done) ?_; (with_reducible refine (r07_sizes.calls  t346 _ A2.out).mono ?_); rintro e w6 ⟨v347, rfl, ho0, hb⟩; refine ⟨_, rfl, ?_⟩; have HO348 := ak_ (Kd.R_lower ho0 (below_size HB.out)); replace BK345 := ak_ (blk_below BK345.out hb); replace HB := ak_ (below_step HB.out hb); (try clear hb); (try clear ho0); obtain ⟨Ao7, co7, eo7⟩ := Kd.R_slice HO348.out; subst eo7) | ((with_reducible refine gate_callee (f := 76) rfl ?_); refine goesL_ (some 10) rfl rfl Try.func76 (by kernel_rfl) rfl #[.slice Ao7 t346.length co7, .slice A0 l0.length c0] rfl (by (try simp only [List.map_toArray, List.map_cons, List.map_nil]); first | done | rfl | (simp only [List.length_drop, List.length_take]; rfl)) ?_; (with_reducible refine (r03_Take.calls k _ _ t346 _ _ l0 t349 t350 _ ?side1 ?side2 ?side3 ?side4 A3.out).mono ?_); (case side1 => exact (Kd.R_reads' HO348.out).2.2); (case side2 => exact (Kd.R_reads' HO348.out).2.1); (case side3 => exact (Kd.C_below HR0.out HB.out)); (case side4 => exact HC0.out); rintro e w8 ⟨v351, rfl, ho0, hb⟩; refine ⟨_, rfl, ?_⟩; have HO352 := ak_ (Kd.R_lower (Kd.R_new' ho0 (Kd.R_lt HO348.out)) (below_size HB.out)); replace HO348 := ak_ (Kd.R_elder' HO348.out (Kd.R_base ho0) hb); replace BK345 := ak_ (blk_below BK345.out hb); replace HB := ak_ (below_step HB.out hb); (try clear hb); (try clear ho0)))
 go_cut [] (fun wc => ∃ (kq : Nat) (x346000_3 : Int) (x346001_3 : Int) (x346002_3 : Int) (x346003_3 : Int), Aside0 (r07_Take.j0 kq t349 = some (r1, r2, r3, r4, r5)) ∧ Aside0 (kq ≤ k) ∧ Aside0 (Kd.R (Kd.int .i64) 3 wc w.heap.size (fun _ => True) v351 t349) ∧ Aside0 (wc.heap[gb345]? = some (.cells #[.int .i64 x346000_3, .int .i64 x346001_3, .int .i64 x346002_3, .int .i64 x346003_3] 26 (0, 0))) ∧ Aside0 (Below w.heap.size w wc))
 case first =>
  have H := HC4.out
  clear HC4
  by_cases c9 : t350 = 0
  ·rw [if_pos c9] at H
   have c9b0 := beq_iff_eq.mpr c9
   have c9b1 := bne_eq_false_iff_eq.mpr c9
   clear c9
   (first | rw [c9b0] | (simp only [i64_w, i32_w]; rw [c9b0]) | skip)
   have H' := ak_ H
   clear H
   go_wp2
   go_meet
   case rel => exact ⟨_, (0), (0), (0), (0), H', ⟨by omega⟩, ⟨(Kd.R_mono HO352.out (fun _ hk => trivial))⟩, ⟨BK345.out⟩, ⟨by repeat (first | (with_reducible first | exact HB.out | apply below_alloc | apply pw_below_drewN | apply below_drew1 | refine below_set ?_ GE345.out) | exact HB.out)⟩⟩
  ·rw [if_neg c9] at H
   have c9b0 := beq_eq_false_iff_ne.mpr c9
   have c9b1 := bne_iff_ne.mpr c9
   (first | rw [c9b0] | (simp only [i64_w, i32_w]; rw [c9b0]) | skip)
   simp only [Option.some.injEq, Prod.mk.injEq] at H
   obtain ⟨rfl, rfl, rfl, rfl, rfl⟩ := H
   obtain ⟨hcz10_0, hcz10_1, hcz10_2, hcz10_3⟩ := cells4 BK345.out
   obtain ⟨hfz10_0, hfz10_1, hfz10_2, hfz10_3⟩ := froz4 BK345.out
   go_wp2
   refine bodyPost_ret (results_ct rfl _ _ gb345 26 #[.int .i64 0, .int .i64 0, .int .i64 0, .int .i64 0] (0, 0) _ rfl (put4 BK345.out) Try.underlying26 rfl (by kernel_rfl)) rfl ?_
   exact ⟨by first | rfl | (simp [errW_none, errW_some] <;> rfl) | (simp [*, errW_none, errW_some] <;> rfl) | (have hz_ : ∀ z : Int, -9223372036854775808 ≤ z → z ≤ 9223372036854775807 → wrap64 z = z := (fun z h1_ h2_ => by unfold wrap64; omega); rw [hz_] <;> first | rfl | omega), by repeat (first | (with_reducible first | exact HB.out | apply below_alloc | apply pw_below_drewN | apply below_drew1 | refine below_set ?_ GE345.out) | exact HB.out)⟩
 case rest =>
  clear HC4
  obtain ⟨kq, x346000_3, x346001_3, x346002_3, x346003_3, HA, HJ3, HO_4, BK345, HB⟩ := hcut
  cases kq with
  | zero => exact absurd HA.out (by simp [r07_Take.j0])
  | succ kj3 =>
   have H := HA.out
   clear HA
   simp only [r07_Take.j0] at H
   by_cases c11 : 1 < (t349.length : Int)
   ·rw [if_pos c11] at H
    have c11b0 := dt_ c11
    have c11b1 : decide (1 < t349.length) = true := dt_ (by omega)
    clear c11
    by_cases c12 : 2 < (t349.length : Int)
    ·rw [if_pos c12] at H
     have c12b0 := dt_ c12
     have c12b1 : decide (2 < t349.length) = true := dt_ (by omega)
     clear c12
     by_cases c13 : 3 < (t349.length : Int)
     ·rw [if_pos c13] at H
      have c13b0 := dt_ c13
      have c13b1 : decide (3 < t349.length) = true := dt_ (by omega)
      clear c13
      by_cases c14 : 4 < (t349.length : Int)
      ·rw [if_pos c14] at H
       have c14b0 := dt_ c14
       have c14b1 : decide (4 < t349.length) = true := dt_ (by omega)
       clear c14
       have HC15 := ak_ H
       clear H
       try go_wp2
       replace HO_4 := ak_ (Kd.R_drew HO_4.out)
       replace BK345 := ak_ (blk_drew BK345.out)
       replace HB := ak_ (below_drew1 HB.out)
       obtain ⟨Ao17, co17, eo17⟩ := Kd.R_slice HO_4.out
       (subst eo17)
       have p353 : 0 ≤ (1 : Int) := (by omega)
       have q353 : 1 < (t349.length : Int) := od_ ‹_›
       obtain ⟨ad353, e353, hx353_0⟩ := Kd.at_int (Kd.R_reads' HO_4.out).2.2 1 p353 q353
       cases e353
       (try simp only [show (1 : Int).toNat = 1 from rfl, Nat.reduceMul, Nat.reduceEqDiff, Go.Addr.add, ↓reduceIte] at hx353_0)
       have qi353 : (1 < t349.length) = True := eq_true (by omega)
       (try rw [show ((1 : Int)).toNat = 1 from rfl] at hx353_0)
       replace p353 := eq_true p353
       replace q353 := eq_true q353
       have p354 : 0 ≤ (2 : Int) := (by omega)
       have q354 : 2 < (t349.length : Int) := od_ ‹_›
       obtain ⟨ad354, e354, hx354_0⟩ := Kd.at_int (Kd.R_reads' HO_4.out).2.2 2 p354 q354
       obtain rfl : ad353 = ad354 := (by injection e354)
       (try simp only [show (2 : Int).toNat = 2 from rfl, Nat.reduceMul, Nat.reduceEqDiff, Go.Addr.add, ↓reduceIte] at hx354_0)
       have qi354 : (2 < t349.length) = True := eq_true (by omega)
       (try rw [show ((2 : Int)).toNat = 2 from rfl] at hx354_0)
       replace p354 := eq_true p354
       replace q354 := eq_true q354
       have p355 : 0 ≤ (3 : Int) := (by omega)
       have q355 : 3 < (t349.length : Int) := od_ ‹_›
       obtain ⟨ad355, e355, hx355_0⟩ := Kd.at_int (Kd.R_reads' HO_4.out).2.2 3 p355 q355
       obtain rfl : ad353 = ad355 := (by injection e355)
       (try simp only [show (3 : Int).toNat = 3 from rfl, Nat.reduceMul, Nat.reduceEqDiff, Go.Addr.add, ↓reduceIte] at hx355_0)
       have qi355 : (3 < t349.length) = True := eq_true (by omega)
       (try rw [show ((3 : Int)).toNat = 3 from rfl] at hx355_0)
       replace p355 := eq_true p355
       replace q355 := eq_true q355
       have p356 : 0 ≤ (4 : Int) := (by omega)
       have q356 : 4 < (t349.length : Int) := od_ ‹_›
       obtain ⟨ad356, e356, hx356_0⟩ := Kd.at_int (Kd.R_reads' HO_4.out).2.2 4 p356 q356
       obtain rfl : ad353 = ad356 := (by injection e356)
       (try simp only [show (4 : Int).toNat = 4 from rfl, Nat.reduceMul, Nat.reduceEqDiff, Go.Addr.add, ↓reduceIte] at hx356_0)
       have qi356 : (4 < t349.length) = True := eq_true (by omega)
       (try rw [show ((4 : Int)).toNat = 4 from rfl] at hx356_0)
       replace p356 := eq_true p356
       replace q356 := eq_true q356
       refine start_ (n := 15) (S := fun w' => w'.cell? ⟨ad353.block, ad353.off + 1, none⟩ = some (.int .i64 (rd t349 1)) ∧ w'.cell? ⟨ad353.block, ad353.off + 2, none⟩ = some (.int .i64 (rd t349 2)) ∧ w'.cell? ⟨ad353.block, ad353.off + 3, none⟩ = some (.int .i64 (rd t349 3)) ∧ w'.cell? ⟨ad353.block, ad353.off + 4, none⟩ = some (.int .i64 (rd t349 4))) (ds := []) #[false, false, false, false, false, false, false, false, false, false, false, false, false, false, false] (by kernel_rfl) rfl rfl ⟨hx353_0, hx354_0, hx355_0, hx356_0⟩ (fun hHeld => ?_); refine with_tabW r07_Take.tab4 r07_Take.bits4 (fun HT_ HW_ => ?_)
       generalize wc.drew = w16 at HO_4 BK345 HB hx353_0 hx354_0 hx355_0 hx356_0 hHeld ⊢
       refine pu 0 (some 17) #[true, false, false, false, false, false, false, false, false, false, false, false, false, false, false] HT_.out rfl rfl ?_
       refine pu 1 (some 18) #[true, true, false, false, false, false, false, false, false, false, false, false, false, false, false] HT_.out rfl rfl ?_
       refine pu 3 (some 20) #[true, true, false, true, false, false, false, false, false, false, false, false, false, false, false] HT_.out rfl rfl ?_
       refine pu 4 (some 21) #[true, true, false, true, true, false, false, false, false, false, false, false, false, false, false] HT_.out rfl rfl ?_
       refine pu 6 (some 23) #[true, true, false, true, true, false, true, false, false, false, false, false, false, false, false] HT_.out rfl rfl ?_
       refine pu 7 (some 24) #[true, true, false, true, true, false, true, true, false, false, false, false, false, false, false] HT_.out rfl rfl ?_
       refine pu 9 (some 26) #[true, true, false, true, true, false, true, true, false, true, false, false, false, false, false] HT_.out rfl rfl ?_
       refine pu 10 (some 27) #[true, true, false, true, true, false, true, true, false, true, true, false, false, false, false] HT_.out rfl rfl ?_
       refine take_ (i := 2) (N := some 19) (v := ?_) (a' := ?_) #[true, true, true, true, true, false, true, true, false, true, true, false, false, false, false] rfl rfl (take_ofW HT_.out HW_.out (by kernel_rfl)) (fun _ _ _ h => h) (Or.inl ⟨by rfl, ?_⟩) hHeld ?_ ?_
       rotate_left
       ·rintro w' ⟨s0, s1, s2, s3⟩
        go_simp
        with_reducible rfl
       rotate_left
       ·simp only [Act.put, sb_, sz_, su_, i64_w, i32_w]
        rfl
       refine take_ (i := 5) (N := some 22) (v := ?_) (a' := ?_) #[true, true, true, true, true, true, true, true, false, true, true, false, false, false, false] rfl rfl (take_ofW HT_.out HW_.out (by kernel_rfl)) (fun _ _ _ h => h) (Or.inl ⟨by rfl, ?_⟩) hHeld ?_ ?_
       rotate_left
       ·rintro w' ⟨s0, s1, s2, s3⟩
        go_simp
        with_reducible rfl
       rotate_left
       ·simp only [Act.put, sb_, sz_, su_, i64_w, i32_w]
        rfl
       refine take_ (i := 8) (N := some 25) (v := ?_) (a' := ?_) #[true, true, true, true, true, true, true, true, true, true, true, false, false, false, false] rfl rfl (take_ofW HT_.out HW_.out (by kernel_rfl)) (fun _ _ _ h => h) (Or.inl ⟨by rfl, ?_⟩) hHeld ?_ ?_
       rotate_left
       ·rintro w' ⟨s0, s1, s2, s3⟩
        go_simp
        with_reducible rfl
       rotate_left
       ·simp only [Act.put, sb_, sz_, su_, i64_w, i32_w]
        rfl
       refine take_ (i := 11) (N := some 28) (v := ?_) (a' := ?_) #[true, true, true, true, true, true, true, true, true, true, true, true, false, false, false] rfl rfl (take_ofW HT_.out HW_.out (by kernel_rfl)) (fun _ _ _ h => h) (Or.inl ⟨by rfl, ?_⟩) hHeld ?_ ?_
       rotate_left
       ·rintro w' ⟨s0, s1, s2, s3⟩
        go_simp
        with_reducible rfl
       rotate_left
       ·simp only [Act.put, sb_, sz_, su_, i64_w, i32_w]
        rfl
       refine pu 12 (some 29) #[true, true, true, true, true, true, true, true, true, true, true, true, true, false, false] HT_.out rfl rfl ?_
       refine one_ (i := 13) (N := some 6) #[true, true, true, true, true, true, true, true, true, true, true, true, true, true, false] rfl rfl (one_of HT_.out (by kernel_rfl)) (by decide) (fun K hK => ?_)
       refine box_step ?hg (N := 6) ?hd (cs := #[.int .i64 0, .int .i64 0, .int .i64 0, .int .i64 0]) (t := 26) ?hr ?_; (case hd => rfl); (case hg => rfl); (case hr => (go_simp; done))
       intro gb357 hg w18 hbox hb
       have HS0_ := (hb.cell (World.block_lt_of_cell? _ _ (hHeld.1))).trans (hHeld.1)
       have HS1_ := (hb.cell (World.block_lt_of_cell? _ _ (hHeld.2.1))).trans (hHeld.2.1)
       have HS2_ := (hb.cell (World.block_lt_of_cell? _ _ (hHeld.2.2.1))).trans (hHeld.2.2.1)
       have HS3_ := (hb.cell (World.block_lt_of_cell? _ _ (hHeld.2.2.2))).trans (hHeld.2.2.2)
       have n0_ := ak_ (Kd.R_below HO_4.out hb)
       have n1_ := ak_ (blk_below BK345.out hb)
       have n2_ := ak_ (below_step HB.out hb)
       have n3_ := ak_ (hbox)
       have n4_ := ak_ (gw_ hg (below_size HB.out))
       have n5_ := ak_ (gw_ hg (below_size HB.out))
       have n6_ := ak_ ((by rw [hg]; exact Nat.ne_of_lt (blk_lt BK345.out) : gb345 ≠ gb357))
       have n7_ := ak_ ((by rw [hg]; exact Nat.ne_of_gt (blk_lt BK345.out) : gb357 ≠ gb345))
       clear HO_4 BK345 HB
       have HO_4 := n0_
       have BK345 := n1_
       have HB := n2_
       have BK357 := n3_
       have GW357 := n4_
       have GE357 := n5_
       have NB345_357 := n6_
       have NB357_345 := n7_
       clear n0_ n1_ n2_ n3_ n4_ n5_ n6_ n7_ hb hbox hg
       refine hK.out _ _ ⟨HS0_, HS1_, HS2_, HS3_⟩ (fun hHeld => ?_)
       clear hK K
       refine norm_ (a' := ?_) ?_ ?_
       rotate_left
       ·show Act.put _ (some 6) _ = _
        simp only [Act.put, sb_, sz_, su_, i64_w, i32_w]
        rfl
       refine one_ (i := 14) (N := none) #[true, true, true, true, true, true, true, true, true, true, true, true, true, true, true] rfl rfl (one_of HT_.out (by kernel_rfl)) (by decide) (fun K hK => ?_)
       have hs19 : w18.cell? ⟨gb357, 0, none⟩ = some (.int .i64 0) := (bc_ BK357.out 0).trans rfl
       have hfs19 := bf_ BK357.out 0
       have hns19_0 := NB345_357.out
       have hms19_0 := NB357_345.out
       have hs20 : w18.cell? ⟨gb357, 1, none⟩ = some (.int .i64 0) := (bc_ BK357.out 1).trans rfl
       have hfs20 := bf_ BK357.out 1
       have hns20_0 := NB345_357.out
       have hms20_0 := NB357_345.out
       have hs21 : w18.cell? ⟨gb357, 2, none⟩ = some (.int .i64 0) := (bc_ BK357.out 2).trans rfl
       have hfs21 := bf_ BK357.out 2
       have hns21_0 := NB345_357.out
       have hms21_0 := NB357_345.out
       have hs22 : w18.cell? ⟨gb357, 3, none⟩ = some (.int .i64 0) := (bc_ BK357.out 3).trans rfl
       have hfs22 := bf_ BK357.out 3
       have hns22_0 := NB345_357.out
       have hms22_0 := NB357_345.out
       refine skip_ (w1 := ?_) (by rfl) rfl ?_ ?_
       rotate_left
       ·go_simp
        rfl
       refine hK.out _ _ ⟨((cell_far (p := ⟨gb357, _, none⟩) (by first | exact Kd.own_blk (Kd.R_ne HO_4.out BK357.out (by decide)) | (rw [add_block]; exact Kd.own_blk (Kd.R_ne HO_4.out BK357.out (by decide))) | (show (Addr.add _ _).block ≠ _; rw [add_block]; exact Kd.own_blk (Kd.R_ne HO_4.out BK357.out (by decide))) | (dsimp only; exact Kd.own_blk (Kd.R_ne HO_4.out BK357.out (by decide)))) _).trans (((cell_far (p := ⟨gb357, _, none⟩) (by first | exact Kd.own_blk (Kd.R_ne HO_4.out BK357.out (by decide)) | (rw [add_block]; exact Kd.own_blk (Kd.R_ne HO_4.out BK357.out (by decide))) | (show (Addr.add _ _).block ≠ _; rw [add_block]; exact Kd.own_blk (Kd.R_ne HO_4.out BK357.out (by decide))) | (dsimp only; exact Kd.own_blk (Kd.R_ne HO_4.out BK357.out (by decide)))) _).trans (((cell_far (p := ⟨gb357, _, none⟩) (by first | exact Kd.own_blk (Kd.R_ne HO_4.out BK357.out (by decide)) | (rw [add_block]; exact Kd.own_blk (Kd.R_ne HO_4.out BK357.out (by decide))) | (show (Addr.add _ _).block ≠ _; rw [add_block]; exact Kd.own_blk (Kd.R_ne HO_4.out BK357.out (by decide))) | (dsimp only; exact Kd.own_blk (Kd.R_ne HO_4.out BK357.out (by decide)))) _).trans (((cell_far (p := ⟨gb357, _, none⟩) (by first | exact Kd.own_blk (Kd.R_ne HO_4.out BK357.out (by decide)) | (rw [add_block]; exact Kd.own_blk (Kd.R_ne HO_4.out BK357.out (by decide))) | (show (Addr.add _ _).block ≠ _; rw [add_block]; exact Kd.own_blk (Kd.R_ne HO_4.out BK357.out (by decide))) | (dsimp only; exact Kd.own_blk (Kd.R_ne HO_4.out BK357.out (by decide)))) _).trans (hHeld.1)))))))), ((cell_far (p := ⟨gb357, _, none⟩) (by first | exact Kd.own_blk (Kd.R_ne HO_4.out BK357.out (by decide)) | (rw [add_block]; exact Kd.own_blk (Kd.R_ne HO_4.out BK357.out (by decide))) | (show (Addr.add _ _).block ≠ _; rw [add_block]; exact Kd.own_blk (Kd.R_ne HO_4.out BK357.out (by decide))) | (dsimp only; exact Kd.own_blk (Kd.R_ne HO_4.out BK357.out (by decide)))) _).trans (((cell_far (p := ⟨gb357, _, none⟩) (by first | exact Kd.own_blk (Kd.R_ne HO_4.out BK357.out (by decide)) | (rw [add_block]; exact Kd.own_blk (Kd.R_ne HO_4.out BK357.out (by decide))) | (show (Addr.add _ _).block ≠ _; rw [add_block]; exact Kd.own_blk (Kd.R_ne HO_4.out BK357.out (by decide))) | (dsimp only; exact Kd.own_blk (Kd.R_ne HO_4.out BK357.out (by decide)))) _).trans (((cell_far (p := ⟨gb357, _, none⟩) (by first | exact Kd.own_blk (Kd.R_ne HO_4.out BK357.out (by decide)) | (rw [add_block]; exact Kd.own_blk (Kd.R_ne HO_4.out BK357.out (by decide))) | (show (Addr.add _ _).block ≠ _; rw [add_block]; exact Kd.own_blk (Kd.R_ne HO_4.out BK357.out (by decide))) | (dsimp only; exact Kd.own_blk (Kd.R_ne HO_4.out BK357.out (by decide)))) _).trans (((cell_far (p := ⟨gb357, _, none⟩) (by first | exact Kd.own_blk (Kd.R_ne HO_4.out BK357.out (by decide)) | (rw [add_block]; exact Kd.own_blk (Kd.R_ne HO_4.out BK357.out (by decide))) | (show (Addr.add _ _).block ≠ _; rw [add_block]; exact Kd.own_blk (Kd.R_ne HO_4.out BK357.out (by decide))) | (dsimp only; exact Kd.own_blk (Kd.R_ne HO_4.out BK357.out (by decide)))) _).trans (hHeld.2.1)))))))), ((cell_far (p := ⟨gb357, _, none⟩) (by first | exact Kd.own_blk (Kd.R_ne HO_4.out BK357.out (by decide)) | (rw [add_block]; exact Kd.own_blk (Kd.R_ne HO_4.out BK357.out (by decide))) | (show (Addr.add _ _).block ≠ _; rw [add_block]; exact Kd.own_blk (Kd.R_ne HO_4.out BK357.out (by decide))) | (dsimp only; exact Kd.own_blk (Kd.R_ne HO_4.out BK357.out (by decide)))) _).trans (((cell_far (p := ⟨gb357, _, none⟩) (by first | exact Kd.own_blk (Kd.R_ne HO_4.out BK357.out (by decide)) | (rw [add_block]; exact Kd.own_blk (Kd.R_ne HO_4.out BK357.out (by decide))) | (show (Addr.add _ _).block ≠ _; rw [add_block]; exact Kd.own_blk (Kd.R_ne HO_4.out BK357.out (by decide))) | (dsimp only; exact Kd.own_blk (Kd.R_ne HO_4.out BK357.out (by decide)))) _).trans (((cell_far (p := ⟨gb357, _, none⟩) (by first | exact Kd.own_blk (Kd.R_ne HO_4.out BK357.out (by decide)) | (rw [add_block]; exact Kd.own_blk (Kd.R_ne HO_4.out BK357.out (by decide))) | (show (Addr.add _ _).block ≠ _; rw [add_block]; exact Kd.own_blk (Kd.R_ne HO_4.out BK357.out (by decide))) | (dsimp only; exact Kd.own_blk (Kd.R_ne HO_4.out BK357.out (by decide)))) _).trans (((cell_far (p := ⟨gb357, _, none⟩) (by first | exact Kd.own_blk (Kd.R_ne HO_4.out BK357.out (by decide)) | (rw [add_block]; exact Kd.own_blk (Kd.R_ne HO_4.out BK357.out (by decide))) | (show (Addr.add _ _).block ≠ _; rw [add_block]; exact Kd.own_blk (Kd.R_ne HO_4.out BK357.out (by decide))) | (dsimp only; exact Kd.own_blk (Kd.R_ne HO_4.out BK357.out (by decide)))) _).trans (hHeld.2.2.1)))))))), ((cell_far (p := ⟨gb357, _, none⟩) (by first | exact Kd.own_blk (Kd.R_ne HO_4.out BK357.out (by decide)) | (rw [add_block]; exact Kd.own_blk (Kd.R_ne HO_4.out BK357.out (by decide))) | (show (Addr.add _ _).block ≠ _; rw [add_block]; exact Kd.own_blk (Kd.R_ne HO_4.out BK357.out (by decide))) | (dsimp only; exact Kd.own_blk (Kd.R_ne HO_4.out BK357.out (by decide)))) _).trans (((cell_far (p := ⟨gb357, _, none⟩) (by first | exact Kd.own_blk (Kd.R_ne HO_4.out BK357.out (by decide)) | (rw [add_block]; exact Kd.own_blk (Kd.R_ne HO_4.out BK357.out (by decide))) | (show (Addr.add _ _).block ≠ _; rw [add_block]; exact Kd.own_blk (Kd.R_ne HO_4.out BK357.out (by decide))) | (dsimp only; exact Kd.own_blk (Kd.R_ne HO_4.out BK357.out (by decide)))) _).trans (((cell_far (p := ⟨gb357, _, none⟩) (by first | exact Kd.own_blk (Kd.R_ne HO_4.out BK357.out (by decide)) | (rw [add_block]; exact Kd.own_blk (Kd.R_ne HO_4.out BK357.out (by decide))) | (show (Addr.add _ _).block ≠ _; rw [add_block]; exact Kd.own_blk (Kd.R_ne HO_4.out BK357.out (by decide))) | (dsimp only; exact Kd.own_blk (Kd.R_ne HO_4.out BK357.out (by decide)))) _).trans (((cell_far (p := ⟨gb357, _, none⟩) (by first | exact Kd.own_blk (Kd.R_ne HO_4.out BK357.out (by decide)) | (rw [add_block]; exact Kd.own_blk (Kd.R_ne HO_4.out BK357.out (by decide))) | (show (Addr.add _ _).block ≠ _; rw [add_block]; exact Kd.own_blk (Kd.R_ne HO_4.out BK357.out (by decide))) | (dsimp only; exact Kd.own_blk (Kd.R_ne HO_4.out BK357.out (by decide)))) _).trans (hHeld.2.2.2))))))))⟩ (fun hHeld => ?_)
       clear hK K
       refine done_ (done_of HT_.out (by kernel_rfl)) ?_
       go_upto_region 5 with (fail)
       go_cut [44] (fun v44 wc => ∃ (kq : Nat) (x44_14 : Bool), v44 = .bool x44_14 ∧ Aside0 (r07_Take.j1 kq x44_14 (rd t349 1) (rd t349 2) (rd t349 3) (rd t349 4) = some (r1, r2, r3, r4, r5)) ∧ Aside0 (kq ≤ kj3) ∧ Aside0 (wc.heap[gb345]? = some (.cells #[.int .i64 x346000_3, .int .i64 x346001_3, .int .i64 x346002_3, .int .i64 x346003_3] 26 (0, 0))) ∧ Aside0 (wc.heap[gb357]? = some (.cells #[.int .i64 (rd t349 1), .int .i64 (rd t349 2), .int .i64 (rd t349 3), .int .i64 (rd t349 4)] 26 (0, 0))) ∧ Aside0 (Below w.heap.size w wc))
       case first =>
        have H := HC15.out
        clear HC15
        by_cases c23 : 0 < (t349.length : Int)
        ·rw [if_pos c23] at H
         have c23b0 := dt_ c23
         have c23b1 : decide (0 < t349.length) = true := dt_ (by omega)
         clear c23
         (first | rw [c23b0] | (simp only [i64_w, i32_w]; rw [c23b0]) | skip)
         by_cases c24 : (rd t349 0) = 0
         ·rw [if_pos c24] at H
          have c24b0 := beq_iff_eq.mpr c24
          have c24b1 := bne_eq_false_iff_eq.mpr c24
          clear c24
          by_cases c25 : 5 < (t349.length : Int)
          ·rw [if_pos c25] at H
           have c25b0 := dt_ c25
           have c25b1 : decide (5 < t349.length) = true := dt_ (by omega)
           clear c25
           by_cases c26 : (rd t349 5) = 0
           ·rw [if_pos c26] at H
            have c26b0 := beq_iff_eq.mpr c26
            have c26b1 := bne_eq_false_iff_eq.mpr c26
            clear c26
            obtain ⟨t360, A27, H⟩ := bs_ H
            have H' := ak_ H
            clear H
            have p358 : 0 ≤ (0 : Int) := (by omega)
            have q358 : 0 < (t349.length : Int) := od_ ‹_›
            obtain ⟨ad358, e358, hx358_0⟩ := Kd.at_int (Kd.R_reads' HO_4.out).2.2 0 p358 q358
            obtain rfl : ad353 = ad358 := (by injection e358)
            have qi358 : (0 < t349.length) = True := eq_true (by omega)
            (try rw [show ((0 : Int)).toNat = 0 from rfl] at hx358_0)
            (try rw [Addr.add_zero'] at hx358_0)
            have hn358_0 : ad353.block ≠ gb357 := Kd.own_blk (Kd.R_ne HO_4.out BK357.out (by decide))
            have hn358_1 : ad353.block ≠ gb357 := Kd.own_blk (Kd.R_ne HO_4.out BK357.out (by decide))
            have hn358_2 : ad353.block ≠ gb357 := Kd.own_blk (Kd.R_ne HO_4.out BK357.out (by decide))
            have hn358_3 : ad353.block ≠ gb357 := Kd.own_blk (Kd.R_ne HO_4.out BK357.out (by decide))
            replace hx358_0 := (cell_far (p := ⟨gb357, 0, none⟩) (by first | (rw [add_block]; exact hn358_0) | (show (Addr.add _ _).block ≠ _; rw [add_block]; exact hn358_0) | exact hn358_0) (.int .i64 (rd t349 1))).trans hx358_0
            replace hx358_0 := (cell_far (p := ⟨gb357, 1, none⟩) (by first | (rw [add_block]; exact hn358_1) | (show (Addr.add _ _).block ≠ _; rw [add_block]; exact hn358_1) | exact hn358_1) (.int .i64 (rd t349 2))).trans hx358_0
            replace hx358_0 := (cell_far (p := ⟨gb357, 2, none⟩) (by first | (rw [add_block]; exact hn358_2) | (show (Addr.add _ _).block ≠ _; rw [add_block]; exact hn358_2) | exact hn358_2) (.int .i64 (rd t349 3))).trans hx358_0
            replace hx358_0 := (cell_far (p := ⟨gb357, 3, none⟩) (by first | (rw [add_block]; exact hn358_3) | (show (Addr.add _ _).block ≠ _; rw [add_block]; exact hn358_3) | exact hn358_3) (.int .i64 (rd t349 4))).trans hx358_0
            clear hn358_0 hn358_1 hn358_2 hn358_3
            replace p358 := eq_true p358
            replace q358 := eq_true q358
            have p359 : 0 ≤ (5 : Int) := (by omega)
            have q359 : 5 < (t349.length : Int) := od_ ‹_›
            obtain ⟨ad359, e359, hx359_0⟩ := Kd.at_int (Kd.R_reads' HO_4.out).2.2 5 p359 q359
            obtain rfl : ad353 = ad359 := (by injection e359)
            (try simp only [show (5 : Int).toNat = 5 from rfl, Nat.reduceMul, Nat.reduceEqDiff, Go.Addr.add, ↓reduceIte] at hx359_0)
            have qi359 : (5 < t349.length) = True := eq_true (by omega)
            (try rw [show ((5 : Int)).toNat = 5 from rfl] at hx359_0)
            have hn359_0 : ad353.block ≠ gb357 := Kd.own_blk (Kd.R_ne HO_4.out BK357.out (by decide))
            have hn359_1 : ad353.block ≠ gb357 := Kd.own_blk (Kd.R_ne HO_4.out BK357.out (by decide))
            have hn359_2 : ad353.block ≠ gb357 := Kd.own_blk (Kd.R_ne HO_4.out BK357.out (by decide))
            have hn359_3 : ad353.block ≠ gb357 := Kd.own_blk (Kd.R_ne HO_4.out BK357.out (by decide))
            replace hx359_0 := (cell_far (p := ⟨gb357, 0, none⟩) (by first | (rw [add_block]; exact hn359_0) | (show (Addr.add _ _).block ≠ _; rw [add_block]; exact hn359_0) | exact hn359_0) (.int .i64 (rd t349 1))).trans hx359_0
            replace hx359_0 := (cell_far (p := ⟨gb357, 1, none⟩) (by first | (rw [add_block]; exact hn359_1) | (show (Addr.add _ _).block ≠ _; rw [add_block]; exact hn359_1) | exact hn359_1) (.int .i64 (rd t349 2))).trans hx359_0
            replace hx359_0 := (cell_far (p := ⟨gb357, 2, none⟩) (by first | (rw [add_block]; exact hn359_2) | (show (Addr.add _ _).block ≠ _; rw [add_block]; exact hn359_2) | exact hn359_2) (.int .i64 (rd t349 3))).trans hx359_0
            replace hx359_0 := (cell_far (p := ⟨gb357, 3, none⟩) (by first | (rw [add_block]; exact hn359_3) | (show (Addr.add _ _).block ≠ _; rw [add_block]; exact hn359_3) | exact hn359_3) (.int .i64 (rd t349 4))).trans hx359_0
            clear hn359_0 hn359_1 hn359_2 hn359_3
            replace p359 := eq_true p359
            replace q359 := eq_true q359
            have hnb28 := NB357_345.out
            have hnc28 := NB345_357.out
            obtain ⟨hcz29_0, hcz29_1, hcz29_2, hcz29_3⟩ := cells4 BK357.out
            obtain ⟨hfz29_0, hfz29_1, hfz29_2, hfz29_3⟩ := froz4 BK357.out
            go_wp2_with (go_at_call 19; (with_reducible refine (r07_May.calls (rd t349 1) (rd t349 2) (rd t349 3) (rd t349 4) t360 _ A27.out).mono ?_); rintro e w30 ⟨rfl, hb⟩; replace HO_4 := ak_ (Kd.R_below (Kd.R_mono (Kd.R_far (p := ⟨gb357, 3, none⟩) (Kd.R_far (p := ⟨gb357, 2, none⟩) (Kd.R_far (p := ⟨gb357, 1, none⟩) (Kd.R_far (p := ⟨gb357, 0, none⟩) (Kd.R_types HO_4.out BK357.out (by decide)) (fun _ hk => hk.2) (.int .i64 (rd t349 1))) (fun _ hk => hk.2) (.int .i64 (rd t349 2))) (fun _ hk => hk.2) (.int .i64 (rd t349 3))) (fun _ hk => hk.2) (.int .i64 (rd t349 4))) (fun _ h_ => h_.1)) hb); replace BK345 := ak_ (blk_below (far4 BK345.out NB345_357.out) hb); replace BK357 := ak_ (blk_below (put4 BK357.out) hb); replace HB := ak_ (below_step (by repeat (first | (with_reducible first | exact HB.out | apply below_alloc | apply pw_below_drewN | apply below_drew1 | refine below_set ?_ GE345.out | refine below_set ?_ GE357.out) | exact HB.out)) hb); (try clear hb))
            go_meet
            case rel => exact ⟨_, (!t360), (by rfl), H', ⟨by have := HJ3.out; omega⟩, ⟨BK345.out⟩, ⟨BK357.out⟩, ⟨by repeat (first | (with_reducible first | exact HB.out | apply below_alloc | apply pw_below_drewN | apply below_drew1 | refine below_set ?_ GE345.out | refine below_set ?_ GE357.out) | exact HB.out)⟩⟩
           ·rw [if_neg c26] at H
            have c26b0 := beq_eq_false_iff_ne.mpr c26
            have c26b1 := bne_iff_ne.mpr c26
            have H' := ak_ H
            clear H
            have p358 : 0 ≤ (0 : Int) := (by omega)
            have q358 : 0 < (t349.length : Int) := od_ ‹_›
            obtain ⟨ad358, e358, hx358_0⟩ := Kd.at_int (Kd.R_reads' HO_4.out).2.2 0 p358 q358
            obtain rfl : ad353 = ad358 := (by injection e358)
            have qi358 : (0 < t349.length) = True := eq_true (by omega)
            (try rw [show ((0 : Int)).toNat = 0 from rfl] at hx358_0)
            (try rw [Addr.add_zero'] at hx358_0)
            have hn358_0 : ad353.block ≠ gb357 := Kd.own_blk (Kd.R_ne HO_4.out BK357.out (by decide))
            have hn358_1 : ad353.block ≠ gb357 := Kd.own_blk (Kd.R_ne HO_4.out BK357.out (by decide))
            have hn358_2 : ad353.block ≠ gb357 := Kd.own_blk (Kd.R_ne HO_4.out BK357.out (by decide))
            have hn358_3 : ad353.block ≠ gb357 := Kd.own_blk (Kd.R_ne HO_4.out BK357.out (by decide))
            replace hx358_0 := (cell_far (p := ⟨gb357, 0, none⟩) (by first | (rw [add_block]; exact hn358_0) | (show (Addr.add _ _).block ≠ _; rw [add_block]; exact hn358_0) | exact hn358_0) (.int .i64 (rd t349 1))).trans hx358_0
            replace hx358_0 := (cell_far (p := ⟨gb357, 1, none⟩) (by first | (rw [add_block]; exact hn358_1) | (show (Addr.add _ _).block ≠ _; rw [add_block]; exact hn358_1) | exact hn358_1) (.int .i64 (rd t349 2))).trans hx358_0
            replace hx358_0 := (cell_far (p := ⟨gb357, 2, none⟩) (by first | (rw [add_block]; exact hn358_2) | (show (Addr.add _ _).block ≠ _; rw [add_block]; exact hn358_2) | exact hn358_2) (.int .i64 (rd t349 3))).trans hx358_0
            replace hx358_0 := (cell_far (p := ⟨gb357, 3, none⟩) (by first | (rw [add_block]; exact hn358_3) | (show (Addr.add _ _).block ≠ _; rw [add_block]; exact hn358_3) | exact hn358_3) (.int .i64 (rd t349 4))).trans hx358_0
            clear hn358_0 hn358_1 hn358_2 hn358_3
            replace p358 := eq_true p358
            replace q358 := eq_true q358
            have p359 : 0 ≤ (5 : Int) := (by omega)
            have q359 : 5 < (t349.length : Int) := od_ ‹_›
            obtain ⟨ad359, e359, hx359_0⟩ := Kd.at_int (Kd.R_reads' HO_4.out).2.2 5 p359 q359
            obtain rfl : ad353 = ad359 := (by injection e359)
            (try simp only [show (5 : Int).toNat = 5 from rfl, Nat.reduceMul, Nat.reduceEqDiff, Go.Addr.add, ↓reduceIte] at hx359_0)
            have qi359 : (5 < t349.length) = True := eq_true (by omega)
            (try rw [show ((5 : Int)).toNat = 5 from rfl] at hx359_0)
            have hn359_0 : ad353.block ≠ gb357 := Kd.own_blk (Kd.R_ne HO_4.out BK357.out (by decide))
            have hn359_1 : ad353.block ≠ gb357 := Kd.own_blk (Kd.R_ne HO_4.out BK357.out (by decide))
            have hn359_2 : ad353.block ≠ gb357 := Kd.own_blk (Kd.R_ne HO_4.out BK357.out (by decide))
            have hn359_3 : ad353.block ≠ gb357 := Kd.own_blk (Kd.R_ne HO_4.out BK357.out (by decide))
            replace hx359_0 := (cell_far (p := ⟨gb357, 0, none⟩) (by first | (rw [add_block]; exact hn359_0) | (show (Addr.add _ _).block ≠ _; rw [add_block]; exact hn359_0) | exact hn359_0) (.int .i64 (rd t349 1))).trans hx359_0
            replace hx359_0 := (cell_far (p := ⟨gb357, 1, none⟩) (by first | (rw [add_block]; exact hn359_1) | (show (Addr.add _ _).block ≠ _; rw [add_block]; exact hn359_1) | exact hn359_1) (.int .i64 (rd t349 2))).trans hx359_0
            replace hx359_0 := (cell_far (p := ⟨gb357, 2, none⟩) (by first | (rw [add_block]; exact hn359_2) | (show (Addr.add _ _).block ≠ _; rw [add_block]; exact hn359_2) | exact hn359_2) (.int .i64 (rd t349 3))).trans hx359_0
            replace hx359_0 := (cell_far (p := ⟨gb357, 3, none⟩) (by first | (rw [add_block]; exact hn359_3) | (show (Addr.add _ _).block ≠ _; rw [add_block]; exact hn359_3) | exact hn359_3) (.int .i64 (rd t349 4))).trans hx359_0
            clear hn359_0 hn359_1 hn359_2 hn359_3
            replace p359 := eq_true p359
            replace q359 := eq_true q359
            go_wp2
            go_meet
            case rel => exact ⟨_, (true), (by rfl), H', ⟨by have := HJ3.out; omega⟩, ⟨(far4 BK345.out NB345_357.out)⟩, ⟨(put4 BK357.out)⟩, ⟨by repeat (first | (with_reducible first | exact HB.out | apply below_alloc | apply pw_below_drewN | apply below_drew1 | refine below_set ?_ GE345.out | refine below_set ?_ GE357.out) | exact HB.out)⟩⟩
          ·rw [if_neg c25] at H
           exact absurd H (by simp)
         ·rw [if_neg c24] at H
          have c24b0 := beq_eq_false_iff_ne.mpr c24
          have c24b1 := bne_iff_ne.mpr c24
          have H' := ak_ H
          clear H
          have p358 : 0 ≤ (0 : Int) := (by omega)
          have q358 : 0 < (t349.length : Int) := od_ ‹_›
          obtain ⟨ad358, e358, hx358_0⟩ := Kd.at_int (Kd.R_reads' HO_4.out).2.2 0 p358 q358
          obtain rfl : ad353 = ad358 := (by injection e358)
          have qi358 : (0 < t349.length) = True := eq_true (by omega)
          (try rw [show ((0 : Int)).toNat = 0 from rfl] at hx358_0)
          (try rw [Addr.add_zero'] at hx358_0)
          have hn358_0 : ad353.block ≠ gb357 := Kd.own_blk (Kd.R_ne HO_4.out BK357.out (by decide))
          have hn358_1 : ad353.block ≠ gb357 := Kd.own_blk (Kd.R_ne HO_4.out BK357.out (by decide))
          have hn358_2 : ad353.block ≠ gb357 := Kd.own_blk (Kd.R_ne HO_4.out BK357.out (by decide))
          have hn358_3 : ad353.block ≠ gb357 := Kd.own_blk (Kd.R_ne HO_4.out BK357.out (by decide))
          replace hx358_0 := (cell_far (p := ⟨gb357, 0, none⟩) (by first | (rw [add_block]; exact hn358_0) | (show (Addr.add _ _).block ≠ _; rw [add_block]; exact hn358_0) | exact hn358_0) (.int .i64 (rd t349 1))).trans hx358_0
          replace hx358_0 := (cell_far (p := ⟨gb357, 1, none⟩) (by first | (rw [add_block]; exact hn358_1) | (show (Addr.add _ _).block ≠ _; rw [add_block]; exact hn358_1) | exact hn358_1) (.int .i64 (rd t349 2))).trans hx358_0
          replace hx358_0 := (cell_far (p := ⟨gb357, 2, none⟩) (by first | (rw [add_block]; exact hn358_2) | (show (Addr.add _ _).block ≠ _; rw [add_block]; exact hn358_2) | exact hn358_2) (.int .i64 (rd t349 3))).trans hx358_0
          replace hx358_0 := (cell_far (p := ⟨gb357, 3, none⟩) (by first | (rw [add_block]; exact hn358_3) | (show (Addr.add _ _).block ≠ _; rw [add_block]; exact hn358_3) | exact hn358_3) (.int .i64 (rd t349 4))).trans hx358_0
          clear hn358_0 hn358_1 hn358_2 hn358_3
          replace p358 := eq_true p358
          replace q358 := eq_true q358
          go_wp2
          go_meet
          case rel => exact ⟨_, (true), (by rfl), H', ⟨by have := HJ3.out; omega⟩, ⟨(far4 BK345.out NB345_357.out)⟩, ⟨(put4 BK357.out)⟩, ⟨by repeat (first | (with_reducible first | exact HB.out | apply below_alloc | apply pw_below_drewN | apply below_drew1 | refine below_set ?_ GE345.out | refine below_set ?_ GE357.out) | exact HB.out)⟩⟩
        ·rw [if_neg c23] at H
         exact absurd H (by simp)
       case rest =>
        clear HC15 c11b0 c11b1 c12b0 c12b1 c13b0 c13b1 c14b0 c14b1 hx353_0 hx354_0 hx355_0 hx356_0 p353 p354 p355 p356 q353 q354 q355 q356
        obtain ⟨kq, x44_14, rfl, HA, HJ14, BK345, BK357, HB⟩ := hcut
        cases kq with
        | zero => exact absurd HA.out (by simp [r07_Take.j1])
        | succ kj14 =>
         have H := HA.out
         clear HA
         simp only [r07_Take.j1] at H
         by_cases c31 : x44_14 = true
         ·subst c31
          rw [if_pos rfl] at H
          simp only [Option.some.injEq, Prod.mk.injEq] at H
          obtain ⟨rfl, rfl, rfl, rfl, rfl⟩ := H
          have hnb32 := NB345_357.out
          have hnc32 := NB357_345.out
          obtain ⟨hcz33_0, hcz33_1, hcz33_2, hcz33_3⟩ := cells4 BK345.out
          obtain ⟨hfz33_0, hfz33_1, hfz33_2, hfz33_3⟩ := froz4 BK345.out
          go_wp2
          refine bodyPost_ret (results_ct rfl _ _ gb345 26 #[.int .i64 0, .int .i64 0, .int .i64 0, .int .i64 0] (0, 0) _ rfl (put4 BK345.out) Try.underlying26 rfl (by kernel_rfl)) rfl ?_
          exact ⟨by first | rfl | (simp [errW_none, errW_some] <;> rfl) | (simp [*, errW_none, errW_some] <;> rfl) | (have hz_ : ∀ z : Int, -9223372036854775808 ≤ z → z ≤ 9223372036854775807 → wrap64 z = z := (fun z h1_ h2_ => by unfold wrap64; omega); rw [hz_] <;> first | rfl | omega), by repeat (first | (with_reducible first | exact HB.out | apply below_alloc | apply pw_below_drewN | apply below_drew1 | refine below_set ?_ GE345.out | refine below_set ?_ GE357.out) | exact HB.out)⟩
         ·replace c31 := Bool.eq_false_iff.mpr c31
          subst c31
          rw [if_neg (show ¬ (false = true) by decide)] at H
          simp only [Option.some.injEq, Prod.mk.injEq] at H
          obtain ⟨rfl, rfl, rfl, rfl, rfl⟩ := H
          have hnb34 := NB357_345.out
          have hnc34 := NB345_357.out
          obtain ⟨hcz35_0, hcz35_1, hcz35_2, hcz35_3⟩ := cells4 BK357.out
          obtain ⟨hfz35_0, hfz35_1, hfz35_2, hfz35_3⟩ := froz4 BK357.out
          obtain ⟨hcz36_0, hcz36_1, hcz36_2, hcz36_3⟩ := cells4 BK345.out
          obtain ⟨hfz36_0, hfz36_1, hfz36_2, hfz36_3⟩ := froz4 BK345.out
          go_wp2
          refine bodyPost_ret (results_ct rfl _ _ gb345 26 #[.int .i64 (rd t349 1), .int .i64 (rd t349 2), .int .i64 (rd t349 3), .int .i64 (rd t349 4)] (0, 0) _ rfl (put4 BK345.out) Try.underlying26 rfl (by kernel_rfl)) rfl ?_
          exact ⟨by first | rfl | (simp [errW_none, errW_some] <;> rfl) | (simp [*, errW_none, errW_some] <;> rfl) | (have hz_ : ∀ z : Int, -9223372036854775808 ≤ z → z ≤ 9223372036854775807 → wrap64 z = z := (fun z h1_ h2_ => by unfold wrap64; omega); rw [hz_] <;> first | rfl | omega), by repeat (first | (with_reducible first | exact HB.out | apply below_alloc | apply pw_below_drewN | apply below_drew1 | refine below_set ?_ GE345.out | refine below_set ?_ GE357.out) | exact HB.out)⟩
      ·rw [if_neg c14] at H
       exact absurd H (by simp)
     ·rw [if_neg c13] at H
      exact absurd H (by simp)
    ·rw [if_neg c12] at H
     exact absurd H (by simp)
   ·rw [if_neg c11] at H
    exact absurd H (by simp)
end Go.Proofs.Ytmehbabchakkpaa.QLadderWalks
