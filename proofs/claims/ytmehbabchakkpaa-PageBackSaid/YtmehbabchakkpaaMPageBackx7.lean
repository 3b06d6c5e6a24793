import Derived.Test.YtmehbabchakkpaaMPageBackx4
import Derived.Test.YtmehbabchakkpaaMPageBackx6
namespace Go.Proofs.Ytmehbabchakkpaa.QPageBack
open Go.RowKit YtmehbabchakkpaaW.PrintWords YtmehbabchakkpaaW.PrintLast YtmehbabchakkpaaW.PrintMore Short
attribute [local go_sem] max2_int min2_int max_two min_two max_three min_three max_four min_four
set_option linter.unusedVariables false
set_option maxHeartbeats 8000000
set_option maxRecDepth 100000
set_option linter.unusedSimpArgs false
mutual
def page_Encode.j0 : Nat → List Int → List Int → Bool → Int → Int → Int → Int → Int → Int → Int → Int → Option (List Int × Int)
 | 0, _, _, _, _, _, _, _, _, _, _, _ => none
 | k + 1, x1, x10, x40, x175000, x175001, x175002, x175003, x175004, x175005, x175006, x175007 => if x40 = true then (some (([] : List Int), 2)) else (page_Encode.j1 k x1 x10 x175000 x175001 x175002 x175003 x175004 x175005 x175006 x175007)
def page_Encode.j1 : Nat → List Int → List Int → Int → Int → Int → Int → Int → Int → Int → Int → Option (List Int × Int)
 | 0, _, _, _, _, _, _, _, _, _, _ => none
 | k + 1, x1, x10, x175000, x175001, x175002, x175003, x175004, x175005, x175006, x175007 => page_Encode.l0 k x1 x10 ([] : List Int) x175003 0 x175000 x175001 x175002 x175003 x175004 x175005 x175006 x175007
def page_Encode.l0 : Nat → List Int → List Int → List Int → Int → Int → Int → Int → Int → Int → Int → Int → Int → Int → Option (List Int × Int)
 | 0, _, _, _, _, _, _, _, _, _, _, _, _, _ => none
 | k + 1, x1, x10, x12, x43, x44, x175000, x175001, x175002, x175003, x175004, x175005, x175006, x175007 => if x44 < x43 then (page_Encode.j3 k x1 x10 x12 x43 x44 x175000 x175001 x175002 x175003 x175004 x175005 x175006 x175007) else ((crc_Sum.f k (([x1, x10] : List (List Int)))).bind fun t183 => ((crc_Bytes.f k t183).bind fun t184 => (if x10.length + t184.length < 140737488355328 then ((chunk_Encode.f k (x10 ++ t184)).bind fun bt190 => (if x12.length + bt190.1.length < 140737488355328 then ((some (x12 ++ bt190.1 : List Int)).bind fun y194 => (if y194.length < 140737488355328 then (some ((y194 ++ [255]), 0)) else (none))) else (none))) else (none))))
def page_Encode.j3 : Nat → List Int → List Int → List Int → Int → Int → Int → Int → Int → Int → Int → Int → Int → Int → Option (List Int × Int)
 | 0, _, _, _, _, _, _, _, _, _, _, _, _, _ => none
 | k + 1, x1, x10, x12, x43, x44, x175000, x175001, x175002, x175003, x175004, x175005, x175006, x175007 => if 0 ≤ (wrap64 (x44 * x175004)) then (if (wrap64 (x44 * x175004)) ≤ (wrap64 ((wrap64 (x44 + 1)) * x175004)) then (if (wrap64 ((wrap64 (x44 + 1)) * x175004)) ≤ (x1.length : Int) then ((chunk_Encode.f k ((x1.take ((wrap64 ((wrap64 (x44 + 1)) * x175004)) : Int).toNat).drop ((wrap64 (x44 * x175004)) : Int).toNat)).bind fun bt205 => (if x12.length + bt205.1.length < 140737488355328 then (page_Encode.l0 k x1 x10 (x12 ++ bt205.1) x43 (wrap64 (x44 + 1)) x175000 x175001 x175002 x175003 x175004 x175005 x175006 x175007) else (none))) else (none)) else (none)) else (none)
end
def page_Encode.f (k : Nat) (a0_0 : Int) (a0_1 : Int) (a0_2 : Int) (a0_3 : Int) (a0_4 : Int) (a0_5 : Int) (a0_6 : Int) (l1 : List Int) (a2_0 : Int) (a2_1 : Int) (a2_2 : Int) (a2_3 : Int) : Option (List Int × Int) := (page_of.f a0_0 a0_1 a0_2 a0_3 a0_4 a0_5 a0_6).bind fun bt165 => ((tag_Put.f k a2_0 a2_1 a2_2 a2_3).bind fun bt175 => (if bt165.2.2.2.2.2.2.2.2 = true then (if bt175.2 = 0 then ((geom_Data.f a0_0 a0_1 a0_2 a0_3 a0_4 a0_5 a0_6).bind fun t179 => (page_Encode.j0 k l1 bt175.1 ((l1.length : Int) != t179) bt165.1 bt165.2.1 bt165.2.2.1 bt165.2.2.2.1 bt165.2.2.2.2.1 bt165.2.2.2.2.2.1 bt165.2.2.2.2.2.2.1 bt165.2.2.2.2.2.2.2.1)) else (page_Encode.j0 k l1 bt175.1 true bt165.1 bt165.2.1 bt165.2.2.1 bt165.2.2.2.1 bt165.2.2.2.2.1 bt165.2.2.2.2.2.1 bt165.2.2.2.2.2.2.1 bt165.2.2.2.2.2.2.2.1)) else (page_Encode.j0 k l1 bt175.1 true bt165.1 bt165.2.1 bt165.2.2.1 bt165.2.2.2.1 bt165.2.2.2.2.1 bt165.2.2.2.2.2.1 bt165.2.2.2.2.2.2.1 bt165.2.2.2.2.2.2.2.1)))
theorem page_Encode.mono_l : ∀ k, (∀ y0 y1 y2 y3 y4 y5 y6 y7 y8 y9 y10, LeO (page_Encode.j0 k y0 y1 y2 y3 y4 y5 y6 y7 y8 y9 y10) (page_Encode.j0 (k + 1) y0 y1 y2 y3 y4 y5 y6 y7 y8 y9 y10)) ∧ (∀ y0 y1 y2 y3 y4 y5 y6 y7 y8 y9, LeO (page_Encode.j1 k y0 y1 y2 y3 y4 y5 y6 y7 y8 y9) (page_Encode.j1 (k + 1) y0 y1 y2 y3 y4 y5 y6 y7 y8 y9)) ∧ (∀ y0 y1 y2 y3 y4 y5 y6 y7 y8 y9 y10 y11 y12, LeO (page_Encode.l0 k y0 y1 y2 y3 y4 y5 y6 y7 y8 y9 y10 y11 y12) (page_Encode.l0 (k + 1) y0 y1 y2 y3 y4 y5 y6 y7 y8 y9 y10 y11 y12)) ∧ (∀ y0 y1 y2 y3 y4 y5 y6 y7 y8 y9 y10 y11 y12, LeO (page_Encode.j3 k y0 y1 y2 y3 y4 y5 y6 y7 y8 y9 y10 y11 y12) (page_Encode.j3 (k + 1) y0 y1 y2 y3 y4 y5 y6 y7 y8 y9 y10 y11 y12))
 | 0 => ⟨fun _ _ _ _ _ _ _ _ _ _ _ r h => by simp [page_Encode.j0] at h, fun _ _ _ _ _ _ _ _ _ _ r h => by simp [page_Encode.j1] at h, fun _ _ _ _ _ _ _ _ _ _ _ _ _ r h => by simp [page_Encode.l0] at h, fun _ _ _ _ _ _ _ _ _ _ _ _ _ r h => by simp [page_Encode.j3] at h⟩
 | k + 1 => by
  obtain ⟨ih0, ih1, ih2, ih3⟩ := page_Encode.mono_l k
  refine ⟨?_, ?_, ?_, ?_⟩
  ·intro y0 y1 y2 y3 y4 y5 y6 y7 y8 y9 y10
   unfold page_Encode.j0
   repeat' with_reducible first
   | exact ih0 _ _ _ _ _ _ _ _ _ _ _
   | exact ih1 _ _ _ _ _ _ _ _ _ _
   | exact ih2 _ _ _ _ _ _ _ _ _ _ _ _ _
   | exact ih3 _ _ _ _ _ _ _ _ _ _ _ _ _
   | exact chunk_Encode.mono _ _
   | exact crc_Bytes.mono _ _
   | exact crc_Sum.mono _ _
   | exact tag_Put.mono _ _ _ _ _
   | exact LeO.refl _
   | exact LeO.none _
   | refine LeO.ite ?_ ?_
   | refine LeO.bind ?_ (fun _ => ?_)
  ·intro y0 y1 y2 y3 y4 y5 y6 y7 y8 y9
   unfold page_Encode.j1
   repeat' with_reducible first
   | exact ih0 _ _ _ _ _ _ _ _ _ _ _
   | exact ih1 _ _ _ _ _ _ _ _ _ _
   | exact ih2 _ _ _ _ _ _ _ _ _ _ _ _ _
   | exact ih3 _ _ _ _ _ _ _ _ _ _ _ _ _
   | exact chunk_Encode.mono _ _
   | exact crc_Bytes.mono _ _
   | exact crc_Sum.mono _ _
   | exact tag_Put.mono _ _ _ _ _
   | exact LeO.refl _
   | exact LeO.none _
   | refine LeO.ite ?_ ?_
   | refine LeO.bind ?_ (fun _ => ?_)
  ·intro y0 y1 y2 y3 y4 y5 y6 y7 y8 y9 y10 y11 y12
   unfold page_Encode.l0
   repeat' with_reducible first
   | exact ih0 _ _ _ _ _ _ _ _ _ _ _
   | exact ih1 _ _ _ _ _ _ _ _ _ _
   | exact ih2 _ _ _ _ _ _ _ _ _ _ _ _ _
   | exact ih3 _ _ _ _ _ _ _ _ _ _ _ _ _
   | exact chunk_Encode.mono _ _
   | exact crc_Bytes.mono _ _
   | exact crc_Sum.mono _ _
   | exact tag_Put.mono _ _ _ _ _
   | exact LeO.refl _
   | exact LeO.none _
   | refine LeO.ite ?_ ?_
   | refine LeO.bind ?_ (fun _ => ?_)
  ·intro y0 y1 y2 y3 y4 y5 y6 y7 y8 y9 y10 y11 y12
   unfold page_Encode.j3
   repeat' with_reducible first
   | exact ih0 _ _ _ _ _ _ _ _ _ _ _
   | exact ih1 _ _ _ _ _ _ _ _ _ _
   | exact ih2 _ _ _ _ _ _ _ _ _ _ _ _ _
   | exact ih3 _ _ _ _ _ _ _ _ _ _ _ _ _
   | exact chunk_Encode.mono _ _
   | exact crc_Bytes.mono _ _
   | exact crc_Sum.mono _ _
   | exact tag_Put.mono _ _ _ _ _
   | exact LeO.refl _
   | exact LeO.none _
   | refine LeO.ite ?_ ?_
   | refine LeO.bind ?_ (fun _ => ?_)
theorem page_Encode.mono : ∀ a0 a1 a2 a3 a4 a5 a6 a7 a8 a9 a10 a11 k, LeO (page_Encode.f k a0 a1 a2 a3 a4 a5 a6 a7 a8 a9 a10 a11) (page_Encode.f (k + 1) a0 a1 a2 a3 a4 a5 a6 a7 a8 a9 a10 a11) := by
 intro a0 a1 a2 a3 a4 a5 a6 a7 a8 a9 a10 a11 k
 obtain ⟨ih0, ih1, ih2, ih3⟩ := page_Encode.mono_l k
 unfold page_Encode.f
 repeat' with_reducible first
  | exact ih0 _ _ _ _ _ _ _ _ _ _ _
  | exact ih1 _ _ _ _ _ _ _ _ _ _
  | exact ih2 _ _ _ _ _ _ _ _ _ _ _ _ _
  | exact ih3 _ _ _ _ _ _ _ _ _ _ _ _ _
  | exact chunk_Encode.mono _ _
  | exact crc_Bytes.mono _ _
  | exact crc_Sum.mono _ _
  | exact tag_Put.mono _ _ _ _ _
  | exact LeO.refl _
  | exact LeO.none _
  | refine LeO.ite ?_ ?_
  | refine LeO.bind ?_ (fun _ => ?_)
theorem page_Encode.calls (k : Nat) (a0_0 : Int) (a0_1 : Int) (a0_2 : Int) (a0_3 : Int) (a0_4 : Int) (a0_5 : Int) (a0_6 : Int) (P1_ : Nat → Prop) (A1 : Option Addr) (c1 : Nat) (l1 : List Int) (a2_0 : Int) (a2_1 : Int) (a2_2 : Int) (a2_3 : Int) (r1 : List Int) (r2 : Int) (w : World) (hs1 : Kd.V (Kd.int .u8) 5 w w.heap.size (fun k_ => P1_ k_) (.slice A1 l1.length c1) l1) (h : page_Encode.f k a0_0 a0_1 a0_2 a0_3 a0_4 a0_5 a0_6 l1 a2_0 a2_1 a2_2 a2_3 = some (r1, r2)) :
  Calls Try.prog 14 #[.agg #[.int .i64 a0_0, .int .i64 a0_1, .int .i64 a0_2, .int .i64 a0_3, .int .i64 a0_4, .int .i64 a0_5, .int .i64 a0_6], .slice A1 l1.length c1, .agg #[.int .i64 a2_0, .int .i64 a2_1, .int .i64 a2_2, .int .i64 a2_3]] w fun e w' => ∃ v0_ : Value, e = .returned (.tuple #[v0_, .int .i64 r2]) ∧ Kd.R (Kd.int .u8) 5 w' w.heap.size (fun k_ => (w.heap.size ≤ k_)) v0_ r1 ∧ Below w.heap.size w w' := by
 have hu23 := Try.underlying23
 have hu26 := Try.underlying26
 have hu70 := Try.underlying70
 have HO1 := ak_ (show Kd.V (Kd.int .u8) 5 w w.heap.size (fun k_ => (P1_ k_ ∨ w.heap.size ≤ k_)) (.slice A1 l1.length c1) l1 from Kd.V_mono hs1 (fun k_ hk => .inl hk))
 have HB := br_ w
 unfold page_Encode.f at h
 have H := h
 clear h
 obtain ⟨⟨t165, t166, t167, t168, t169, t170, t171, t172, t173⟩, A4, H⟩ := bs_ H
 try dsimp only at H
 obtain ⟨⟨t175, t178⟩, A5, H⟩ := bs_ H
 try dsimp only at H
 have HC6 := ak_ H
 clear H
 go_enter Try.func14, Try.ntmps14
 go_upto_region 3 with (first | ((with_reducible refine gate_dst (N := 3) rfl ?_); (try (refine gate_guard (by rfl) ?_; dsimp only)); refine box_event ?hg (N := 3) ?hd (cs := #[.int .i64 a0_0, .int .i64 a0_1, .int .i64 a0_2, .int .i64 a0_3, .int .i64 a0_4, .int .i64 a0_5, .int .i64 a0_6]) (t := 23) ?hr ?_; (case hd => rfl); (case hg => rfl); (case hr => (go_simp; done)); intro gb163 hg w7 hbox hb; replace HO1 := ak_ (Kd.V_below (Kd.V_elderB HO1.out gb163 (Nat.le_of_eq hg.symm)) hb); have BK163 := ak_ (hbox); have GW163 := ak_ ((by rw [hg]; exact (below_size HB.out) : w.heap.size ≤ gb163)); have GE163 := ak_ ((by rw [hg]; exact (below_size HB.out) : w.heap.size ≤ gb163)); replace HB := ak_ (below_step HB.out hb); clear hb hbox hg) | ((with_reducible refine gate_dst (N := 5) rfl ?_); (try (refine gate_guard (by rfl) ?_; dsimp only)); refine box_event ?hg (N := 5) ?hd (cs := #[.int .i64 a2_0, .int .i64 a2_1, .int .i64 a2_2, .int .i64 a2_3]) (t := 26) ?hr ?_; (case hd => rfl); (case hg => rfl); (case hr => (go_simp; done)); intro gb164 hg w8 hbox hb; replace HO1 := ak_ (Kd.V_below (Kd.V_elderB HO1.out gb164 (Nat.le_of_eq hg.symm)) hb); have BK164 := ak_ (hbox); have GW164 := ak_ ((by rw [hg]; exact (below_size HB.out) : w.heap.size ≤ gb164)); have GE164 := ak_ ((by rw [hg]; exact (below_size HB.out) : w.heap.size ≤ gb164)); replace HB := ak_ (below_step HB.out hb); have NB163_164 := ak_ ((by rw [hg]; exact Nat.ne_of_lt (blk_lt BK163.out) : gb163 ≠ gb164)); have NB164_163 := ak_ ((by rw [hg]; exact Nat.ne_of_gt (blk_lt BK163.out) : gb164 ≠ gb163)); replace BK163 := ak_ (blk_below BK163.out hb); clear hb hbox hg; have hnb9 := NB163_164.out; have hnc9 := NB164_163.out; have hcz10_0 : w8.cell? ⟨gb163, 0, none⟩ = some (.int .i64 a0_0) := (bc_ BK163.out 0).trans rfl; have hcz10_1 : w8.cell? ⟨gb163, 1, none⟩ = some (.int .i64 a0_1) := (bc_ BK163.out 1).trans rfl; have hcz10_2 : w8.cell? ⟨gb163, 2, none⟩ = some (.int .i64 a0_2) := (bc_ BK163.out 2).trans rfl; have hcz10_3 : w8.cell? ⟨gb163, 3, none⟩ = some (.int .i64 a0_3) := (bc_ BK163.out 3).trans rfl; have hcz10_4 : w8.cell? ⟨gb163, 4, none⟩ = some (.int .i64 a0_4) := (bc_ BK163.out 4).trans rfl; have hcz10_5 : w8.cell? ⟨gb163, 5, none⟩ = some (.int .i64 a0_5) := (bc_ BK163.out 5).trans rfl; have hcz10_6 : w8.cell? ⟨gb163, 6, none⟩ = some (.int .i64 a0_6) := (bc_ BK163.out 6).trans rfl; have hfz10_0 := bf_ BK163.out 0; have hfz10_1 := bf_ BK163.out 1; have hfz10_2 := bf_ BK163.out 2; have hfz10_3 := bf_ BK163.out 3; have hfz10_4 := bf_ BK163.out 4; have hfz10_5 := bf_ BK163.out 5; have hfz10_6 := bf_ BK163.out 6) | ((with_reducible refine gate_callee (f := 37) rfl ?_); refine goesL_ (some 20) rfl rfl Try.func37 (by kernel_rfl) rfl #[.agg #[.int .i64 a0_0, .int .i64 a0_1, .int .i64 a0_2, .int .i64 a0_3, .int .i64 a0_4, .int .i64 a0_5, .int .i64 a0_6]] rfl (by (try simp only [List.map_toArray, List.map_cons, List.map_nil]); first | done | rfl | (simp only [List.length_drop, List.length_take]; rfl)) ?_; (with_reducible refine (page_of.calls a0_0 a0_1 a0_2 a0_3 a0_4 a0_5 a0_6 t165 t166 t167 t168 t169 t170 t171 t172 t173 _ A4.out).mono ?_); rintro e w11 ⟨rfl, hb⟩; refine ⟨_, rfl, ?_⟩; replace HO1 := ak_ (Kd.V_below HO1.out hb); replace BK163 := ak_ (blk_below BK163.out hb); replace BK164 := ak_ (blk_below BK164.out hb); replace HB := ak_ (below_step HB.out hb); (try clear hb); skip) | ((with_reducible refine gate_dst (N := 8) rfl ?_); (try (refine gate_guard (by rfl) ?_; dsimp only)); refine box_event ?hg (N := 8) ?hd (cs := #[.int .i64 0, .int .i64 0, .int .i64 0, .int .i64 0, .int .i64 0, .int .i64 0, .int .i64 0, .int .i64 0]) (t := 70) ?hr ?_; (case hd => rfl); (case hg => rfl); (case hr => (go_simp; done)); intro gb174 hg w12 hbox hb; replace HO1 := ak_ (Kd.V_below (Kd.V_elderB HO1.out gb174 (Nat.le_of_eq hg.symm)) hb); have BK174 := ak_ (hbox); have GW174 := ak_ ((by rw [hg]; exact (below_size HB.out) : w.heap.size ≤ gb174)); have GE174 := ak_ ((by rw [hg]; exact (below_size HB.out) : w.heap.size ≤ gb174)); replace HB := ak_ (below_step HB.out hb); have NB163_174 := ak_ ((by rw [hg]; exact Nat.ne_of_lt (blk_lt BK163.out) : gb163 ≠ gb174)); have NB174_163 := ak_ ((by rw [hg]; exact Nat.ne_of_gt (blk_lt BK163.out) : gb174 ≠ gb163)); replace BK163 := ak_ (blk_below BK163.out hb); have NB164_174 := ak_ ((by rw [hg]; exact Nat.ne_of_lt (blk_lt BK164.out) : gb164 ≠ gb174)); have NB174_164 := ak_ ((by rw [hg]; exact Nat.ne_of_gt (blk_lt BK164.out) : gb174 ≠ gb164)); replace BK164 := ak_ (blk_below BK164.out hb); clear hb hbox hg; have hnb13 := NB174_163.out; have hnc13 := NB163_174.out; have hnb14 := NB174_164.out; have hnc14 := NB164_174.out; have hcz15_0 : w12.cell? ⟨gb174, 0, none⟩ = some (.int .i64 0) := (bc_ BK174.out 0).trans rfl; have hcz15_1 : w12.cell? ⟨gb174, 1, none⟩ = some (.int .i64 0) := (bc_ BK174.out 1).trans rfl; have hcz15_2 : w12.cell? ⟨gb174, 2, none⟩ = some (.int .i64 0) := (bc_ BK174.out 2).trans rfl; have hcz15_3 : w12.cell? ⟨gb174, 3, none⟩ = some (.int .i64 0) := (bc_ BK174.out 3).trans rfl; have hcz15_4 : w12.cell? ⟨gb174, 4, none⟩ = some (.int .i64 0) := (bc_ BK174.out 4).trans rfl; have hcz15_5 : w12.cell? ⟨gb174, 5, none⟩ = some (.int .i64 0) := (bc_ BK174.out 5).trans rfl; have hcz15_6 : w12.cell? ⟨gb174, 6, none⟩ = some (.int .i64 0) := (bc_ BK174.out 6).trans rfl; have hcz15_7 : w12.cell? ⟨gb174, 7, none⟩ = some (.int .i64 0) := (bc_ BK174.out 7).trans rfl; have hfz15_0 := bf_ BK174.out 0; have hfz15_1 := bf_ BK174.out 1; have hfz15_2 := bf_ BK174.out 2; have hfz15_3 := bf_ BK174.out 3; have hfz15_4 := bf_ BK174.out 4; have hfz15_5 := bf_ BK174.out 5; have hfz15_6 := bf_ BK174.out 6; have hfz15_7 := bf_ BK174.out 7; have hcz16_0 : w12.cell? ⟨gb164, 0, none⟩ = some (.int .i64 a2_0) := (bc_ BK164.out 0).trans rfl; have hcz16_1 : w12.cell? ⟨gb164, 1, none⟩ = some (.int .i64 a2_1) := (bc_ BK164.out 1).trans rfl; have hcz16_2 : w12.cell? ⟨gb164, 2, none⟩ = some (.int .i64 a2_2) := (bc_ BK164.out 2).trans rfl; have hcz16_3 : w12.cell? ⟨gb164, 3, none⟩ = some (.int .i64 a2_3) := (bc_ BK164.out 3).trans rfl; have hfz16_0 := bf_ BK164.out 0; have hfz16_1 := bf_ BK164.out 1; have hfz16_2 := bf_ BK164.out 2; have hfz16_3 := bf_ BK164.out 3) | ((with_reducible refine gate_callee (f := 38) rfl ?_); refine goesL_ (some 25) rfl rfl Try.func38 (by kernel_rfl) rfl #[.agg #[.int .i64 a2_0, .int .i64 a2_1, .int .i64 a2_2, .int .i64 a2_3]] rfl (by (try simp only [List.map_toArray, List.map_cons, List.map_nil]); first | done | rfl | (simp only [List.length_drop, List.length_take]; rfl)) ?_; (with_reducible refine (tag_Put.calls k a2_0 a2_1 a2_2 a2_3 t175 t178 _ A5.out).mono ?_); rintro e w17 ⟨v176, rfl, ho0, hb⟩; refine ⟨_, rfl, ?_⟩; replace HO1 := ak_ (Kd.V_elder' (Kd.V_mono (Kd.V_far (p := ⟨gb174, 7, none⟩) (Kd.V_far (p := ⟨gb174, 6, none⟩) (Kd.V_far (p := ⟨gb174, 5, none⟩) (Kd.V_far (p := ⟨gb174, 4, none⟩) (Kd.V_far (p := ⟨gb174, 3, none⟩) (Kd.V_far (p := ⟨gb174, 2, none⟩) (Kd.V_far (p := ⟨gb174, 1, none⟩) (Kd.V_far (p := ⟨gb174, 0, none⟩) (Kd.V_mono HO1.out (fun k_ hk => (⟨hk, hk.2⟩ : _ ∧ k_ ≠ gb174))) (fun _ hk => hk.2) (.int .i64 t165)) (fun _ hk => hk.2) (.int .i64 t166)) (fun _ hk => hk.2) (.int .i64 t167)) (fun _ hk => hk.2) (.int .i64 t168)) (fun _ hk => hk.2) (.int .i64 t169)) (fun _ hk => hk.2) (.int .i64 t170)) (fun _ hk => hk.2) (.int .i64 t171)) (fun _ hk => hk.2) (.int .i64 t172)) (fun _ h_ => h_.1)) (Kd.R_base ho0) hb); have HO177 := ak_ (Kd.R_lower (Kd.R_newM (M := fun k_ => (w.heap.size ≤ k_)) ho0 (below_size (by repeat (first | (with_reducible first | exact HB.out | apply below_alloc | apply pw_below_drewN | apply below_drew1 | refine below_set ?_ GE163.out | refine below_set ?_ GE164.out | refine below_set ?_ GE174.out) | exact HB.out))) (fun k_ h_ => h_)) (below_size (by repeat (first | (with_reducible first | exact HB.out | apply below_alloc | apply pw_below_drewN | apply below_drew1 | refine below_set ?_ GE163.out | refine below_set ?_ GE164.out | refine below_set ?_ GE174.out) | exact HB.out)))); replace BK163 := ak_ (blk_below (far8 BK163.out NB163_174.out) hb); replace BK164 := ak_ (blk_below (far8 BK164.out NB164_174.out) hb); replace BK174 := ak_ (blk_below (put8 BK174.out) hb); replace HB := ak_ (below_step (by repeat (first | (with_reducible first | exact HB.out | apply below_alloc | apply pw_below_drewN | apply below_drew1 | refine below_set ?_ GE163.out | refine below_set ?_ GE164.out | refine below_set ?_ GE174.out) | exact HB.out)) hb); (try clear hb); (try clear ho0)))
 skip
 go_cut [40] (fun v40 wc => ∃ (kq : Nat) (x40_5 : Bool), v40 = .bool x40_5 ∧ Aside0 (page_Encode.j0 kq l1 t175 x40_5 t165 t166 t167 t168 t169 t170 t171 t172 = some (r1, r2)) ∧ Aside0 (kq ≤ k) ∧ Aside0 (Kd.V (Kd.int .u8) 5 wc w.heap.size (fun k_ => (P1_ k_ ∨ w.heap.size ≤ k_) ∧ some k_ ≠ (v176 : Value).ownBlock ∧ k_ ≠ gb163 ∧ k_ ≠ gb164 ∧ k_ ≠ gb174) (.slice A1 l1.length c1) l1) ∧ Aside0 (Kd.R (Kd.int .u8) 5 wc w.heap.size (fun k_ => (w.heap.size ≤ k_)) v176 t175) ∧ Aside0 (wc.heap[gb163]? = some (.cells #[.int .i64 a0_0, .int .i64 a0_1, .int .i64 a0_2, .int .i64 a0_3, .int .i64 a0_4, .int .i64 a0_5, .int .i64 a0_6] 23 (0, 0))) ∧ Aside0 (wc.heap[gb164]? = some (.cells #[.int .i64 a2_0, .int .i64 a2_1, .int .i64 a2_2, .int .i64 a2_3] 26 (0, 0))) ∧ Aside0 (wc.heap[gb174]? = some (.cells #[.int .i64 t165, .int .i64 t166, .int .i64 t167, .int .i64 t168, .int .i64 t169, .int .i64 t170, .int .i64 t171, .int .i64 t172] 70 (0, 0))) ∧ Aside0 (Below w.heap.size w wc))
 case first =>
  have H := HC6.out
  clear HC6
  by_cases c18 : t173 = true
  ·subst c18
   rw [if_pos rfl] at H
   by_cases c19 : t178 = 0
   ·rw [if_pos c19] at H
    have c19b0 := beq_iff_eq.mpr c19
    have c19b1 := bne_eq_false_iff_eq.mpr c19
    clear c19
    (first | rw [c19b0] | (simp only [i64_w, i32_w]; rw [c19b0]) | skip)
    obtain ⟨t179, A20, H⟩ := bs_ H
    have H' := ak_ H
    clear H
    have hnb21 := NB163_164.out
    have hnc21 := NB164_163.out
    have hnb22 := NB163_174.out
    have hnc22 := NB174_163.out
    obtain ⟨hcz23_0, hcz23_1, hcz23_2, hcz23_3, hcz23_4, hcz23_5, hcz23_6⟩ := cells7 BK163.out
    obtain ⟨hfz23_0, hfz23_1, hfz23_2, hfz23_3, hfz23_4, hfz23_5, hfz23_6⟩ := froz7 BK163.out
    go_wp2_with (go_at_call 39; (with_reducible refine (geom_Data.calls a0_0 a0_1 a0_2 a0_3 a0_4 a0_5 a0_6 t179 _ A20.out).mono ?_); rintro e w24 ⟨rfl, hb⟩; replace HO1 := ak_ (Kd.V_below HO1.out hb); replace HO177 := ak_ (Kd.R_below HO177.out hb); replace BK163 := ak_ (blk_below BK163.out hb); replace BK164 := ak_ (blk_below BK164.out hb); replace BK174 := ak_ (blk_below BK174.out hb); replace HB := ak_ (below_step HB.out hb); (try clear hb); skip)
    go_meet
    case rel => exact ⟨_, (((l1.length : Int) != t179)), (by rfl), H', ⟨by omega⟩, ⟨(Kd.V_mono HO1.out (fun _ hk => ⟨hk.1.1.1.1, ⟨hk.2, ⟨hk.1.1.1.2, ⟨hk.1.1.2, hk.1.2⟩⟩⟩⟩))⟩, ⟨(Kd.R_mono HO177.out (fun _ hk => hk.1))⟩, ⟨BK163.out⟩, ⟨BK164.out⟩, ⟨BK174.out⟩, ⟨by repeat (first | (with_reducible first | exact HB.out | apply below_alloc | apply pw_below_drewN | apply below_drew1 | refine below_set ?_ GE163.out | refine below_set ?_ GE164.out | refine below_set ?_ GE174.out) | exact HB.out)⟩⟩
   ·rw [if_neg c19] at H
    have c19b0 := beq_eq_false_iff_ne.mpr c19
    have c19b1 := bne_iff_ne.mpr c19
    (first | rw [c19b0] | (simp only [i64_w, i32_w]; rw [c19b0]) | skip)
    have H' := ak_ H
    clear H
    go_wp2
    go_meet
    case rel => exact ⟨_, (true), (by rfl), H', ⟨by omega⟩, ⟨(Kd.V_mono HO1.out (fun _ hk => ⟨hk.1.1.1.1, ⟨hk.2, ⟨hk.1.1.1.2, ⟨hk.1.1.2, hk.1.2⟩⟩⟩⟩))⟩, ⟨(Kd.R_mono HO177.out (fun _ hk => hk.1))⟩, ⟨BK163.out⟩, ⟨BK164.out⟩, ⟨BK174.out⟩, ⟨by repeat (first | (with_reducible first | exact HB.out | apply below_alloc | apply pw_below_drewN | apply below_drew1 | refine below_set ?_ GE163.out | refine below_set ?_ GE164.out | refine below_set ?_ GE174.out) | exact HB.out)⟩⟩
  ·replace c18 := Bool.eq_false_iff.mpr c18
   subst c18
   rw [if_neg (show ¬ (false = true) by decide)] at H
   have H' := ak_ H
   clear H
   go_wp2
   go_meet
   case rel => exact ⟨_, (true), (by rfl), H', ⟨by omega⟩, ⟨(Kd.V_mono HO1.out (fun _ hk => ⟨hk.1.1.1.1, ⟨hk.2, ⟨hk.1.1.1.2, ⟨hk.1.1.2, hk.1.2⟩⟩⟩⟩))⟩, ⟨(Kd.R_mono HO177.out (fun _ hk => hk.1))⟩, ⟨BK163.out⟩, ⟨BK164.out⟩, ⟨BK174.out⟩, ⟨by repeat (first | (with_reducible first | exact HB.out | apply below_alloc | apply pw_below_drewN | apply below_drew1 | refine below_set ?_ GE163.out | refine below_set ?_ GE164.out | refine below_set ?_ GE174.out) | exact HB.out)⟩⟩
 case rest =>
  clear HC6 hcz10_0 hcz10_1 hcz10_2 hcz10_3 hcz10_4 hcz10_5 hcz10_6 hcz15_0 hcz15_1 hcz15_2 hcz15_3 hcz15_4 hcz15_5 hcz15_6 hcz15_7 hcz16_0 hcz16_1 hcz16_2 hcz16_3 hfz10_0 hfz10_1 hfz10_2 hfz10_3 hfz10_4 hfz10_5 hfz10_6 hfz15_0 hfz15_1 hfz15_2 hfz15_3 hfz15_4 hfz15_5 hfz15_6 hfz15_7 hfz16_0 hfz16_1 hfz16_2 hfz16_3
  obtain ⟨kq, x40_5, rfl, HA, HJ5, HO_1, HO_10, BK163, BK164, BK174, HB⟩ := hcut
  cases kq with
  | zero => exact absurd HA.out (by simp [page_Encode.j0])
  | succ kj5 =>
   have H := HA.out
   clear HA
   simp only [page_Encode.j0] at H
   have HC25 := ak_ H
   clear H
   go_upto_if 40 with (fail)
   go_cut [] (fun wc => ∃ (kq : Nat), Aside0 (page_Encode.j1 kq l1 t175 t165 t166 t167 t168 t169 t170 t171 t172 = some (r1, r2)) ∧ Aside0 (kq ≤ kj5) ∧ Aside0 (Kd.V (Kd.int .u8) 5 wc w.heap.size (fun k_ => (P1_ k_ ∨ w.heap.size ≤ k_) ∧ some k_ ≠ (v176 : Value).ownBlock ∧ k_ ≠ gb163 ∧ k_ ≠ gb164 ∧ k_ ≠ gb174) (.slice A1 l1.length c1) l1) ∧ Aside0 (Kd.R (Kd.int .u8) 5 wc w.heap.size (fun k_ => (w.heap.size ≤ k_)) v176 t175) ∧ Aside0 (wc.heap[gb163]? = some (.cells #[.int .i64 a0_0, .int .i64 a0_1, .int .i64 a0_2, .int .i64 a0_3, .int .i64 a0_4, .int .i64 a0_5, .int .i64 a0_6] 23 (0, 0))) ∧ Aside0 (wc.heap[gb164]? = some (.cells #[.int .i64 a2_0, .int .i64 a2_1, .int .i64 a2_2, .int .i64 a2_3] 26 (0, 0))) ∧ Aside0 (wc.heap[gb174]? = some (.cells #[.int .i64 t165, .int .i64 t166, .int .i64 t167, .int .i64 t168, .int .i64 t169, .int .i64 t170, .int .i64 t171, .int .i64 t172] 70 (0, 0))) ∧ Aside0 (Below w.heap.size w wc))
   case first =>
    have H := HC25.out
    clear HC25
    by_cases c26 : x40_5 = true
    ·subst c26
     rw [if_pos rfl] at H
     simp only [Option.some.injEq, Prod.mk.injEq] at H
     obtain ⟨rfl, rfl⟩ := H
     go_wp2
     go_ret2
     exact ⟨_, by rfl, (Kd.R_nil _ _ _ _ _), by repeat (first | (with_reducible first | exact HB.out | apply below_alloc | apply pw_below_drewN | apply below_drew1 | refine below_set ?_ GE163.out | refine below_set ?_ GE164.out | refine below_set ?_ GE174.out) | exact HB.out)⟩
    ·replace c26 := Bool.eq_false_iff.mpr c26
     subst c26
     rw [if_neg (show ¬ (false = true) by decide)] at H
     have H' := ak_ H
     clear H
     go_wp2
     go_meet
     case rel => exact ⟨_, H', ⟨by have := HJ5.out; omega⟩, ⟨HO_1.out⟩, ⟨HO_10.out⟩, ⟨BK163.out⟩, ⟨BK164.out⟩, ⟨BK174.out⟩, ⟨by repeat (first | (with_reducible first | exact HB.out | apply below_alloc | apply pw_below_drewN | apply below_drew1 | refine below_set ?_ GE163.out | refine below_set ?_ GE164.out | refine below_set ?_ GE174.out) | exact HB.out)⟩⟩
   case rest =>
    clear HC25
    obtain ⟨kq, HA, HJ24, HO_1, HO_10, BK163, BK164, BK174, HB⟩ := hcut
    cases kq with
    | zero => exact absurd HA.out (by simp [page_Encode.j1])
    | succ kj24 =>
     have H := HA.out
     clear HA
     simp only [page_Encode.j1] at H
     have H' := ak_ H
     clear H
     have hnb27 := NB174_163.out
     have hnc27 := NB163_174.out
     have hnb28 := NB174_164.out
     have hnc28 := NB164_174.out
     obtain ⟨hcz29_0, hcz29_1, hcz29_2, hcz29_3, hcz29_4, hcz29_5, hcz29_6, hcz29_7⟩ := cells8 BK174.out
     obtain ⟨hfz29_0, hfz29_1, hfz29_2, hfz29_3, hfz29_4, hfz29_5, hfz29_6, hfz29_7⟩ := froz8 BK174.out
     go_wp2
     go_loopg [12, 44] kj24 (fun kq v12 v44 w' => ∃ (x12_3 : List Int) (x44_3 : Int), v44 = .int .i64 x44_3 ∧ Aside0 (page_Encode.l0 kq l1 t175 x12_3 t168 x44_3 t165 t166 t167 t168 t169 t170 t171 t172 = some (r1, r2)) ∧ Aside0 (kq ≤ kj24) ∧ Aside0 (Kd.V (Kd.int .u8) 5 w' w.heap.size (fun k_ => (P1_ k_ ∨ w.heap.size ≤ k_) ∧ some k_ ≠ (v176 : Value).ownBlock ∧ some k_ ≠ (v12 : Value).ownBlock ∧ k_ ≠ gb163 ∧ k_ ≠ gb164 ∧ k_ ≠ gb174) (.slice A1 l1.length c1) l1) ∧ Aside0 (Kd.R (Kd.int .u8) 5 w' w.heap.size (fun k_ => (w.heap.size ≤ k_) ∧ some k_ ≠ (v12 : Value).ownBlock) v176 t175) ∧ Aside0 (Kd.R (Kd.int .u8) 5 w' w.heap.size (fun k_ => (w.heap.size ≤ k_) ∧ some k_ ≠ (v176 : Value).ownBlock) v12 x12_3) ∧ Aside0 (w'.heap[gb163]? = some (.cells #[.int .i64 a0_0, .int .i64 a0_1, .int .i64 a0_2, .int .i64 a0_3, .int .i64 a0_4, .int .i64 a0_5, .int .i64 a0_6] 23 (0, 0))) ∧ Aside0 (w'.heap[gb164]? = some (.cells #[.int .i64 a2_0, .int .i64 a2_1, .int .i64 a2_2, .int .i64 a2_3] 26 (0, 0))) ∧ Aside0 (w'.heap[gb174]? = some (.cells #[.int .i64 t165, .int .i64 t166, .int .i64 t167, .int .i64 t168, .int .i64 t169, .int .i64 t170, .int .i64 t171, .int .i64 t172] 70 (0, 0))) ∧ Aside0 (Below w.heap.size w w'))
     case atStart => exact ⟨(([] : List Int)), (0), (by rfl), H', ⟨Nat.le_refl _⟩, ⟨(Kd.V_mono HO_1.out (fun _ hk => ⟨hk.1, ⟨hk.2.1, ⟨(by simp [Value.ownBlock]), ⟨hk.2.2.1, ⟨hk.2.2.2.1, hk.2.2.2.2⟩⟩⟩⟩⟩))⟩, ⟨(Kd.R_mono HO_10.out (fun _ hk => ⟨hk, (by simp [Value.ownBlock])⟩))⟩, ⟨(Kd.R_nil _ _ _ _ _)⟩, ⟨BK163.out⟩, ⟨BK164.out⟩, ⟨BK174.out⟩, ⟨by repeat (first | (with_reducible first | exact HB.out | apply below_alloc | apply pw_below_drewN | apply below_drew1 | refine below_set ?_ GE163.out | refine below_set ?_ GE164.out | refine below_set ?_ GE174.out) | exact HB.out)⟩⟩
     case round =>
      clear H'
      clear hcz29_0 hcz29_1 hcz29_2 hcz29_3 hcz29_4 hcz29_5 hcz29_6 hcz29_7 hfz29_0 hfz29_1 hfz29_2 hfz29_3 hfz29_4 hfz29_5 hfz29_6 hfz29_7
      obtain ⟨x12_3, x44_3, rfl, HA, HK3, HO_1, HO_10, HO_12, BK163, BK164, BK174, HB⟩ := hrel
      cases gk with
      | zero => exact absurd HA.out (by simp [page_Encode.l0])
      | succ k3 =>
       have H := HA.out
       clear HA
       simp only [page_Encode.l0] at H
       have HC30 := ak_ H
       clear H
       go_upto_if 45 with (fail)
       go_cut [] (fun wc => ∃ (kq : Nat), Aside0 (page_Encode.j3 kq l1 t175 x12_3 t168 x44_3 t165 t166 t167 t168 t169 t170 t171 t172 = some (r1, r2)) ∧ Aside0 (kq ≤ k3) ∧ Aside0 (Kd.V (Kd.int .u8) 5 wc w.heap.size (fun k_ => (P1_ k_ ∨ w.heap.size ≤ k_) ∧ some k_ ≠ (v176 : Value).ownBlock ∧ some k_ ≠ (u12 : Value).ownBlock ∧ k_ ≠ gb163 ∧ k_ ≠ gb164 ∧ k_ ≠ gb174) (.slice A1 l1.length c1) l1) ∧ Aside0 (Kd.R (Kd.int .u8) 5 wc w.heap.size (fun k_ => (w.heap.size ≤ k_) ∧ some k_ ≠ (u12 : Value).ownBlock) v176 t175) ∧ Aside0 (Kd.R (Kd.int .u8) 5 wc w.heap.size (fun k_ => (w.heap.size ≤ k_) ∧ some k_ ≠ (v176 : Value).ownBlock) u12 x12_3) ∧ Aside0 (wc.heap[gb163]? = some (.cells #[.int .i64 a0_0, .int .i64 a0_1, .int .i64 a0_2, .int .i64 a0_3, .int .i64 a0_4, .int .i64 a0_5, .int .i64 a0_6] 23 (0, 0))) ∧ Aside0 (wc.heap[gb164]? = some (.cells #[.int .i64 a2_0, .int .i64 a2_1, .int .i64 a2_2, .int .i64 a2_3] 26 (0, 0))) ∧ Aside0 (wc.heap[gb174]? = some (.cells #[.int .i64 t165, .int .i64 t166, .int .i64 t167, .int .i64 t168, .int .i64 t169, .int .i64 t170, .int .i64 t171, .int .i64 t172] 70 (0, 0))) ∧ Aside0 (Below w.heap.size w wc))
       case first =>
        have H := HC30.out
        clear HC30
        by_cases c31 : x44_3 < t168
        ·rw [if_pos c31] at H
         have c31b0 := dt_ c31
         clear c31
         (rw [c31b0])
         have H' := ak_ H
         clear H
         go_wp2
         go_meet
         case rel => exact ⟨_, H', ⟨by have := HJ5.out; have := HJ24.out; have := HK3.out; omega⟩, ⟨HO_1.out⟩, ⟨HO_10.out⟩, ⟨HO_12.out⟩, ⟨BK163.out⟩, ⟨BK164.out⟩, ⟨BK174.out⟩, ⟨by repeat (first | (with_reducible first | exact HB.out | apply below_alloc | apply pw_below_drewN | apply below_drew1 | refine below_set ?_ GE163.out | refine below_set ?_ GE164.out | refine below_set ?_ GE174.out) | exact HB.out)⟩⟩
        ·rw [if_neg c31] at H
         have c31b0 := df_ c31
         clear c31
         (rw [c31b0])
         obtain ⟨y180, hy180⟩ : ∃ y_ : List (List Int), y_ = (([l1, t175] : List (List Int))) := ⟨_, rfl⟩
         replace H : ((crc_Sum.f k3 y180).bind fun t183 => ((crc_Bytes.f k3 t183).bind fun t184 => (if t175.length + t184.length < 140737488355328 then ((chunk_Encode.f k3 (t175 ++ t184)).bind fun bt190 => (if x12_3.length + bt190.1.length < 140737488355328 then ((some (x12_3 ++ bt190.1 : List Int)).bind fun y194 => (if y194.length < 140737488355328 then (some ((y194 ++ [255]), 0)) else (none))) else (none))) else (none)))) = some (r1, r2) := (by rw [hy180]; with_reducible exact H)
         have Ny180 := ak_ hy180
         clear hy180
         obtain ⟨t183, A32, H⟩ := bs_ H
         obtain ⟨t184, A33, H⟩ := bs_ H
         by_cases c34 : t175.length + t184.length < 140737488355328
         ·rw [if_pos c34] at H
          have LMc34 := ak_ c34
          clear c34
          obtain ⟨y187, hy187⟩ : ∃ y_ : List Int, y_ = (t175 ++ t184) := ⟨_, rfl⟩
          replace H : ((chunk_Encode.f k3 y187).bind fun bt190 => (if x12_3.length + bt190.1.length < 140737488355328 then ((some (x12_3 ++ bt190.1 : List Int)).bind fun y194 => (if y194.length < 140737488355328 then (some ((y194 ++ [255]), 0)) else (none))) else (none))) = some (r1, r2) := (by rw [hy187]; with_reducible exact H)
          have Ny187 := ak_ hy187
          clear hy187
          obtain ⟨⟨t190, t191⟩, A35, H⟩ := bs_ H
          try dsimp only at H
          by_cases c36 : x12_3.length + t190.length < 140737488355328
          ·rw [if_pos c36] at H
           have LMc36 := ak_ c36
           clear c36
           obtain ⟨y194, hy194⟩ : ∃ y_ : List Int, y_ = (x12_3 ++ t190) := ⟨_, rfl⟩
           replace H : (if y194.length < 140737488355328 then (some ((y194 ++ [255]), 0)) else (none)) = some (r1, r2) := by first | (rw [hy194]; with_reducible exact H) | (have H2_ := (Option.bind_some _ _).symm.trans H; rw [hy194]; with_reducible exact H2_) | (have H2_ := (Option.bind_some _ _).symm.trans H; with_reducible exact H2_) | with_reducible exact H | (rw [hy194]; exact H) | exact H
           have Ny194 := ak_ hy194
           clear hy194
           by_cases c37 : y194.length < 140737488355328
           ·rw [if_pos c37] at H
            have LMc37 := ak_ c37
            clear c37
            obtain ⟨y197, hy197⟩ : ∃ y_ : List Int, y_ = (y194 ++ [255]) := ⟨_, rfl⟩
            replace H : (some (y197, 0)) = some (r1, r2) := (by rw [hy197]; with_reducible exact H)
            have Ny197 := ak_ hy197
            clear hy197
            simp only [Option.some.injEq, Prod.mk.injEq] at H
            obtain ⟨rfl, rfl⟩ := H
            obtain ⟨Ao38, co38, eo38⟩ := Kd.R_slice HO_10.out
            subst eo38
            go_wp2_with (first | ((with_reducible refine gate_dst (N := 72) rfl ?_); (try (refine gate_guard (by rfl) ?_; dsimp only)); refine Kd.N_lit (Kd.slice 5 (Kd.int .u8)) _ 24 ?hg (N' := 72) ?hd (xs := ([l1, t175] : List (List Int))) (inner := [.slice A1 l1.length c1, .slice Ao38 t175.length co38]) (ok := (fun k_ => (P1_ k_ ∨ w.heap.size ≤ k_) ∧ some k_ ≠ (u12 : Value).ownBlock ∧ k_ ≠ gb163 ∧ k_ ≠ gb164 ∧ k_ ≠ gb174)) (okp := (fun k_ => (P1_ k_ ∨ w.heap.size ≤ k_) ∧ some k_ ≠ (u12 : Value).ownBlock ∧ k_ ≠ gb163 ∧ k_ ≠ gb164 ∧ k_ ≠ gb174)) ?hr ?hp (fun _ hk => hk) ((show ∀ k_, wr.heap.size ≤ k_ → (fun k_ => (P1_ k_ ∨ w.heap.size ≤ k_) ∧ some k_ ≠ (u12 : Value).ownBlock ∧ k_ ≠ gb163 ∧ k_ ≠ gb164 ∧ k_ ≠ gb174) k_ from fun k_ hk => ⟨(.inr (Nat.le_trans (below_size HB.out) hk)), Kd.fresh' (Kd.R_lt HO_12.out) k_ hk, Kd.freshB BK163.out k_ hk, Kd.freshB BK164.out k_ hk, Kd.freshB BK174.out k_ hk⟩) _ (Nat.le_refl _)) (Below.refl _ _) (Nat.le_refl _) (by simp) ?_; (case hd => rfl); (case hg => rfl); (case hr => (go_simp; done)); (case hp => exact (Reps.one (show Kd.FK (Kd.slice 5 (Kd.int .u8)) _ _ l1 [.slice A1 l1.length c1] from (Kd.FK_slice_mk (Kd.V_reads' (Kd.V_mono (ok' := (fun k_ => (P1_ k_ ∨ w.heap.size ≤ k_) ∧ some k_ ≠ (u12 : Value).ownBlock ∧ k_ ≠ gb163 ∧ k_ ≠ gb164 ∧ k_ ≠ gb174)) (HO_1.out) (fun k_ hk => ⟨hk.1, ⟨hk.2.2.1, ⟨hk.2.2.2.1, ⟨hk.2.2.2.2.1, hk.2.2.2.2.2⟩⟩⟩⟩))).2.1 (Kd.V_F (Kd.V_mono (ok' := (fun k_ => (P1_ k_ ∨ w.heap.size ≤ k_) ∧ some k_ ≠ (u12 : Value).ownBlock ∧ k_ ≠ gb163 ∧ k_ ≠ gb164 ∧ k_ ≠ gb174)) (HO_1.out) (fun k_ hk => ⟨hk.1, ⟨hk.2.2.1, ⟨hk.2.2.2.1, ⟨hk.2.2.2.2.1, hk.2.2.2.2.2⟩⟩⟩⟩))))) (Reps.one (show Kd.FK (Kd.slice 5 (Kd.int .u8)) _ _ t175 [.slice Ao38 t175.length co38] from (Kd.FK_slice_mk (Kd.R_reads' (Kd.R_mono (ok' := (fun k_ => (P1_ k_ ∨ w.heap.size ≤ k_) ∧ some k_ ≠ (u12 : Value).ownBlock ∧ k_ ≠ gb163 ∧ k_ ≠ gb164 ∧ k_ ≠ gb174)) (Kd.R_types (Kd.R_types (Kd.R_types (HO_10.out) BK163.out (by decide)) BK164.out (by decide)) BK174.out (by decide)) (fun k_ hk => ⟨(.inr (hk.1.1.1.1)), ⟨hk.1.1.1.2, ⟨hk.1.1.2, ⟨hk.1.2, hk.2⟩⟩⟩⟩))).2.1 (Kd.R_F (Kd.R_mono (ok' := (fun k_ => (P1_ k_ ∨ w.heap.size ≤ k_) ∧ some k_ ≠ (u12 : Value).ownBlock ∧ k_ ≠ gb163 ∧ k_ ≠ gb164 ∧ k_ ≠ gb174)) (Kd.R_types (Kd.R_types (Kd.R_types (HO_10.out) BK163.out (by decide)) BK164.out (by decide)) BK174.out (by decide)) (fun k_ hk => ⟨(.inr (hk.1.1.1.1)), ⟨hk.1.1.1.2, ⟨hk.1.1.2, ⟨hk.1.2, hk.2⟩⟩⟩⟩))))) (Reps.none _ _)))); intro v181 w39 ho40 hb hg_ hnew_; clear hg_ hnew_; (rw [← Ny180.out] at ho40); replace HO_1 := ak_ (Kd.V_elder' HO_1.out (Kd.N_base ho40) hb); replace HO_10 := ak_ (Kd.R_below HO_10.out hb); replace HO_12 := ak_ (Kd.R_below HO_12.out hb); have HO182 := ak_ (Kd.N_lower ho40 (below_size HB.out)); replace BK163 := ak_ (blk_below BK163.out hb); replace BK164 := ak_ (blk_below BK164.out hb); replace BK174 := ak_ (blk_below BK174.out hb); replace HB := ak_ (below_step HB.out hb); clear hb ho40; obtain ⟨Ao41, co41, eo41⟩ := Kd.N_slice HO182.out; subst eo41) | ((with_reducible refine gate_callee (f := 42) rfl ?_); refine goesL_ (some 73) rfl rfl Try.func42 (by kernel_rfl) rfl #[.slice Ao41 y180.length co41] rfl (by (try simp only [List.map_toArray, List.map_cons, List.map_nil]); first | done | rfl | (simp only [List.length_drop, List.length_take]; rfl)) ?_; (with_reducible refine (crc_Sum.calls k3 _ _ y180 t183 _ ?side1 ?side2 A32.out).mono ?_); (case side1 => exact (Kd.N_reads' HO182.out).2.2); (case side2 => exact (Kd.N_reads' HO182.out).2.1); rintro e w' ⟨rfl, ⟨nd, rfl⟩⟩; refine ⟨_, rfl, ?_⟩) | ((with_reducible refine gate_callee (f := 41) rfl ?_); refine goesL_ (some 74) rfl rfl Try.func41 (by kernel_rfl) rfl #[.int .u32 t183] rfl (by (try simp only [List.map_toArray, List.map_cons, List.map_nil]); first | done | rfl | (simp only [List.length_drop, List.length_take]; rfl)) ?_; (with_reducible refine (crc_Bytes.calls k3 t183 t184 _ A33.out).mono ?_); rintro e w42 ⟨v185, rfl, ho0, hb⟩; refine ⟨_, rfl, ?_⟩; replace HO_1 := ak_ (Kd.V_elder' (by (with_reducible repeat (first | apply Kd.V_alloc | apply Kd.V_drewN | apply Kd.V_drew)); exact HO_1.out) (Kd.R_base ho0) hb); replace HO182 := ak_ (Kd.N_elder' (by (with_reducible repeat (first | apply Kd.N_alloc | apply Kd.N_drewN | apply Kd.N_drew)); exact HO182.out) (Kd.R_base ho0) hb); have HO186 := ak_ (Kd.R_lower (Kd.R_new' (Kd.R_new' (Kd.R_newM (M := fun k_ => (w.heap.size ≤ k_)) ho0 (below_size (by repeat (first | (with_reducible first | exact HB.out | apply below_alloc | apply pw_below_drewN | apply below_drew1 | refine below_set ?_ GE163.out | refine below_set ?_ GE164.out | refine below_set ?_ GE174.out) | exact HB.out))) (fun k_ h_ => h_)) (Kd.R_lt (by (with_reducible repeat (first | apply Kd.R_alloc | apply Kd.R_drewN | apply Kd.R_drew)); exact HO_10.out))) (Kd.R_lt (by (with_reducible repeat (first | apply Kd.R_alloc | apply Kd.R_drewN | apply Kd.R_drew)); exact HO_12.out))) (below_size (by repeat (first | (with_reducible first | exact HB.out | apply below_alloc | apply pw_below_drewN | apply below_drew1 | refine below_set ?_ GE163.out | refine below_set ?_ GE164.out | refine below_set ?_ GE174.out) | exact HB.out)))); replace HO_10 := ak_ (Kd.R_elder' (by (with_reducible repeat (first | apply Kd.R_alloc | apply Kd.R_drewN | apply Kd.R_drew)); exact HO_10.out) (Kd.R_base ho0) hb); replace HO_12 := ak_ (Kd.R_elder' (by (with_reducible repeat (first | apply Kd.R_alloc | apply Kd.R_drewN | apply Kd.R_drew)); exact HO_12.out) (Kd.R_base ho0) hb); replace BK163 := ak_ (blk_below (g := gb163) (o := .cells #[.int .i64 a0_0, .int .i64 a0_1, .int .i64 a0_2, .int .i64 a0_3, .int .i64 a0_4, .int .i64 a0_5, .int .i64 a0_6] 23 (0, 0)) (by (with_reducible repeat (first | apply blk_drewN | apply blk_drew | apply blk_alloc)); exact BK163.out) hb); replace BK164 := ak_ (blk_below (g := gb164) (o := .cells #[.int .i64 a2_0, .int .i64 a2_1, .int .i64 a2_2, .int .i64 a2_3] 26 (0, 0)) (by (with_reducible repeat (first | apply blk_drewN | apply blk_drew | apply blk_alloc)); exact BK164.out) hb); replace BK174 := ak_ (blk_below (g := gb174) (o := .cells #[.int .i64 t165, .int .i64 t166, .int .i64 t167, .int .i64 t168, .int .i64 t169, .int .i64 t170, .int .i64 t171, .int .i64 t172] 70 (0, 0)) (by (with_reducible repeat (first | apply blk_drewN | apply blk_drew | apply blk_alloc)); exact BK174.out) hb); replace HB := ak_ (below_step (by repeat (first | (with_reducible first | exact HB.out | apply below_alloc | apply pw_below_drewN | apply below_drew1 | refine below_set ?_ GE163.out | refine below_set ?_ GE164.out | refine below_set ?_ GE174.out) | exact HB.out)) hb); (try clear hb); (try clear ho0); obtain ⟨Ao44, co44, eo44⟩ := Kd.R_slice HO186.out; subst eo44) | ((with_reducible refine gate_builtin (b := .append) (xs := #[.tmp 69, .tmp 74]) rfl ?_); (try (refine gate_guard (by rfl) ?_; dsimp only)); at_builtin; refine Kd.R_append_rows (Kd.int .u8) (w0 := w) w.heap.size rfl (.tmp 69) (.tmp 74) 24 5 (.int .u8 0) 1 rfl Try.underlying24 info5 rfl (by decide) (by omega) (.slice Ao38 t175.length co38) t175 t184 _ _ _ (fun k_ => (w.heap.size ≤ k_) ∧ some k_ ≠ (u12 : Value).ownBlock ∧ some k_ ≠ (.slice Ao44 t184.length co44 : Value).ownBlock) (fun _ => False) rfl rfl ?aO ?aR (fun _ _ h => h) (fun _ h => h.elim) ?aF ?aB ?aS ?aL ?_; (case aR => repeat (first | exact (Kd.R_reads' HO186.out).2.2 | (with_reducible refine Kd.C_alloc ?_ _) | (with_reducible refine Kd.C_drewN ?_ _) | (with_reducible refine Kd.C_drew ?_))); (case aB => exact HB.out); (case aF => exact (fun k_ hk => ⟨(Nat.le_trans (below_size HB.out) hk), Kd.fresh' (Kd.R_lt HO_12.out) k_ hk, Kd.fresh' (Kd.R_lt HO186.out) k_ hk⟩)); (case aO => exact (Kd.R_mono HO_10.out (fun _ hk => ⟨hk.1.1, ⟨hk.1.2, hk.2⟩⟩))); (case aS => exact (below_size HB.out)); (case aL => have := LMc34.out; omega); intro v188 w43 ho hb hg hat; rw [← Ny187.out] at ho; have n0_ := ak_ (Kd.V_afterv (ok := (fun k_ => (P1_ k_ ∨ w.heap.size ≤ k_) ∧ some k_ ≠ (u12 : Value).ownBlock ∧ some k_ ≠ (.slice Ao41 y180.length co41 : Value).ownBlock ∧ some k_ ≠ (.slice Ao44 t184.length co44 : Value).ownBlock ∧ k_ ≠ gb163 ∧ k_ ≠ gb164 ∧ k_ ≠ gb174)) (Kd.V_mono HO_1.out (fun _ hk => ⟨⟨hk.1.1.1, ⟨hk.1.1.2.2.1, ⟨hk.1.2, ⟨hk.2, ⟨hk.1.1.2.2.2.1, ⟨hk.1.1.2.2.2.2.1, hk.1.1.2.2.2.2.2⟩⟩⟩⟩⟩⟩, hk.1.1.2.1⟩)) hg hat); have n1_ := ak_ (Kd.R_after (ok := (fun k_ => (w.heap.size ≤ k_) ∧ some k_ ≠ (.slice Ao44 t184.length co44 : Value).ownBlock)) (Kd.R_mono HO_12.out (fun _ hk => ⟨⟨hk.1.1, hk.2⟩, hk.1.2⟩)) hg hat); have n2_ := ak_ (blk_grown BK163.out hg (Kd.R_ne HO_10.out BK163.out (by decide))); have n3_ := ak_ (blk_grown BK164.out hg (Kd.R_ne HO_10.out BK164.out (by decide))); have n4_ := ak_ (blk_grown BK174.out hg (Kd.R_ne HO_10.out BK174.out (by decide))); have n5_ := ak_ (Kd.R_after (ok := (fun k_ => (w.heap.size ≤ k_) ∧ some k_ ≠ (u12 : Value).ownBlock)) (Kd.R_mono HO186.out (fun _ hk => ⟨⟨hk.1.1.1, hk.2⟩, hk.1.2⟩)) hg hat); have n6_ := ak_ (hb); have n7_ := ak_ (ho); clear HO_1; clear HO_12; clear BK163; clear BK164; clear BK174; clear HO186; clear HB; clear HO_10; have HO_1 := n0_; have HO_12 := n1_; have BK163 := n2_; have BK164 := n3_; have BK174 := n4_; have HO186 := n5_; have HB := n6_; have HO189 := n7_; clear n0_ n1_ n2_ n3_ n4_ n5_ n6_ n7_; clear ho hb hg hat; obtain ⟨Ao45, co45, eo45⟩ := Kd.R_slice HO189.out; subst eo45) | ((with_reducible refine gate_callee (f := 40) rfl ?_); refine goesL_ (some 76) rfl rfl Try.func40 (by kernel_rfl) rfl #[.slice Ao45 y187.length co45] rfl (by (try simp only [List.map_toArray, List.map_cons, List.map_nil]); first | done | rfl | (simp only [List.length_drop, List.length_take]; rfl)) ?_; (with_reducible refine (chunk_Encode.calls k3 _ _ y187 t190 t191 _ ?side1 ?side2 A35.out).mono ?_); (case side1 => exact (Kd.R_reads' HO189.out).2.2); (case side2 => exact (Kd.R_reads' HO189.out).2.1); rintro e w46 ⟨v192, rfl, ho0, hb⟩; refine ⟨_, rfl, ?_⟩; replace HO_1 := ak_ (Kd.V_elder' HO_1.out (Kd.R_base ho0) hb); have HO193 := ak_ (Kd.R_lower (Kd.R_new' (Kd.R_new' (Kd.R_new' (Kd.R_newM (M := fun k_ => (w.heap.size ≤ k_)) ho0 (below_size HB.out) (fun k_ h_ => h_)) (Kd.R_lt HO_12.out)) (Kd.R_lt HO186.out)) (Kd.R_lt HO189.out)) (below_size HB.out)); replace HO_12 := ak_ (Kd.R_elder' HO_12.out (Kd.R_base ho0) hb); replace HO186 := ak_ (Kd.R_elder' HO186.out (Kd.R_base ho0) hb); replace HO189 := ak_ (Kd.R_elder' HO189.out (Kd.R_base ho0) hb); replace BK163 := ak_ (blk_below BK163.out hb); replace BK164 := ak_ (blk_below BK164.out hb); replace BK174 := ak_ (blk_below BK174.out hb); replace HB := ak_ (below_step HB.out hb); (try clear hb); (try clear ho0); obtain ⟨Ao48, co48, eo48⟩ := Kd.R_slice HO193.out; subst eo48) | ((with_reducible refine gate_builtin (b := .append) (xs := #[.tmp 79, .tmp 80]) rfl ?_); (try (refine gate_guard (by rfl) ?_; dsimp only)); at_builtin; refine Kd.R_append_rows (Kd.int .u8) (w0 := w) w.heap.size rfl (.tmp 79) (.tmp 80) 24 5 (.int .u8 0) 1 rfl Try.underlying24 info5 rfl (by decide) (by omega) u12 x12_3 t190 _ _ _ (fun k_ => (w.heap.size ≤ k_) ∧ some k_ ≠ (.slice Ao44 t184.length co44 : Value).ownBlock ∧ some k_ ≠ (.slice Ao45 y187.length co45 : Value).ownBlock ∧ some k_ ≠ (.slice Ao48 t190.length co48 : Value).ownBlock) (fun _ => False) rfl rfl ?aO ?aR (fun _ _ h => h) (fun _ h => h.elim) ?aF ?aB ?aS ?aL ?_; (case aR => repeat (first | exact (Kd.R_reads' HO193.out).2.2 | (with_reducible refine Kd.C_alloc ?_ _) | (with_reducible refine Kd.C_drewN ?_ _) | (with_reducible refine Kd.C_drew ?_))); (case aB => exact HB.out); (case aF => exact (fun k_ hk => ⟨(Nat.le_trans (below_size HB.out) hk), Kd.fresh' (Kd.R_lt HO186.out) k_ hk, Kd.fresh' (Kd.R_lt HO189.out) k_ hk, Kd.fresh' (Kd.R_lt HO193.out) k_ hk⟩)); (case aO => exact (Kd.R_mono HO_12.out (fun _ hk => ⟨hk.1.1.1, ⟨hk.1.1.2, ⟨hk.1.2, hk.2⟩⟩⟩))); (case aS => exact (below_size HB.out)); (case aL => have := LMc36.out; omega); intro v195 w47 ho hb hg hat; rw [← Ny194.out] at ho; have n0_ := ak_ (Kd.V_afterv (ok := (fun k_ => (P1_ k_ ∨ w.heap.size ≤ k_) ∧ some k_ ≠ (.slice Ao44 t184.length co44 : Value).ownBlock ∧ some k_ ≠ (.slice Ao45 y187.length co45 : Value).ownBlock ∧ some k_ ≠ (.slice Ao48 t190.length co48 : Value).ownBlock ∧ k_ ≠ gb163 ∧ k_ ≠ gb164 ∧ k_ ≠ gb174)) (Kd.V_mono HO_1.out (fun _ hk => ⟨⟨hk.1.1.1, ⟨hk.1.1.2.2.2.1, ⟨hk.1.2, ⟨hk.2, ⟨hk.1.1.2.2.2.2.1, ⟨hk.1.1.2.2.2.2.2.1, hk.1.1.2.2.2.2.2.2⟩⟩⟩⟩⟩⟩, hk.1.1.2.1⟩)) hg hat); have n1_ := ak_ (blk_grown BK163.out hg (Kd.R_ne HO_12.out BK163.out (by decide))); have n2_ := ak_ (blk_grown BK164.out hg (Kd.R_ne HO_12.out BK164.out (by decide))); have n3_ := ak_ (blk_grown BK174.out hg (Kd.R_ne HO_12.out BK174.out (by decide))); have n4_ := ak_ (Kd.R_after (ok := (fun k_ => (w.heap.size ≤ k_) ∧ some k_ ≠ (.slice Ao45 y187.length co45 : Value).ownBlock ∧ some k_ ≠ (.slice Ao48 t190.length co48 : Value).ownBlock)) (Kd.R_mono HO186.out (fun _ hk => ⟨⟨hk.1.1.1, ⟨hk.1.2, hk.2⟩⟩, hk.1.1.2⟩)) hg hat); have n5_ := ak_ (Kd.R_after (ok := (fun k_ => (w.heap.size ≤ k_) ∧ some k_ ≠ (.slice Ao44 t184.length co44 : Value).ownBlock ∧ some k_ ≠ (.slice Ao48 t190.length co48 : Value).ownBlock)) (Kd.R_mono HO189.out (fun _ hk => ⟨⟨hk.1.1, ⟨hk.1.2.2, hk.2⟩⟩, hk.1.2.1⟩)) hg hat); have n6_ := ak_ (Kd.R_after (ok := (fun k_ => (w.heap.size ≤ k_) ∧ some k_ ≠ (.slice Ao44 t184.length co44 : Value).ownBlock ∧ some k_ ≠ (.slice Ao45 y187.length co45 : Value).ownBlock)) (Kd.R_mono HO193.out (fun _ hk => ⟨⟨hk.1.1.1.1, ⟨hk.1.2, hk.2⟩⟩, hk.1.1.2⟩)) hg hat); have n7_ := ak_ (hb); have n8_ := ak_ (ho); clear HO_1; clear BK163; clear BK164; clear BK174; clear HO186; clear HO189; clear HO193; clear HB; clear HO_12; have HO_1 := n0_; have BK163 := n1_; have BK164 := n2_; have BK174 := n3_; have HO186 := n4_; have HO189 := n5_; have HO193 := n6_; have HB := n7_; have HO196 := n8_; clear n0_ n1_ n2_ n3_ n4_ n5_ n6_ n7_ n8_; clear ho hb hg hat) | ((with_reducible refine gate_builtin (b := .append) (xs := #[.tmp 81, .tmp 82]) rfl ?_); (try (refine gate_guard (by rfl) ?_; dsimp only)); at_builtin; refine Kd.R_append (Kd.int .u8) (w0 := w) w.heap.size rfl (.tmp 81) (.tmp 82) 24 5 (.int .u8 0) 1 rfl Try.underlying24 info5 rfl (by decide) (by omega) v195 y194 255 [.int .u8 255] (fun k_ => (w.heap.size ≤ k_) ∧ some k_ ≠ (.slice Ao44 t184.length co44 : Value).ownBlock ∧ some k_ ≠ (.slice Ao45 y187.length co45 : Value).ownBlock ∧ some k_ ≠ (.slice Ao48 t190.length co48 : Value).ownBlock) (fun _ => False) rfl rfl ?aP (fun _ hk => hk.elim) ?aF ?aO ?aB ?aS ?aL ?_; (case aP => exact rfl); (case aB => exact HB.out); (case aF => exact (fun k_ hk => ⟨(Nat.le_trans (below_size HB.out) hk), Kd.fresh' (Kd.R_lt HO186.out) k_ hk, Kd.fresh' (Kd.R_lt HO189.out) k_ hk, Kd.fresh' (Kd.R_lt HO193.out) k_ hk⟩)); (case aO => exact HO196.out); (case aS => exact (below_size HB.out)); (case aL => have := LMc37.out; omega); intro v198 w49 ho hb hg hat; rw [← Ny197.out] at ho; have n0_ := ak_ (Kd.V_afterv (ok := (fun k_ => (P1_ k_ ∨ w.heap.size ≤ k_) ∧ some k_ ≠ (.slice Ao44 t184.length co44 : Value).ownBlock ∧ some k_ ≠ (.slice Ao45 y187.length co45 : Value).ownBlock ∧ some k_ ≠ (.slice Ao48 t190.length co48 : Value).ownBlock ∧ k_ ≠ gb163 ∧ k_ ≠ gb164 ∧ k_ ≠ gb174)) HO_1.out hg hat); have n1_ := ak_ (blk_grown BK163.out hg (Kd.R_ne HO196.out BK163.out (by decide))); have n2_ := ak_ (blk_grown BK164.out hg (Kd.R_ne HO196.out BK164.out (by decide))); have n3_ := ak_ (blk_grown BK174.out hg (Kd.R_ne HO196.out BK174.out (by decide))); have n4_ := ak_ (Kd.R_after (ok := (fun k_ => (w.heap.size ≤ k_) ∧ some k_ ≠ (.slice Ao45 y187.length co45 : Value).ownBlock ∧ some k_ ≠ (.slice Ao48 t190.length co48 : Value).ownBlock)) HO186.out hg hat); have n5_ := ak_ (Kd.R_after (ok := (fun k_ => (w.heap.size ≤ k_) ∧ some k_ ≠ (.slice Ao44 t184.length co44 : Value).ownBlock ∧ some k_ ≠ (.slice Ao48 t190.length co48 : Value).ownBlock)) HO189.out hg hat); have n6_ := ak_ (Kd.R_after (ok := (fun k_ => (w.heap.size ≤ k_) ∧ some k_ ≠ (.slice Ao44 t184.length co44 : Value).ownBlock ∧ some k_ ≠ (.slice Ao45 y187.length co45 : Value).ownBlock)) HO193.out hg hat); have n7_ := ak_ (hb); have n8_ := ak_ (ho); clear HO_1; clear BK163; clear BK164; clear BK174; clear HO186; clear HO189; clear HO193; clear HB; clear HO196; have HO_1 := n0_; have BK163 := n1_; have BK164 := n2_; have BK174 := n3_; have HO186 := n4_; have HO189 := n5_; have HO193 := n6_; have HB := n7_; have HO199 := n8_; clear n0_ n1_ n2_ n3_ n4_ n5_ n6_ n7_ n8_; clear ho hb hg hat))
            go_ret2
            exact ⟨_, by rfl, (Kd.R_mono HO199.out (fun _ hk => hk.1)), by repeat (first | (with_reducible first | exact HB.out | apply below_alloc | apply pw_below_drewN | apply below_drew1 | refine below_set ?_ GE163.out | refine below_set ?_ GE164.out | refine below_set ?_ GE174.out) | exact HB.out)⟩
           ·rw [if_neg c37] at H
            exact absurd H (by simp)
          ·rw [if_neg c36] at H
           exact absurd H (by simp)
         ·rw [if_neg c34] at H
          exact absurd H (by simp)
       case rest =>
        clear HC30
        obtain ⟨kq, HA, HJ29, HO_1, HO_10, HO_12, BK163, BK164, BK174, HB⟩ := hcut
        cases kq with
        | zero => exact absurd HA.out (by simp [page_Encode.j3])
        | succ kj29 =>
         have H := HA.out
         clear HA
         simp only [page_Encode.j3] at H
         obtain ⟨ji50, hji50⟩ : ∃ j_ : Int, (wrap64 (x44_3 * t169)) = j_ := ⟨_, rfl⟩
         replace H : (if 0 ≤ (ji50) then (if (ji50) ≤ (wrap64 ((wrap64 (x44_3 + 1)) * t169)) then (if (wrap64 ((wrap64 (x44_3 + 1)) * t169)) ≤ (l1.length : Int) then ((chunk_Encode.f kj29 ((l1.take ((wrap64 ((wrap64 (x44_3 + 1)) * t169)) : Int).toNat).drop ((ji50) : Int).toNat)).bind fun bt205 => (if x12_3.length + bt205.1.length < 140737488355328 then (page_Encode.l0 kj29 l1 t175 (x12_3 ++ bt205.1) t168 (wrap64 (x44_3 + 1)) t165 t166 t167 t168 t169 t170 t171 t172) else (none))) else (none)) else (none)) else (none)) = some (r1, r2) := (by rw [hji50] at H; exact H)
         have hji50w : (IntKind.i64.wrap (x44_3 * t169)) = ji50 := (i64_w _).trans hji50
         by_cases c51 : 0 ≤ (ji50)
         ·rw [if_pos c51] at H
          have c51b0 := eq_true c51
          have c51b1 := dt_ c51
          clear c51
          by_cases c52 : (ji50) ≤ (wrap64 ((wrap64 (x44_3 + 1)) * t169))
          ·rw [if_pos c52] at H
           have c52b0 := eq_true c52
           have c52b1 := dt_ c52
           by_cases c53 : (wrap64 ((wrap64 (x44_3 + 1)) * t169)) ≤ (l1.length : Int)
           ·rw [if_pos c53] at H
            have c53b0 := eq_true c53
            have c53b1 := dt_ c53
            obtain ⟨y200, hy200⟩ : ∃ y_ : List Int, y_ = ((l1.take ((wrap64 ((wrap64 (x44_3 + 1)) * t169)) : Int).toNat).drop ((ji50) : Int).toNat) := ⟨_, rfl⟩
            replace H : ((chunk_Encode.f kj29 y200).bind fun bt205 => (if x12_3.length + bt205.1.length < 140737488355328 then (page_Encode.l0 kj29 l1 t175 (x12_3 ++ bt205.1) t168 (wrap64 (x44_3 + 1)) t165 t166 t167 t168 t169 t170 t171 t172) else (none))) = some (r1, r2) := (by rw [hy200]; with_reducible exact H)
            have Ny200 := ak_ hy200
            clear hy200
            obtain ⟨⟨t205, t206⟩, A54, H⟩ := bs_ H
            try dsimp only at H
            by_cases c55 : x12_3.length + t205.length < 140737488355328
            ·rw [if_pos c55] at H
             have LMc55 := ak_ c55
             clear c55
             obtain ⟨y209, hy209⟩ : ∃ y_ : List Int, y_ = (x12_3 ++ t205) := ⟨_, rfl⟩
             replace H : (page_Encode.l0 kj29 l1 t175 y209 t168 (wrap64 (x44_3 + 1)) t165 t166 t167 t168 t169 t170 t171 t172) = some (r1, r2) := (by rw [hy209]; with_reducible exact H)
             have Ny209 := ak_ hy209
             clear hy209
             have H' := ak_ H
             clear H
             have hnb56 := NB174_163.out
             have hnc56 := NB163_174.out
             have hnb57 := NB174_164.out
             have hnc57 := NB164_174.out
             obtain ⟨hcz58_0, hcz58_1, hcz58_2, hcz58_3, hcz58_4, hcz58_5, hcz58_6, hcz58_7⟩ := cells8 BK174.out
             obtain ⟨hfz58_0, hfz58_1, hfz58_2, hfz58_3, hfz58_4, hfz58_5, hfz58_6, hfz58_7⟩ := froz8 BK174.out
             have q59 : ((wrap64 ((wrap64 (x44_3 + 1)) * t169)) : Int) ≤ ((l1.length : Int) : Int) := of_decide_eq_true (by with_reducible assumption)
             obtain ⟨i059, hi059, _, hsz59, _⟩ := info_parts info5
             have hroom59 : l1.length ≤ c1 := (Kd.V_reads' HO_1.out).2.1
             have hC59 : Kd.F (Kd.int .u8) _ _ A1 l1.length l1 := (Kd.V_at (base := w.heap.size) HO_1.out).2.2
             have ql59 : ((ji50) : Int) ≤ ((wrap64 ((wrap64 (x44_3 + 1)) * t169)) : Int) := of_decide_eq_true (by with_reducible assumption)
             have q059 : (0 : Int) ≤ ((ji50) : Int) := of_decide_eq_true (by with_reducible assumption)
             have hcut59 := cut_mid (P := Try.prog) 24 5 .i64 .i64 Try.underlying24 hi059 1 hsz59 A1 l1.length c1 (ji50) (wrap64 ((wrap64 (x44_3 + 1)) * t169)) q059 ql59 q59 hroom59
             have hr59 := Kd.F_mid (lo := ((ji50) : Int).toNat) (hi := ((wrap64 ((wrap64 (x44_3 + 1)) * t169)) : Int).toNat) (c := c1) hC59 (by omega) (by omega) hroom59
             obtain ⟨A59, hA59⟩ : ∃ Az_, Az_ = (if c1 = ((ji50) : Int).toNat then A1 else (A1 : Option Addr).map (·.add (((ji50) : Int).toNat * 1))) := ⟨_, rfl⟩
             obtain ⟨c59, hc59⟩ : ∃ Az_, Az_ = c1 - ((ji50) : Int).toNat := ⟨_, rfl⟩
             have hy59 : y200.length = ((wrap64 ((wrap64 (x44_3 + 1)) * t169)) : Int).toNat - ((ji50) : Int).toNat := (by rw [Ny200.out, List.length_drop, List.length_take] <;> omega)
             rw [show ((l1).take ((wrap64 ((wrap64 (x44_3 + 1)) * t169)) : Int).toNat).drop ((ji50) : Int).toNat = y200 from Ny200.out.symm] at hr59
             replace hr59 : Kd.F (Kd.int .u8) _ _ A59 y200.length y200 := (by rw [hA59]; exact hr59)
             rw [← hy59, ← hA59, ← hc59] at hcut59
             have HO204 := ak_ (show Kd.V (Kd.int .u8) 5 _ w.heap.size _ (.slice A59 y200.length c59) y200 from Kd.V_mk (by rw [hy59, hc59]; exact Nat.sub_le_sub_right (Nat.le_trans (by omega) hroom59) _) hr59)
             have HC204 := ak_ (show y200.length ≤ c59 from by rw [hy59, hc59]; exact Nat.sub_le_sub_right (Nat.le_trans (by omega) hroom59) _)
             clear hr59 hC59 hroom59 hi059 hsz59 hc59
             have KY59 := ak_ hy59
             have KA59 := ak_ hA59
             clear hy59 hA59
             replace q59 := eq_true q59
             go_wp2_with (first | ((with_reducible refine gate_callee (f := 40) rfl ?_); refine goesL_ (some 61) rfl rfl Try.func40 (by kernel_rfl) rfl #[.slice A59 y200.length c59] rfl (by (try simp only [List.map_toArray, List.map_cons, List.map_nil]); first | done | rfl | (simp only [List.length_drop, List.length_take]; rfl)) ?_; (with_reducible refine (chunk_Encode.calls kj29 _ _ y200 t205 t206 _ ?side1 ?side2 A54.out).mono ?_); (case side1 => exact (Kd.V_reads' HO204.out).2.2); (case side2 => exact (Kd.V_reads' HO204.out).2.1); rintro e w60 ⟨v207, rfl, ho0, hb⟩; refine ⟨_, rfl, ?_⟩; replace HO_1 := ak_ (Kd.V_elder' HO_1.out (Kd.R_base ho0) hb); replace HO204 := ak_ (Kd.V_elder' HO204.out (Kd.R_base ho0) hb); have HO208 := ak_ (Kd.R_lower (Kd.R_new' (Kd.R_new' (Kd.R_newM (M := fun k_ => (w.heap.size ≤ k_)) ho0 (below_size HB.out) (fun k_ h_ => h_)) (Kd.R_lt HO_10.out)) (Kd.R_lt HO_12.out)) (below_size HB.out)); replace HO_10 := ak_ (Kd.R_elder' HO_10.out (Kd.R_base ho0) hb); replace HO_12 := ak_ (Kd.R_elder' HO_12.out (Kd.R_base ho0) hb); replace BK163 := ak_ (blk_below BK163.out hb); replace BK164 := ak_ (blk_below BK164.out hb); replace BK174 := ak_ (blk_below BK174.out hb); replace HB := ak_ (below_step HB.out hb); (try clear hb); (try clear ho0); obtain ⟨Ao62, co62, eo62⟩ := Kd.R_slice HO208.out; subst eo62) | ((with_reducible refine gate_builtin (b := .append) (xs := #[.tmp 64, .tmp 65]) rfl ?_); (try (refine gate_guard (by rfl) ?_; dsimp only)); at_builtin; refine Kd.R_append_rows (Kd.int .u8) (w0 := w) w.heap.size rfl (.tmp 64) (.tmp 65) 24 5 (.int .u8 0) 1 rfl Try.underlying24 info5 rfl (by decide) (by omega) u12 x12_3 t205 _ _ _ (fun k_ => (w.heap.size ≤ k_) ∧ some k_ ≠ (v176 : Value).ownBlock ∧ some k_ ≠ (.slice Ao62 t205.length co62 : Value).ownBlock) (fun _ => False) rfl rfl ?aO ?aR (fun _ _ h => h) (fun _ h => h.elim) ?aF ?aB ?aS ?aL ?_; (case aR => repeat (first | exact (Kd.R_reads' HO208.out).2.2 | (with_reducible refine Kd.C_alloc ?_ _) | (with_reducible refine Kd.C_drewN ?_ _) | (with_reducible refine Kd.C_drew ?_))); (case aB => exact HB.out); (case aF => exact (fun k_ hk => ⟨(Nat.le_trans (below_size HB.out) hk), Kd.fresh' (Kd.R_lt HO_10.out) k_ hk, Kd.fresh' (Kd.R_lt HO208.out) k_ hk⟩)); (case aO => exact (Kd.R_mono HO_12.out (fun _ hk => ⟨hk.1.1, ⟨hk.1.2, hk.2⟩⟩))); (case aS => exact (below_size HB.out)); (case aL => have := LMc55.out; omega); intro v210 w61 ho hb hg hat; rw [← Ny209.out] at ho; have n0_ := ak_ (Kd.V_afterv (ok := (fun k_ => (P1_ k_ ∨ w.heap.size ≤ k_) ∧ some k_ ≠ (v176 : Value).ownBlock ∧ some k_ ≠ (.slice Ao62 t205.length co62 : Value).ownBlock ∧ k_ ≠ gb163 ∧ k_ ≠ gb164 ∧ k_ ≠ gb174)) (Kd.V_mono HO_1.out (fun _ hk => ⟨⟨hk.1.1, ⟨hk.1.2.1, ⟨hk.2, ⟨hk.1.2.2.2.1, ⟨hk.1.2.2.2.2.1, hk.1.2.2.2.2.2⟩⟩⟩⟩⟩, hk.1.2.2.1⟩)) hg hat); have n1_ := ak_ (Kd.R_after (ok := (fun k_ => (w.heap.size ≤ k_) ∧ some k_ ≠ (.slice Ao62 t205.length co62 : Value).ownBlock)) (Kd.R_mono HO_10.out (fun _ hk => ⟨⟨hk.1.1, hk.2⟩, hk.1.2⟩)) hg hat); have n2_ := ak_ (blk_grown BK163.out hg (Kd.R_ne HO_12.out BK163.out (by decide))); have n3_ := ak_ (blk_grown BK164.out hg (Kd.R_ne HO_12.out BK164.out (by decide))); have n4_ := ak_ (blk_grown BK174.out hg (Kd.R_ne HO_12.out BK174.out (by decide))); have n5_ := ak_ (Kd.V_afterv (ok := (fun k_ => (P1_ k_ ∨ w.heap.size ≤ k_) ∧ some k_ ≠ (v176 : Value).ownBlock ∧ some k_ ≠ (.slice Ao62 t205.length co62 : Value).ownBlock ∧ k_ ≠ gb163 ∧ k_ ≠ gb164 ∧ k_ ≠ gb174)) (Kd.V_mono HO204.out (fun _ hk => ⟨⟨hk.1.1, ⟨hk.1.2.1, ⟨hk.2, ⟨hk.1.2.2.2.1, ⟨hk.1.2.2.2.2.1, hk.1.2.2.2.2.2⟩⟩⟩⟩⟩, hk.1.2.2.1⟩)) hg hat); have n6_ := ak_ (Kd.R_after (ok := (fun k_ => (w.heap.size ≤ k_) ∧ some k_ ≠ (v176 : Value).ownBlock)) (Kd.R_mono HO208.out (fun _ hk => ⟨⟨hk.1.1.1, hk.1.2⟩, hk.2⟩)) hg hat); have n7_ := ak_ (hb); have n8_ := ak_ (ho); clear HO_1; clear HO_10; clear BK163; clear BK164; clear BK174; clear HO204; clear HO208; clear HB; clear HO_12; have HO_1 := n0_; have HO_10 := n1_; have BK163 := n2_; have BK164 := n3_; have BK174 := n4_; have HO204 := n5_; have HO208 := n6_; have HB := n7_; have HO211 := n8_; clear n0_ n1_ n2_ n3_ n4_ n5_ n6_ n7_ n8_; clear ho hb hg hat))
             go_roundg kj29
             case measure => have := HJ5.out; have := HJ24.out; have := HK3.out; have := HJ29.out; omega
             case rel => exact ⟨(y209), (wrap64 (x44_3 + 1)), (by rfl), H', ⟨by have := HJ5.out; have := HJ24.out; have := HK3.out; have := HJ29.out; omega⟩, ⟨(Kd.V_mono HO_1.out (fun _ hk => ⟨hk.1.1, ⟨hk.1.2.1, ⟨hk.2, ⟨hk.1.2.2.2.1, ⟨hk.1.2.2.2.2.1, hk.1.2.2.2.2.2⟩⟩⟩⟩⟩))⟩, ⟨(Kd.R_mono HO_10.out (fun _ hk => ⟨hk.1.1, hk.2⟩))⟩, ⟨(Kd.R_mono HO211.out (fun _ hk => ⟨hk.1, hk.2.1⟩))⟩, ⟨BK163.out⟩, ⟨BK164.out⟩, ⟨BK174.out⟩, ⟨by repeat (first | (with_reducible first | exact HB.out | apply below_alloc | apply pw_below_drewN | apply below_drew1 | refine below_set ?_ GE163.out | refine below_set ?_ GE164.out | refine below_set ?_ GE174.out) | exact HB.out)⟩⟩
            ·rw [if_neg c55] at H
             exact absurd H (by simp)
           ·rw [if_neg c53] at H
            exact absurd H (by simp)
          ·rw [if_neg c52] at H
           exact absurd H (by simp)
         ·rw [if_neg c51] at H
          exact absurd H (by simp)
def l08_awake.f (k : Nat)  : Option (Bool) := (page_Encode.f k 1 2 4 1 4 1 1 (([1, 2, 3, 4] : List Int)) 1 0 0 0).bind fun bt216 => (if bt216.2 = 0 then (if (bt216.1.length : Int) = 37 then (if 36 < (bt216.1.length : Int) then (some ((rd bt216.1 36) == 255)) else (none)) else (some false)) else (some false))
theorem l08_awake.mono : ∀ k, LeO (l08_awake.f k ) (l08_awake.f (k + 1) ) := by
 intro  k
 unfold l08_awake.f
 repeat' with_reducible first
  | exact page_Encode.mono _ _ _ _ _ _ _ _ _ _ _ _ _
  | exact LeO.refl _
  | exact LeO.none _
  | refine LeO.ite ?_ ?_
  | refine LeO.bind ?_ (fun _ => ?_)
theorem l08_awake.calls (k : Nat)  (r : Bool) (w : World) (h : l08_awake.f k  = some r) :
  Calls Try.prog 12 #[] w fun e w' => e = .returned (.bool r) ∧ Below w.heap.size w w' := by
 have hu23 := Try.underlying23
 have hu26 := Try.underlying26
 have HB := br_ w
 unfold l08_awake.f at h
 have H := h
 clear h
 obtain ⟨y213, hy213⟩ : ∃ y_ : List Int, y_ = (([1, 2, 3, 4] : List Int)) := ⟨_, rfl⟩
 replace H : ((page_Encode.f k 1 2 4 1 4 1 1 y213 1 0 0 0).bind fun bt216 => (if bt216.2 = 0 then (if (bt216.1.length : Int) = 37 then (if 36 < (bt216.1.length : Int) then (some ((rd bt216.1 36) == 255)) else (none)) else (some false)) else (some false))) = some r := (by rw [hy213]; with_reducible exact H)
 have Ny213 := ak_ hy213
 clear hy213
 obtain ⟨⟨t216, t219⟩, A1, H⟩ := bs_ H
 try dsimp only at H
 by_cases c2 : t219 = 0
 ·rw [if_pos c2] at H
  have c2b0 := beq_iff_eq.mpr c2
  have c2b1 := bne_eq_false_iff_eq.mpr c2
  clear c2
  by_cases c3 : (t216.length : Int) = 37
  ·rw [if_pos c3] at H
   have c3b0 := beq_iff_eq.mpr c3
   have c3b1 := bne_eq_false_iff_eq.mpr c3
   clear c3
   by_cases c4 : 36 < (t216.length : Int)
   ·rw [if_pos c4] at H
    have c4b0 := dt_ c4
    have c4b1 : decide (36 < t216.length) = true := dt_ (by omega)
    clear c4
    obtain rfl := si_ H
    go_enter Try.func12, Try.ntmps12
    go_wp2_with (first | ((with_reducible refine gate_dst (N := 1) rfl ?_); (try (refine gate_guard (by rfl) ?_; dsimp only)); refine box_event ?hg (N := 1) ?hd (cs := #[.int .i64 0, .int .i64 0, .int .i64 0, .int .i64 0, .int .i64 0, .int .i64 0, .int .i64 0]) (t := 23) ?hr ?_; (case hd => rfl); (case hg => rfl); (case hr => (go_simp; done)); intro gb212 hg w5 hbox hb; have BK212 := ak_ (hbox); have GW212 := ak_ ((by rw [hg]; exact (below_size HB.out) : w.heap.size ≤ gb212)); have GE212 := ak_ ((by rw [hg]; exact (below_size HB.out) : w.heap.size ≤ gb212)); replace HB := ak_ (below_step HB.out hb); clear hb hbox hg; have hcz6_0 : w5.cell? ⟨gb212, 0, none⟩ = some (.int .i64 0) := (bc_ BK212.out 0).trans rfl; have hcz6_1 : w5.cell? ⟨gb212, 1, none⟩ = some (.int .i64 0) := (bc_ BK212.out 1).trans rfl; have hcz6_2 : w5.cell? ⟨gb212, 2, none⟩ = some (.int .i64 0) := (bc_ BK212.out 2).trans rfl; have hcz6_3 : w5.cell? ⟨gb212, 3, none⟩ = some (.int .i64 0) := (bc_ BK212.out 3).trans rfl; have hcz6_4 : w5.cell? ⟨gb212, 4, none⟩ = some (.int .i64 0) := (bc_ BK212.out 4).trans rfl; have hcz6_5 : w5.cell? ⟨gb212, 5, none⟩ = some (.int .i64 0) := (bc_ BK212.out 5).trans rfl; have hcz6_6 : w5.cell? ⟨gb212, 6, none⟩ = some (.int .i64 0) := (bc_ BK212.out 6).trans rfl; have hfz6_0 := bf_ BK212.out 0; have hfz6_1 := bf_ BK212.out 1; have hfz6_2 := bf_ BK212.out 2; have hfz6_3 := bf_ BK212.out 3; have hfz6_4 := bf_ BK212.out 4; have hfz6_5 := bf_ BK212.out 5; have hfz6_6 := bf_ BK212.out 6) | ((with_reducible refine gate_dst (N := 7) rfl ?_); (try (refine gate_guard (by rfl) ?_; dsimp only)); refine Kd.R_lit (Kd.int .u8) _ 5 ?hg (N := 7) ?hd (xs := ([1, 2, 3, 4] : List Int)) (inner := [.int .u8 1, .int .u8 2, .int .u8 3, .int .u8 4]) (ok := fun _ => True) (okp := fun _ => True) ?hr ?hp (fun _ hk => hk) trivial (Below.refl _ _) (Nat.le_refl _) (by simp) ?_; (case hd => rfl); (case hg => rfl); (case hr => (go_simp; done)); (case hp => exact (Reps.one (show Kd.M (Kd.int .u8) _ _ _ 1 [.int .u8 1] from rfl) (Reps.one (show Kd.M (Kd.int .u8) _ _ _ 2 [.int .u8 2] from rfl) (Reps.one (show Kd.M (Kd.int .u8) _ _ _ 3 [.int .u8 3] from rfl) (Reps.one (show Kd.M (Kd.int .u8) _ _ _ 4 [.int .u8 4] from rfl) (Reps.none _ _)))))); intro v214 w7 ho8 hb hg_ hnew_; clear hg_ hnew_; (rw [← Ny213.out] at ho8); have HO215 := ak_ (Kd.R_lower ho8 (below_size (by repeat (first | (with_reducible first | exact HB.out | apply below_alloc | apply pw_below_drewN | apply below_drew1 | refine below_set ?_ GE212.out) | exact HB.out)))); replace BK212 := ak_ (blk_below (put7 BK212.out) hb); replace HB := ak_ (below_step (by repeat (first | (with_reducible first | exact HB.out | apply below_alloc | apply pw_below_drewN | apply below_drew1 | refine below_set ?_ GE212.out) | exact HB.out)) hb); clear hb ho8; obtain ⟨Ao9, co9, eo9⟩ := Kd.R_slice HO215.out; subst eo9) | ((with_reducible refine gate_callee (f := 14) rfl ?_); refine goesL_ (some 9) rfl rfl Try.func14 (by kernel_rfl) rfl #[.agg #[.int .i64 1, .int .i64 2, .int .i64 4, .int .i64 1, .int .i64 4, .int .i64 1, .int .i64 1], .slice Ao9 y213.length co9, .agg #[.int .i64 1, .int .i64 0, .int .i64 0, .int .i64 0]] rfl (by (try simp only [List.map_toArray, List.map_cons, List.map_nil]); first | done | rfl | (simp only [List.length_drop, List.length_take]; rfl)) ?_; (with_reducible refine (page_Encode.calls k 1 2 4 1 4 1 1 (fun k_ => some k_ = (.slice Ao9 y213.length co9 : Value).ownBlock) _ _ y213 1 0 0 0 t216 t219 _ ?side1 A1.out).mono ?_); (case side1 => exact Kd.R_V (Kd.R_tight rfl (Kd.R_types (HO215.out) BK212.out (by decide)))); rintro e w10 ⟨v217, rfl, ho0, hb⟩; refine ⟨_, rfl, ?_⟩; have HO218 := ak_ (Kd.R_lower (Kd.R_new' (Kd.R_mono (ok' := fun k_ => True) ho0 (fun _ hk_ => trivial)) (Kd.R_lt HO215.out)) (below_size HB.out)); replace HO215 := ak_ (Kd.R_elder' HO215.out (Kd.R_base ho0) hb); replace BK212 := ak_ (blk_below BK212.out hb); replace HB := ak_ (below_step HB.out hb); (try clear hb); (try clear ho0); obtain ⟨Ao11, co11, eo11⟩ := Kd.R_slice HO218.out; subst eo11; have p220 : 0 ≤ (36 : Int) := (by omega); have q220 : 36 < (t216.length : Int) := of_decide_eq_true (by with_reducible assumption); obtain ⟨ad220, e220, hx220_0⟩ := Kd.at_int (Kd.R_reads' HO218.out).2.2 36 p220 q220; cases e220; (try simp only [show (36 : Int).toNat = 36 from rfl, Nat.reduceMul, Nat.reduceEqDiff, Go.Addr.add, ↓reduceIte] at hx220_0); have qi220 : (36 < t216.length) = True := eq_true (by omega); (try rw [show ((36 : Int)).toNat = 36 from rfl] at hx220_0); replace p220 := eq_true p220; replace q220 := eq_true q220))
    go_ret
    exact ⟨by first | rfl | (simp [errW_none, errW_some] <;> rfl) | (simp [*, errW_none, errW_some] <;> rfl) | (have hz_ : ∀ z : Int, -9223372036854775808 ≤ z → z ≤ 9223372036854775807 → wrap64 z = z := (fun z h1_ h2_ => by unfold wrap64; omega); rw [hz_] <;> first | rfl | omega), by repeat (first | (with_reducible first | exact HB.out | apply below_alloc | apply pw_below_drewN | apply below_drew1 | refine below_set ?_ GE212.out) | exact HB.out)⟩
   ·rw [if_neg c4] at H
    exact absurd H (by simp)
  ·rw [if_neg c3] at H
   have c3b0 := beq_eq_false_iff_ne.mpr c3
   have c3b1 := bne_iff_ne.mpr c3
   obtain rfl := si_ H
   go_enter Try.func12, Try.ntmps12
   go_wp2_with (first | ((with_reducible refine gate_dst (N := 1) rfl ?_); (try (refine gate_guard (by rfl) ?_; dsimp only)); refine box_event ?hg (N := 1) ?hd (cs := #[.int .i64 0, .int .i64 0, .int .i64 0, .int .i64 0, .int .i64 0, .int .i64 0, .int .i64 0]) (t := 23) ?hr ?_; (case hd => rfl); (case hg => rfl); (case hr => (go_simp; done)); intro gb212 hg w12 hbox hb; have BK212 := ak_ (hbox); have GW212 := ak_ ((by rw [hg]; exact (below_size HB.out) : w.heap.size ≤ gb212)); have GE212 := ak_ ((by rw [hg]; exact (below_size HB.out) : w.heap.size ≤ gb212)); replace HB := ak_ (below_step HB.out hb); clear hb hbox hg; have hcz13_0 : w12.cell? ⟨gb212, 0, none⟩ = some (.int .i64 0) := (bc_ BK212.out 0).trans rfl; have hcz13_1 : w12.cell? ⟨gb212, 1, none⟩ = some (.int .i64 0) := (bc_ BK212.out 1).trans rfl; have hcz13_2 : w12.cell? ⟨gb212, 2, none⟩ = some (.int .i64 0) := (bc_ BK212.out 2).trans rfl; have hcz13_3 : w12.cell? ⟨gb212, 3, none⟩ = some (.int .i64 0) := (bc_ BK212.out 3).trans rfl; have hcz13_4 : w12.cell? ⟨gb212, 4, none⟩ = some (.int .i64 0) := (bc_ BK212.out 4).trans rfl; have hcz13_5 : w12.cell? ⟨gb212, 5, none⟩ = some (.int .i64 0) := (bc_ BK212.out 5).trans rfl; have hcz13_6 : w12.cell? ⟨gb212, 6, none⟩ = some (.int .i64 0) := (bc_ BK212.out 6).trans rfl; have hfz13_0 := bf_ BK212.out 0; have hfz13_1 := bf_ BK212.out 1; have hfz13_2 := bf_ BK212.out 2; have hfz13_3 := bf_ BK212.out 3; have hfz13_4 := bf_ BK212.out 4; have hfz13_5 := bf_ BK212.out 5; have hfz13_6 := bf_ BK212.out 6) | ((with_reducible refine gate_dst (N := 7) rfl ?_); (try (refine gate_guard (by rfl) ?_; dsimp only)); refine Kd.R_lit (Kd.int .u8) _ 5 ?hg (N := 7) ?hd (xs := ([1, 2, 3, 4] : List Int)) (inner := [.int .u8 1, .int .u8 2, .int .u8 3, .int .u8 4]) (ok := fun _ => True) (okp := fun _ => True) ?hr ?hp (fun _ hk => hk) trivial (Below.refl _ _) (Nat.le_refl _) (by simp) ?_; (case hd => rfl); (case hg => rfl); (case hr => (go_simp; done)); (case hp => exact (Reps.one (show Kd.M (Kd.int .u8) _ _ _ 1 [.int .u8 1] from rfl) (Reps.one (show Kd.M (Kd.int .u8) _ _ _ 2 [.int .u8 2] from rfl) (Reps.one (show Kd.M (Kd.int .u8) _ _ _ 3 [.int .u8 3] from rfl) (Reps.one (show Kd.M (Kd.int .u8) _ _ _ 4 [.int .u8 4] from rfl) (Reps.none _ _)))))); intro v214 w14 ho15 hb hg_ hnew_; clear hg_ hnew_; (rw [← Ny213.out] at ho15); have HO215 := ak_ (Kd.R_lower ho15 (below_size (by repeat (first | (with_reducible first | exact HB.out | apply below_alloc | apply pw_below_drewN | apply below_drew1 | refine below_set ?_ GE212.out) | exact HB.out)))); replace BK212 := ak_ (blk_below (put7 BK212.out) hb); replace HB := ak_ (below_step (by repeat (first | (with_reducible first | exact HB.out | apply below_alloc | apply pw_below_drewN | apply below_drew1 | refine below_set ?_ GE212.out) | exact HB.out)) hb); clear hb ho15; obtain ⟨Ao16, co16, eo16⟩ := Kd.R_slice HO215.out; subst eo16) | ((with_reducible refine gate_callee (f := 14) rfl ?_); refine goesL_ (some 9) rfl rfl Try.func14 (by kernel_rfl) rfl #[.agg #[.int .i64 1, .int .i64 2, .int .i64 4, .int .i64 1, .int .i64 4, .int .i64 1, .int .i64 1], .slice Ao16 y213.length co16, .agg #[.int .i64 1, .int .i64 0, .int .i64 0, .int .i64 0]] rfl (by (try simp only [List.map_toArray, List.map_cons, List.map_nil]); first | done | rfl | (simp only [List.length_drop, List.length_take]; rfl)) ?_; (with_reducible refine (page_Encode.calls k 1 2 4 1 4 1 1 (fun k_ => some k_ = (.slice Ao16 y213.length co16 : Value).ownBlock) _ _ y213 1 0 0 0 t216 t219 _ ?side1 A1.out).mono ?_); (case side1 => exact Kd.R_V (Kd.R_tight rfl (Kd.R_types (HO215.out) BK212.out (by decide)))); rintro e w17 ⟨v217, rfl, ho0, hb⟩; refine ⟨_, rfl, ?_⟩; have HO218 := ak_ (Kd.R_lower (Kd.R_new' (Kd.R_mono (ok' := fun k_ => True) ho0 (fun _ hk_ => trivial)) (Kd.R_lt HO215.out)) (below_size HB.out)); replace HO215 := ak_ (Kd.R_elder' HO215.out (Kd.R_base ho0) hb); replace BK212 := ak_ (blk_below BK212.out hb); replace HB := ak_ (below_step HB.out hb); (try clear hb); (try clear ho0); obtain ⟨Ao18, co18, eo18⟩ := Kd.R_slice HO218.out; subst eo18))
   go_ret
   exact ⟨by first | rfl | (simp [errW_none, errW_some] <;> rfl) | (simp [*, errW_none, errW_some] <;> rfl) | (have hz_ : ∀ z : Int, -9223372036854775808 ≤ z → z ≤ 9223372036854775807 → wrap64 z = z := (fun z h1_ h2_ => by unfold wrap64; omega); rw [hz_] <;> first | rfl | omega), by repeat (first | (with_reducible first | exact HB.out | apply below_alloc | apply pw_below_drewN | apply below_drew1 | refine below_set ?_ GE212.out) | exact HB.out)⟩
 ·rw [if_neg c2] at H
  have c2b0 := beq_eq_false_iff_ne.mpr c2
  have c2b1 := bne_iff_ne.mpr c2
  obtain rfl := si_ H
  go_enter Try.func12, Try.ntmps12
  go_wp2_with (first | ((with_reducible refine gate_dst (N := 1) rfl ?_); (try (refine gate_guard (by rfl) ?_; dsimp only)); refine box_event ?hg (N := 1) ?hd (cs := #[.int .i64 0, .int .i64 0, .int .i64 0, .int .i64 0, .int .i64 0, .int .i64 0, .int .i64 0]) (t := 23) ?hr ?_; (case hd => rfl); (case hg => rfl); (case hr => (go_simp; done)); intro gb212 hg w19 hbox hb; have BK212 := ak_ (hbox); have GW212 := ak_ ((by rw [hg]; exact (below_size HB.out) : w.heap.size ≤ gb212)); have GE212 := ak_ ((by rw [hg]; exact (below_size HB.out) : w.heap.size ≤ gb212)); replace HB := ak_ (below_step HB.out hb); clear hb hbox hg; have hcz20_0 : w19.cell? ⟨gb212, 0, none⟩ = some (.int .i64 0) := (bc_ BK212.out 0).trans rfl; have hcz20_1 : w19.cell? ⟨gb212, 1, none⟩ = some (.int .i64 0) := (bc_ BK212.out 1).trans rfl; have hcz20_2 : w19.cell? ⟨gb212, 2, none⟩ = some (.int .i64 0) := (bc_ BK212.out 2).trans rfl; have hcz20_3 : w19.cell? ⟨gb212, 3, none⟩ = some (.int .i64 0) := (bc_ BK212.out 3).trans rfl; have hcz20_4 : w19.cell? ⟨gb212, 4, none⟩ = some (.int .i64 0) := (bc_ BK212.out 4).trans rfl; have hcz20_5 : w19.cell? ⟨gb212, 5, none⟩ = some (.int .i64 0) := (bc_ BK212.out 5).trans rfl; have hcz20_6 : w19.cell? ⟨gb212, 6, none⟩ = some (.int .i64 0) := (bc_ BK212.out 6).trans rfl; have hfz20_0 := bf_ BK212.out 0; have hfz20_1 := bf_ BK212.out 1; have hfz20_2 := bf_ BK212.out 2; have hfz20_3 := bf_ BK212.out 3; have hfz20_4 := bf_ BK212.out 4; have hfz20_5 := bf_ BK212.out 5; have hfz20_6 := bf_ BK212.out 6) | ((with_reducible refine gate_dst (N := 7) rfl ?_); (try (refine gate_guard (by rfl) ?_; dsimp only)); refine Kd.R_lit (Kd.int .u8) _ 5 ?hg (N := 7) ?hd (xs := ([1, 2, 3, 4] : List Int)) (inner := [.int .u8 1, .int .u8 2, .int .u8 3, .int .u8 4]) (ok := fun _ => True) (okp := fun _ => True) ?hr ?hp (fun _ hk => hk) trivial (Below.refl _ _) (Nat.le_refl _) (by simp) ?_; (case hd => rfl); (case hg => rfl); (case hr => (go_simp; done)); (case hp => exact (Reps.one (show Kd.M (Kd.int .u8) _ _ _ 1 [.int .u8 1] from rfl) (Reps.one (show Kd.M (Kd.int .u8) _ _ _ 2 [.int .u8 2] from rfl) (Reps.one (show Kd.M (Kd.int .u8) _ _ _ 3 [.int .u8 3] from rfl) (Reps.one (show Kd.M (Kd.int .u8) _ _ _ 4 [.int .u8 4] from rfl) (Reps.none _ _)))))); intro v214 w21 ho22 hb hg_ hnew_; clear hg_ hnew_; (rw [← Ny213.out] at ho22); have HO215 := ak_ (Kd.R_lower ho22 (below_size (by repeat (first | (with_reducible first | exact HB.out | apply below_alloc | apply pw_below_drewN | apply below_drew1 | refine below_set ?_ GE212.out) | exact HB.out)))); replace BK212 := ak_ (blk_below (put7 BK212.out) hb); replace HB := ak_ (below_step (by repeat (first | (with_reducible first | exact HB.out | apply below_alloc | apply pw_below_drewN | apply below_drew1 | refine below_set ?_ GE212.out) | exact HB.out)) hb); clear hb ho22; obtain ⟨Ao23, co23, eo23⟩ := Kd.R_slice HO215.out; subst eo23) | ((with_reducible refine gate_callee (f := 14) rfl ?_); refine goesL_ (some 9) rfl rfl Try.func14 (by kernel_rfl) rfl #[.agg #[.int .i64 1, .int .i64 2, .int .i64 4, .int .i64 1, .int .i64 4, .int .i64 1, .int .i64 1], .slice Ao23 y213.length co23, .agg #[.int .i64 1, .int .i64 0, .int .i64 0, .int .i64 0]] rfl (by (try simp only [List.map_toArray, List.map_cons, List.map_nil]); first | done | rfl | (simp only [List.length_drop, List.length_take]; rfl)) ?_; (with_reducible refine (page_Encode.calls k 1 2 4 1 4 1 1 (fun k_ => some k_ = (.slice Ao23 y213.length co23 : Value).ownBlock) _ _ y213 1 0 0 0 t216 t219 _ ?side1 A1.out).mono ?_); (case side1 => exact Kd.R_V (Kd.R_tight rfl (Kd.R_types (HO215.out) BK212.out (by decide)))); rintro e w24 ⟨v217, rfl, ho0, hb⟩; refine ⟨_, rfl, ?_⟩; have HO218 := ak_ (Kd.R_lower (Kd.R_new' (Kd.R_mono (ok' := fun k_ => True) ho0 (fun _ hk_ => trivial)) (Kd.R_lt HO215.out)) (below_size HB.out)); replace HO215 := ak_ (Kd.R_elder' HO215.out (Kd.R_base ho0) hb); replace BK212 := ak_ (blk_below BK212.out hb); replace HB := ak_ (below_step HB.out hb); (try clear hb); (try clear ho0)))
  go_ret
  exact ⟨by first | rfl | (simp [errW_none, errW_some] <;> rfl) | (simp [*, errW_none, errW_some] <;> rfl) | (have hz_ : ∀ z : Int, -9223372036854775808 ≤ z → z ≤ 9223372036854775807 → wrap64 z = z := (fun z h1_ h2_ => by unfold wrap64; omega); rw [hz_] <;> first | rfl | omega), by repeat (first | (with_reducible first | exact HB.out | apply below_alloc | apply pw_below_drewN | apply below_drew1 | refine below_set ?_ GE212.out) | exact HB.out)⟩
end Go.Proofs.Ytmehbabchakkpaa.QPageBack
