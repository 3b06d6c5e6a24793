import Derived.Test.YtmehbabchakkpaaMLadderWalksx14
namespace Go.Proofs.Ytmehbabchakkpaa.QLadderWalks
open Go.RowKit YtmehbabchakkpaaW.PrintWords YtmehbabchakkpaaW.PrintLast YtmehbabchakkpaaW.PrintMore Mono Box Go.Proofs.Ytmehbabchakkpaa.Read
set_option linter.unusedVariables false
set_option linter.unusedSimpArgs false
section
variable {P : Program} {ops : Array Oper} {rest : List Oper} {a : Act} {Q : Exit → Act → World → Prop}
theorem make_cell {W : World} {oa os : Oper} {p : Tmp} {T : TypeId} {old v : Value} (hda : oa.dst = some p) (hga : oa.guard = none) (hgs : os.guard = none) (hds : os.dst = none)
  (hrun : (execOp a.eval oa).run P W = .ok (.value (.pointer (some ⟨W.heap.size, 0, none⟩))) (W.alloc (.cells #[old] T (0, 0)))) (hp : p < a.tmps.size)
  (hst : ∀ (b : Act) (U : World) (g : Nat), b.tmps[p]? = some (.pointer (some ⟨g, 0, none⟩)) → U.cell? ⟨g, 0, none⟩ = some old → U.frozen? ⟨g, 0, none⟩ = false → (execOp b.eval os).run P U = .ok .skip (U.setCell ⟨g, 0, none⟩ v))
  (h : ∀ g W2, W.heap.size ≤ g → Ext W W2 → W2.heap[g]? = some (.cells #[v] T (0, 0)) → wpList P ops Q rest (a.put (some p) (.pointer (some ⟨g, 0, none⟩))) W2) : wpList P ops Q (oa :: os :: rest) a W := by
 refine Kd.event_run hga hrun ?_
 rw [hda]
 refine wpList_plain hgs fun K hK => ?_
 unfold Oper.wp
 rw [hst _ _ W.heap.size (by simp [Act.put, hp]) ((bc_ (blk_new W _) 0).trans rfl) (bf_ (blk_new W _) 0)]
 refine hK _ _ ?_
 rw [hds]
 exact h _ _ (Nat.le_refl _) (Below.setCell (below_alloc (Below.refl _ _) _) (Nat.le_refl _) _) (blk_put (blk_new W _) 0 v rfl)
end
theorem c_of_r {W : World} {base : Nat} {A : Option Addr} {c n : Nat} {xs : List Int} (h : Kd.R (Kd.int .u8) 5 W base (fun _ => True) (.slice A n c) xs) (hn : n = xs.length := by rfl) : xs.length ≤ c ∧ Kd.C (Kd.int .u8) W A xs.length xs := by
 obtain ⟨A', c', h1, h2, h3⟩ := Kd.R_reads h
 cases h1
 exact ⟨h2, h3⟩
def LW.walk (k : Nat) (a0 a1 a2 a3 a4 a5 a6 : Int) (ls : List (List Int)) (bad : Int) : Option (List Int × Int × Int × Int × Int × Int × Int × Int × Bool × Int) := (geom_Check.f a0 a1 a2 a3 a4 a5 a6).bind fun e => if e = 0 then LW.w0 k a0 a1 a2 a3 a4 a5 a6 ls bad 0 true 0 else some ([], 0, 0, 0, 0, 0, 0, 2, true, 0)
def LW.l0 : Nat → Int → Int → Int → Int → Int → Int → Int → List (List Int) → Int → Int → Int → Int → Int → List Int → Int → Int → Int → Int → Int → Option (Int × Int × Int × List Int × Int × Int × Int × Int × Int)
 | 0, _, _, _, _, _, _, _, _, _, _, _, _, _, _, _, _, _, _, _ => none
 | k + 1, a0, a1, a2, a3, a4, a5, a6, ls, bad, wt, ra, la, i, W, x2, x3, x4, x5, x6 => if i < a5 then (if wt = 30 then (if i < (ls.length : Int) then (if i = bad then LW.l0 k a0 a1 a2 a3 a4 a5 a6 ls bad 20 ra (wrap64 (i + 1)) (wrap64 (i + 1)) W x2 x3 x4 x5 x6 else (r08_Decode.f k a0 a1 a2 a3 a4 a5 a6 (ls.getD i.toNat [])).bind fun t => if t.2.2.2.2.2.2 = 0 then LW.l0 k a0 a1 a2 a3 a4 a5 a6 ls bad 0 i (wrap64 (i + 1)) (wrap64 (i + 1)) t.1 t.2.1 t.2.2.1 t.2.2.2.1 t.2.2.2.2.1 t.2.2.2.2.2.1 else if t.2.2.2.2.2.2 = 2 then LW.l0 k a0 a1 a2 a3 a4 a5 a6 ls bad 2 ra (wrap64 (i + 1)) (wrap64 (i + 1)) W x2 x3 x4 x5 x6 else LW.l0 k a0 a1 a2 a3 a4 a5 a6 ls bad 30 ra (wrap64 (i + 1)) (wrap64 (i + 1)) W x2 x3 x4 x5 x6) else LW.l0 k a0 a1 a2 a3 a4 a5 a6 ls bad 20 ra (wrap64 (i + 1)) (wrap64 (i + 1)) W x2 x3 x4 x5 x6) else some (wt, ra, la, W, x2, x3, x4, x5, x6)) else some (wt, ra, la, W, x2, x3, x4, x5, x6)
theorem LW_calls (k : Nat) (a0 a1 a2 a3 a4 a5 a6 : Int) (gO gA gL gB : Nat) (A0 : Option Addr) (c0 : Nat) (ls : List (List Int)) (bad : Int) (r1 : List Int) (r2 r3 r4 r5 r6 r7 r8 : Int) (rb : Bool) (rn : Int) (w0 w : World) (hC : Kd.C (Kd.slice 5 (Kd.int .u8)) w0 A0 ls.length ls) (hB : Below w0.heap.size w0 w) (ho : w0.heap.size ≤ gO) (ha : w0.heap.size ≤ gA) (hO : w.heap[gO]? = some (.cells #[.bool true] 4 (0, 0))) (hA : w.heap[gA]? = some (.cells #[.int .i64 0] 3 (0, 0))) (hL : w.heap[gL]? = some (.cells #[.slice A0 ls.length c0] 39 (0, 0))) (hD : w.heap[gB]? = some (.cells #[.int .u8 bad] 5 (0, 0))) (hd : 0 ≤ bad ∧ bad ≤ 255) (h : LW.walk k a0 a1 a2 a3 a4 a5 a6 ls bad = some (r1, r2, r3, r4, r5, r6, r7, r8, rb, rn)) :
  Calls Try.prog 27 #[.agg #[.int .i64 a0, .int .i64 a1, .int .i64 a2, .int .i64 a3, .int .i64 a4, .int .i64 a5, .int .i64 a6], .func (.func 28) #[] #[.pointer (some ⟨gO, 0, none⟩), .pointer (some ⟨gA, 0, none⟩), .pointer (some ⟨gL, 0, none⟩), .pointer (some ⟨gB, 0, none⟩)]] w fun e w' => ∃ v0_ : Value, e = .returned (.tuple #[.agg #[v0_, .int .i64 r2, .int .i64 r3, .int .i64 r4, .int .i64 r5, .int .i64 r6], .int .i64 r7, .int .i64 r8]) ∧ Kd.R (Kd.int .u8) 5 w' w.heap.size (fun _ => True) v0_ r1 ∧ ∃ V : World, Aside0 (V = two w gO gA rb rn) ∧ Below V.heap.size V w' := by
 obtain ⟨e0, hchk, h2⟩ := Option.bind_eq_some_iff.1 h
 by_cases he : e0 = 0
 ·rw [if_pos he] at h2
  subst he
  exact LW_walk k a0 a1 a2 a3 a4 a5 a6 gO gA gL gB A0 c0 ls bad r1 r2 r3 r4 r5 r6 r7 r8 rb rn w0 w hC hB ho ha hO hA hL hD hd hchk h2
 ·rw [if_neg he] at h2
  exact LW_none k a0 a1 a2 a3 a4 a5 a6 gO gA gL gB A0 c0 ls bad r1 r2 r3 r4 r5 r6 r7 r8 rb rn w0 w hC hB ho ha hO hA hL hD hd e0 he hchk (si_ h2)
set_option maxRecDepth 100000 in
set_option maxHeartbeats 4000000 in
theorem LadderWalks_core (k : Nat) (a0_0 a0_1 a0_2 a0_3 a0_4 a0_5 a0_6 : Int) (A1 : Option Addr) (c1 : Nat) (l1 : List (List Int)) (a2 : Int) (P : List Int) (p2 p3 p4 p5 p6 pr pe pn : Int) (fb rb : Bool) (w : World) (hr1 : Kd.C (Kd.slice 5 (Kd.int .u8)) w A1 l1.length l1) (hc1 : l1.length ≤ c1) (hd : 0 ≤ a2 ∧ a2 ≤ 255) (haw : l09_awake.f k = some true) (hfew : l09_few.f k a0_0 a0_1 a0_2 a0_3 a0_4 a0_5 a0_6 l1 = some fb) (hw : fb = true → LW.walk k a0_0 a0_1 a0_2 a0_3 a0_4 a0_5 a0_6 l1 a2 = some (P, p2, p3, p4, p5, p6, pr, pe, true, pn)) (hri : r04_Right.f a0_0 a0_1 a0_2 a0_3 a0_4 a0_5 a0_6 = some rb) (hbad : fb = true → rb = false → pe = 2 ∧ pn = 0 ∧ pr = 0 ∧ l09_Same.f k P p2 p3 p4 p5 p6 ([] : List Int) 0 0 0 0 0 = some true) (hq : fb = true → rb = true → ∃ (Q : List Int) (q2 q3 q4 q5 q6 : Int), LW.l0 k a0_0 a0_1 a0_2 a0_3 a0_4 a0_5 a0_6 l1 a2 30 0 0 0 [] 0 0 0 0 0 = some (pe, pr, pn, Q, q2, q3, q4, q5, q6) ∧ l09_Same.f k P p2 p3 p4 p5 p6 Q q2 q3 q4 q5 q6 = some true) :
  Calls Try.prog 5 #[.agg #[.int .i64 a0_0, .int .i64 a0_1, .int .i64 a0_2, .int .i64 a0_3, .int .i64 a0_4, .int .i64 a0_5, .int .i64 a0_6], .slice A1 l1.length c1, .int .u8 a2] w fun e w' => e = .returned (.bool true) ∧ Below w.heap.size w w' := by
 have HR1 := ak_ hr1
 have HL1 := ak_ hc1
 have HAW := ak_ haw
 have HBAD := ak_ hd
 clear hr1 hc1 haw hd
 have HFEW := ak_ hfew
 have HW0_ := ak_ hw
 have HRI := ak_ hri
 have HQ_ := ak_ hq
 have HZ_ := ak_ hbad
 clear hfew hw hri hq hbad
 go_enter Try.func5, Try.ntmps5
 go_upto_if 26 with (first | ((with_reducible refine gate_dst (N := 3) rfl ?_); refine box_event ?hg (N := 3) ?hd (cs := #[.int .i64 a0_0, .int .i64 a0_1, .int .i64 a0_2, .int .i64 a0_3, .int .i64 a0_4, .int .i64 a0_5, .int .i64 a0_6]) (t := 23) ?hr ?_; (case hd => rfl); (case hg => rfl); (case hr => first | (go_simp; done) | (go_simp; rfl)); intro g3 hg w1 hbox hb; clear hg; have hx_ := Ext.of hb; have E0 := ak_ hx_; have BK3 := ak_ hbox; have E3 := ak_ (Ext.refl w1); clear hbox hb hx_) | ((with_reducible refine gate_dst (N := 4) rfl ?_); refine box_event ?hg (N := 4) ?hd (cs := #[.slice A1 l1.length c1]) (t := 39) ?hr ?_; (case hd => rfl); (case hg => rfl); (case hr => first | (go_simp; done) | (go_simp; rfl)); intro g4 hg w2 hbox hb; clear hg; have hx_ := Ext.of hb; replace E0 := ak_ (E0.out.trans hx_); replace E3 := ak_ (E3.out.trans hx_); have BK4 := ak_ hbox; have E4 := ak_ (Ext.refl w2); clear hbox hb hx_) | ((with_reducible refine gate_dst (N := 5) rfl ?_); refine box_event ?hg (N := 5) ?hd (cs := #[.int .u8 a2]) (t := 5) ?hr ?_; (case hd => rfl); (case hg => rfl); (case hr => first | (go_simp; done) | (go_simp; rfl)); intro g5 hg w3 hbox hb; clear hg; have hx_ := Ext.of hb; replace E0 := ak_ (E0.out.trans hx_); replace E3 := ak_ (E3.out.trans hx_); replace E4 := ak_ (E4.out.trans hx_); have BK5 := ak_ hbox; have E5 := ak_ (Ext.refl w3); clear hbox hb hx_) | ((with_reducible refine gate_callee (f := 22) rfl ?_); (with_reducible refine gate_dst (N := 21) rfl ?_); refine goesL_ (some 21) rfl rfl Try.func22 (by kernel_rfl) rfl #[] rfl (by (try simp only [List.map_toArray, List.map_cons, List.map_nil]); first | done | rfl) ?_; (with_reducible refine (l09_awake.calls k true _ HAW.out).mono ?_); rintro e w4 ⟨rfl, hb⟩; refine ⟨_, rfl, ?_⟩; have hx_ := Ext.of hb; replace E0 := ak_ (E0.out.trans hx_); replace E3 := ak_ (E3.out.trans hx_); replace E4 := ak_ (E4.out.trans hx_); replace E5 := ak_ (E5.out.trans hx_); clear hb hx_; have z4_ : w4.cell? ⟨g4, 0, none⟩ = some (.slice A1 l1.length c1) := (bc_ (blk_ext BK4.out E4.out) 0).trans rfl) | ((with_reducible refine gate_dst (N := 23) rfl ?_); refine load_box rfl rfl g3 rfl (blk_ext BK3.out E3.out) Try.underlying23 rfl (by kernel_rfl) ?_) | ((with_reducible refine gate_callee (f := 23) rfl ?_); (with_reducible refine gate_dst (N := 25) rfl ?_); refine goesL_ (some 25) rfl rfl Try.func23 (by kernel_rfl) rfl #[.agg #[.int .i64 a0_0, .int .i64 a0_1, .int .i64 a0_2, .int .i64 a0_3, .int .i64 a0_4, .int .i64 a0_5, .int .i64 a0_6], .slice A1 l1.length c1] rfl (by (try simp only [List.map_toArray, List.map_cons, List.map_nil]); first | done | rfl) ?_; (with_reducible refine (l09_few.calls k a0_0 a0_1 a0_2 a0_3 a0_4 a0_5 a0_6 _ _ l1 fb _ (c_ext HR1.out E0.out) HL1.out HFEW.out).mono ?_); clear z4_; rintro e w5 ⟨rfl, hb⟩; refine ⟨_, rfl, ?_⟩; have hx_ := Ext.of hb; replace E0 := ak_ (E0.out.trans hx_); replace E3 := ak_ (E3.out.trans hx_); replace E4 := ak_ (E4.out.trans hx_); replace E5 := ak_ (E5.out.trans hx_); clear hb hx_))
 cases fb with
 | false =>
  go_wp2
  go_ret
  exact ⟨rfl, E0.out⟩
 | true =>
 have HW := ak_ (HW0_.out rfl)
 go_upto_if 36 with (first | ((with_reducible refine gate_dst (N := 7) rfl ?_); refine make_cell (p := 7) (T := 3) (old := .int .i64 0) (v := .int .i64 0) rfl rfl rfl rfl ?hr (Nat.le_of_ble_eq_true rfl) ?hst ?_; (case hr => first | (go_simp; done) | (go_simp; rfl)); (case hst => intro b_ U_ g_ e_ c_ f_; first | (go_simp; done) | (go_simp; rfl)); intro g7 w6 hge_ hx_ hbox_; have BK3 := ak_ (blk_ext BK3.out E3.out); have BK4 := ak_ (blk_ext BK4.out E4.out); have BK5 := ak_ (blk_ext BK5.out E5.out); have HR1 := ak_ (c_ext HR1.out E0.out); have GE7 := ak_ (show w5.heap.size ≤ g7 from hge_); have EM := ak_ (show Ext w5 w6 from hx_); clear E3 E4 E5; have BK7 := ak_ hbox_; have E7 := ak_ (Ext.refl w6); clear hge_ hx_ hbox_) | ((with_reducible refine gate_dst (N := 8) rfl ?_); refine make_cell (p := 8) (T := 4) (old := .bool false) (v := .bool true) rfl rfl rfl rfl ?hr (Nat.le_of_ble_eq_true rfl) ?hst ?_; (case hr => first | (go_simp; done) | (go_simp; rfl)); (case hst => intro b_ U_ g_ e_ c_ f_; first | (go_simp; done) | (go_simp; rfl)); intro g8 w7 hge_ hx_ hbox_; have GE8 := ak_ (show w5.heap.size ≤ g8 from Nat.le_trans EM.out.size hge_); replace EM := ak_ (EM.out.trans hx_); replace E7 := ak_ (E7.out.trans hx_); have BK8 := ak_ hbox_; have E8 := ak_ (Ext.refl w7); clear hge_ hx_ hbox_) | ((with_reducible refine gate_dst (N := 28) rfl ?_); refine load_box rfl rfl g3 rfl (blk_ext BK3.out EM.out) Try.underlying23 rfl (by kernel_rfl) ?_) | ((with_reducible refine gate_callee (f := 27) rfl ?_); (with_reducible refine gate_dst (N := 30) rfl ?_); refine goesL_ (some 30) rfl rfl Try.func27 (by kernel_rfl) rfl #[.agg #[.int .i64 a0_0, .int .i64 a0_1, .int .i64 a0_2, .int .i64 a0_3, .int .i64 a0_4, .int .i64 a0_5, .int .i64 a0_6], .func (.func 28) #[] #[.pointer (some ⟨g8, 0, none⟩), .pointer (some ⟨g7, 0, none⟩), .pointer (some ⟨g4, 0, none⟩), .pointer (some ⟨g5, 0, none⟩)]] rfl (by (try simp only [List.map_toArray, List.map_cons, List.map_nil]); first | done | rfl) ?_; (with_reducible refine (LW_calls k a0_0 a0_1 a0_2 a0_3 a0_4 a0_5 a0_6 g8 g7 g4 g5 A1 c1 l1 a2 P p2 p3 p4 p5 p6 pr pe true pn w5 _ HR1.out EM.out.below GE8.out GE7.out (blk_ext BK8.out E8.out) (blk_ext BK7.out E7.out) (blk_ext BK4.out EM.out) (blk_ext BK5.out EM.out) HBAD.out HW.out).mono ?_); rintro e w8 ⟨v_, rfl, hR_, V_, ⟨hV_⟩, hb⟩; refine ⟨_, rfl, ?_⟩; have ne_ := blk_ne (blk_ext BK8.out E8.out) (blk_ext BK7.out E7.out) (by decide); have o_ := two_getO hV_ hb (blk_ext BK8.out E8.out) ne_; have n_ := two_getA hV_ hb (blk_ext BK7.out E7.out) ne_; have x_ := two_base hV_ hb EM.out GE8.out GE7.out; obtain ⟨Ap, cp, rfl, hl_, hC_⟩ := Kd.R_reads hR_; clear EM E7 E8 BK7 BK8; have HCP := ak_ hC_; have HLP := ak_ hl_; have EM := ak_ (show Ext w5 w8 from x_); have BK8 := ak_ o_; have BK7 := ak_ n_; have E9 := ak_ (Ext.refl w8); clear hR_ hV_ hb ne_ o_ n_ x_ hl_ hC_) | ((with_reducible refine gate_dst (N := 9) rfl ?_); refine make_box (p := 9) (v := 31) (T := 42) (old := #[.slice none 0 0, .int .i64 0, .int .i64 0, .int .i64 0, .int .i64 0, .int .i64 0]) (cs := #[.slice Ap P.length cp, .int .i64 p2, .int .i64 p3, .int .i64 p4, .int .i64 p5, .int .i64 p6]) rfl rfl rfl rfl rfl ?hr (Nat.le_of_ble_eq_true rfl) (by decide) rfl rfl (by kernel_rfl) (by rfl) ?_; (case hr => first | (go_simp; done) | (go_simp; rfl)); intro g9 w9 hge_ hx_ hbox_; replace EM := ak_ (EM.out.trans hx_); replace E9 := ak_ (E9.out.trans hx_); have BK9 := ak_ hbox_; have E10 := ak_ (Ext.refl w9); clear hge_ hx_ hbox_) | ((with_reducible refine gate_dst (N := 34) rfl ?_); refine load_box rfl rfl g3 rfl (blk_ext BK3.out EM.out) Try.underlying23 rfl (by kernel_rfl) ?_) | ((with_reducible refine gate_callee (f := 18) rfl ?_); (with_reducible refine gate_dst (N := 35) rfl ?_); refine goesL_ (some 35) rfl rfl Try.func18 (by kernel_rfl) rfl #[.agg #[.int .i64 a0_0, .int .i64 a0_1, .int .i64 a0_2, .int .i64 a0_3, .int .i64 a0_4, .int .i64 a0_5, .int .i64 a0_6]] rfl (by (try simp only [List.map_toArray, List.map_cons, List.map_nil]); first | done | rfl) ?_; (with_reducible refine (r04_Right.calls a0_0 a0_1 a0_2 a0_3 a0_4 a0_5 a0_6 rb _ HRI.out).mono ?_); rintro e w10 ⟨rfl, hb⟩; refine ⟨_, rfl, ?_⟩; have hx_ := Ext.of hb; replace EM := ak_ (EM.out.trans hx_); replace E9 := ak_ (E9.out.trans hx_); replace E10 := ak_ (E10.out.trans hx_); clear hb hx_))
 cases rb with
 | false =>
  obtain ⟨rfl, rfl, rfl, hs⟩ := HZ_.out rfl rfl
  have HS := ak_ hs
  clear hs
  have z7_ : w10.cell? ⟨g7, 0, none⟩ = some (.int .i64 0) := (bc_ (blk_ext BK7.out E9.out) 0).trans rfl
  go_wp2_with (first | ((with_reducible refine gate_dst (N := 44) rfl ?_); (refine gate_guard (by rfl) ?_; dsimp only); refine load_box rfl rfl g9 rfl (blk_ext BK9.out E10.out) Try.underlying42 rfl (by kernel_rfl) ?_) | ((with_reducible refine gate_callee (f := 26) rfl ?_); (with_reducible refine gate_dst (N := 46) rfl ?_); (refine gate_guard (by rfl) ?_; dsimp only); refine goesL_ (some 46) rfl rfl Try.func26 (by kernel_rfl) rfl #[.agg #[.slice Ap P.length cp, .int .i64 p2, .int .i64 p3, .int .i64 p4, .int .i64 p5, .int .i64 p6], .agg #[.slice none 0 0, .int .i64 0, .int .i64 0, .int .i64 0, .int .i64 0, .int .i64 0]] rfl (by (try simp only [List.map_toArray, List.map_cons, List.map_nil]); first | done | rfl) ?_; have hc_ := l09_Same.calls k _ _ P p2 p3 p4 p5 p6 _ _ ([] : List Int) 0 0 0 0 0 true _ (c_ext HCP.out E9.out) HLP.out (Kd.C_nil _ _) (Nat.le_refl _) HS.out; rw [show ([] : List Int).length = 0 from rfl] at hc_; (with_reducible refine (hc_).mono ?_); rintro e w31 ⟨rfl, hb⟩; refine ⟨_, rfl, ?_⟩; have hx_ := Ext.of hb; replace EM := ak_ (EM.out.trans hx_); replace E9 := ak_ (E9.out.trans hx_); replace E10 := ak_ (E10.out.trans hx_); clear hb hx_))
  go_ret
  exact ⟨rfl, E0.out.trans EM.out⟩
 | true =>
 obtain ⟨Q, q2, q3, q4, q5, q6, hl, hs⟩ := HQ_.out rfl rfl
 have H' := ak_ hl
 have HS := ak_ hs
 clear hl hs
 go_wp2_with ((with_reducible refine gate_dst (N := 15) rfl ?_); refine box_event ?hg (N := 15) ?hd (cs := #[.slice none 0 0, .int .i64 0, .int .i64 0, .int .i64 0, .int .i64 0, .int .i64 0]) (t := 42) ?hr ?_; (case hd => rfl); (case hg => rfl); (case hr => first | (go_simp; done) | (go_simp; rfl)); intro g15 hg w11 hbox hb; have BK3 := ak_ (blk_ext BK3.out EM.out); have BK4 := ak_ (blk_ext BK4.out EM.out); have BK5 := ak_ (blk_ext BK5.out EM.out); have BK7 := ak_ (blk_ext BK7.out E9.out); have BK8 := ak_ (blk_ext BK8.out E9.out); have BK9 := ak_ (blk_ext BK9.out E10.out); have HCP := ak_ (c_ext HCP.out E9.out); have HR1 := ak_ (c_ext HR1.out EM.out); have E0 := ak_ (E0.out.trans EM.out); have GE15 := ak_ (show w10.heap.size ≤ g15 from by rw [hg]; exact Nat.le_refl _); have EL := ak_ (show Ext w10 w11 from Ext.of hb); have BK15 := ak_ hbox; clear EM E9 E10 hg hbox hb)
 go_loopg [12, 13, 14, 16] k (fun kq v12 v13 v14 v16 wr => ∃ (wt ra la i : Int) (Aw : Option Addr) (cw : Nat) (Wl : List Int) (x2 x3 x4 x5 x6 : Int), v12 = .int .i64 wt ∧ v13 = .int .i64 ra ∧ v14 = .int .i64 la ∧ v16 = .int .i64 i ∧ Aside0 (wt = 30 → 0 ≤ i) ∧ Aside0 (LW.l0 kq a0_0 a0_1 a0_2 a0_3 a0_4 a0_5 a0_6 l1 a2 wt ra la i Wl x2 x3 x4 x5 x6 = some (pe, pr, pn, Q, q2, q3, q4, q5, q6)) ∧ Aside0 (kq ≤ k) ∧ Aside0 (wr.heap[g15]? = some (.cells #[.slice Aw Wl.length cw, .int .i64 x2, .int .i64 x3, .int .i64 x4, .int .i64 x5, .int .i64 x6] 42 (0, 0))) ∧ Aside0 (Kd.C (Kd.int .u8) wr Aw Wl.length Wl) ∧ Aside0 (Wl.length ≤ cw) ∧ Aside0 (Ext w10 wr))
 case atStart => exact ⟨30, 0, 0, 0, none, 0, [], 0, 0, 0, 0, 0, rfl, rfl, rfl, rfl, ⟨fun _ => Int.le_refl _⟩, H', ⟨Nat.le_refl _⟩, BK15, ⟨Kd.C_nil _ _⟩, ⟨Nat.le_refl _⟩, EL⟩
 case round =>
  clear H' EL BK15
  obtain ⟨wt, ra, la, i, Aw, cw, Wl, x2, x3, x4, x5, x6, rfl, rfl, rfl, rfl, HI0, HR_, HK1, BK15, HCW, HLW, EL⟩ := hrel
  cases gk with
  | zero => exact absurd HR_.out (by simp [LW.l0])
  | succ k1 =>
   have H := HR_.out
   clear HR_
   simp only [LW.l0] at H
   have z5_ : wr.cell? ⟨g3, 5, none⟩ = some (.int .i64 a0_5) := (bc_ (blk_ext BK3.out EL.out) 5).trans rfl
   by_cases ci : i < a0_5
   ·rw [if_pos ci] at H
    have ci_ : decide (i < a0_5) = true := dt_ ci
    by_cases cw_ : wt = 30
    ·rw [if_pos cw_] at H
     subst cw_
     have HI := ak_ (HI0.out rfl)
     clear HI0
     have b1_ : 0 ≤ a2 := HBAD.out.1
     have b2_ : a2 ≤ 255 := HBAD.out.2
     have z4_ : wr.cell? ⟨g4, 0, none⟩ = some (.slice A1 l1.length c1) := (bc_ (blk_ext BK4.out EL.out) 0).trans rfl
     have z6_ : wr.cell? ⟨g5, 0, none⟩ = some (.int .u8 a2) := (bc_ (blk_ext BK5.out EL.out) 0).trans rfl
     by_cases c2 : i < (l1.length : Int)
     ·rw [if_pos c2] at H
      have d1_ : decide (i ≥ (l1.length : Int)) = false := df_ (by omega)
      have d2_ : decide ((l1.length : Int) ≤ i) = false := df_ (by omega)
      by_cases cb : i = a2
      ·rw [if_pos cb] at H
       have d7_ : (i == a2) = true := beq_iff_eq.2 cb
       clear cb
       have HN := ak_ H
       clear H
       go_wp2
       go_roundg k1
       case measure => have := HK1.out; omega
       case rel => exact ⟨20, ra, _, _, Aw, cw, Wl, x2, x3, x4, x5, x6, rfl, rfl, rfl, rfl, ⟨fun h => absurd h (by decide)⟩, HN, ⟨by have := HK1.out; omega⟩, BK15, HCW, HLW, EL⟩
      ·rw [if_neg cb] at H
       have d7_ : (i == a2) = false := beq_eq_false_iff_ne.2 cb
       obtain ⟨⟨D, d2, d3, d4, d5, d6, d7⟩, hdec, HN_⟩ := Option.bind_eq_some_iff.1 H
       clear H
       dsimp only at HN_
       obtain ⟨x, hx_⟩ : ∃ x, l1.getD i.toNat [] = x := ⟨_, rfl⟩
       rw [hx_] at hdec
       have HD := ak_ hdec
       obtain ⟨ad, Ax, cx, rfl, hx2, hl2, hc2⟩ := ladder_Climb_at HR1.out i HI.out c2
       rw [hx_] at hx2 hl2 hc2
       have HX := ak_ hx2
       have HLX := ak_ hl2
       have HCX := ak_ hc2
       have HIL := ak_ c2
       have hmax := HR1.out.2.1
       unfold maxLen at hmax
       have HW0 : Aside0 (0 ≤ wrap64 (i + 1)) := ⟨by have := HI.out; unfold wrap64; omega⟩
       clear hmax
       clear hdec hx_ hx2 hl2 hc2 c2 cb
       have ER := ak_ (Ext.refl wr)
       go_upto_region 19 with (fail)
       (try simp only [Act.put, sb_, sz_, su_])
       clear z4_ z5_ z6_ d1_ d2_ d7_ ci_ b1_ b2_
       refine mono_region_store (fun j_ => ([(Is (.agg #[.int .i64 a0_0, .int .i64 a0_1, .int .i64 a0_2, .int .i64 a0_3, .int .i64 a0_4, .int .i64 a0_5, .int .i64 a0_6])), (Is (.slice (some ad) l1.length c1)), (Is (.int .i64 i)), (Is (.pointer (some (ad.add i.toNat)))), (Is (.slice Ax x.length cx)), (RowR (Kd.int .u8) 5 wr.heap.size D (fun u => .tuple #[u, .agg #[.int .i64 d2, .int .i64 d3, .int .i64 d4, .int .i64 d5], .int .i64 d6, .int .i64 d7])), (RowR (Kd.int .u8) 5 wr.heap.size D (fun u => .tuple #[u, .agg #[.int .i64 d2, .int .i64 d3, .int .i64 d4, .int .i64 d5], .int .i64 d6, .int .i64 d7])), (RowR (Kd.int .u8) 5 wr.heap.size D (fun u => u)), (Is (.agg #[.int .i64 d2, .int .i64 d3, .int .i64 d4, .int .i64 d5])), (Is (.int .i64 d6)), (Is (.int .i64 d7)), (AllocF wr 26 #[.int .i64 0, .int .i64 0, .int .i64 0, .int .i64 0]), (RowR (Kd.int .u8) 5 wr.heap.size D (fun u => u)), (fun _ _ => True), (Is (.int .i64 d6)), (Is (.int .i64 d7))] : List (Value → World → Prop)).getD j_ (fun _ _ => True)) (StoreB 18 82 26 #[.int .i64 0, .int .i64 0, .int .i64 0, .int .i64 0]) 13 [0, 1, 2, 3, 4, 5, 6, 7, 8, 11, 12] [9, 10, 14, 15] [75, 76, 77, 78, 79, 80, 74, 81, 82, 83, 84, 18, 17, 19, 20] (by kernel_rfl) (by kernel_rfl) (by kernel_rfl) (by kernel_rfl) ?_ (storeB_cong (ip := 11) (iv := 8) (by kernel_rfl) rfl (by kernel_rfl) rfl) ?_ ?_ ?_ ?_
       ·intro i
        match i with
        | 0 => exact stable_is _
        | 1 => exact stable_is _
        | 2 => exact stable_is _
        | 3 => exact stable_is _
        | 4 => exact stable_is _
        | 5 => exact stable_rowR _ _ _ _ _
        | 6 => exact stable_rowR _ _ _ _ _
        | 7 => exact stable_rowR _ _ _ _ _
        | 8 => exact stable_is _
        | 9 => exact stable_is _
        | 10 => exact stable_is _
        | 11 => exact stable_alloc _ _ _
        | 12 => exact stable_rowR _ _ _ _ _
        | 13 => exact fun _ _ _ _ _ => trivial
        | 14 => exact stable_is _
        | 15 => exact stable_is _
        | _ + 16 => exact fun _ _ _ _ _ => trivial
       ·show ∀ i ∈ [0, 1, 2, 3, 4, 5, 6, 7, 8, 11, 12], _
        refine msteps_cons ?_ ?_
        ·exact load_out g3 rfl rfl rfl rfl rfl (blk_ext BK3.out EL.out) Try.underlying23 rfl (by kernel_rfl) (fun _ => rfl)
        refine msteps_cons ?_ ?_
        ·intro a w' hx hfr hk
         have e4 : a.tmps[4]? = some (.pointer (some ⟨g4, 0, none⟩)) := (hfr.off 4 rfl).trans rfl
         clear hk hfr
         refine ⟨_, rfl, fun K hK => ?_⟩
         have hc_ : w'.cell? ⟨g4, 0, none⟩ = some (.slice (some ad) l1.length c1) := (bc_ (blk_ext BK4.out (EL.out.trans hx)) 0).trans rfl
         refine value_ (w1 := w') (v := .slice (some ad) l1.length c1) (by rfl) rfl ?_ (hK _ _ (show _ = _ from rfl) (Ext.refl _))
         go_simp
         (try simp only [i64_w])
         try rfl
        refine msteps_cons ?_ ?_
        ·exact PStep.m (mv_out ((.int .i64 i)) rfl rfl (.inl rfl) rfl rfl (fun _ _ => rfl))
        refine msteps_cons ?_ ?_
        ·intro a w' hx hfr hk
         obtain ⟨v_, e76, h_⟩ := hk 1 76 (by kernel_rfl) rfl
         replace h_ : v_ = .slice (some ad) l1.length c1 := h_
         subst h_
         obtain ⟨v_, e77, h_⟩ := hk 2 77 (by kernel_rfl) rfl
         replace h_ : v_ = .int .i64 i := h_
         subst h_
         clear hk hfr
         refine ⟨_, rfl, fun K hK => ?_⟩
         have p_ : (0 ≤ i) = True := eq_true HI.out
         have q_ : (i < (l1.length : Int)) = True := eq_true HIL.out
         refine value_ (w1 := w') (v := .pointer (some (ad.add i.toNat))) (by rfl) rfl ?_ (hK _ _ (show _ = _ from rfl) (Ext.refl _))
         go_simp
         (try simp only [i64_w])
         try rfl
        refine msteps_cons ?_ ?_
        ·intro a w' hx hfr hk
         obtain ⟨v_, e78, h_⟩ := hk 3 78 (by kernel_rfl) rfl
         replace h_ : v_ = .pointer (some (ad.add i.toNat)) := h_
         subst h_
         clear hk hfr
         refine ⟨_, rfl, fun K hK => ?_⟩
         have hc_ := cell_ext HX.out (EL.out.trans hx)
         refine value_ (w1 := w') (v := .slice Ax x.length cx) (by rfl) rfl ?_ (hK _ _ (show _ = _ from rfl) (Ext.refl _))
         go_simp
         (try simp only [i64_w])
         try rfl
        refine msteps_cons ?_ ?_
        ·intro a w' hx hfr hk
         obtain ⟨v_, e75, h_⟩ := hk 0 75 (by kernel_rfl) rfl
         replace h_ : v_ = .agg #[.int .i64 a0_0, .int .i64 a0_1, .int .i64 a0_2, .int .i64 a0_3, .int .i64 a0_4, .int .i64 a0_5, .int .i64 a0_6] := h_
         subst h_
         obtain ⟨v_, e79, h_⟩ := hk 4 79 (by kernel_rfl) rfl
         replace h_ : v_ = .slice Ax x.length cx := h_
         subst h_
         clear hk hfr
         refine ⟨_, rfl, fun K hK => ?_⟩
         refine goes_ Try.func29 (by kernel_rfl) rfl #[.agg #[.int .i64 a0_0, .int .i64 a0_1, .int .i64 a0_2, .int .i64 a0_3, .int .i64 a0_4, .int .i64 a0_5, .int .i64 a0_6], .slice Ax x.length cx] (by rfl) rfl rfl (by simp only [List.map_toArray, List.map_cons, List.map_nil, Act.eval, Array.getD_eq_getD_getElem?, Option.getD_some, e75, e79]; first | done | rfl) ?_
         (with_reducible refine (r08_Decode.calls k1 a0_0 a0_1 a0_2 a0_3 a0_4 a0_5 a0_6 _ _ x D d2 d3 d4 d5 d6 d7 _ (c_ext HCX.out (EL.out.trans hx)) HLX.out HD.out).mono ?_)
         rintro e w1 ⟨v_, rfl, hR_, hb_⟩
         exact ⟨_, rfl, hK _ _ ⟨v_, rfl, Kd.R_lower hR_ hx.size⟩ hb_⟩
        refine msteps_cons ?_ ?_
        ·exact PStep.m (mv_in (5) rfl rfl (.inl rfl) (by kernel_rfl) rfl (fun _ _ h => h))
        refine msteps_cons ?_ ?_
        ·exact PStep.m (ex_in (6) rfl rfl rfl (by kernel_rfl) rfl (fun v w ⟨u, h1, h2⟩ => ⟨_, _, h1, rfl, ⟨u, rfl, h2⟩⟩))
        refine msteps_cons ?_ ?_
        ·exact PStep.m (ex_in (6) rfl rfl rfl (by kernel_rfl) rfl (fun v w ⟨u, h1, h2⟩ => ⟨_, _, h1, rfl, rfl⟩))
        refine msteps_cons ?_ ?_
        ·exact alloc_step rfl rfl rfl (fun b W => by first | (go_simp; done) | (go_simp; rfl))
        refine msteps_cons ?_ ?_
        ·exact PStep.m (mv_in (7) rfl rfl (.inr rfl) (by kernel_rfl) rfl (fun _ _ h => h))
        exact msteps_nil
       ·show ∀ i ∈ [9, 10, 14, 15], _
        refine psteps_cons ?_ ?_
        ·exact ex_in (6) rfl rfl rfl (by kernel_rfl) rfl (fun v w ⟨u, h1, h2⟩ => ⟨_, _, h1, rfl, rfl⟩)
        refine psteps_cons ?_ ?_
        ·exact ex_in (6) rfl rfl rfl (by kernel_rfl) rfl (fun v w ⟨u, h1, h2⟩ => ⟨_, _, h1, rfl, rfl⟩)
        refine psteps_cons ?_ ?_
        ·exact mv_in (9) rfl rfl (.inr rfl) (by kernel_rfl) rfl (fun _ _ h => h)
        refine psteps_cons ?_ ?_
        ·exact mv_in (10) rfl rfl (.inr rfl) (by kernel_rfl) rfl (fun _ _ h => h)
        exact psteps_nil
       ·exact store_step (ip := 11) (iv := 8) rfl rfl rfl rfl (by kernel_rfl) rfl (by kernel_rfl) rfl rfl (fun v w h1 => ⟨_, h1, rfl, rfl⟩) (by kernel_rfl)
       ·rintro val wf w41 hx hF ⟨g18, cs_, e18, f_, hb_, hp_⟩
        have e75 : val 75 = (.agg #[.int .i64 a0_0, .int .i64 a0_1, .int .i64 a0_2, .int .i64 a0_3, .int .i64 a0_4, .int .i64 a0_5, .int .i64 a0_6]) := hF 0 75 rfl
        have e76 : val 76 = (.slice (some ad) l1.length c1) := hF 1 76 rfl
        have e77 : val 77 = (.int .i64 i) := hF 2 77 rfl
        have e78 : val 78 = (.pointer (some (ad.add i.toNat))) := hF 3 78 rfl
        have e79 : val 79 = (.slice Ax x.length cx) := hF 4 79 rfl
        obtain ⟨u80, e80, _⟩ := hF 5 80 rfl
        obtain ⟨u74, e74, _⟩ := hF 6 74 rfl
        obtain ⟨u81, e81, _⟩ := hF 7 81 rfl
        have e82 : val 82 = (.agg #[.int .i64 d2, .int .i64 d3, .int .i64 d4, .int .i64 d5]) := hF 8 82 rfl
        have e83 : val 83 = (.int .i64 d6) := hF 9 83 rfl
        have e84 : val 84 = (.int .i64 d7) := hF 10 84 rfl
        obtain ⟨u17, e17, r17_⟩ := hF 12 17 rfl
        have e19 : val 19 = (.int .i64 d6) := hF 14 19 rfl
        have e20 : val 20 = (.int .i64 d7) := hF 15 20 rfl
        obtain ⟨g_, eg_, hge_, _⟩ := hF 11 18 rfl
        obtain rfl : g18 = g_ := by have h_ := e18.symm.trans eg_; injection h_ with h_; injection h_ with h_; injection h_
        have h_ := f_.symm.trans e82
        injection h_ with h_
        subst h_
        have hx_ := hp_.ext _ hge_ hx
        replace EL := ak_ (EL.out.trans hx_)
        replace ER := ak_ (ER.out.trans hx_)
        have rr_ := r_put r17_ hb_ (by decide) hp_
        obtain ⟨Ad, cd, rfl, hl_, hC_⟩ := Kd.R_reads rr_
        have HRD := ak_ rr_
        have HLD := ak_ hl_
        have BK18 := ak_ hp_.here
        have ED := ak_ (Ext.refl w41)
        clear rr_ r17_ hl_ hC_
        clear hF hx hx_ f_ eg_ hge_ hb_ hp_
        simp only [putT, List.foldl_cons, List.foldl_nil, Act.put, sb_, sz_, su_, e75, e76, e77, e78, e79, e80, e74, e81, e82, e83, e84, e18, e17, e19, e20]
        clear e75 e76 e77 e78 e79 e80 e74 e81 e82 e83 e84 e18 e17 e19 e20
        have BK15 := ak_ (blk_ext BK15.out ER.out)
        by_cases e0 : d7 = 0
        ·rw [if_pos e0] at HN_
         subst e0
         have HN := ak_ HN_
         clear HN_
         have y0_ := bc_ BK15.out 0
         have y1_ := bc_ BK15.out 1
         have y2_ := bc_ BK15.out 2
         have y3_ := bc_ BK15.out 3
         have y4_ := bc_ BK15.out 4
         have y5_ := bc_ BK15.out 5
         have yf0_ := bf_ BK15.out 0
         have yf1_ := bf_ BK15.out 1
         have yf2_ := bf_ BK15.out 2
         have yf3_ := bf_ BK15.out 3
         have yf4_ := bf_ BK15.out 4
         have yf5_ := bf_ BK15.out 5
         go_wp2_with ((with_reducible refine gate_dst (N := 88) rfl ?_); refine load_box rfl rfl g18 rfl BK18.out Try.underlying26 rfl (by kernel_rfl) ?_)
         go_roundg k1
         case measure => have := HK1.out; omega
         case rel => exact ⟨0, i, _, _, Ad, cd, D, d2, d3, d4, d5, d6, rfl, rfl, rfl, rfl, ⟨fun _ => HW0.out⟩, HN, ⟨by have := HK1.out; omega⟩, ⟨ladder_Climb_put6 BK15.out _ _ _ _ _ _⟩, ⟨(c_of_r (ladder_Climb_R6 HRD.out BK15.out _ _ _ _ _ _)).2⟩, HLD, ⟨ladder_Climb_below6 EL.out GE15.out _ _ _ _ _ _⟩⟩
        ·rw [if_neg e0] at HN_
         have f0_ : (d7 == 0) = false := beq_eq_false_iff_ne.2 e0
         by_cases e2 : d7 = 2
         ·rw [if_pos e2] at HN_
          subst e2
          have HN := ak_ HN_
          clear HN_ e0
          go_wp2
          go_roundg k1
          case measure => have := HK1.out; omega
          case rel => exact ⟨2, ra, _, _, Aw, cw, Wl, x2, x3, x4, x5, x6, rfl, rfl, rfl, rfl, ⟨fun _ => HW0.out⟩, HN, ⟨by have := HK1.out; omega⟩, BK15, ⟨c_ext HCW.out ER.out⟩, HLW, EL⟩
         ·rw [if_neg e2] at HN_
          have f2_ : (d7 == 2) = false := beq_eq_false_iff_ne.2 e2
          have HN := ak_ HN_
          clear HN_ e0 e2
          go_wp2
          go_roundg k1
          case measure => have := HK1.out; omega
          case rel => exact ⟨30, ra, _, _, Aw, cw, Wl, x2, x3, x4, x5, x6, rfl, rfl, rfl, rfl, ⟨fun _ => HW0.out⟩, HN, ⟨by have := HK1.out; omega⟩, BK15, ⟨c_ext HCW.out ER.out⟩, HLW, EL⟩
     ·rw [if_neg c2] at H
      have d1_ : decide (i ≥ (l1.length : Int)) = true := dt_ (by omega)
      have d2_ : decide ((l1.length : Int) ≤ i) = true := dt_ (by omega)
      have HN := ak_ H
      clear H
      go_wp2
      go_roundg k1
      case measure => have := HK1.out; omega
      case rel => exact ⟨20, ra, _, _, Aw, cw, Wl, x2, x3, x4, x5, x6, rfl, rfl, rfl, rfl, ⟨fun h => absurd h (by decide)⟩, HN, ⟨by have := HK1.out; omega⟩, BK15, HCW, HLW, EL⟩
    ·rw [if_neg cw_] at H
     have f0_ : (wt == 30) = false := beq_eq_false_iff_ne.2 cw_
     clear cw_
     obtain ⟨rfl, rfl, rfl, rfl, rfl, rfl, rfl, rfl, rfl⟩ : wt = pe ∧ ra = pr ∧ la = pn ∧ Wl = Q ∧ x2 = q2 ∧ x3 = q3 ∧ x4 = q4 ∧ x5 = q5 ∧ x6 = q6 := by simpa only [Prod.mk.injEq] using si_ H
     clear H
     have z8_ : wr.cell? ⟨g8, 0, none⟩ = some (.bool true) := (bc_ (blk_ext BK8.out EL.out) 0).trans rfl
     have z7_ : wr.cell? ⟨g7, 0, none⟩ = some (.int .i64 la) := (bc_ (blk_ext BK7.out EL.out) 0).trans rfl
     go_wp2_with (first | ((with_reducible refine gate_dst (N := 106) rfl ?_); (refine gate_guard (by rfl) ?_; dsimp only); refine load_box rfl rfl g9 rfl (blk_ext BK9.out EL.out) Try.underlying42 rfl (by kernel_rfl) ?_) | ((with_reducible refine gate_dst (N := 107) rfl ?_); (refine gate_guard (by rfl) ?_; dsimp only); refine load_box rfl rfl g15 rfl BK15.out Try.underlying42 rfl (by kernel_rfl) ?_) | ((with_reducible refine gate_callee (f := 26) rfl ?_); (with_reducible refine gate_dst (N := 108) rfl ?_); (refine gate_guard (by rfl) ?_; dsimp only); refine goesL_ (some 108) rfl rfl Try.func26 (by kernel_rfl) rfl #[.agg #[.slice Ap P.length cp, .int .i64 p2, .int .i64 p3, .int .i64 p4, .int .i64 p5, .int .i64 p6], .agg #[.slice Aw Wl.length cw, .int .i64 x2, .int .i64 x3, .int .i64 x4, .int .i64 x5, .int .i64 x6]] rfl (by (try simp only [List.map_toArray, List.map_cons, List.map_nil]); first | done | rfl) ?_; (with_reducible refine (l09_Same.calls k _ _ P p2 p3 p4 p5 p6 _ _ Wl x2 x3 x4 x5 x6 true _ (c_ext HCP.out EL.out) HLP.out HCW.out HLW.out HS.out).mono ?_); rintro e w61 ⟨rfl, hb⟩; refine ⟨_, rfl, ?_⟩; have hx_ := Ext.of hb; replace EL := ak_ (EL.out.trans hx_); clear hb hx_))
     go_ret
     exact ⟨rfl, E0.out.trans EL.out⟩
   ·rw [if_neg ci] at H
    have ci_ : decide (i < a0_5) = false := df_ ci
    obtain ⟨rfl, rfl, rfl, rfl, rfl, rfl, rfl, rfl, rfl⟩ : wt = pe ∧ ra = pr ∧ la = pn ∧ Wl = Q ∧ x2 = q2 ∧ x3 = q3 ∧ x4 = q4 ∧ x5 = q5 ∧ x6 = q6 := by simpa only [Prod.mk.injEq] using si_ H
    clear H
    have z8_ : wr.cell? ⟨g8, 0, none⟩ = some (.bool true) := (bc_ (blk_ext BK8.out EL.out) 0).trans rfl
    have z7_ : wr.cell? ⟨g7, 0, none⟩ = some (.int .i64 la) := (bc_ (blk_ext BK7.out EL.out) 0).trans rfl
    go_wp2_with (first | ((with_reducible refine gate_dst (N := 106) rfl ?_); (refine gate_guard (by rfl) ?_; dsimp only); refine load_box rfl rfl g9 rfl (blk_ext BK9.out EL.out) Try.underlying42 rfl (by kernel_rfl) ?_) | ((with_reducible refine gate_dst (N := 107) rfl ?_); (refine gate_guard (by rfl) ?_; dsimp only); refine load_box rfl rfl g15 rfl BK15.out Try.underlying42 rfl (by kernel_rfl) ?_) | ((with_reducible refine gate_callee (f := 26) rfl ?_); (with_reducible refine gate_dst (N := 108) rfl ?_); (refine gate_guard (by rfl) ?_; dsimp only); refine goesL_ (some 108) rfl rfl Try.func26 (by kernel_rfl) rfl #[.agg #[.slice Ap P.length cp, .int .i64 p2, .int .i64 p3, .int .i64 p4, .int .i64 p5, .int .i64 p6], .agg #[.slice Aw Wl.length cw, .int .i64 x2, .int .i64 x3, .int .i64 x4, .int .i64 x5, .int .i64 x6]] rfl (by (try simp only [List.map_toArray, List.map_cons, List.map_nil]); first | done | rfl) ?_; (with_reducible refine (l09_Same.calls k _ _ P p2 p3 p4 p5 p6 _ _ Wl x2 x3 x4 x5 x6 true _ (c_ext HCP.out EL.out) HLP.out HCW.out HLW.out HS.out).mono ?_); rintro e w61 ⟨rfl, hb⟩; refine ⟨_, rfl, ?_⟩; have hx_ := Ext.of hb; replace EL := ak_ (EL.out.trans hx_); clear hb hx_))
    go_ret
    exact ⟨rfl, E0.out.trans EL.out⟩
end Go.Proofs.Ytmehbabchakkpaa.QLadderWalks
namespace Go.Proofs.Ytmehbabchakkpaa.EvKit
open Go.RowKit YtmehbabchakkpaaW.PrintWords
theorem Ev.pos {α : Type} {c : Prop} [Decidable c] {f g : Nat → Option α} {r : α} (h : c) (k : Ev f r) : Ev (fun n => if c then f n else g n) r := by
 obtain ⟨K, k⟩ := k
 exact ⟨K, fun n hn => by simp only [if_pos h]; exact k n hn⟩
theorem Ev.neg {α : Type} {c : Prop} [Decidable c] {f g : Nat → Option α} {r : α} (h : ¬ c) (k : Ev g r) : Ev (fun n => if c then f n else g n) r := by
 obtain ⟨K, k⟩ := k
 exact ⟨K, fun n hn => by simp only [if_neg h]; exact k n hn⟩
theorem Ev.ite {α : Type} {c : Prop} [Decidable c] {f g : Nat → Option α} {r : α} (h : c → Ev f r) (k : ¬ c → Ev g r) : Ev (fun n => if c then f n else g n) r := by
 by_cases hc : c
 ·exact Ev.pos hc (h hc)
 ·exact Ev.neg hc (k hc)
theorem Ev.eq {α : Type} {f : Nat → Option α} {r r' : α} (k : Ev f r) (h : r = r') : Ev f r' := h ▸ k
theorem Ev.ret {α : Type} {r r' : α} (h : r = r') : Ev (fun _ => some r) r' := h ▸ Ev.now r
theorem Ev.val {α : Type} {o : Option α} {r : α} (h : o = some r) : Ev (fun _ => o) r := ⟨0, fun _ _ => h⟩
theorem Ev.bindv {α β : Type} {o : Option α} {f : Nat → α → Option β} {a : α} {r : β} (h : o = some a) (k : Ev (fun n => f n a) r) : Ev (fun n => o.bind (f n)) r := by
 subst h
 exact k
theorem rd_nat {l : List Int} {i : Nat} (h : i < l.length) : rd l (i : Int) = l[i] := by
 simp [rd, h]
theorem rd_mem {l : List Int} {i : Int} (h0 : 0 ≤ i) (h : i < (l.length : Int)) : rd l i ∈ l := by
 obtain ⟨n, rfl⟩ := Int.eq_ofNat_of_zero_le h0
 have h' : n < l.length := by exact_mod_cast h
 rw [rd_nat h']
 exact List.getElem_mem h'
theorem drop_rd {l : List Int} {i : Nat} (h : i < l.length) : l.drop i = rd l (i : Int) :: l.drop (i + 1) := by
 rw [rd_nat h]
 exact List.drop_eq_getElem_cons h
theorem w64_id {x : Int} (h0 : -9223372036854775808 ≤ x) (h : x ≤ 9223372036854775807) : wrap64 x = x := by
 unfold wrap64
 omega
theorem w64_succ {i : Nat} (h : i < 9000000000000000000) : wrap64 ((i : Int) + 1) = ((i + 1 : Nat) : Int) := by
 unfold wrap64
 omega
theorem w_u64 (n : Int) (h₀ : 0 ≤ n) (h₁ : n < 18446744073709551616) : IntKind.u64.wrap n = n := by
 simp [IntKind.wrap, IntKind.bits, IntKind.signed]
 omega
theorem w_u32 (n : Int) (h₀ : 0 ≤ n) (h₁ : n < 4294967296) : IntKind.u32.wrap n = n := by
 simp [IntKind.wrap, IntKind.bits, IntKind.signed]
 omega
theorem w_u16 (n : Int) (h₀ : 0 ≤ n) (h₁ : n < 65536) : IntKind.u16.wrap n = n := by
 simp [IntKind.wrap, IntKind.bits, IntKind.signed]
 omega
theorem w_u8 (n : Int) (h₀ : 0 ≤ n) (h₁ : n < 256) : IntKind.u8.wrap n = n := by
 simp [IntKind.wrap, IntKind.bits, IntKind.signed]
 omega
theorem wf_u8 {x : Int} (h : (Lit.int .u8 x).wf = true) : 0 ≤ x ∧ x < 256 := by
 have h1 : IntKind.u8.min = 0 := by decide
 have h2 : IntKind.u8.max = 255 := by decide
 simp only [Lit.wf, h1, h2, Bool.and_eq_true, decide_eq_true_eq] at h
 omega
end Go.Proofs.Ytmehbabchakkpaa.EvKit
namespace Go.Proofs.Ytmehbabchakkpaa.PureLadderWalks
open Go.RowKit QLadderWalks YtmehbabchakkpaaW.PrintWords YtmehbabchakkpaaW.PrintLast YtmehbabchakkpaaW.PrintMore EvKit
def okG (a0 a1 a2 a3 a4 a5 a6 : Int) : Prop := (geom_Check_rows a0 a1 a2 a3 a4 a5 a6).all geom_Check_in = true ∧ Int.tmod a1 a0 = 0 ∧ Int.tmod a2 2 = 0
instance (a0 a1 a2 a3 a4 a5 a6 : Int) : Decidable (okG a0 a1 a2 a3 a4 a5 a6) := inferInstanceAs (Decidable (_ ∧ _))
section
variable {a0 a1 a2 a3 a4 a5 a6 : Int}
theorem check_eq : geom_Check.f a0 a1 a2 a3 a4 a5 a6 = some (if okG a0 a1 a2 a3 a4 a5 a6 then 0 else 2) := rfl
theorem in_iff (x lo hi : Int) : geom_Check_in (x, lo, hi) = true ↔ lo ≤ x ∧ x ≤ hi := by
 show (decide (lo ≤ x) && decide (x ≤ hi)) = true ↔ _
 rw [Bool.and_eq_true, decide_eq_true_eq, decide_eq_true_eq]
theorem rows_iff : (geom_Check_rows a0 a1 a2 a3 a4 a5 a6).all geom_Check_in = true ↔ (1 ≤ a0 ∧ a0 ≤ 4) ∧ (2 ≤ a1 ∧ a1 ≤ 256) ∧ (4 ≤ a2 ∧ a2 ≤ 64) ∧ (1 ≤ a3 ∧ a3 ≤ 16) ∧ (4 ≤ a4 ∧ a4 ≤ 512) ∧ (1 ≤ a5 ∧ a5 ≤ 8) ∧ (1 ≤ a6 ∧ a6 ≤ 8) := by
 unfold geom_Check_rows
 simp only [List.all_cons, List.all_nil, Bool.and_true, Bool.and_eq_true, in_iff]
theorem okG_bounds (h : okG a0 a1 a2 a3 a4 a5 a6) : (1 ≤ a3 ∧ a3 ≤ 16) ∧ (4 ≤ a4 ∧ a4 ≤ 512) := by
 obtain ⟨_, _, _, h3, h4, _⟩ := rows_iff.1 h.1
 exact ⟨h3, h4⟩
theorem mul_bound {x y : Int} (hx : 1 ≤ x ∧ x ≤ 16) (hy : 4 ≤ y ∧ y ≤ 600) : 4 ≤ x * y ∧ x * y ≤ 9600 := by
 have h1 := Int.mul_le_mul hx.2 hy.2 (by omega) (by decide)
 have h2 := Int.mul_le_mul hx.1 hy.1 (by decide) (by omega)
 omega
theorem raw_eq : geom_Raw.f a0 a1 a2 a3 a4 a5 a6 = some (if okG a0 a1 a2 a3 a4 a5 a6 then a3 * (a4 + 2) + 31 else 0) := by
 unfold geom_Raw.f
 rw [check_eq]
 by_cases h : okG a0 a1 a2 a3 a4 a5 a6
 ·rw [if_pos h, if_pos h]
  obtain ⟨h3, h4⟩ := okG_bounds h
  have := mul_bound h3 (y := a4 + 2) ⟨by omega, by omega⟩
  show (if (0 : Int) = 0 then some (wrap64 (wrap64 (wrap64 (wrap64 (a3 * wrap64 (a4 + 2)) + 28) + 2) + 1)) else some 0) = _
  rw [if_pos rfl, w64_id (x := a4 + 2) (by omega) (by omega), w64_id (x := a3 * (a4 + 2)) (by omega) (by omega), w64_id (x := a3 * (a4 + 2) + 28) (by omega) (by omega), w64_id (x := a3 * (a4 + 2) + 28 + 2) (by omega) (by omega), w64_id (by omega) (by omega)]
  congr 1
  omega
 ·rw [if_neg h, if_neg h]
  rfl
theorem of_eq : page_of.f a0 a1 a2 a3 a4 a5 a6 = some (a0, a1, a2, a3, a4, a5, a6, wrap64 (a3 * wrap64 (a4 + 2)), decide (okG a0 a1 a2 a3 a4 a5 a6)) := by
 unfold page_of.f
 rw [check_eq]
 by_cases h : okG a0 a1 a2 a3 a4 a5 a6
 ·rw [if_pos h, decide_eq_true h]
  rfl
 ·rw [if_neg h, decide_eq_false h]
  rfl
theorem from4_eq (n low high : Int) : r04_from.f n low high = some (decide (low ≤ n ∧ n ≤ high)) := by
 unfold r04_from.f
 by_cases h : n ≥ low
 ·rw [if_pos h]
  by_cases h2 : n ≤ high
  ·rw [decide_eq_true h2, decide_eq_true ⟨h, h2⟩]
  ·rw [decide_eq_false h2, decide_eq_false fun e => h2 e.2]
 ·rw [if_neg h, decide_eq_false fun e => h e.1]
theorem right_eq : r04_Right.f a0 a1 a2 a3 a4 a5 a6 = some (decide (okG a0 a1 a2 a3 a4 a5 a6)) := by
 unfold r04_Right.f
 simp only [from4_eq, Option.bind_some, decide_eq_true_eq]
 have key := rows_iff (a0 := a0) (a1 := a1) (a2 := a2) (a3 := a3) (a4 := a4) (a5 := a5) (a6 := a6)
 have no : ¬ (geom_Check_rows a0 a1 a2 a3 a4 a5 a6).all geom_Check_in = true → some false = some (decide (okG a0 a1 a2 a3 a4 a5 a6)) := fun h => by
  rw [decide_eq_false fun e => h e.1]
 by_cases h0 : 1 ≤ a0 ∧ a0 ≤ 4
 ·rw [if_pos h0]
  by_cases h1 : 2 ≤ a1 ∧ a1 ≤ 256
  ·rw [if_pos h1]
   by_cases h2 : 4 ≤ a2 ∧ a2 ≤ 64
   ·rw [if_pos h2]
    by_cases h3 : 1 ≤ a3 ∧ a3 ≤ 16
    ·rw [if_pos h3]
     by_cases h4 : 4 ≤ a4 ∧ a4 ≤ 512
     ·rw [if_pos h4]
      by_cases h5 : 1 ≤ a5 ∧ a5 ≤ 8
      ·rw [if_pos h5]
       by_cases h6 : 1 ≤ a6 ∧ a6 ≤ 8
       ·rw [if_pos h6, if_neg (by omega)]
        have hr := key.2 ⟨h0, h1, h2, h3, h4, h5, h6⟩
        rw [Int.tdiv_eq_ediv_of_nonneg (by omega), Int.tdiv_eq_ediv_of_nonneg (by omega)]
        have d1 := Int.ediv_mul_le a1 (b := a0) (by omega)
        have d1' := Int.emod_add_mul_ediv a1 a0
        have d1n := Int.emod_nonneg a1 (b := a0) (by omega)
        have hq0 := Int.ediv_nonneg (a := a1) (b := a0) (by omega) (by omega)
        have hq1 := Int.ediv_le_self (a := a1) a0 (by omega)
        rw [Int.mul_comm a0 (a1 / a0)] at d1'
        rw [w64_id (x := a1 / a0) (by omega) (by omega), w64_id (x := a2 / 2) (by omega) (by omega), w64_id (x := a2 / 2 * 2) (by omega) (by omega)]
        have t1 : Int.tmod a1 a0 = a1 % a0 := Int.tmod_eq_emod_of_nonneg (by omega)
        have t2 : Int.tmod a2 2 = a2 % 2 := Int.tmod_eq_emod_of_nonneg (by omega)
        have hqp : 0 ≤ a1 / a0 * a0 := Int.mul_nonneg hq0 (by omega)
        rw [w64_id (x := a1 / a0 * a0) (by omega) (by omega)]
        generalize a1 / a0 * a0 = q at d1 d1' hqp
        by_cases g : q = a1
        ·rw [if_pos g]
         by_cases g2 : a2 / 2 * 2 = a2
         ·rw [decide_eq_true ⟨hr, by rw [t1]; omega, by rw [t2]; omega⟩]
          exact congrArg some (beq_iff_eq.2 g2)
         ·rw [decide_eq_false fun e => g2 (by have := e.2.2; rw [t2] at this; omega)]
          exact congrArg some (beq_eq_false_iff_ne.2 g2)
        ·rw [if_neg g, decide_eq_false fun e => g (by have := e.2.1; rw [t1] at this; omega)]
       ·rw [if_neg h6]
        exact no fun e => h6 (key.1 e).2.2.2.2.2.2
      ·rw [if_neg h5]
       exact no fun e => h5 (key.1 e).2.2.2.2.2.1
     ·rw [if_neg h4]
      exact no fun e => h4 (key.1 e).2.2.2.2.1
    ·rw [if_neg h3]
     exact no fun e => h3 (key.1 e).2.2.2.1
   ·rw [if_neg h2]
    exact no fun e => h2 (key.1 e).2.2.1
  ·rw [if_neg h1]
   exact no fun e => h1 (key.1 e).2.1
 ·rw [if_neg h0]
  exact no fun e => h0 (key.1 e).1
end
end Go.Proofs.Ytmehbabchakkpaa.PureLadderWalks
namespace Go.Proofs.Ytmehbabchakkpaa.PackMath
def okSizes (l : List Int) : Bool := decide (l.length ≤ 64) && l.all (fun s => decide (1 ≤ s) && decide (s ≤ 8))
def pkSize (l : List Int) : Int × Bool := if okSizes l then (l.sum, true) else (0, false)
def unle : List Int → Int
 | [] => 0
 | b :: l => b + 256 * unle l
def takeGo : List Int → List Int → Option (List Int)
 | [], _ => some []
 | s :: ss, b => if unle (b.take s.toNat) ≤ 4611686018427387904 then (takeGo ss (b.drop s.toNat)).map (unle (b.take s.toNat) :: ·) else none
def endTake (out : List Int) : Option (List Int) → List Int × Int
 | some l => (out ++ l, 0)
 | none => ([], 11)
def pkTake (sizes b : List Int) : List Int × Int :=
 if okSizes sizes then (if (b.length : Int) < sizes.sum then ([], 10) else if (b.length : Int) > sizes.sum then ([], 13) else endTake [] (takeGo sizes b)) else ([], 2)
theorem okSizes_iff {l : List Int} : okSizes l = true ↔ l.length ≤ 64 ∧ ∀ s ∈ l, 1 ≤ s ∧ s ≤ 8 := by
 simp [okSizes]
theorem unle_nonneg : ∀ (l : List Int), (∀ x ∈ l, 0 ≤ x ∧ x < 256) → 0 ≤ unle l
 | [], _ => by simp [unle]
 | b :: l, h => by
  have h1 := h b (by simp)
  have h2 := unle_nonneg l fun x hx => h x (by simp [hx])
  simp only [unle]
  omega
theorem unle_lt : ∀ (l : List Int), (∀ x ∈ l, 0 ≤ x ∧ x < 256) → unle l < 256 ^ l.length
 | [], _ => by simp [unle]
 | b :: l, h => by
  have h1 := h b (by simp)
  have h2 := unle_lt l fun x hx => h x (by simp [hx])
  simp only [unle, List.length_cons, Int.pow_succ]
  omega
theorem unle_append : ∀ (a b : List Int), unle (a ++ b) = unle a + 256 ^ a.length * unle b
 | [], b => by simp [unle]
 | x :: a, b => by
  simp only [List.cons_append, unle, unle_append a b, List.length_cons, Int.pow_succ]
  rw [Int.mul_add, ← Int.mul_assoc, Int.mul_comm (256 ^ a.length) 256, Int.add_assoc]
theorem sum_nonneg : ∀ {l : List Int}, (∀ s ∈ l, 1 ≤ s ∧ s ≤ 8) → (l.length : Int) ≤ l.sum ∧ l.sum ≤ 8 * l.length
 | [], _ => by simp
 | s :: l, h => by
  have h1 := h s (by simp)
  have h2 := sum_nonneg (l := l) fun x hx => h x (by simp [hx])
  simp only [List.sum_cons, List.length_cons]
  omega
theorem takeGo_length : ∀ {ss b r : List Int}, takeGo ss b = some r → r.length = ss.length
 | [], b, r, h => by simp [takeGo] at h; subst h; rfl
 | s :: ss, b, r, h => by
  simp only [takeGo] at h
  split at h
  ·obtain ⟨r', hr', rfl⟩ := Option.map_eq_some_iff.1 h
   simp [takeGo_length hr']
  ·cases h
theorem pkTake_ok {ss b l : List Int} (h : pkTake ss b = (l, 0)) : okSizes ss = true ∧ (b.length : Int) = ss.sum ∧ takeGo ss b = some l := by
 unfold pkTake at h
 split at h
 ·rename_i hok
  split at h
  ·simp at h
  ·split at h
   ·simp at h
   ·cases e : takeGo ss b with
    | none => simp [e, endTake] at h
    | some b' => simp [e, endTake] at h; exact ⟨hok, by omega, by rw [h]⟩
 ·simp at h
end Go.Proofs.Ytmehbabchakkpaa.PackMath
namespace Go.Proofs.Ytmehbabchakkpaa.PureLadderWalks
open Go.RowKit QLadderWalks YtmehbabchakkpaaW.PrintWords YtmehbabchakkpaaW.PrintLast YtmehbabchakkpaaW.PrintMore EvKit PackMath
theorem size_l0 (l : List Int) (hl : l.length ≤ 64) (d : Nat) : ∀ (i : Nat) (n : Int), i + d = l.length → 0 ≤ n → n ≤ 8 * i →
  Ev (fun k => pack_Size.l0 k n l (l.length : Int) (i : Int)) (if (l.drop i).all (fun s => decide (1 ≤ s) && decide (s ≤ 8)) then (n + (l.drop i).sum, true) else (0, false)) := by
 induction d with
 | zero =>
  intro i n hi h0 h1
  refine Ev.step (fun k => pack_Size.l0.eq_2 ..) ?_
  refine Ev.neg (by omega) (Ev.ret ?_)
  rw [List.drop_of_length_le (by omega)]
  simp
 | succ d ih =>
  intro i n hi h0 h1
  refine Ev.step (fun k => pack_Size.l0.eq_2 ..) ?_
  refine Ev.pos (by omega) (Ev.pos (by omega) (Ev.pos (by omega) ?_))
  rw [drop_rd (l := l) (i := i) (by omega)]
  generalize rd l (i : Int) = s
  refine Ev.ite (fun h => Ev.ret ?_) (fun h => Ev.ite (fun h' => Ev.ret ?_) (fun h' => ?_))
  ·have : ¬ 1 ≤ s := by omega
   simp [this]
  ·have : ¬ s ≤ 8 := by omega
   simp [this]
  ·rw [w64_succ (by omega), w64_id (by omega) (by omega)]
   refine Ev.eq (ih (i + 1) (n + s) (by omega) (by omega) (by omega)) ?_
   have e1 : 1 ≤ s := by omega
   have e2 : s ≤ 8 := by omega
   simp only [List.all_cons, List.sum_cons, e1, e2, decide_true, Bool.true_and, Int.add_assoc]
theorem size_ev (l : List Int) : Ev (fun k => pack_Size.f k l) (pkSize l) := by
 refine Ev.congr (fun k => by rw [pack_Size.f]) ?_
 refine Ev.ite (fun h => Ev.ret ?_) (fun h => ?_)
 ·have : ¬ l.length ≤ 64 := by omega
  simp [pkSize, okSizes, this]
 ·have h' : l.length ≤ 64 := by omega
  refine Ev.eq (size_l0 l h' l.length 0 0 (by omega) (by omega) (by omega)) ?_
  simp [pkSize, okSizes, h']
end Go.Proofs.Ytmehbabchakkpaa.PureLadderWalks
namespace Go.Proofs.Ytmehbabchakkpaa.TagMath
def between (n low high : Int) : Bool := decide (low ≤ n) && decide (n ≤ high)
def mayTag (a b c d : Int) : Bool := between a 1 4 && between b 0 2147483648 && between c 0 2305843009213693952 && between d 0 2147483648
def sizes : List Int := [2, 1, 4, 8, 4, 5]
end Go.Proofs.Ytmehbabchakkpaa.TagMath
namespace Go.Proofs.Ytmehbabchakkpaa.PureLadderWalks
open Go.RowKit QLadderWalks YtmehbabchakkpaaW.PrintWords YtmehbabchakkpaaW.PrintLast YtmehbabchakkpaaW.PrintMore EvKit PackMath TagMath
theorem within_eq (n low high : Int) : tag_within.f n low high = some (between n low high) := by
 unfold tag_within.f between
 by_cases h : n ≥ low
 ·rw [if_pos h]
  have h' : low ≤ n := h
  simp [h']
 ·rw [if_neg h]
  have h' : ¬ low ≤ n := h
  simp [h']
theorem may_eq (a b c d : Int) : tag_May.f a b c d = some (mayTag a b c d) := by
 unfold tag_May.f mayTag
 rw [within_eq, within_eq, within_eq, within_eq]
 simp only [Option.bind_some]
 cases between a 1 4 <;> cases between b 0 2147483648 <;> cases between c 0 2305843009213693952 <;> cases between d 0 2147483648 <;> rfl
end Go.Proofs.Ytmehbabchakkpaa.PureLadderWalks
namespace Go.Proofs.Ytmehbabchakkpaa.BitsKit
open Go.RowKit EvKit
theorem xor_nat (k : IntKind) (j : Nat) (hj : j ≤ k.bits) (hk : ∀ n : Int, 0 ≤ n → n < 2 ^ j → k.wrap n = n) (a b : Nat) (ha : a < 2 ^ j) (hb : b < 2 ^ j) : Go.bits .xor k a b = ((a ^^^ b : Nat) : Int) := by
 have hp : 2 ^ j ≤ 2 ^ k.bits := Nat.pow_le_pow_right (by decide) hj
 have ha' : a % 2 ^ k.bits = a := Nat.mod_eq_of_lt (Nat.lt_of_lt_of_le ha hp)
 have hb' : b % 2 ^ k.bits = b := Nat.mod_eq_of_lt (Nat.lt_of_lt_of_le hb hp)
 simp only [Go.bits, BitVec.ofInt_natCast, BitVec.toNat_xor, BitVec.toNat_ofNat, ha', hb']
 refine hk _ (Int.natCast_nonneg _) ?_
 have := Nat.xor_lt_two_pow ha hb
 exact_mod_cast this
theorem wu8 (n : Int) (h₀ : 0 ≤ n) (h₁ : n < 2 ^ 8) : IntKind.u8.wrap n = n := w_u8 n h₀ (by simpa using h₁)
theorem wu16 (n : Int) (h₀ : 0 ≤ n) (h₁ : n < 2 ^ 16) : IntKind.u16.wrap n = n := w_u16 n h₀ (by simpa using h₁)
theorem wu32 (n : Int) (h₀ : 0 ≤ n) (h₁ : n < 2 ^ 32) : IntKind.u32.wrap n = n := w_u32 n h₀ (by simpa using h₁)
theorem xor_u8 {a b : Nat} (ha : a < 256) (hb : b < 256) : Go.bits .xor .u8 a b = ((a ^^^ b : Nat) : Int) := xor_nat .u8 8 (by decide) wu8 a b ha hb
theorem xor_u16 {a b : Nat} (ha : a < 65536) (hb : b < 65536) : Go.bits .xor .u16 a b = ((a ^^^ b : Nat) : Int) := xor_nat .u16 16 (by decide) wu16 a b ha hb
theorem xor_u32 {a b : Nat} (ha : a < 4294967296) (hb : b < 4294967296) : Go.bits .xor .u32 a b = ((a ^^^ b : Nat) : Int) := xor_nat .u32 32 (by decide) wu32 a b ha hb
theorem and_u8 {a b : Nat} (ha : a < 256) (hb : b < 256) : Go.bits .and .u8 a b = ((a &&& b : Nat) : Int) := (bits_nat .u8 8 (by decide) wu8 a b ha hb).1
theorem and_u16 {a b : Nat} (ha : a < 65536) (hb : b < 65536) : Go.bits .and .u16 a b = ((a &&& b : Nat) : Int) := (bits_nat .u16 16 (by decide) wu16 a b ha hb).1
theorem and_u32 {a b : Nat} (ha : a < 4294967296) (hb : b < 4294967296) : Go.bits .and .u32 a b = ((a &&& b : Nat) : Int) := (bits_nat .u32 32 (by decide) wu32 a b ha hb).1
theorem or_u16 {a b : Nat} (ha : a < 65536) (hb : b < 65536) : Go.bits .or .u16 a b = ((a ||| b : Nat) : Int) := (bits_nat .u16 16 (by decide) wu16 a b ha hb).2
end Go.Proofs.Ytmehbabchakkpaa.BitsKit
namespace Go.Proofs.Ytmehbabchakkpaa.CrcMath
def round (c : Nat) : Nat := c / 2 ^^^ (if c % 2 = 1 then 3988292384 else 0)
def rounds : Nat → Nat → Nat
 | 0, c => c
 | n + 1, c => rounds n (round c)
def crcStep (c b : Nat) : Nat := rounds 8 (c ^^^ b)
def bitStep (c x : Nat) : Nat := c / 2 ^^^ (if c % 2 = x then 0 else 3988292384)
def run (c : Nat) (l : List Nat) : Nat := l.foldl crcStep c
def sum (l : List Nat) : Nat := 4294967295 ^^^ run 4294967295 l
theorem xor_lt32 {a b : Nat} (ha : a < 4294967296) (hb : b < 4294967296) : a ^^^ b < 4294967296 := Nat.xor_lt_two_pow (n := 32) ha hb
theorem round_lt {c : Nat} (h : c < 4294967296) : round c < 4294967296 := by
 unfold round
 refine xor_lt32 (by omega) ?_
 split <;> decide
theorem rounds_lt : ∀ (n : Nat) {c : Nat}, c < 4294967296 → rounds n c < 4294967296
 | 0, _, h => h
 | n + 1, _, h => rounds_lt n (round_lt h)
theorem step_lt {c b : Nat} (hc : c < 4294967296) (hb : b < 256) : crcStep c b < 4294967296 := rounds_lt 8 (xor_lt32 hc (by omega))
theorem run_lt : ∀ {l : List Nat} {c : Nat}, c < 4294967296 → (∀ b ∈ l, b < 256) → run c l < 4294967296
 | [], _, h, _ => h
 | b :: l, c, h, hl => run_lt (l := l) (c := crcStep c b) (step_lt h (hl b (by simp))) fun x hx => hl x (by simp [hx])
theorem xor_mod2 (a b : Nat) : (a ^^^ b) % 2 = (a % 2 + b % 2) % 2 := by
 have h : ∀ n : Nat, n % 2 = (if n.testBit 0 then 1 else 0) := fun n => by
  rw [Nat.testBit_zero]
  rcases Nat.mod_two_eq_zero_or_one n with e | e <;> simp [e]
 rw [h (a ^^^ b), h a, h b, Nat.testBit_xor]
 cases a.testBit 0 <;> cases b.testBit 0 <;> rfl
theorem xor_div2 (a b : Nat) : (a ^^^ b) / 2 = a / 2 ^^^ b / 2 := by
 have := Nat.shiftRight_xor_distrib (a := a) (b := b) (i := 1)
 rw [Nat.shiftRight_eq_div_pow, Nat.shiftRight_eq_div_pow, Nat.shiftRight_eq_div_pow] at this
 exact this
theorem xor_swap (a b c d : Nat) : (a ^^^ b) ^^^ (c ^^^ d) = (a ^^^ c) ^^^ (b ^^^ d) := by
 rw [Nat.xor_assoc, ← Nat.xor_assoc b c d, Nat.xor_comm b c, Nat.xor_assoc c b d, ← Nat.xor_assoc]
theorem round_bit (c b : Nat) : round (c ^^^ b) = bitStep c (b % 2) ^^^ b / 2 := by
 unfold round bitStep
 rw [xor_div2, xor_mod2]
 rw [Nat.xor_assoc, Nat.xor_assoc, Nat.xor_comm (b / 2)]
 congr 2
 rcases Nat.mod_two_eq_zero_or_one c with hc | hc <;> rcases Nat.mod_two_eq_zero_or_one b with hb | hb <;> simp [hc, hb]
def bitsOf : Nat → Nat → List Nat
 | 0, _ => []
 | n + 1, b => b % 2 :: bitsOf n (b / 2)
theorem rounds_bits : ∀ (n c b : Nat), rounds n (c ^^^ b) = (bitsOf n b).foldl bitStep c ^^^ b / 2 ^ n
 | 0, c, b => by simp [rounds, bitsOf]
 | n + 1, c, b => by
  simp only [rounds, bitsOf, List.foldl_cons]
  rw [round_bit, rounds_bits n, Nat.div_div_eq_div_mul, Nat.pow_succ, Nat.mul_comm (2 ^ n)]
theorem step_bits {c b : Nat} (hb : b < 256) : crcStep c b = (bitsOf 8 b).foldl bitStep c := by
 unfold crcStep
 rw [rounds_bits, Nat.div_eq_of_lt (by simpa using hb)]
 simp
theorem run_bits : ∀ (l : List Nat) (c : Nat), (∀ b ∈ l, b < 256) → run c l = (l.flatMap (bitsOf 8)).foldl bitStep c
 | [], _, _ => rfl
 | b :: l, c, h => by
  simp only [run, List.foldl_cons, List.flatMap_cons, List.foldl_append]
  rw [step_bits (h b (by simp))]
  exact run_bits l _ fun x hx => h x (by simp [hx])
theorem bitStep_lt {c x : Nat} (h : c < 4294967296) : bitStep c x < 4294967296 := by
 unfold bitStep
 refine xor_lt32 (by omega) ?_
 split <;> decide
end Go.Proofs.Ytmehbabchakkpaa.CrcMath
namespace Go.Proofs.Ytmehbabchakkpaa.CrcMath
def bitAt (l : List Nat) (i : Nat) : Nat := l.getD (i / 8) 0 / 2 ^ (i % 8) % 2
def bitList (l : List Nat) : List Nat := (List.range (8 * l.length)).map (bitAt l)
theorem bits_eight (b : Nat) : (List.range 8).map (fun i => b / 2 ^ i % 2) = bitsOf 8 b := by
 simp [List.range, List.range.loop, bitsOf, Nat.div_div_eq_div_mul]
theorem bitList_eq : ∀ l : List Nat, bitList l = l.flatMap (bitsOf 8)
 | [] => rfl
 | b :: l => by
  rw [List.flatMap_cons, ← bitList_eq l, ← bits_eight b]
  unfold bitList
  rw [List.length_cons, Nat.mul_add, Nat.mul_one, Nat.add_comm, List.range_add, List.map_append, List.map_map]
  have e1 : (List.range 8).map (bitAt (b :: l)) = (List.range 8).map (fun i => b / 2 ^ i % 2) := by
   refine List.map_congr_left fun i hi => ?_
   have hi := List.mem_range.1 hi
   unfold bitAt
   rw [Nat.div_eq_of_lt hi, Nat.mod_eq_of_lt hi]
   rfl
  rw [e1]
  congr 1
  ·refine List.map_congr_left fun i hi => ?_
   show bitAt (b :: l) (8 + i) = bitAt l i
   unfold bitAt
   rw [show (8 + i) / 8 = i / 8 + 1 by omega, show (8 + i) % 8 = i % 8 by omega, List.getD_cons_succ]
theorem run_bitList {l : List Nat} (c : Nat) (h : ∀ b ∈ l, b < 256) : run c l = (bitList l).foldl bitStep c := by
 rw [bitList_eq, run_bits l c h]
theorem not_xor {r : Nat} (h : r < 4294967296) : 4294967295 - r = 4294967295 ^^^ r := by
 apply Nat.eq_of_testBit_eq
 intro i
 have e1 : 4294967295 - r = 2 ^ 32 - (r + 1) := by omega
 have e2 : (4294967295 : Nat) = 2 ^ 32 - 1 := by decide
 rw [Nat.testBit_xor, e1, Nat.testBit_two_pow_sub_succ (by simpa using h), e2, Nat.testBit_two_pow_sub_one]
 by_cases hi : i < 32
 ·simp [hi]
 ·have : r.testBit i = false := Nat.testBit_lt_two_pow (Nat.lt_of_lt_of_le (m := 2 ^ 32) (by simpa using h) (Nat.pow_le_pow_right (by decide) (by omega)))
  simp [hi, this]
theorem run_append (c : Nat) (a b : List Nat) : run c (a ++ b) = run (run c a) b := List.foldl_append
end Go.Proofs.Ytmehbabchakkpaa.CrcMath
namespace Go.Proofs.Ytmehbabchakkpaa.NatKit
open Go.RowKit YtmehbabchakkpaaW.PrintWords EvKit
def nats (l : List Int) : List Nat := l.map Int.toNat
def ints (l : List Nat) : List Int := l.map Int.ofNat
theorem nats_length (l : List Int) : (nats l).length = l.length := List.length_map _
theorem nats_lt {l : List Int} (h : ∀ x ∈ l, 0 ≤ x ∧ x < 256) : ∀ b ∈ nats l, b < 256 := by
 intro b hb
 obtain ⟨x, hx, rfl⟩ := List.mem_map.1 hb
 have := h x hx
 omega
theorem ints_nats {l : List Int} (h : ∀ x ∈ l, 0 ≤ x) : ints (nats l) = l := by
 unfold ints nats
 rw [List.map_map]
 conv => rhs; rw [← List.map_id l]
 refine List.map_congr_left fun x hx => ?_
 have := h x hx
 show ((x.toNat : Nat) : Int) = x
 omega
theorem nats_append (a b : List Int) : nats (a ++ b) = nats a ++ nats b := List.map_append
theorem nats_take (a : List Int) (n : Nat) : nats (a.take n) = (nats a).take n := List.map_take
theorem rd_ints {l : List Nat} {i : Nat} : rd (ints l) (i : Int) = ((l.getD i 0 : Nat) : Int) := by
 unfold rd ints
 rw [Int.toNat_natCast, List.getD_eq_getElem?_getD, List.getD_eq_getElem?_getD, List.getElem?_map]
 cases l[i]? <;> rfl
theorem rd_nats {l : List Int} (h : ∀ x ∈ l, 0 ≤ x) (i : Nat) : rd l (i : Int) = (((nats l).getD i 0 : Nat) : Int) := by
 conv => lhs; rw [← ints_nats h]
 exact rd_ints
theorem nats_inj {a b : List Int} (ha : ∀ x ∈ a, 0 ≤ x) (hb : ∀ x ∈ b, 0 ≤ x) (h : nats a = nats b) : a = b := by
 rw [← ints_nats ha, ← ints_nats hb, h]
theorem str_eq {a b : List Int} (ha : ∀ x ∈ a, 0 ≤ x ∧ x < 256) (hb : ∀ x ∈ b, 0 ≤ x ∧ x < 256) (h : strOfNums a = strOfNums b) : a = b := by
 have h1 : (a.map fun n => UInt8.ofNat n.toNat) = b.map fun n => UInt8.ofNat n.toNat := by
  have := congrArg (fun s : ByteArray => s.data.toList) h
  simpa [strOfNums] using this
 have h2 : a.map Int.toNat = b.map Int.toNat := by
  have := congrArg (List.map UInt8.toNat) h1
  rw [List.map_map, List.map_map] at this
  have key : ∀ l : List Int, (∀ x ∈ l, 0 ≤ x ∧ x < 256) → l.map (UInt8.toNat ∘ fun n => UInt8.ofNat n.toNat) = l.map Int.toNat := by
   intro l hl
   refine List.map_congr_left fun x hx => ?_
   have := hl x hx
   show (UInt8.ofNat x.toNat).toNat = x.toNat
   rw [UInt8.toNat_ofNat']
   omega
  rw [key a ha, key b hb] at this
  exact this
 exact nats_inj (fun x hx => (ha x hx).1) (fun x hx => (hb x hx).1) h2
theorem rd_ints_lt {l : List Nat} {i : Nat} (h : i < l.length) : rd (ints l) (i : Int) = ((l[i] : Nat) : Int) := by
 rw [rd_ints, List.getD_eq_getElem?_getD, List.getElem?_eq_getElem h]
 rfl
theorem ints_set (l : List Nat) (i v : Nat) : (ints l).set i (v : Int) = ints (l.set i v) := by
 unfold ints
 rw [List.map_set]
 rfl
theorem ints_length (l : List Nat) : (ints l).length = l.length := List.length_map _
theorem ints_byte {l : List Nat} (h : ∀ b ∈ l, b < 256) : ∀ x ∈ ints l, 0 ≤ x ∧ x < 256 := by
 intro x hx
 obtain ⟨b, hb, rfl⟩ := List.mem_map.1 hx
 have := h b hb
 exact ⟨Int.natCast_nonneg b, by show ((b : Nat) : Int) < 256; omega⟩
end Go.Proofs.Ytmehbabchakkpaa.NatKit
namespace Go.Proofs.Ytmehbabchakkpaa.PureLadderWalks
open Go.RowKit QLadderWalks YtmehbabchakkpaaW.PrintWords YtmehbabchakkpaaW.PrintLast YtmehbabchakkpaaW.PrintMore EvKit BitsKit CrcMath NatKit
theorem round_eq {c : Nat} (h : c < 4294967296) : Go.bits .xor .u32 ((c : Int) / 2) (Go.bits .and .u32 3988292384 ((-(Go.bits .and .u32 (c : Int) 1)) % 4294967296)) = ((round c : Nat) : Int) := by
 have e1 : Go.bits .and .u32 (c : Int) 1 = ((c % 2 : Nat) : Int) := by
  have := and_u32 (a := c) (b := 1) h (by decide)
  rw [Nat.and_one_is_mod] at this
  exact this
 rw [e1, show (c : Int) / 2 = ((c / 2 : Nat) : Int) from by omega]
 unfold round
 rcases Nat.mod_two_eq_zero_or_one c with hc | hc
 ·rw [hc, if_neg (by decide)]
  have e2 : Go.bits .and .u32 3988292384 ((-((0 : Nat) : Int)) % 4294967296) = ((0 : Nat) : Int) := by
   have := and_u32 (a := 3988292384) (b := 0) (by decide) (by decide)
   rw [Nat.and_zero] at this
   exact this
  rw [e2, xor_u32 (by omega) (by decide)]
 ·rw [hc, if_pos rfl]
  have e2 : Go.bits .and .u32 3988292384 ((-((1 : Nat) : Int)) % 4294967296) = ((3988292384 : Nat) : Int) := by
   have := and_u32 (a := 3988292384) (b := 4294967295) (by decide) (by decide)
   exact this
  rw [e2, xor_u32 (by omega) (by decide)]
theorem step_l0 (d : Nat) : ∀ (c i : Nat), c < 4294967296 → i + d = 8 → Ev (fun k => crc_step.l0 k (c : Int) (i : Int)) ((rounds d c : Nat) : Int) := by
 induction d with
 | zero =>
  intro c i hc hi
  refine Ev.step (fun k => crc_step.l0.eq_2 ..) ?_
  exact Ev.neg (by omega) (Ev.ret rfl)
 | succ d ih =>
  intro c i hc hi
  refine Ev.step (fun k => crc_step.l0.eq_2 ..) ?_
  refine Ev.pos (by omega) ?_
  rw [round_eq hc, w64_succ (by omega)]
  exact ih (round c) (i + 1) (round_lt hc) (by omega)
theorem step_ev {c b : Nat} (hc : c < 4294967296) (hb : b < 256) : Ev (fun k => crc_step.f k (c : Int) (b : Int)) ((crcStep c b : Nat) : Int) := by
 refine Ev.congr (fun k => by rw [crc_step.f]) ?_
 rw [show ((b : Int)) % 4294967296 = (b : Int) from by omega, xor_u32 hc (by omega)]
 exact step_l0 8 _ 0 (xor_lt32 hc (by omega)) (by omega)
def AllBytes (ls : List (List Int)) : Prop := ∀ l ∈ ls, ∀ x ∈ l, 0 ≤ x ∧ x < 256
theorem sum_l1 {ls : List (List Int)} {len i : Int} {row : List Int} {r : Int} (hrow : ∀ x ∈ row, 0 ≤ x ∧ x < 256) (hl : row.length < 1000000000) (d : Nat) : ∀ (c j : Nat), c < 4294967296 → j + d = row.length →
  Ev (fun k => crc_Sum.l0 k ((run c ((nats row).drop j) : Nat) : Int) ls len (wrap64 (i + 1))) r → Ev (fun k => crc_Sum.l1 k (c : Int) ls len i row (row.length : Int) (j : Int)) r := by
 induction d with
 | zero =>
  intro c j hc hj h
  refine Ev.step (fun k => crc_Sum.l1.eq_2 ..) ?_
  refine Ev.neg (by omega) ?_
  rw [List.drop_of_length_le (by rw [nats_length]; omega)] at h
  exact h
 | succ d ih =>
  intro c j hc hj h
  have hx := hrow _ (rd_mem (l := row) (i := (j : Int)) (by omega) (by omega))
  have hr := rd_nats (l := row) (fun x hx => (hrow x hx).1) j
  have hb : (nats row).getD j 0 < 256 := by omega
  refine Ev.step (fun k => crc_Sum.l1.eq_2 ..) ?_
  refine Ev.pos (by omega) ?_
  refine Ev.pos (by omega) ?_
  refine Ev.pos (by omega) ?_
  rw [hr]
  refine Ev.bind (step_ev hc hb) ?_
  rw [w64_succ (by omega)]
  refine ih _ (j + 1) (step_lt hc hb) (by omega) ?_
  have hj' : j < (nats row).length := by rw [nats_length]; omega
  rw [List.drop_eq_getElem_cons hj'] at h
  rw [List.getD_eq_getElem?_getD, List.getElem?_eq_getElem hj']
  exact h
theorem sum_l0 {ls : List (List Int)} (hls : AllBytes ls) (hn : ls.length < 1000000000) (hl : ∀ l ∈ ls, l.length < 1000000000) (d : Nat) : ∀ (c i : Nat), c < 4294967296 → i + d = ls.length →
  Ev (fun k => crc_Sum.l0 k (c : Int) ls (ls.length : Int) (i : Int)) ((4294967295 ^^^ run c (nats (ls.drop i).flatten) : Nat) : Int) := by
 induction d with
 | zero =>
  intro c i hc hi
  refine Ev.step (fun k => crc_Sum.l0.eq_2 ..) ?_
  refine Ev.neg (by omega) (Ev.ret ?_)
  rw [List.drop_of_length_le (by omega)]
  exact xor_u32 (by decide) hc
 | succ d ih =>
  intro c i hc hi
  have hil : i < ls.length := by omega
  have hrd : rd_L3 ls (i : Int) = ls[i] := by
   unfold rd_L3
   rw [Int.toNat_natCast, List.getD_eq_getElem?_getD, List.getElem?_eq_getElem hil]
   rfl
  have hm : ls[i] ∈ ls := List.getElem_mem hil
  refine Ev.step (fun k => crc_Sum.l0.eq_2 ..) ?_
  refine Ev.pos (by omega) ?_
  refine Ev.pos (by omega) ?_
  refine Ev.pos (by omega) ?_
  rw [hrd, List.drop_eq_getElem_cons hil, List.flatten_cons, nats_append, run_append]
  refine sum_l1 (row := ls[i]) (hls _ hm) (hl _ hm) ls[i].length c 0 hc (by omega) ?_
  rw [List.drop_zero, w64_succ (by omega)]
  exact ih _ (i + 1) (run_lt hc (nats_lt (hls _ hm))) (by omega)
theorem sum_ev {ls : List (List Int)} (hls : AllBytes ls) (hn : ls.length < 1000000000) (hl : ∀ l ∈ ls, l.length < 1000000000) : Ev (fun k => crc_Sum.f k ls) ((CrcMath.sum (nats ls.flatten) : Nat) : Int) := by
 refine Ev.congr (fun k => by rw [crc_Sum.f]) ?_
 have := sum_l0 hls hn hl ls.length 4294967295 0 (by decide) (by omega)
 unfold CrcMath.sum
 simpa using this
theorem sum_one {l : List Int} (hl : ∀ x ∈ l, 0 ≤ x ∧ x < 256) (hn : l.length < 1000000000) : Ev (fun k => crc_Sum.f k [l]) ((CrcMath.sum (nats l) : Nat) : Int) := by
 have := sum_ev (ls := [l]) (by intro r hr; rw [List.mem_singleton.1 hr]; exact hl) (by simp) (by intro r hr; rw [List.mem_singleton.1 hr]; exact hn)
 simpa using this
def four (n : Nat) : List Int := [((n % 256 : Nat) : Int), ((n / 256 % 256 : Nat) : Int), ((n / 65536 % 256 : Nat) : Int), ((n / 16777216 % 256 : Nat) : Int)]
theorem four_byte (n : Nat) : ∀ x ∈ four n, 0 ≤ x ∧ x < 256 := by
 intro x hx
 simp only [four, List.mem_cons, List.not_mem_nil, or_false] at hx
 omega
theorem shift_at (n i : Nat) (hi : i < 4) : shr .u32 (n : Int) (IntKind.u64.wrap (wrap64 (8 * (i : Int)))) % 256 = ((n / 256 ^ i % 256 : Nat) : Int) := by
 rw [w64_id (x := 8 * (i : Int)) (by omega) (by omega), w_u64 _ (by omega) (by omega)]
 have : i = 0 ∨ i = 1 ∨ i = 2 ∨ i = 3 := by omega
 rcases this with rfl | rfl | rfl | rfl
 ·rw [show shr .u32 (n : Int) (8 * ((0 : Nat) : Int)) = n / 1 from by simp [shr]]
  simp
 ·rw [show shr .u32 (n : Int) (8 * ((1 : Nat) : Int)) = n / 256 from by simp [shr, IntKind.bits]]
  omega
 ·rw [show shr .u32 (n : Int) (8 * ((2 : Nat) : Int)) = n / 65536 from by simp [shr, IntKind.bits], show 256 ^ 2 = 65536 from rfl]
  omega
 ·rw [show shr .u32 (n : Int) (8 * ((3 : Nat) : Int)) = n / 16777216 from by simp [shr, IntKind.bits], show 256 ^ 3 = 16777216 from rfl]
  omega
theorem bytes_l0 (n : Nat) (d : Nat) : ∀ (i : Nat) (l : List Int), i + d = 4 → l.length = 4 → Ev (fun k => crc_Bytes.l0 k (n : Int) l 4 (i : Int)) ((List.range 4).map fun j => if i ≤ j then ((n / 256 ^ j % 256 : Nat) : Int) else l.getD j 0) := by
 induction d with
 | zero =>
  intro i l hi hl
  refine Ev.step (fun k => crc_Bytes.l0.eq_2 ..) ?_
  refine Ev.neg (by omega) (Ev.ret ?_)
  obtain ⟨a, b, c, e, rfl⟩ : ∃ a b c e, l = [a, b, c, e] := by
   match l, hl with
   | [a, b, c, e], _ => exact ⟨a, b, c, e, rfl⟩
  have : i = 4 := by omega
  subst this
  rfl
 | succ d ih =>
  intro i l hi hl
  refine Ev.step (fun k => crc_Bytes.l0.eq_2 ..) ?_
  refine Ev.pos (by omega) ?_
  have hw : 0 ≤ IntKind.u64.wrap (wrap64 (8 * (i : Int))) := by rw [w64_id (by omega) (by omega), w_u64 _ (by omega) (by omega)]; omega
  refine Ev.pos hw ?_
  refine Ev.pos (by omega) ?_
  refine Ev.pos (by omega) ?_
  rw [shift_at n i (by omega), w64_succ (by omega)]
  refine Ev.eq (ih (i + 1) _ (by omega) (by rw [List.length_set]; exact hl)) ?_
  refine List.map_congr_left fun j hj => ?_
  have hj := List.mem_range.1 hj
  rw [Int.toNat_natCast, List.getD_eq_getElem?_getD, List.getElem?_set]
  by_cases h1 : i = j
  ·subst h1
   rw [if_neg (by omega), if_pos (Nat.le_refl _), if_pos rfl, if_pos (by omega)]
   rfl
  ·rw [if_neg h1]
   by_cases h2 : i + 1 ≤ j
   ·rw [if_pos h2, if_pos (by omega)]
   ·rw [if_neg h2, if_neg (by omega), List.getD_eq_getElem?_getD]
theorem bytes_ev (n : Nat) : Ev (fun k => crc_Bytes.f k (n : Int)) (four n) := by
 refine Ev.congr (fun k => by rw [crc_Bytes.f]) ?_
 refine Ev.pos (by decide) ?_
 simp only [Option.bind_some]
 refine Ev.eq (bytes_l0 n 4 0 [0, 0, 0, 0] (by omega) rfl) ?_
 simp [List.range, List.range.loop, four]
end Go.Proofs.Ytmehbabchakkpaa.PureLadderWalks
namespace Go.Proofs.Ytmehbabchakkpaa.LenMath
def len (p : Nat) : Nat := if p = 0 then 0 else Nat.log2 p + 1
def isPow (p : Nat) : Bool := decide (p = 2 ^ Nat.log2 p)
theorem len_lt (p : Nat) : p < 2 ^ len p := by
 unfold len
 split
 ·omega
 ·exact Nat.lt_log2_self
theorem len_le {p : Nat} (h : 0 < p) : 2 ^ (len p - 1) ≤ p ∧ 1 ≤ len p := by
 unfold len
 rw [if_neg (by omega)]
 exact ⟨Nat.log2_self_le (by omega), by omega⟩
theorem len_unique {p n : Nat} (h1 : 2 ^ n ≤ p) (h2 : p < 2 ^ (n + 1)) : len p = n + 1 := by
 have h0 : 0 < p := Nat.lt_of_lt_of_le (Nat.two_pow_pos n) h1
 obtain ⟨h3, h4⟩ := len_le h0
 have h5 := len_lt p
 have a : n < len p := (Nat.pow_lt_pow_iff_right (by decide : 1 < 2)).1 (Nat.lt_of_le_of_lt h1 h5)
 have b : len p - 1 < n + 1 := (Nat.pow_lt_pow_iff_right (by decide : 1 < 2)).1 (Nat.lt_of_le_of_lt h3 h2)
 omega
theorem isPow_iff {p : Nat} : isPow p = true ↔ ∃ m, p = 2 ^ m := by
 unfold isPow
 rw [decide_eq_true_eq]
 refine ⟨fun h => ⟨_, h⟩, fun ⟨m, h⟩ => ?_⟩
 rw [h, Nat.log2_two_pow]
theorem len_shift {p : Nat} (s : Nat) (h : 2 ^ s ≤ p) : len p = s + len (p / 2 ^ s) := by
 have hq : 0 < p / 2 ^ s := Nat.div_pos h (Nat.two_pow_pos s)
 obtain ⟨h1, h2⟩ := len_le hq
 have h3 := len_lt (p / 2 ^ s)
 obtain ⟨n, hn⟩ : ∃ n, len (p / 2 ^ s) = n + 1 := ⟨len (p / 2 ^ s) - 1, by omega⟩
 rw [hn] at h1 h3 ⊢
 have := len_unique (p := p) (n := s + n) (by
  rw [Nat.pow_add, Nat.mul_comm]
  exact (Nat.le_div_iff_mul_le (Nat.two_pow_pos s)).1 h1) (by
  rw [Nat.add_assoc, Nat.pow_add, Nat.mul_comm]
  exact (Nat.div_lt_iff_lt_mul (Nat.two_pow_pos s)).1 h3)
 omega
theorem len_succ {p : Nat} (h : 0 < p) : len (p + 1) = if isPow (p + 1) then len p + 1 else len p := by
 obtain ⟨h1, h2⟩ := len_le h
 have h3 := len_lt p
 obtain ⟨n, hn⟩ : ∃ n, len p = n + 1 := ⟨len p - 1, by omega⟩
 rw [hn] at h1 h3 ⊢
 simp only [Nat.add_sub_cancel] at h1
 by_cases hp : isPow (p + 1) = true
 ·rw [if_pos hp]
  obtain ⟨m, hm⟩ := isPow_iff.1 hp
  have a : n < m := (Nat.pow_lt_pow_iff_right (by decide : 1 < 2)).1 (by omega)
  have b : m ≤ n + 1 := (Nat.pow_le_pow_iff_right (by decide : 1 < 2)).1 (by omega)
  have e : m = n + 1 := by omega
  rw [hm, e]
  refine len_unique (Nat.le_refl _) ?_
  rw [Nat.pow_succ 2 (n + 1)]
  have := Nat.two_pow_pos (n + 1)
  omega
 ·rw [if_neg hp]
  refine len_unique (by omega) ?_
  have : p + 1 ≠ 2 ^ (n + 1) := fun e => hp (isPow_iff.2 ⟨_, e⟩)
  omega
theorem len_add {p : Nat} (h0 : 0 < p) (d : Nat) : len p ≤ len (p + d) ∧ len (p + d) - len p ≤ d := by
 induction d with
 | zero =>
  rw [Nat.add_zero]
  omega
 | succ d ih =>
  rw [← Nat.add_assoc, len_succ (by omega)]
  split <;> omega
theorem len_mono {p q : Nat} (h0 : 0 < p) (h : p ≤ q) : len p ≤ len q ∧ len q - len p ≤ q - p := by
 have := len_add h0 (q - p)
 rwa [show p + (q - p) = q by omega] at this
theorem place_unique {p q : Nat} (hp : isPow p = false) (hq : isPow q = false) (h0 : 0 < p) (h1 : 0 < q) (h : p - len p = q - len q) (hl : len p ≤ p) (hl' : len q ≤ q) : p = q := by
 have key : ∀ {p q : Nat}, isPow q = false → 0 < p → p < q → len p ≤ p → p - len p < q - len q := by
  intro p q hq h0 hlt hl
  obtain ⟨m, rfl⟩ : ∃ m, q = m + 1 := ⟨q - 1, by omega⟩
  have h1 := len_mono h0 (show p ≤ m by omega)
  rw [len_succ (by omega), hq, if_neg (by decide)]
  omega
 rcases Nat.lt_trichotomy p q with hlt | e | hlt
 ·have := key hq h0 hlt hl
  omega
 ·exact e
 ·have := key hp h1 hlt hl'
  omega
theorem and_pow : ∀ n : Nat, 0 < n → ((n &&& (n - 1) = 0) ↔ isPow n = true) := by
 intro n
 induction n using Nat.strongRecOn with
 | _ n ih =>
  intro h
  rcases Nat.lt_or_ge n 2 with h2 | h2
  ·have : n = 1 := by omega
   subst this
   decide
  ·have bit : ∀ x y : Nat, (x &&& y) % 2 = x % 2 * (y % 2) := by
    intro x y
    have e : ∀ z : Nat, z % 2 = (z.testBit 0).toNat := fun z => by
     rw [Nat.toNat_testBit, Nat.pow_zero, Nat.div_one]
    rw [e x, e y, e (x &&& y), Nat.testBit_and]
    cases x.testBit 0 <;> cases y.testBit 0 <;> decide
   have hb := bit n (n - 1)
   have hd : (n &&& (n - 1)) / 2 = n / 2 &&& (n - 1) / 2 := Nat.and_div_two
   by_cases he : n % 2 = 0
   ·have e1 : (n - 1) / 2 = n / 2 - 1 := by omega
    have hi := ih (n / 2) (by omega) (by omega)
    rw [e1] at hd
    rw [he, Nat.zero_mul] at hb
    have hz : (n &&& (n - 1) = 0) ↔ (n / 2 &&& (n / 2 - 1) = 0) := by
     generalize n &&& (n - 1) = x at hd hb ⊢
     generalize n / 2 &&& (n / 2 - 1) = y at hd ⊢
     omega
    rw [hz, hi, isPow_iff, isPow_iff]
    refine ⟨fun ⟨m, hm⟩ => ⟨m + 1, by rw [Nat.pow_succ]; omega⟩, fun ⟨m, hm⟩ => ?_⟩
    cases m with
    | zero => rw [Nat.pow_zero] at hm; omega
    | succ m => exact ⟨m, by rw [Nat.pow_succ] at hm; omega⟩
   ·have e1 : (n - 1) / 2 = n / 2 := by omega
    rw [e1, Nat.and_self] at hd
    refine ⟨fun hz => ?_, fun hp => ?_⟩
    ·rw [hz] at hd
     omega
    ·obtain ⟨m, hm⟩ := isPow_iff.1 hp
     cases m with
     | zero => rw [Nat.pow_zero] at hm; omega
     | succ m => rw [Nat.pow_succ] at hm; omega
theorem isPow_half {n : Nat} (_ : 1 < n) (he : n % 2 = 0) : isPow (n / 2) = isPow n := by
 rw [Bool.eq_iff_iff, isPow_iff, isPow_iff]
 refine ⟨fun ⟨m, hm⟩ => ⟨m + 1, by rw [Nat.pow_succ]; omega⟩, fun ⟨m, hm⟩ => ?_⟩
 cases m with
 | zero => rw [Nat.pow_zero] at hm; omega
 | succ m => exact ⟨m, by rw [Nat.pow_succ] at hm; omega⟩
theorem isPow_odd {n : Nat} (h : 1 < n) (he : n % 2 ≠ 0) : isPow n = false := by
 rw [Bool.eq_false_iff]
 intro hp
 obtain ⟨m, hm⟩ := isPow_iff.1 hp
 cases m with
 | zero => rw [Nat.pow_zero] at hm; omega
 | succ m => rw [Nat.pow_succ] at hm; omega
theorem len_le22 {p : Nat} (h : p < 4194304) : len p ≤ 22 := by
 rcases Nat.eq_zero_or_pos p with e | h0
 ·subst e
  decide
 ·obtain ⟨h1, h2⟩ := len_le h0
  have : len p - 1 < 22 := (Nat.pow_lt_pow_iff_right (by decide : 1 < 2)).1 (Nat.lt_of_le_of_lt h1 (by simpa using h))
  omega
def IsPlace (n p : Nat) : Prop := isPow p = false ∧ p = n + 1 + len p ∧ 3 ≤ p
theorem place_same {n p q : Nat} (hp : IsPlace n p) (hq : IsPlace n q) : p = q := by
 obtain ⟨h1, h2, h3⟩ := hp
 obtain ⟨h4, h5, h6⟩ := hq
 exact place_unique h1 h4 (by omega) (by omega) (by omega) (by omega) (by omega)
theorem place_of {p : Nat} (h : isPow p = false) (h3 : 3 ≤ p) : ∃ n, IsPlace n p := by
 have h1 := len_add (p := 3) (by omega) (p - 3)
 have e : len 3 = 2 := by decide
 rw [show 3 + (p - 3) = p by omega, e] at h1
 exact ⟨p - 1 - len p, h, by omega, h3⟩
def placeFrom (n : Nat) : Nat → Nat → Nat
 | 0, p => p
 | d + 1, p => if p < n + 1 + len p then placeFrom n d (p + 1) else p
def place (n : Nat) : Nat := placeFrom n 21 (n + 3)
theorem placeFrom_is {n : Nat} (hn : n ≤ 1048576) (d : Nat) : ∀ p : Nat, 3 ≤ p → p + d = n + 24 → p ≤ n + 1 + len p → (isPow p = false ∨ p < n + 1 + len p) → IsPlace n (placeFrom n d p) := by
 induction d with
 | zero =>
  intro p h3 hd hle _
  have := len_le22 (p := p) (by omega)
  omega
 | succ d ih =>
  intro p h3 hd hle hor
  have hl := len_le22 (p := p) (by omega)
  unfold placeFrom
  by_cases he : p < n + 1 + len p
  ·rw [if_pos he]
   have hs := len_succ (p := p) (by omega)
   exact ih (p + 1) (by omega) (by omega) (by rw [hs]; split <;> omega) (by
    rw [hs]
    cases isPow (p + 1)
    ·exact Or.inl rfl
    ·exact Or.inr (by rw [if_pos rfl]; omega))
  ·rw [if_neg he]
   have hpw : isPow p = false := by
    rcases hor with h | h
    ·exact h
    ·omega
   exact ⟨hpw, by omega, h3⟩
theorem isPlace_place {n : Nat} (hn : n ≤ 1048576) : IsPlace n (place n) := by
 have h2 : 2 ≤ len (n + 3) := by
  have := (len_mono (p := 3) (q := n + 3) (by omega) (by omega)).1
  have h3 : len 3 = 2 := by decide
  omega
 refine placeFrom_is hn 21 (n + 3) (by omega) (by omega) (by omega) ?_
 rcases Nat.eq_zero_or_pos n with e | h0
 ·subst e
  exact Or.inl (by decide)
 ·have := (len_mono (p := 4) (q := n + 3) (by omega) (by omega)).1
  have h3 : len 4 = 3 := by decide
  exact Or.inr (by omega)
end Go.Proofs.Ytmehbabchakkpaa.LenMath
namespace Go.Proofs.Ytmehbabchakkpaa.PureLadderWalks
open Go.RowKit QLadderWalks YtmehbabchakkpaaW.PrintWords YtmehbabchakkpaaW.PrintLast YtmehbabchakkpaaW.PrintMore EvKit BitsKit LenMath
theorem tab_len : ∀ b : Nat, b < 256 → bt (⟨#[0, 1, 2, 2, 3, 3, 3, 3, 4, 4, 4, 4, 4, 4, 4, 4, 5, 5, 5, 5, 5, 5, 5, 5, 5, 5, 5, 5, 5, 5, 5, 5, 6, 6, 6, 6, 6, 6, 6, 6, 6, 6, 6, 6, 6, 6, 6, 6, 6, 6, 6, 6, 6, 6, 6, 6, 6, 6, 6, 6, 6, 6, 6, 6, 7, 7, 7, 7, 7, 7, 7, 7, 7, 7, 7, 7, 7, 7, 7, 7, 7, 7, 7, 7, 7, 7, 7, 7, 7, 7, 7, 7, 7, 7, 7, 7, 7, 7, 7, 7, 7, 7, 7, 7, 7, 7, 7, 7, 7, 7, 7, 7, 7, 7, 7, 7, 7, 7, 7, 7, 7, 7, 7, 7, 7, 7, 7, 7, 8, 8, 8, 8, 8, 8, 8, 8, 8, 8, 8, 8, 8, 8, 8, 8, 8, 8, 8, 8, 8, 8, 8, 8, 8, 8, 8, 8, 8, 8, 8, 8, 8, 8, 8, 8, 8, 8, 8, 8, 8, 8, 8, 8, 8, 8, 8, 8, 8, 8, 8, 8, 8, 8, 8, 8, 8, 8, 8, 8, 8, 8, 8, 8, 8, 8, 8, 8, 8, 8, 8, 8, 8, 8, 8, 8, 8, 8, 8, 8, 8, 8, 8, 8, 8, 8, 8, 8, 8, 8, 8, 8, 8, 8, 8, 8, 8, 8, 8, 8, 8, 8, 8, 8, 8, 8, 8, 8, 8, 8, 8, 8, 8, 8, 8, 8, 8, 8, 8, 8, 8, 8, 8, 8, 8, 8, 8, 8]⟩ : ByteArray) (b : Int) = ((len b : Nat) : Int) := by
 decide +kernel
theorem len_ev {p : Nat} (hp : p < 4194304) : Ev (fun k => bits_Len.f k (p : Int)) ((len p : Nat) : Int) := by
 refine Ev.congr (fun k => by rw [bits_Len.f]) ?_
 refine Ev.bind (a := ((len p : Nat) : Int)) ?_ (Ev.ret rfl)
 refine Ev.congr (fun k => by rw [bits_Len64.f]) ?_
 refine Ev.neg (by omega) ?_
 refine Ev.step (fun k => bits_Len64.j0.eq_2 ..) ?_
 refine Ev.ite (fun h1 => ?_) (fun h1 => ?_)
 ·refine Ev.neg (by omega) ?_
  refine Ev.pos (by omega) (Ev.pos (by omega) (Ev.ret ?_))
  have hs := len_shift (p := p) 16 (by omega)
  have e : ((p : Int) / 65536) % 256 = ((p / 65536 : Nat) : Int) := by omega
  have h2 := len_le22 hp
  rw [show 2 ^ 16 = 65536 from rfl] at hs
  rw [e, tab_len _ (by omega)]
  clear e
  generalize len (p / 65536) = x at hs ⊢
  rw [w64_id (x := (0 : Int) + 16) (by decide) (by decide), w64_id (x := (x : Int)) (by omega) (by omega), w64_id (by omega) (by omega)]
  omega
 ·refine Ev.ite (fun h2 => ?_) (fun h2 => ?_)
  ·refine Ev.pos (by omega) (Ev.pos (by omega) (Ev.ret ?_))
   have hs := len_shift (p := p) 8 (by omega)
   have e : ((p : Int) / 256) % 256 = ((p / 256 : Nat) : Int) := by omega
   have h2 := len_le22 hp
   rw [show 2 ^ 8 = 256 from rfl] at hs
   rw [e, tab_len _ (by omega)]
   clear e
   generalize len (p / 256) = x at hs ⊢
   rw [w64_id (x := (0 : Int) + 8) (by decide) (by decide), w64_id (x := (x : Int)) (by omega) (by omega), w64_id (by omega) (by omega)]
   omega
  ·refine Ev.pos (by omega) (Ev.pos (by omega) (Ev.ret ?_))
   have e : (p : Int) % 256 = ((p : Nat) : Int) := by omega
   have h2 := len_le22 hp
   rw [e, tab_len _ (by omega)]
   clear e
   generalize len p = x at h2 ⊢
   rw [w64_id (x := (x : Int)) (by omega) (by omega), w64_id (by omega) (by omega)]
   omega
theorem wi64 (n : Int) (h₀ : 0 ≤ n) (h₁ : n < 2 ^ 63) : IntKind.i64.wrap n = n := by
 have e : (2 : Int) ^ 63 = 9223372036854775808 := by decide
 rw [e] at h₁
 simp [IntKind.wrap, IntKind.bits, IntKind.signed]
 omega
theorem and_i64 {a b : Nat} (ha : a < 4611686018427387904) (hb : b < 4611686018427387904) : Go.bits .and .i64 a b = ((a &&& b : Nat) : Int) :=
 (bits_nat .i64 63 (by decide) wi64 a b (by omega) (by omega)).1
theorem pow_test {p : Nat} (h0 : 0 < p) (hp : p < 4194304) : (Go.bits .and .i64 (p : Int) (wrap64 ((p : Int) - 1)) = 0) ↔ isPow p = true := by
 have e : wrap64 ((p : Int) - 1) = ((p - 1 : Nat) : Int) := by rw [w64_id (by omega) (by omega)]; omega
 rw [e, and_i64 (by omega) (by omega), ← and_pow p h0]
 omega
theorem place_l1 {p : Nat} (h0 : 0 < p) (hp : p < 4194304) (h : isPow p = false) : Ev (fun k => hamming_Place.l1 k (p : Int)) (p : Int) := by
 refine Ev.step (fun k => hamming_Place.l1.eq_2 ..) ?_
 refine Ev.neg (fun e => ?_) (Ev.ret rfl)
 rw [(pow_test h0 hp).1 e] at h
 exact absurd h (by decide)
theorem place_l0 {n : Nat} (hn : n ≤ 1048576) (d : Nat) : ∀ p : Nat, 3 ≤ p → p + d = n + 24 → p ≤ n + 1 + len p → (isPow p = false ∨ p < n + 1 + len p) →
  ∃ r : Nat, Ev (fun k => hamming_Place.l0 k (n : Int) (p : Int)) (r : Int) ∧ IsPlace n r ∧ r < 4194304 := by
 induction d with
 | zero =>
  intro p h3 hd hle _
  have := len_le22 (p := p) (by omega)
  omega
 | succ d ih =>
  intro p h3 hd hle hor
  have hl := len_le22 (p := p) (by omega)
  have ev := len_ev (p := p) (by omega)
  by_cases he : p < n + 1 + len p
  ·have hs := len_succ (p := p) (by omega)
   obtain ⟨r, hr, h1, h2⟩ := ih (p + 1) (by omega) (by omega) (by rw [hs]; split <;> omega) (by
    rw [hs]
    cases isPow (p + 1)
    ·exact Or.inl rfl
    ·exact Or.inr (by rw [if_pos rfl]; omega))
   refine ⟨r, ?_, h1, h2⟩
   refine Ev.step (fun k => hamming_Place.l0.eq_2 ..) ?_
   rw [w_u64 _ (by omega) (by omega)]
   refine Ev.bind ev ?_
   clear ev hs
   generalize len p = x at he hle hl ⊢
   rw [w64_id (by omega) (by omega), w64_id (by omega) (by omega), w64_succ (by omega)]
   exact Ev.pos (by omega) hr
  ·have hpw : isPow p = false := by
    rcases hor with h | h
    ·exact h
    ·omega
   refine ⟨p, ?_, ⟨hpw, by omega, h3⟩, by omega⟩
   refine Ev.step (fun k => hamming_Place.l0.eq_2 ..) ?_
   rw [w_u64 _ (by omega) (by omega)]
   refine Ev.bind ev ?_
   clear ev
   have hl1 := place_l1 (p := p) (by omega) (by omega) hpw
   generalize len p = x at he hle hl ⊢
   rw [w64_id (by omega) (by omega), w64_id (x := (n : Int) + 1) (by omega) (by omega)]
   exact Ev.neg (by omega) hl1
theorem place_ev {n : Nat} (hn : n ≤ 1048576) : ∃ r : Nat, Ev (fun k => hamming_Place.f k (n : Int)) (r : Int) ∧ IsPlace n r ∧ r < 4194304 := by
 have h2 : 2 ≤ len (n + 3) := by
  have := (len_mono (p := 3) (q := n + 3) (by omega) (by omega)).1
  have h3 : len 3 = 2 := by decide
  omega
 obtain ⟨r, hr, h⟩ := place_l0 hn 21 (n + 3) (by omega) (by omega) (by omega) (by
  rcases Nat.eq_zero_or_pos n with e | h0
  ·subst e
   exact Or.inl (by decide)
  ·have := (len_mono (p := 4) (q := n + 3) (by omega) (by omega)).1
   have h3 : len 4 = 3 := by decide
   exact Or.inr (by omega))
 refine ⟨r, ?_, h⟩
 refine Ev.congr (fun k => by rw [hamming_Place.f]) ?_
 refine Ev.neg (by omega) ?_
 rw [decide_eq_false (by omega)]
 refine Ev.step (fun k => hamming_Place.j0.eq_2 ..) ?_
 refine Ev.neg (by decide) ?_
 rw [w64_id (by omega) (by omega)]
 exact hr
theorem place_is_ev {n : Nat} (hn : n ≤ 1048576) : Ev (fun k => hamming_Place.f k (n : Int)) ((place n : Nat) : Int) := by
 obtain ⟨r, hr, hp, _⟩ := place_ev hn
 rw [← place_same hp (isPlace_place hn)]
 exact hr
theorem bit_place {n p : Nat} (h : IsPlace n p) (h4 : p ≤ 2097152) : Ev (fun k => hamming_Bit.f k (p : Int)) ((n : Int), true) := by
 obtain ⟨h1, h2, h3⟩ := h
 have hl := len_le22 (p := p) (by omega)
 refine Ev.congr (fun k => by rw [hamming_Bit.f]) ?_
 refine Ev.neg (by omega) (Ev.neg (by omega) (Ev.neg (fun e => ?_) ?_))
 ·rw [(pow_test (by omega) (by omega)).1 e] at h1
  exact absurd h1 (by decide)
 ·rw [w_u64 _ (by omega) (by omega)]
  refine Ev.bind (len_ev (by omega)) (Ev.ret ?_)
  generalize len p = x at h2 hl ⊢
  rw [w64_id (x := (p : Int) - (x : Int)) (by omega) (by omega), w64_id (by omega) (by omega), show (p : Int) - (x : Int) - 1 = (n : Int) from by omega]
end Go.Proofs.Ytmehbabchakkpaa.PureLadderWalks
