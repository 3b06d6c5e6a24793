import Derived.Test.YtmehbabchakkpaaMLadderWalksx4
namespace Go.Proofs.Ytmehbabchakkpaa.QLadderWalks
open Go.RowKit YtmehbabchakkpaaW.PrintWords YtmehbabchakkpaaW.PrintLast YtmehbabchakkpaaW.PrintMore Short
attribute [local go_sem] max2_int min2_int max_two min_two max_three min_three max_four min_four
set_option linter.unusedVariables false
set_option maxHeartbeats 8000000
set_option maxRecDepth 100000
set_option linter.unusedSimpArgs false
def chunk_All.l0 : Nat → List Int → Int → List Int → Int → Option (List Int × Int × Int)
 | 0, _, _, _, _ => none
 | k + 1, raw, size, out, fixed => if raw.length = 0 then some (out, fixed, 0) else (chunk_Decode.f k (raw.take (size + 2).toNat)).bind fun t => if t.2.2 = 0 then (if 0 < t.1.length then (if out.length + t.1.length ≤ 140737488355328 then chunk_All.l0 k (raw.drop (size + 2).toNat) size (out ++ t.1) (wrap64 (fixed + t.2.1)) else none) else none) else some ([], 0, t.2.2)
def chunk_All.f (k : Nat) (l0 : List Int) (a1 : Int) : Option (List Int × Int × Int) := (chunk_may.f l0 a1).bind fun m => if m = true then (if 1 ≤ a1 ∧ a1 ≤ 512 ∧ l0.length % (a1 + 2).toNat = 0 then chunk_All.l0 k l0 a1 [] 0 else none) else some ([], 0, 2)
theorem chunk_All.mono_l : ∀ k, ∀ y0 y1 y2 y3, LeO (chunk_All.l0 k y0 y1 y2 y3) (chunk_All.l0 (k + 1) y0 y1 y2 y3)
 | 0 => fun _ _ _ _ r h => by simp [chunk_All.l0] at h
 | k + 1 => by
  have ih := chunk_All.mono_l k
  intro y0 y1 y2 y3
  unfold chunk_All.l0
  repeat' first
  | (with_reducible exact ih _ _ _ _)
  | (with_reducible exact chunk_Decode.mono _ _)
  | (with_reducible exact LeO.refl _)
  | (with_reducible refine LeO.ite ?_ ?_)
  | (with_reducible refine LeO.bind ?_ (fun _ => ?_))
theorem chunk_All.mono : ∀ a0 a1 k, LeO (chunk_All.f k a0 a1) (chunk_All.f (k + 1) a0 a1) := by
 intro a0 a1 k
 unfold chunk_All.f
 repeat' with_reducible first
 | exact chunk_All.mono_l _ _ _ _ _
 | exact LeO.refl _
 | refine LeO.ite ?_ ?_
 | refine LeO.bind ?_ (fun _ => ?_)
theorem chunk_All_res (w w' : World) (v0 v1 v2 : Value) (tmps : Array Value) (h0 : w'.cell? ⟨w.heap.size, 0, none⟩ = some v0) (h1 : w'.cell? ⟨w.heap.size + 1, 0, none⟩ = some v1) (h2 : w'.cell? ⟨w.heap.size + 1 + 1, 0, none⟩ = some v2) (t0 : tmps[4]? = some (.pointer (some ⟨w.heap.size, 0, none⟩))) (t1 : tmps[5]? = some (.pointer (some ⟨w.heap.size + 1, 0, none⟩))) (t2 : tmps[6]? = some (.pointer (some ⟨w.heap.size + 1 + 1, 0, none⟩))) :
  (results Try.f58 tmps).run Try.prog w' = .ok (.tuple #[v0, v1, v2]) w' := by
 simp [results, Try.results58, go_sem, h0, h1, h2, t0, t1, t2]
theorem chunk_All_new3 (w : World) (o0 o1 o2 : Obj) : (((w.alloc o0).alloc o1).alloc o2).heap[w.heap.size]? = some o0 ∧ (((w.alloc o0).alloc o1).alloc o2).heap[w.heap.size + 1]? = some o1 ∧ (((w.alloc o0).alloc o1).alloc o2).heap[w.heap.size + 1 + 1]? = some o2 ∧ Below w.heap.size w (((w.alloc o0).alloc o1).alloc o2) ∧ (((w.alloc o0).alloc o1).alloc o2).heap.size = w.heap.size + 3 := by
 have h1 := blk_new (w.alloc o0) o1
 have h2 := blk_new ((w.alloc o0).alloc o1) o2
 simp only [World.size_alloc] at h1 h2
 exact ⟨blk_alloc (blk_alloc (blk_new w o0) _) _, blk_alloc h1 _, h2, below_alloc (below_alloc (below_alloc (Below.refl _ _) _) _) _, by simp only [World.size_alloc]⟩
def chunk_All_I (w : World) (B m : Nat) (r1 : List Int) (r2 r3 : Int) (L' : List Int) (W : World) : Prop := ∃ (out : List Int) (fx : Int) (v x : Value) (kk : Nat),
 W.heap[w.heap.size]? = some (.cells #[v] 24 (0, 0)) ∧ W.heap[w.heap.size + 1]? = some (.cells #[.int .i64 fx] 3 (0, 0)) ∧ W.heap[w.heap.size + 1 + 1]? = some (.cells #[x] 29 (0, 0)) ∧
 W.ownsRow (B + 2) 5 1 v out.length (nums .u8 out) ∧ Below w.heap.size w W ∧ chunk_All.l0 kk L' ((m : Int) - 2) out fx = some (r1, r2, r3)
def chunk_All_X (w : World) (r1 : List Int) (r2 r3 : Int) (W : World) : Prop :=
 W.heap[w.heap.size]? = some (.cells #[.slice none 0 0] 24 (0, 0)) ∧ W.heap[w.heap.size + 1]? = some (.cells #[.int .i64 0] 3 (0, 0)) ∧ W.heap[w.heap.size + 1 + 1]? = some (.cells #[.int .i64 r3] 29 (0, 0)) ∧ r1 = [] ∧ r2 = 0 ∧ Below w.heap.size w W
theorem chunk_All_blk {W W' : World} {row : Option Nat} {B2 g : Nat} {o : Obj} (h : W.heap[g]? = some o) (hg : W.grownBy W' row) (hr : ∀ r, row = some r → B2 ≤ r ∧ ∃ o : Obj, W.heap[r]? = some o ∧ o.isCells = false) (hlt : g < B2) : W'.heap[g]? = some o :=
 blk_grown h hg (fun e => by have := (hr g e.symm).1; omega)
theorem chunk_All_I_cells {w : World} {B m : Nat} {r1 : List Int} {r2 r3 : Int} (hB : w.heap.size + 3 ≤ B) (s : List Int) : Pieces.Cells (B + 2) (chunk_All_I w B m r1 r2 r3 s) := by
 rintro W W' row ⟨out, fx, v, x, kk, h0, h1, h2, ho, hb, hf⟩ hg hr
 refine ⟨out, fx, v, x, kk, chunk_All_blk h0 hg hr (by omega), chunk_All_blk h1 hg hr (by omega), chunk_All_blk h2 hg hr (by omega), ho.kept hg ?_, hb.grown hg hb.size (fun k e => by have := (hr k e).1; omega), hf⟩
 cases hv : v.ownBlock with
 | none => exact .inl rfl
 | some k =>
  refine .inr (fun e => ?_)
  obtain ⟨_, o, h3, h4⟩ := hr k e.symm
  obtain ⟨cells, h5⟩ := own_typed ho k hv
  rw [h5] at h3
  cases h3
  cases h4
theorem chunk_All_X_cells {w : World} {B : Nat} {r1 : List Int} {r2 r3 : Int} (hB : w.heap.size + 3 ≤ B) : Pieces.Cells (B + 2) (chunk_All_X w r1 r2 r3) := by
 rintro W W' row ⟨h0, h1, h2, h3, h4, hb⟩ hg hr
 exact ⟨chunk_All_blk h0 hg hr (by omega), chunk_All_blk h1 hg hr (by omega), chunk_All_blk h2 hg hr (by omega), h3, h4, hb.grown hg hb.size (fun k e => by have := (hr k e).1; omega)⟩
theorem chunk_All_ne {W : World} {base e n k : Nat} {v : Value} {xs : List Value} (ho : W.ownsRow base e 1 v n xs) (hk : k < base) : v.ownBlock = none ∨ v.ownBlock ≠ some k := by
 cases hv : v.ownBlock with
 | none => exact .inl rfl
 | some j =>
  refine .inr (fun h => ?_)
  cases h
  have := own_base ho k hv
  omega
theorem chunk_All_neq {W : World} {base e n k : Nat} {v : Value} {xs : List Value} (ho : W.ownsRow base e 1 v n xs) (hk : k < base) : some k ≠ v.ownBlock := fun e => by
 have := own_base ho k e.symm
 omega
theorem chunk_All_I_set {w : World} {B m : Nat} {r1 : List Int} {r2 r3 : Int} (hB : w.heap.size + 3 ≤ B) (s : List Int) (W : World) (u : Value) (h : chunk_All_I w B m r1 r2 r3 s W) : chunk_All_I w B m r1 r2 r3 s (W.setCell ⟨B, 0, none⟩ u) := by
 obtain ⟨out, fx, v, x, kk, h0, h1, h2, ho, hb, hf⟩ := h
 exact ⟨out, fx, v, x, kk, blk_far h0 (by show w.heap.size ≠ B; omega) u, blk_far h1 (by show w.heap.size + 1 ≠ B; omega) u, blk_far h2 (by show w.heap.size + 1 + 1 ≠ B; omega) u, ho.kept (grownBy_setCell' W B u) (chunk_All_ne ho (by omega)), below_set hb (by omega), hf⟩
theorem chunk_All_keeps {W W' : World} (h : Below W.heap.size W W') : KeepsOthers W W' := ⟨h.size, fun k o hk _ => (h.block k (Array.getElem?_eq_some_iff.1 hk).1).trans hk⟩
theorem chunk_All_keeps_row {W W' : World} {base e n : Nat} {v : Value} {xs : List Value} (ho : W.ownsRow base e 1 v n xs) (h : W.grownBy W' v.ownBlock) : KeepsOthers W W' :=
 KeepsOthers.of_grownBy h (fun j o hj hjo => by
  obtain ⟨cells, h5⟩ := own_typed ho j hj
  rw [h5] at hjo
  cases hjo
  rfl)
theorem chunk_All_step {kk m : Nat} (hm : 3 ≤ m) {L' out : List Int} {fx : Int} {r : List Int × Int × Int} (hne : L' ≠ []) (h : chunk_All.l0 kk L' ((m : Int) - 2) out fx = some r) :
  ∃ (k' : Nat) (d1 : List Int) (d2 d3 : Int), chunk_Decode.f k' (L'.take m) = some (d1, d2, d3) ∧ ((d3 = 0 ∧ 0 < d1.length ∧ out.length + d1.length ≤ 140737488355328 ∧ chunk_All.l0 k' (L'.drop m) ((m : Int) - 2) (out ++ d1) (wrap64 (fx + d2)) = some r) ∨ (d3 ≠ 0 ∧ r = ([], 0, d3))) := by
 cases kk with
 | zero => simp [chunk_All.l0] at h
 | succ k' =>
  unfold chunk_All.l0 at h
  rw [if_neg (by intro e; exact hne (List.eq_nil_of_length_eq_zero e)), show ((m : Int) - 2 + 2).toNat = m by omega] at h
  obtain ⟨⟨d1, d2, d3⟩, h1, h⟩ := Option.bind_eq_some_iff.1 h
  refine ⟨k', d1, d2, d3, h1, ?_⟩
  by_cases hd : d3 = 0
  ·rw [if_pos hd] at h
   split at h
   ·split at h
    ·exact .inl ⟨hd, by assumption, by assumption, h⟩
    ·cases h
   ·cases h
  ·rw [if_neg hd] at h
   exact .inr ⟨hd, (si_ h).symm⟩
theorem chunk_All_cells {W : World} {ad : Addr} {d1 : List Int} (h : Kd.C (Kd.int .u8) W (some ad) d1.length d1) : ∀ (j : Nat) (u : Value), (nums .u8 d1)[j]? = some u → W.cell? (ad.add j) = some u := by
 intro j u hu
 have hj : j < d1.length := by
  rcases Nat.lt_or_ge j d1.length with h1 | h1
  ·exact h1
  ·rw [List.getElem?_eq_none (by rw [nums_length]; exact h1)] at hu
   cases hu
 obtain ⟨ad', e, hc⟩ := Kd.at_int h (j : Int) (by omega) (by omega)
 cases e
 rw [Int.toNat_natCast] at hc
 rw [hc, ← hu]
 simp [nums, rd, hj]
section
attribute [local go_sem] Oper.semAt_some
set_option maxHeartbeats 2000000 in
set_option maxRecDepth 100000 in
theorem chunk_All.calls (k : Nat) (A0 : Option Addr) (c0 : Nat) (l0 : List Int) (a1 : Int) (r1 : List Int) (r2 : Int) (r3 : Int) (w : World) (hr0 : Kd.C (Kd.int .u8) w A0 l0.length l0) (hc0 : l0.length ≤ c0) (h : chunk_All.f k l0 a1 = some (r1, r2, r3)) :
  Calls Try.prog 58 #[.slice A0 l0.length c0, .int .i64 a1] w fun e w' => ∃ v0_ : Value, e = .returned (.tuple #[v0_, .int .i64 r2, .int .i64 r3]) ∧ Kd.R (Kd.int .u8) 5 w' w.heap.size (fun _ => True) v0_ r1 ∧ Below w.heap.size w w' := by
 have HR0 := ak_ hr0
 have HL0 := ak_ hc0
 clear hr0 hc0
 unfold chunk_All.f at h
 obtain ⟨mb, hmay, h⟩ := Option.bind_eq_some_iff.1 h
 have HMAY := ak_ hmay
 clear hmay
 refine (callsIn_wide (n := 9)).1 ?_
 refine callsIn_of_wp_marks Try.func58 rfl trivial ?_ rfl
 simp only [Try.ntmps58, List.size_toArray, List.length_cons, List.length_nil, Nat.reduceAdd, Nat.reduceSub, Array.replicate_succ, Array.replicate_zero, List.push_toArray, List.append_toArray, List.nil_append, List.cons_append]
 cases mb with
 | false =>
  gi_wp2_with (refine ⟨trivial, ?_⟩; gi_at_call 77; refine (callsIn_wide.2 (chunk_may.calls _ _ l0 a1 false _ (by (with_reducible repeat (first | apply Kd.C_alloc | apply Kd.C_drewN | apply Kd.C_drew)); exact HR0.out) HL0.out HMAY.out)).mono ?_; rintro e w' ⟨rfl, ⟨nd, rfl⟩⟩; obtain ⟨k0, k1, k2, kb, ks⟩ := chunk_All_new3 w (.cells #[.slice none 0 0] 24) (.cells #[.int .i64 0] 3) (.cells #[.int .i64 0] 29); have K0 := ak_ (blk_drewN k0 nd); have K1 := ak_ (blk_drewN k1 nd); have K2 := ak_ (blk_drewN k2 nd); have HB := ak_ (pw_below_drewN kb nd); have KS : Aside0 (((((w.alloc (.cells #[.slice none 0 0] 24)).alloc (.cells #[.int .i64 0] 3)).alloc (.cells #[.int .i64 0] 29)).drewN nd).heap.size = w.heap.size + 3) := ⟨ks⟩; clear k0 k1 k2 kb ks; generalize (((w.alloc (.cells #[.slice none 0 0] 24)).alloc (.cells #[.int .i64 0] 3)).alloc (.cells #[.int .i64 0] 29)).drewN nd = W3 at K0 K1 K2 HB KS ⊢; have c0_ := bc_ K0.out 0; have c1_ := bc_ K1.out 0; have c2_ := bc_ K2.out 0; have f0_ := bf_ K0.out 0; have f1_ := bf_ K1.out 0; have f2_ := bf_ K2.out 0)
  rw [if_neg (by decide)] at h
  obtain ⟨rfl, rfl, rfl⟩ : ([] : List Int) = r1 ∧ (0 : Int) = r2 ∧ (2 : Int) = r3 := by simpa using h
  refine ⟨.tuple #[.slice none 0 0, .int .i64 0, .int .i64 2], ?_, ⟨_, rfl, Kd.R_nil _ _ _ _ _, ?_⟩⟩
  ·have d0 := blk_far (blk_far (blk_set K0.out 0 (.slice none 0 0)) (p := ⟨w.heap.size + 1, 0, none⟩) (by show w.heap.size ≠ w.heap.size + 1; omega) (.int .i64 0)) (p := ⟨w.heap.size + 1 + 1, 0, none⟩) (by show w.heap.size ≠ w.heap.size + 1 + 1; omega) (.int .i64 2)
   have d1 := blk_far (blk_set (blk_far K1.out (p := ⟨w.heap.size, 0, none⟩) (by show w.heap.size + 1 ≠ w.heap.size; omega) (.slice none 0 0)) 0 (.int .i64 0)) (p := ⟨w.heap.size + 1 + 1, 0, none⟩) (by show w.heap.size + 1 ≠ w.heap.size + 1 + 1; omega) (.int .i64 2)
   have d2 := blk_set (blk_far (blk_far K2.out (p := ⟨w.heap.size, 0, none⟩) (by show w.heap.size + 1 + 1 ≠ w.heap.size; omega) (.slice none 0 0)) (p := ⟨w.heap.size + 1, 0, none⟩) (by show w.heap.size + 1 + 1 ≠ w.heap.size + 1; omega) (.int .i64 0)) 0 (.int .i64 2)
   exact chunk_All_res w _ _ _ _ _ (bc_ d0 0) (bc_ d1 0) (bc_ d2 0) rfl rfl rfl
  ·exact below_set (below_set (below_set HB.out (Nat.le_refl _)) (by omega)) (by omega)
 | true =>
  rw [if_pos rfl] at h
  split at h
  ·rename_i hsz
   obtain ⟨hs1, hs2, hmod⟩ := hsz
   obtain ⟨m, hm⟩ := Int.eq_ofNat_of_zero_le (show 0 ≤ a1 + 2 by omega)
   obtain rfl : a1 = (m : Int) - 2 := by omega
   rw [show ((m : Int) - 2 + 2).toNat = m by omega] at hmod
   have HH := ak_ h
   have HMOD := ak_ hmod
   have hm1 : 3 ≤ m := by omega
   have hm2 : m ≤ 514 := by omega
   clear h hmod hs1 hs2 hm
   gi_wp2_with (refine ⟨trivial, ?_⟩; gi_at_call 77; refine (callsIn_wide.2 (chunk_may.calls _ _ l0 ((m : Int) - 2) true _ (by (with_reducible repeat (first | apply Kd.C_alloc | apply Kd.C_drewN | apply Kd.C_drew)); exact HR0.out) HL0.out HMAY.out)).mono ?_; rintro e w' ⟨rfl, ⟨nd, rfl⟩⟩; obtain ⟨k0, k1, k2, kb, ks⟩ := chunk_All_new3 w (.cells #[.slice none 0 0] 24) (.cells #[.int .i64 0] 3) (.cells #[.int .i64 0] 29); have K0 := ak_ (blk_drewN k0 nd); have K1 := ak_ (blk_drewN k1 nd); have K2 := ak_ (blk_drewN k2 nd); have HB := ak_ (pw_below_drewN kb nd); have KS : Aside0 (((((w.alloc (.cells #[.slice none 0 0] 24)).alloc (.cells #[.int .i64 0] 3)).alloc (.cells #[.int .i64 0] 29)).drewN nd).heap.size = w.heap.size + 3) := ⟨ks⟩; clear k0 k1 k2 kb ks; generalize (((w.alloc (.cells #[.slice none 0 0] 24)).alloc (.cells #[.int .i64 0] 3)).alloc (.cells #[.int .i64 0] 29)).drewN nd = W3 at K0 K1 K2 HB KS ⊢; have c0_ := bc_ K0.out 0; have c1_ := bc_ K1.out 0; have c2_ := bc_ K2.out 0; have f0_ := bf_ K0.out 0; have f1_ := bf_ K1.out 0; have f2_ := bf_ K2.out 0)
   have HW3 := ak_ (below_size HB.out)
   refine ⟨trivial, (Pieces.pieces_in Fence.wide 8 trivial rfl A0 l0.length c0 ((m : Int) - 2) W3).mono ?_⟩
   rintro e W4 ⟨rfl, hW4⟩
   have p0 := blk_new W3 (.cells #[.slice A0 l0.length c0] 24)
   have p1 := blk_new (W3.alloc (.cells #[.slice A0 l0.length c0] 24)) (.cells #[.int .i64 ((m : Int) - 2)] 3)
   rw [World.size_alloc] at p1
   have P0 := ak_ (blk_alloc p0 (.cells #[.int .i64 ((m : Int) - 2)] 3))
   have P1 := ak_ p1
   have hb34 : Below W3.heap.size W3 ((W3.alloc (.cells #[.slice A0 l0.length c0] 24)).alloc (.cells #[.int .i64 ((m : Int) - 2)] 3)) := below_alloc (below_alloc (Below.refl _ _) _) _
   have hs34 : ((W3.alloc (.cells #[.slice A0 l0.length c0] 24)).alloc (.cells #[.int .i64 ((m : Int) - 2)] 3)).heap.size = W3.heap.size + 2 := by simp only [World.size_alloc]
   rw [← hW4] at P0 P1 hb34 hs34
   have HS4 := ak_ hs34
   have HB4 := ak_ (below_step HB.out hb34)
   have J0 := ak_ (blk_below K0.out hb34)
   have J1 := ak_ (blk_below K1.out hb34)
   have J2 := ak_ (blk_below K2.out hb34)
   clear p0 p1 hb34 hs34 hW4 K0 K1 K2 c0_ c1_ c2_ f0_ f1_ f2_ HB
   obtain ⟨B, hBe⟩ : ∃ B, B = W3.heap.size := ⟨_, rfl⟩
   rw [← hBe] at P0 P1 HS4 ⊢
   have HBs : Aside0 (w.heap.size + 3 = B) := ⟨by have := KS.out; omega⟩
   clear hBe
   gi_wp2
   obtain ⟨i0, hi, hz0, hz1, hz2⟩ := info_parts Pieces.infou8
   refine Pieces.wpIn_rangeFunc_pieces (F := Fence.wide) rfl (by decide) (gf := 95) (lb := #[.pointer (some ⟨B, 0, none⟩), .pointer (some ⟨B + 1, 0, none⟩)]) rfl trivial (enters_of Try.func95 (by kernel_rfl) rfl) (G := w.heap.size) (B := B) (m := m) (A := A0) (c := c0) (L := l0) (by have := HBs.out; omega)
    (Pieces.pieces1_in Fence.wide 8 trivial rfl (by decide) w.heap.size B m (by have := HBs.out; omega) ⟨hm1, hm2⟩ A0 c0 l0 HMOD.out W4 (by have := HS4.out; omega) HL0.out (Kd.F_below (Kd.C_F (Kd.heap_int .u8) HR0.out) HB4.out) P0.out P1.out) (Below.refl _ _) (by have := HS4.out; omega) rfl
    (chunk_All_I w B m r1 r2 r3) (fun c W => c = .ret ∧ chunk_All_X w r1 r2 r3 W) (fun s => chunk_All_I_cells (by have := HBs.out; omega) s) (fun c W W' row h hg hr => ⟨h.1, chunk_All_X_cells (by have := HBs.out; omega) W W' row h.2 hg hr⟩) (fun s W v h => chunk_All_I_set (by have := HBs.out; omega) s W v h) ⟨[], 0, _, _, _, J0.out, J1.out, J2.out, own_nil _ _ _ _, HB4.out, HH.out⟩
    (fun s_ => { tmps := #[.slice A0 l0.length c0, .int .i64 ((m : Int) - 2), undef, undef, .pointer (some ⟨w.heap.size, 0, none⟩), .pointer (some ⟨w.heap.size + 1, 0, none⟩), .pointer (some ⟨w.heap.size + 1 + 1, 0, none⟩), s_, undef, undef, undef, .slice A0 l0.length c0, .int .i64 ((m : Int) - 2), .bool true, .bool false, .slice A0 l0.length c0, .int .i64 ((m : Int) - 2), .func (.func 95) #[] #[.pointer (some ⟨B, 0, none⟩), .pointer (some ⟨B + 1, 0, none⟩)], s_, undef, undef, undef, undef, undef, undef, undef, undef, undef, undef, undef, undef, undef, undef, undef, undef, undef], defers := [] }) ?assign ?body ?done ?stop
   case assign =>
    intro l x W K hK
    gi_wp2
    exact hK
   case body =>
    rintro l A' c' L' W hne hml hmod hlc ⟨out, fx, v, x, kk, h0, h1, h2, ho, hb, hf⟩ hsz hC
    obtain ⟨k', d1, d2, d3, hdec, hcase⟩ := chunk_All_step hm1 hne hf
    obtain ⟨pc, hpc⟩ : ∃ z, z = L'.take m := ⟨_, rfl⟩
    rw [← hpc] at hdec hC hlc ⊢
    clear hpc
    have K0 := ak_ h0
    have K1 := ak_ h1
    have K2 := ak_ h2
    have HO := ak_ ho
    have HBW := ak_ hb
    have HDEC := ak_ hdec
    have HCP := ak_ hC
    have HLC := ak_ hlc
    have HSW := ak_ hsz
    clear h0 h1 h2 ho hb hf hdec hC hlc hsz hml hmod
    rcases hcase with ⟨rfl, hpos, hlen, hnext⟩ | ⟨hd3, hr⟩
    ·have HLEN := ak_ hlen
     have HNEXT := ak_ hnext
     clear hlen hnext
     gi_wp2_with (first | (refine ⟨trivial, ?_⟩; gi_at_call 60; refine (CallsIn.inRound l (callsIn_wide.2 (chunk_Decode.calls k' A' c' pc d1 d2 0 _ HCP.out HLC.out HDEC.out))).mono ?_; rintro e W2 ⟨v_, rfl, hR_, hb_⟩; obtain ⟨A2, c2, rfl, hl2, hC2⟩ := Kd.R_reads hR_; obtain ⟨ad2, rfl, _⟩ := hC2.2.2 hpos; have HCC := ak_ (chunk_All_cells hC2); clear hC2; have N0 := ak_ (blk_below K0.out hb_); have N1 := ak_ (blk_below K1.out hb_); have N2 := ak_ (blk_below K2.out hb_); have HO2 := ak_ (pw_own_below HO.out hb_); have HB2 := ak_ (below_step HBW.out hb_); have HK2 := ak_ (chunk_All_keeps hb_); have HT2 := ak_ (Pieces.Stays.of_below (G := w.heap.size) (B := B) hb_); have HS2 := ak_ (Nat.le_trans HSW.out (below_size hb_)); clear hb_ hR_ hl2 K0 K1 K2 HO HBW HCP HLC; have c0_ := bc_ N0.out 0; have c1_ := bc_ N1.out 0; have c2_ := bc_ N2.out 0; have f0_ := bf_ N0.out 0; have f1_ := bf_ N1.out 0; have f2_ := bf_ N2.out 0) | (gi_at_builtin; refine wpListIn_append_own _ rfl _ _ 24 rfl (B + 2) 5 i0 (.int .u8 0) 1 1 Try.underlying24 hi hz0 hz1 hz2 rfl (by decide) v out.length (nums .u8 out) rfl HO2.out ad2 d1.length c2 (nums .u8 d1) rfl (by rw [nums_length, Nat.mul_one]) HCC.out (fun u hu => by obtain ⟨z, _, rfl⟩ := List.mem_map.1 hu; rfl) (by have := HLEN.out; unfold maxLen; omega) (by have := HLEN.out; omega) (by have := HS2.out; have := HS4.out; omega) ?_; intro v3 W5 hown3 hgrow3 _; have M0 := ak_ (blk_grown N0.out hgrow3 (chunk_All_neq HO2.out (by have := HBs.out; omega))); have M1 := ak_ (blk_grown N1.out hgrow3 (chunk_All_neq HO2.out (by have := HBs.out; omega))); have M2 := ak_ (blk_grown N2.out hgrow3 (chunk_All_neq HO2.out (by have := HBs.out; omega))); have HK5 := ak_ (HK2.out.trans (chunk_All_keeps_row HO2.out hgrow3)); have HT5 := ak_ (HT2.out.trans (Pieces.Stays.of_grown hgrow3 (fun r e => by have := own_base HO2.out r e; have := HBs.out; omega))); have HB5 := ak_ (HB2.out.grown hgrow3 HB2.out.size (fun r e => by have := own_base HO2.out r e; have := HBs.out; omega)); obtain ⟨nn, hnn⟩ : ∃ nn, out.length + d1.length = nn + 1 := ⟨out.length + d1.length - 1, by omega⟩; rw [hnn] at hown3; obtain ⟨g5, cap5, rfl⟩ := ownsRow_succ hown3; have HO5 := ak_ hown3; have HNN := ak_ hnn; clear hown3 hgrow3 hnn c0_ c1_ c2_ f0_ f1_ f2_; have c0_ := bc_ M0.out 0; have c1_ := bc_ M1.out 0; have f0_ := bf_ M0.out 0; have f1_ := bf_ M1.out 0))
     have hg1 : w.heap.size ≠ w.heap.size + 1 := by omega
     have hg2 : w.heap.size + 1 ≠ w.heap.size := by omega
     have hg3 : w.heap.size + 1 + 1 ≠ w.heap.size := by omega
     have hg4 : w.heap.size + 1 + 1 ≠ w.heap.size + 1 := by omega
     have hBB := HBs.out
     refine ⟨(HK5.out.trans (KeepsOthers.setCell _ _ _)).trans (KeepsOthers.setCell _ _ _), (HT5.out.set _ ⟨Nat.le_refl _, by show w.heap.size ≠ B; omega, by show w.heap.size ≠ B + 1; omega⟩).set _ ⟨by show w.heap.size ≤ w.heap.size + 1; omega, by show w.heap.size + 1 ≠ B; omega, by show w.heap.size + 1 ≠ B + 1; omega⟩, ⟨out ++ d1, _, _, x, k', blk_far (blk_set M0.out 0 _) hg1 _, blk_set (blk_far M1.out hg2 _) 0 _, blk_far (blk_far M2.out hg3 _) hg4 _, ?_, below_set (below_set HB5.out (Nat.le_refl _)) (by omega), HNEXT.out⟩⟩
     rw [List.length_append, HNN.out, nums_append]
     exact (HO5.out.kept (grownBy_setCell' _ _ _) (chunk_All_ne HO5.out (by omega))).kept (grownBy_setCell' _ _ _) (chunk_All_ne HO5.out (by omega))
    ·have HR := ak_ hr
     clear hr
     have e1_ : (d3 == 0) = false := beq_eq_false_iff_ne.2 hd3
     have e2_ : (d3 != 0) = true := by rw [bne, e1_]; rfl
     clear hd3
     gi_wp2_with ((refine ⟨trivial, ?_⟩; gi_at_call 60; refine (CallsIn.inRound l (callsIn_wide.2 (chunk_Decode.calls k' A' c' pc d1 d2 d3 _ HCP.out HLC.out HDEC.out))).mono ?_; rintro e W2 ⟨v_, rfl, hR_, hb_⟩; obtain ⟨A2, c2, rfl, hl2, hC2⟩ := Kd.R_reads hR_; clear hC2; have N0 := ak_ (blk_below K0.out hb_); have N1 := ak_ (blk_below K1.out hb_); have N2 := ak_ (blk_below K2.out hb_); have HO2 := ak_ (pw_own_below HO.out hb_); have HB2 := ak_ (below_step HBW.out hb_); have HK2 := ak_ (chunk_All_keeps hb_); have HT2 := ak_ (Pieces.Stays.of_below (G := w.heap.size) (B := B) hb_); have HS2 := ak_ (Nat.le_trans HSW.out (below_size hb_)); clear hb_ hR_ hl2 K0 K1 K2 HO HBW HCP HLC; have c0_ := bc_ N0.out 0; have c1_ := bc_ N1.out 0; have c2_ := bc_ N2.out 0; have f0_ := bf_ N0.out 0; have f1_ := bf_ N1.out 0; have f2_ := bf_ N2.out 0))
     have hg1 : w.heap.size ≠ w.heap.size + 1 := by omega
     have hg2 : w.heap.size + 1 ≠ w.heap.size := by omega
     have hg3 : w.heap.size + 1 + 1 ≠ w.heap.size := by omega
     have hg4 : w.heap.size + 1 + 1 ≠ w.heap.size + 1 := by omega
     have hg5 : w.heap.size ≠ w.heap.size + 1 + 1 := by omega
     have hg6 : w.heap.size + 1 ≠ w.heap.size + 1 + 1 := by omega
     obtain ⟨rfl, rfl, rfl⟩ : r1 = [] ∧ r2 = 0 ∧ r3 = d3 := by simpa using HR.out
     exact ⟨((HK2.out.trans (KeepsOthers.setCell _ _ _)).trans (KeepsOthers.setCell _ _ _)).trans (KeepsOthers.setCell _ _ _), rfl, blk_far (blk_far (blk_set N0.out 0 _) hg1 _) hg5 _, blk_far (blk_set (blk_far N1.out hg2 _) 0 _) hg6 _, blk_set (blk_far (blk_far N2.out hg3 _) hg4 _) 0 _, rfl, rfl, below_set (below_set (below_set HB2.out (Nat.le_refl _)) (by omega)) (by omega)⟩
   case done =>
    rintro D W ⟨out, fx, v, x, kk, h0, h1, h2, ho, hb, hf⟩ hD hK
    obtain ⟨rfl, rfl, rfl⟩ : r1 = out ∧ r2 = fx ∧ r3 = 0 := by
     cases kk with
     | zero => simp [chunk_All.l0] at hf
     | succ kk =>
      unfold chunk_All.l0 at hf
      rw [if_pos List.length_nil] at hf
      have := si_ hf
      cases this
      exact ⟨rfl, rfl, rfl⟩
    obtain ⟨Av, cv, rfl⟩ := own_slice ho
    have c0_ := bc_ h0 0
    have c1_ := bc_ h1 0
    have c2_ := bc_ h2 0
    have f0_ := bf_ h0 0
    have f1_ := bf_ h1 0
    have f2_ := bf_ h2 0
    have HD := ak_ hD
    have HKD := ak_ hK
    have H0 := ak_ h0
    have H1 := ak_ h1
    have H2 := ak_ h2
    have HO := ak_ ho
    have HBW := ak_ hb
    clear hD hK h0 h1 h2 ho hb hf
    gi_wp2
    gi_region
    all_goals
     gi_wp2
     have hg1 : w.heap.size ≠ w.heap.size + 1 := by omega
     have hg2 : w.heap.size + 1 ≠ w.heap.size := by omega
     have hg3 : w.heap.size + 1 + 1 ≠ w.heap.size := by omega
     have hg4 : w.heap.size + 1 + 1 ≠ w.heap.size + 1 := by omega
     have hg5 : w.heap.size ≠ w.heap.size + 1 + 1 := by omega
     have hg6 : w.heap.size + 1 ≠ w.heap.size + 1 + 1 := by omega
     have hg7 := HBs.out
     have hg8 := HS4.out
     have hg9 := HD.out
     have b0 := blk_far (blk_far (blk_set (blk_drew H0.out) 0 (.slice Av r1.length cv)) hg1 (p := ⟨w.heap.size + 1, 0, none⟩) (.int .i64 r2)) hg5 (p := ⟨w.heap.size + 1 + 1, 0, none⟩) (.int .i64 0)
     have b1 := blk_far (blk_set (blk_far (blk_drew H1.out) hg2 (p := ⟨w.heap.size, 0, none⟩) (.slice Av r1.length cv)) 0 (.int .i64 r2)) hg6 (p := ⟨w.heap.size + 1 + 1, 0, none⟩) (.int .i64 0)
     have b2 := blk_set (blk_far (blk_far (blk_drew H2.out) hg3 (p := ⟨w.heap.size, 0, none⟩) (.slice Av r1.length cv)) hg4 (p := ⟨w.heap.size + 1, 0, none⟩) (.int .i64 r2)) 0 (.int .i64 0)
     have bk := (((KeepsOthers.drew W).trans (KeepsOthers.setCell _ ⟨w.heap.size, 0, none⟩ (.slice Av r1.length cv))).trans (KeepsOthers.setCell _ ⟨w.heap.size + 1, 0, none⟩ (.int .i64 r2))).trans (KeepsOthers.setCell _ ⟨w.heap.size + 1 + 1, 0, none⟩ (.int .i64 0))
     have bo := ((((own_drew HO.out).kept (grownBy_setCell' _ w.heap.size (.slice Av r1.length cv)) (chunk_All_ne HO.out (by omega))).kept (grownBy_setCell' _ (w.heap.size + 1) (.int .i64 r2)) (chunk_All_ne HO.out (by omega))).kept (grownBy_setCell' _ (w.heap.size + 1 + 1) (.int .i64 0)) (chunk_All_ne HO.out (by omega)))
     have bb := below_set (j := 0) (v := .int .i64 0) (g := w.heap.size + 1 + 1) (below_set (j := 0) (v := .int .i64 r2) (g := w.heap.size + 1) (below_set (j := 0) (v := .slice Av r1.length cv) (below_drew1 HBW.out) (Nat.le_refl _)) (by omega)) (by omega)
     have bd := bk.same D _ HKD.out rfl
     refine ⟨by simp, .inl ⟨_, _, rfl, run_takeDeferred bd, ?_⟩⟩
     exact ⟨_, chunk_All_res w _ _ _ _ _ (bc_ ((World.putObj_heap_other (by omega)).trans b0) 0) (bc_ ((World.putObj_heap_other (by omega)).trans b1) 0) (bc_ ((World.putObj_heap_other (by omega)).trans b2) 0) rfl rfl rfl, _, rfl, Kd.R_lower (Kd.R_of_own (ownsRow_putObj bo _ bd rfl) (fun _ _ => trivial)) (by omega), bb.grown (grownBy_putObj' _ _ _) bb.size (fun k e => by cases e; omega)⟩
   case stop =>
    rintro D c W ⟨rfl, h0, h1, h2, rfl, rfl, hb⟩ hD hK
    gi_wp2
    have hg7 := HBs.out
    have hg8 := HS4.out
    refine ⟨by simp, .inl ⟨_, _, rfl, run_takeDeferred hK, ?_⟩⟩
    exact ⟨_, chunk_All_res w _ _ _ _ _ (bc_ ((World.putObj_heap_other (by omega)).trans h0) 0) (bc_ ((World.putObj_heap_other (by omega)).trans h1) 0) (bc_ ((World.putObj_heap_other (by omega)).trans h2) 0) rfl rfl rfl, _, rfl, Kd.R_nil _ _ _ _ _, hb.grown (grownBy_putObj' _ _ _) hb.size (fun k e => by cases e; omega)⟩
  ·cases h
end
def page_shape_chunks.f (a0_0 : Int) (a0_1 : Int) (a0_2 : Int) (a0_3 : Int) (a0_4 : Int) (a0_5 : Int) (a0_6 : Int) (a0_7 : Int) (l1 : List Int) : Option (List Int) := if 0 ≤ a0_7 then (if a0_7 ≤ (l1.length : Int) then (some (l1.take (a0_7 : Int).toNat)) else (none)) else (none)
theorem page_shape_chunks.calls (a0_0 : Int) (a0_1 : Int) (a0_2 : Int) (a0_3 : Int) (a0_4 : Int) (a0_5 : Int) (a0_6 : Int) (a0_7 : Int) (P1_ : Nat → Prop) (A1 : Option Addr) (c1 : Nat) (l1 : List Int) (r : List Int) (w : World) (hs1 : Kd.V (Kd.int .u8) 5 w w.heap.size (fun k_ => P1_ k_) (.slice A1 l1.length c1) l1) (h : page_shape_chunks.f a0_0 a0_1 a0_2 a0_3 a0_4 a0_5 a0_6 a0_7 l1 = some r) :
  Calls Try.prog 59 #[.agg #[.int .i64 a0_0, .int .i64 a0_1, .int .i64 a0_2, .int .i64 a0_3, .int .i64 a0_4, .int .i64 a0_5, .int .i64 a0_6, .int .i64 a0_7], .slice A1 l1.length c1] w fun e w' => ∃ v0_ : Value, e = .returned (v0_) ∧ Kd.V (Kd.int .u8) 5 w' w.heap.size (fun k_ => (P1_ k_ ∨ w.heap.size ≤ k_)) v0_ r ∧ Below w.heap.size w w' := by
 have hu70 := Try.underlying70
 have HO1 := ak_ (show Kd.V (Kd.int .u8) 5 w w.heap.size (fun k_ => (P1_ k_ ∨ w.heap.size ≤ k_)) (.slice A1 l1.length c1) l1 from Kd.V_mono hs1 (fun k_ hk => .inl hk))
 have HB := br_ w
 unfold page_shape_chunks.f at h
 have H := h
 clear h
 by_cases c3 : 0 ≤ a0_7
 ·rw [if_pos c3] at H
  have c3b0 := eq_true c3
  have c3b1 := dt_ c3
  clear c3
  by_cases c4 : a0_7 ≤ (l1.length : Int)
  ·rw [if_pos c4] at H
   have c4b0 := eq_true c4
   have c4b1 := dt_ c4
   clear c4
   obtain ⟨y457, hy457⟩ : ∃ y_ : List Int, y_ = (l1.take (a0_7 : Int).toNat) := ⟨_, rfl⟩
   replace H : (some y457) = some r := (by rw [hy457]; with_reducible exact H)
   have Ny457 := ak_ hy457
   clear hy457
   obtain rfl := si_ H
   go_enter Try.func59, Try.ntmps59
   go_wp2_with ((with_reducible refine gate_dst (N := 2) rfl ?_); refine box_event ?hg (N := 2) ?hd (cs := #[.int .i64 a0_0, .int .i64 a0_1, .int .i64 a0_2, .int .i64 a0_3, .int .i64 a0_4, .int .i64 a0_5, .int .i64 a0_6, .int .i64 a0_7]) (t := 70) ?hr ?_; (case hd => rfl); (case hg => rfl); (case hr => (go_simp; done)); intro gb456 hg w5 hbox hb; replace HO1 := ak_ (Kd.V_below (Kd.V_elderB HO1.out gb456 (Nat.le_of_eq hg.symm)) hb); have BK456 := ak_ (hbox); have GW456 := ak_ (gw_ hg (below_size HB.out)); have GE456 := ak_ (gw_ hg (below_size HB.out)); replace HB := ak_ (below_step HB.out hb); clear hb hbox hg; obtain ⟨hcz6_0, hcz6_1, hcz6_2, hcz6_3, hcz6_4, hcz6_5, hcz6_6, hcz6_7⟩ := cells8 BK456.out; obtain ⟨hfz6_0, hfz6_1, hfz6_2, hfz6_3, hfz6_4, hfz6_5, hfz6_6, hfz6_7⟩ := froz8 BK456.out; have q7 : (a0_7 : Int) ≤ ((l1.length : Int) : Int) := od_ ‹_›; obtain ⟨i07, hi07, _, hsz7, _⟩ := info_parts info5; have hroom7 : l1.length ≤ c1 := (Kd.V_reads' HO1.out).2.1; have hC7 : Kd.F (Kd.int .u8) _ _ A1 l1.length l1 := (Kd.V_at (base := w.heap.size) HO1.out).2.2; have hcut7 := cut_to (P := Try.prog) 24 5 .i64 Try.underlying24 hi07 A1 l1.length c1 a0_7 (od_ ‹_›) q7 hroom7; have hr7 := Kd.F_take (m := (a0_7 : Int).toNat) hC7 (by omega); have hy7 : y457.length = (a0_7 : Int).toNat := (by rw [Ny457.out, List.length_take]; omega); rw [← Ny457.out] at hr7; rw [← hy7] at hcut7; have HO461 := ak_ (show Kd.V (Kd.int .u8) 5 _ w.heap.size _ (.slice A1 y457.length c1) y457 from Kd.V_mk (by omega) hr7); have HC461 := ak_ (show y457.length ≤ c1 from by omega); clear hr7 hC7 hroom7 hi07 hsz7; have KY7 := ak_ hy7; clear hy7; replace q7 := eq_true q7)
   go_ret
   exact ⟨_, by rfl, (Kd.V_mono HO461.out (fun _ hk => hk.1)), HB.out⟩
  ·rw [if_neg c4] at H
   exact absurd H (by simp)
 ·rw [if_neg c3] at H
  exact absurd H (by simp)
def crc_Bytes.l0 : Nat → Int → List Int → Int → Int → Option (List Int)
 | 0, _, _, _, _ => none
 | k + 1, x0, x3, x7, x8 => if x8 < x7 then (if 0 ≤ (IntKind.u64.wrap (wrap64 (8 * x8))) then (if 0 ≤ x8 then (if x8 < (x3.length : Int) then (crc_Bytes.l0 k x0 (x3.set (x8 : Int).toNat ((shr .u32 x0 (IntKind.u64.wrap (wrap64 (8 * x8)))) % 256)) x7 (wrap64 (x8 + 1))) else (none)) else (none)) else (none)) else (some x3)
def crc_Bytes.f (k : Nat) (a0 : Int) : Option (List Int) := if 4 ≤ 281474976710656 then ((some (List.replicate 4 0 : List Int)).bind fun y173 => (crc_Bytes.l0 k a0 y173 (y173.length : Int) 0)) else (none)
theorem crc_Bytes.mono_l : ∀ k, (∀ y0 y1 y2 y3, LeO (crc_Bytes.l0 k y0 y1 y2 y3) (crc_Bytes.l0 (k + 1) y0 y1 y2 y3))
 | 0 => fun _ _ _ _ r h => by simp [crc_Bytes.l0] at h
 | k + 1 => by
  have ih0 := crc_Bytes.mono_l k
  ·intro y0 y1 y2 y3
   unfold crc_Bytes.l0
   repeat' first
   | (with_reducible exact ih0 _ _ _ _)
   | (with_reducible exact LeO.refl _)
   | (with_reducible exact LeO.none _)
   | (with_reducible refine LeO.ite ?_ ?_)
   | (with_reducible refine LeO.bind ?_ (fun _ => ?_))
theorem crc_Bytes.mono : ∀ a0 k, LeO (crc_Bytes.f k a0) (crc_Bytes.f (k + 1) a0) := by
 intro a0 k
 have ih0 := crc_Bytes.mono_l k
 unfold crc_Bytes.f
 repeat' with_reducible first
  | exact ih0 _ _ _ _
  | exact LeO.refl _
  | exact LeO.none _
  | refine LeO.ite ?_ ?_
  | refine LeO.bind ?_ (fun _ => ?_)
theorem crc_Bytes.calls (k : Nat) (a0 : Int) (r : List Int) (w : World) (h : crc_Bytes.f k a0 = some r) :
  Calls Try.prog 41 #[.int .u32 a0] w fun e w' => ∃ v0_ : Value, e = .returned (v0_) ∧ Kd.R (Kd.int .u8) 5 w' w.heap.size (fun _ => True) v0_ r ∧ Below w.heap.size w w' := by
 have HB := br_ w
 unfold crc_Bytes.f at h
 have H := h
 clear h
 by_cases c2 : 4 ≤ 281474976710656
 ·rw [if_pos c2] at H
  have c2b0 := eq_true c2
  have c2b1 := dt_ c2
  clear c2
  obtain ⟨y156, hy156⟩ : ∃ y_ : List Int, y_ = (List.replicate 4 0) := ⟨_, rfl⟩
  replace H : (crc_Bytes.l0 k a0 y156 (y156.length : Int) 0) = some r := by first | (rw [hy156]; with_reducible exact H) | (have H2_ := (Option.bind_some _ _).symm.trans H; rw [hy156]; with_reducible exact H2_) | (have H2_ := (Option.bind_some _ _).symm.trans H; with_reducible exact H2_) | with_reducible exact H | (rw [hy156]; exact H) | exact H
  have Ny156 := ak_ hy156
  clear hy156
  have H' := ak_ H
  clear H
  go_enter Try.func41, Try.ntmps41
  go_wp2_with ((with_reducible refine gate_dst (N := 5) rfl ?_); refine Kd.R_make (Kd.int .u8) _ 5 rfl (N := 5) rfl 24 _ _ rfl 4 rfl rfl Try.underlying24 (.int .u8 0) 1 info5 rfl (by decide) (by omega) 0 (ok := fun _ => True) (okp := fun _ => True) rfl (fun _ hk => hk) trivial (by omega) (by omega) (Below.refl _ _) (Nat.le_refl _) ?_; intro v157 w3 ho4 hb hg_ hnew_; clear hg_ hnew_; (first | rw [← Ny156.out] at ho4 | (simp only [Int.reduceToNat] at ho4; rw [← Ny156.out] at ho4)); have HO158 := ak_ (Kd.R_lower ho4 (below_size HB.out)); replace HB := ak_ (below_step HB.out hb); clear hb ho4; obtain ⟨Ao5, co5, eo5⟩ := Kd.R_slice HO158.out; subst eo5)
  go_loopg [8] k (fun kq v8 w' => ∃ (x3_1 : List Int) (x8_1 : Int), v8 = .int .i64 x8_1 ∧ Aside0 (crc_Bytes.l0 kq a0 x3_1 (y156.length : Int) x8_1 = some r) ∧ Aside0 (kq ≤ k) ∧ Aside0 (Kd.R (Kd.int .u8) 5 w' w.heap.size (fun _ => True) (.slice Ao5 y156.length co5) x3_1) ∧ Aside0 (Below w.heap.size w w'))
  case atStart => exact ⟨(y156), (0), (by rfl), H', ⟨Nat.le_refl _⟩, ⟨HO158.out⟩, ⟨HB.out⟩⟩
  case round =>
   clear H'
   clear c2b0 c2b1
   obtain ⟨x3_1, x8_1, rfl, HA, HK1, HO_3, HB⟩ := hrel
   have hl3_1 := (Kd.R_reads' HO_3.out).1
   rw [hl3_1] at HO_3
   (try simp only [hl3_1])
   cases gk with
   | zero => exact absurd HA.out (by simp [crc_Bytes.l0])
   | succ k1 =>
    have H := HA.out
    clear HA
    simp only [crc_Bytes.l0] at H
    by_cases c6 : x8_1 < (y156.length : Int)
    ·rw [if_pos c6] at H
     have c6b0 := dt_ c6
     (try (have c6b0h := c6b0; simp only [hl3_1] at c6b0h))
     clear c6
     obtain ⟨ji7, hji7⟩ : ∃ j_ : Int, (IntKind.u64.wrap (wrap64 (8 * x8_1))) = j_ := ⟨_, rfl⟩
     replace H : (if 0 ≤ (ji7) then (if 0 ≤ x8_1 then (if x8_1 < (x3_1.length : Int) then (crc_Bytes.l0 k1 a0 (x3_1.set (x8_1 : Int).toNat ((shr .u32 a0 (ji7)) % 256)) (y156.length : Int) (wrap64 (x8_1 + 1))) else (none)) else (none)) else (none)) = some r := (by rw [hji7] at H; exact H)
     by_cases c8 : 0 ≤ (ji7)
     ·rw [if_pos c8] at H
      have c8b0 := eq_true c8
      have c8b1 := dt_ c8
      clear c8
      obtain ⟨ji9, hji9⟩ : ∃ j_ : Int, (shr .u32 a0 (ji7)) = j_ := ⟨_, rfl⟩
      replace H : (if 0 ≤ x8_1 then (if x8_1 < (x3_1.length : Int) then (crc_Bytes.l0 k1 a0 (x3_1.set (x8_1 : Int).toNat ((ji9) % 256)) (y156.length : Int) (wrap64 (x8_1 + 1))) else (none)) else (none)) = some r := (by rw [hji9] at H; exact H)
      have hji9_ : (a0 / 2 ^ min (ji7).toNat 32) = ji9 := hji9
      have hji9z : (ji7) ≤ 32 → (a0 / 2 ^ (ji7).toNat) = ji9 := shr_small hji9
      by_cases c10 : 0 ≤ x8_1
      ·rw [if_pos c10] at H
       have c10b0 := dt_ c10
       clear c10
       by_cases c11 : x8_1 < (x3_1.length : Int)
       ·rw [if_pos c11] at H
        have c11b0 := dt_ c11
        (try (have c11b0h := c11b0; simp only [hl3_1] at c11b0h))
        clear c11
        obtain ⟨y159, hy159⟩ : ∃ y_ : List Int, y_ = (x3_1.set (x8_1 : Int).toNat ((ji9) % 256)) := ⟨_, rfl⟩
        replace H : (crc_Bytes.l0 k1 a0 y159 (y156.length : Int) (wrap64 (x8_1 + 1))) = some r := (by rw [hy159]; with_reducible exact H)
        have Ny159 := ak_ hy159
        clear hy159
        have H' := ak_ H
        clear H
        have p12 : 0 ≤ (x8_1 : Int) := od_ ‹_›
        have q12 : (x8_1 : Int) < ((x3_1.length : Int) : Int) := od_ ‹_›
        obtain ⟨go12, co12, eo12, gb12, gl12, cl12, HG12⟩ := Kd.R_form HO_3.out (by omega)
        (cases eo12)
        have GB12 := ak_ gb12
        have GG12 := ak_ HG12
        clear gb12 gl12 HG12
        obtain ⟨hx12_0, hf12_0⟩ := Kd.R_celln 0 HO_3.out (x8_1 : Int) p12 q12
        replace p12 := eq_true p12
        replace q12 := eq_true q12
        have HP13 := Kd.R_putg HO_3.out (x8_1 : Int) ((ji9) % 256)
        go_wp2_with ((with_reducible refine gate_store (t := 5) (p := 19) rfl ?_); refine store_event (t := 5) (p := 19) (v := ?vo_w14) (w1 := (wr.setCell ⟨go12, (x8_1 : Int).toNat, none⟩ (.int .u8 ((ji9) % 256)))) ?hg ?ho ?hn ?hr ?_; (case ho => rfl); (case hg => rfl); (case hn => rfl); (case hr => (go_simp; done)); intro w14 hw; have hg : wr.grownBy w14 (some go12) := (by rw [hw]; exact HP13.2); have hp_ : Kd.R (Kd.int .u8) 5 w14 w.heap.size (fun _ => True) (.slice (some ⟨go12, 0, none⟩) x3_1.length co5) y159 := (by rw [hw, Ny159.out]; exact HP13.1); clear HP13; replace HO_3 := ak_ (hp_); replace HB := ak_ ((by rw [hw]; exact below_set (HB.out) GB12.out : Below w.heap.size w w14)); clear hg hw hp_)
        (try simp only [← hl3_1])
        go_roundg k1
        case measure => have := HK1.out; omega
        case rel => exact ⟨(y159), (wrap64 (x8_1 + 1)), (by rfl), H', ⟨by have := HK1.out; omega⟩, ⟨by (try simp only [hl3_1]); (with_reducible repeat (first | apply Kd.R_alloc | apply Kd.R_drewN | apply Kd.R_drew)); exact HO_3.out⟩, ⟨HB.out⟩⟩
       ·rw [if_neg c11] at H
        exact absurd H (by simp)
      ·rw [if_neg c10] at H
       exact absurd H (by simp)
     ·rw [if_neg c8] at H
      exact absurd H (by simp)
    ·rw [if_neg c6] at H
     have c6b0 := df_ c6
     (try (have c6b0h := c6b0; simp only [hl3_1] at c6b0h))
     clear c6
     obtain rfl := si_ H
     go_wp2
     go_ret
     exact ⟨_, by rfl, by (with_reducible repeat (first | apply Kd.R_alloc | apply Kd.R_drewN | apply Kd.R_drew)); exact HO_3.out, HB.out⟩
 ·rw [if_neg c2] at H
  exact absurd H (by simp)
def crc_step.l0 : Nat → Int → Int → Option (Int)
 | 0, _, _ => none
 | k + 1, x0, x9 => if x9 < 8 then (crc_step.l0 k (Go.bits .xor .u32 (x0 / 2) (Go.bits .and .u32 3988292384 ((-(Go.bits .and .u32 x0 1)) % 4294967296))) (wrap64 (x9 + 1))) else (some x0)
def crc_step.f (k : Nat) (a0 : Int) (a1 : Int) : Option (Int) := crc_step.l0 k (Go.bits .xor .u32 a0 ((a1) % 4294967296)) 0
theorem crc_step.mono_l : ∀ k, (∀ y0 y1, LeO (crc_step.l0 k y0 y1) (crc_step.l0 (k + 1) y0 y1))
 | 0 => fun _ _ r h => by simp [crc_step.l0] at h
 | k + 1 => by
  have ih0 := crc_step.mono_l k
  ·intro y0 y1
   unfold crc_step.l0
   repeat' first
   | (with_reducible exact ih0 _ _)
   | (with_reducible exact LeO.refl _)
   | (with_reducible exact LeO.none _)
   | (with_reducible refine LeO.ite ?_ ?_)
   | (with_reducible refine LeO.bind ?_ (fun _ => ?_))
theorem crc_step.mono : ∀ a0 a1 k, LeO (crc_step.f k a0 a1) (crc_step.f (k + 1) a0 a1) := by
 intro a0 a1 k
 have ih0 := crc_step.mono_l k
 unfold crc_step.f
 repeat' with_reducible first
  | exact ih0 _ _
  | exact LeO.refl _
  | exact LeO.none _
  | refine LeO.ite ?_ ?_
  | refine LeO.bind ?_ (fun _ => ?_)
theorem crc_step.calls (k : Nat) (a0 : Int) (a1 : Int) (r : Int) (w : World) (h : crc_step.f k a0 a1 = some r) :
  Calls Try.prog 69 #[.int .u32 a0, .int .u8 a1] w fun e w' => e = .returned (.int .u32 r) ∧ Drawn0 w w' := by
 unfold crc_step.f at h
 have H := h
 clear h
 have H' := ak_ H
 clear H
 go_enter Try.func69, Try.ntmps69
 go_wp2
 go_loopg [0, 9] k (fun kq v0 v9 w' => ∃ (x0_1 : Int) (x9_1 : Int), v0 = .int .u32 x0_1 ∧ v9 = .int .i64 x9_1 ∧ Aside0 (crc_step.l0 kq x0_1 x9_1 = some r) ∧ Aside0 (kq ≤ k) ∧ Drawn0 w w')
 case atStart => exact ⟨(Go.bits .xor .u32 a0 ((a1) % 4294967296)), (0), (by rfl), (by rfl), H', ⟨Nat.le_refl _⟩, by repeat (first | exact Drawn0.refl _ | apply Drawn0.step)⟩
 case round =>
  clear H'
  obtain ⟨x0_1, x9_1, rfl, rfl, HA, HK1, ⟨m1, rfl⟩⟩ := hrel
  cases gk with
  | zero => exact absurd HA.out (by simp [crc_step.l0])
  | succ k1 =>
   have H := HA.out
   clear HA
   simp only [crc_step.l0] at H
   by_cases c3 : x9_1 < 8
   ·rw [if_pos c3] at H
    have c3b0 := dt_ c3
    clear c3
    have H' := ak_ H
    clear H
    go_wp2
    go_roundg k1
    case measure => have := HK1.out; omega
    case rel => exact ⟨(Go.bits .xor .u32 (x0_1 / 2) (Go.bits .and .u32 3988292384 ((-(Go.bits .and .u32 x0_1 1)) % 4294967296))), (wrap64 (x9_1 + 1)), (by rfl), (by rfl), H', ⟨by have := HK1.out; omega⟩, by repeat (first | exact Drawn0.refl _ | apply Drawn0.step)⟩
   ·rw [if_neg c3] at H
    have c3b0 := df_ c3
    clear c3
    obtain rfl := si_ H
    go_wp2
    go_ret
    exact ⟨by rfl, by repeat (first | exact Drawn0.refl _ | apply Drawn0.step)⟩
mutual
def crc_Sum.l0 : Nat → Int → List (List Int) → Int → Int → Option (Int)
 | 0, _, _, _, _ => none
 | k + 1, x3, x8, x9, x10 => if x10 < x9 then (if 0 ≤ x10 then (if x10 < (x8.length : Int) then (crc_Sum.l1 k x3 x8 x9 x10 (rd_L3 x8 x10) ((rd_L3 x8 x10).length : Int) 0) else (none)) else (none)) else (some (Go.bits .xor .u32 4294967295 x3))
def crc_Sum.l1 : Nat → Int → List (List Int) → Int → Int → List Int → Int → Int → Option (Int)
 | 0, _, _, _, _, _, _, _ => none
 | k + 1, x3, x8, x9, x10, x14, x15, x16 => if x16 < x15 then (if 0 ≤ x16 then (if x16 < (x14.length : Int) then ((crc_step.f k x3 (rd x14 x16)).bind fun t179 => (crc_Sum.l1 k t179 x8 x9 x10 x14 x15 (wrap64 (x16 + 1)))) else (none)) else (none)) else (crc_Sum.l0 k x3 x8 x9 (wrap64 (x10 + 1)))
end
def crc_Sum.f (k : Nat) (l0 : List (List Int)) : Option (Int) := crc_Sum.l0 k 4294967295 l0 (l0.length : Int) 0
theorem crc_Sum.mono_l : ∀ k, (∀ y0 y1 y2 y3, LeO (crc_Sum.l0 k y0 y1 y2 y3) (crc_Sum.l0 (k + 1) y0 y1 y2 y3)) ∧ (∀ y0 y1 y2 y3 y4 y5 y6, LeO (crc_Sum.l1 k y0 y1 y2 y3 y4 y5 y6) (crc_Sum.l1 (k + 1) y0 y1 y2 y3 y4 y5 y6))
 | 0 => ⟨fun _ _ _ _ r h => by simp [crc_Sum.l0] at h, fun _ _ _ _ _ _ _ r h => by simp [crc_Sum.l1] at h⟩
 | k + 1 => by
  obtain ⟨ih0, ih1⟩ := crc_Sum.mono_l k
  refine ⟨?_, ?_⟩
  ·intro y0 y1 y2 y3
   unfold crc_Sum.l0
   repeat' first
   | (with_reducible exact ih0 _ _ _ _)
   | (with_reducible exact ih1 _ _ _ _ _ _ _)
   | (with_reducible exact crc_step.mono _ _ _)
   | (with_reducible exact LeO.refl _)
   | (with_reducible exact LeO.none _)
   | (with_reducible refine LeO.ite ?_ ?_)
   | (with_reducible refine LeO.bind ?_ (fun _ => ?_))
  ·intro y0 y1 y2 y3 y4 y5 y6
   unfold crc_Sum.l1
   repeat' first
   | (with_reducible exact ih0 _ _ _ _)
   | (with_reducible exact ih1 _ _ _ _ _ _ _)
   | (with_reducible exact crc_step.mono _ _ _)
   | (with_reducible exact LeO.refl _)
   | (with_reducible exact LeO.none _)
   | (with_reducible refine LeO.ite ?_ ?_)
   | (with_reducible refine LeO.bind ?_ (fun _ => ?_))
theorem crc_Sum.mono : ∀ a0 k, LeO (crc_Sum.f k a0) (crc_Sum.f (k + 1) a0) := by
 intro a0 k
 obtain ⟨ih0, ih1⟩ := crc_Sum.mono_l k
 unfold crc_Sum.f
 repeat' with_reducible first
  | exact ih0 _ _ _ _
  | exact ih1 _ _ _ _ _ _ _
  | exact crc_step.mono _ _ _
  | exact LeO.refl _
  | exact LeO.none _
  | refine LeO.ite ?_ ?_
  | refine LeO.bind ?_ (fun _ => ?_)
theorem crc_Sum.calls (k : Nat) (A0 : Option Addr) (c0 : Nat) (l0 : List (List Int)) (r : Int) (w : World) (hr0 : Kd.C (Kd.slice 5 (Kd.int .u8)) w A0 l0.length l0) (hc0 : l0.length ≤ c0) (h : crc_Sum.f k l0 = some r) :
  Calls Try.prog 42 #[.slice A0 l0.length c0] w fun e w' => e = .returned (.int .u32 r) ∧ Drawn0 w w' := by
 have HR0 := ak_ hr0
 have HC0 := ak_ hc0
 clear hr0 hc0
 unfold crc_Sum.f at h
 have H := h
 clear h
 have H' := ak_ H
 clear H
 go_enter Try.func42, Try.ntmps42
 go_wp2
 go_loopg [3, 10] k (fun kq v3 v10 w' => ∃ (x3_1 : Int) (x10_1 : Int), v3 = .int .u32 x3_1 ∧ v10 = .int .i64 x10_1 ∧ Aside0 (crc_Sum.l0 kq x3_1 l0 (l0.length : Int) x10_1 = some r) ∧ Aside0 (kq ≤ k) ∧ Drawn0 w w')
 case atStart => exact ⟨(4294967295), (0), (by rfl), (by rfl), H', ⟨Nat.le_refl _⟩, by repeat (first | exact Drawn0.refl _ | apply Drawn0.step)⟩
 case round =>
  clear H'
  obtain ⟨x3_1, x10_1, rfl, rfl, HA, HK1, ⟨m1, rfl⟩⟩ := hrel
  cases gk with
  | zero => exact absurd HA.out (by simp [crc_Sum.l0])
  | succ k1 =>
   have H := HA.out
   clear HA
   simp only [crc_Sum.l0] at H
   by_cases c2 : x10_1 < (l0.length : Int)
   ·rw [if_pos c2] at H
    have c2b0 := dt_ c2
    clear c2
    by_cases c3 : 0 ≤ x10_1
    ·rw [if_pos c3] at H
     have c3b0 := dt_ c3
     clear c3
     by_cases c4 : x10_1 < (l0.length : Int)
     ·rw [if_pos c4] at H
      have c4b0 := dt_ c4
      clear c4
      have H' := ak_ H
      clear H
      have p160 : 0 ≤ (x10_1 : Int) := od_ ‹_›
      have q160 : x10_1 < (l0.length : Int) := od_ ‹_›
      obtain ⟨ad160, A160_0, c160_0, e160, hx160_0, hl160_0, hi160_0⟩ := at_L3 HR0.out x10_1 p160 q160
      cases e160
      have HR160_0 := ak_ hi160_0
      have HC160_0 := ak_ hl160_0
      clear hi160_0 hl160_0
      replace p160 := eq_true p160
      replace q160 := eq_true q160
      go_wp2
      go_loopg [3, 16] k1 (fun kq v3 v16 w' => ∃ (x3_2 : Int) (x16_2 : Int), v3 = .int .u32 x3_2 ∧ v16 = .int .i64 x16_2 ∧ Aside0 (crc_Sum.l1 kq x3_2 l0 (l0.length : Int) x10_1 (rd_L3 l0 x10_1) ((rd_L3 l0 x10_1).length : Int) x16_2 = some r) ∧ Aside0 (kq ≤ k1) ∧ Drawn0 w w')
      case atStart => exact ⟨(x3_1), (0), (by rfl), (by rfl), H', ⟨Nat.le_refl _⟩, by repeat (first | exact Drawn0.refl _ | apply Drawn0.step)⟩
      case round =>
       clear H'
       clear c2b0 c3b0 c4b0 hx160_0 p160 q160
       obtain ⟨x3_2, x16_2, rfl, rfl, HA, HK2, ⟨m2, rfl⟩⟩ := hrel
       cases gk with
       | zero => exact absurd HA.out (by simp [crc_Sum.l1])
       | succ k2 =>
        have H := HA.out
        clear HA
        simp only [crc_Sum.l1] at H
        by_cases c5 : x16_2 < ((rd_L3 l0 x10_1).length : Int)
        ·rw [if_pos c5] at H
         have c5b0 := dt_ c5
         clear c5
         by_cases c6 : 0 ≤ x16_2
         ·rw [if_pos c6] at H
          have c6b0 := dt_ c6
          clear c6
          by_cases c7 : x16_2 < ((rd_L3 l0 x10_1).length : Int)
          ·rw [if_pos c7] at H
           have c7b0 := dt_ c7
           clear c7
           obtain ⟨t162, A8, H⟩ := bs_ H
           have H' := ak_ H
           clear H
           have p161 : 0 ≤ (x16_2 : Int) := od_ ‹_›
           have q161 : x16_2 < ((rd_L3 l0 x10_1).length : Int) := od_ ‹_›
           obtain ⟨ad161, e161, hx161_0⟩ := Kd.at_int HR160_0.out x16_2 p161 q161
           cases e161
           replace p161 := eq_true p161
           replace q161 := eq_true q161
           go_wp2_with ((with_reducible refine gate_callee (f := 69) rfl ?_); refine goesL_ (some 22) rfl rfl Try.func69 (by kernel_rfl) rfl #[.int .u32 x3_2, .int .u8 (rd (rd_L3 l0 x10_1) x16_2)] rfl (by (try simp only [List.map_toArray, List.map_cons, List.map_nil]); first | done | rfl | (simp only [List.length_drop, List.length_take]; rfl)) ?_; (with_reducible refine (crc_step.calls k2 x3_2 (rd (rd_L3 l0 x10_1) x16_2) t162 _ A8.out).mono ?_); rintro e w' ⟨rfl, ⟨nd, rfl⟩⟩; refine ⟨_, rfl, ?_⟩)
           go_roundg k2
           case measure => have := HK1.out; have := HK2.out; omega
           case rel => exact ⟨(t162), (wrap64 (x16_2 + 1)), (by rfl), (by rfl), H', ⟨by have := HK1.out; have := HK2.out; omega⟩, by repeat (first | exact Drawn0.refl _ | apply Drawn0.step)⟩
          ·rw [if_neg c7] at H
           exact absurd H (by simp)
         ·rw [if_neg c6] at H
          exact absurd H (by simp)
        ·rw [if_neg c5] at H
         have c5b0 := df_ c5
         clear c5
         have H' := ak_ H
         clear H
         go_wp2
         go_roundg k2
         case measure => have := HK1.out; have := HK2.out; omega
         case rel => exact ⟨(x3_2), (wrap64 (x10_1 + 1)), (by rfl), (by rfl), H', ⟨by have := HK1.out; have := HK2.out; omega⟩, by repeat (first | exact Drawn0.refl _ | apply Drawn0.step)⟩
     ·rw [if_neg c4] at H
      exact absurd H (by simp)
    ·rw [if_neg c3] at H
     exact absurd H (by simp)
   ·rw [if_neg c2] at H
    have c2b0 := df_ c2
    clear c2
    obtain rfl := si_ H
    go_wp2
    go_ret
    exact ⟨by rfl, by repeat (first | exact Drawn0.refl _ | apply Drawn0.step)⟩
end Go.Proofs.Ytmehbabchakkpaa.QLadderWalks
