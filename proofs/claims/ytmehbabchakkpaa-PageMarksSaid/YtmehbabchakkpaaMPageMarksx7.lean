/-
  Texts for the law PageMarks, laid together by my program merge2.py; what nothing here names is left out.
-/
import Derived.Test.YtmehbabchakkpaaMPageMarksx6
namespace Go.Proofs.Ytmehbabchakkpaa.PurePageMarks
open Go.RowKit Go.Proofs.Ytmehbabchakkpaa.QPageMarks Go.Proofs.YtmehbabchakkpaaW.PrintWords Go.Proofs.YtmehbabchakkpaaW.PrintLast Go.Proofs.YtmehbabchakkpaaW.PrintMore Go.Proofs.Ytmehbabchakkpaa.EvKit Go.Proofs.Ytmehbabchakkpaa.PackMath Go.Proofs.Ytmehbabchakkpaa.TagMath Go.Proofs.Ytmehbabchakkpaa.CrcMath Go.Proofs.Ytmehbabchakkpaa.NatKit Go.Proofs.Ytmehbabchakkpaa.BitsMath Go.Proofs.Ytmehbabchakkpaa.ChunkMath
theorem decN_len {r : List Nat} (h : (decN r).2.2 = 0) : (decN r).1.length = r.length - 2 := by
 unfold decN at h ⊢
 split at h
 ·exact absurd h (by decide)
 ·rename_i hn
  rw [if_neg hn]
  have hl : (r.take (r.length - 2)).length = r.length - 2 := by rw [List.length_take]; omega
  unfold decOf at h ⊢
  split at h
  ·rename_i h1
   rw [if_pos h1]
   show (ints _).length = _
   rw [ints_length, hl]
  ·rename_i h1
   rw [if_neg h1]
   split at h
   ·rename_i h2
    rw [if_pos h2]
    show (ints _).length = _
    rw [ints_length, flips_length, hl]
   ·rename_i h2
    rw [if_neg h2]
    split at h
    ·rename_i h3
     rw [if_pos h3]
     show (ints _).length = _
     rw [ints_length, hl]
    ·exact absurd h (by decide)
theorem decN_byte {r : List Nat} (h : ∀ x ∈ r, x < 256) : ∀ x ∈ (decN r).1, 0 ≤ x ∧ x < 256 := by
 have ht : ∀ x ∈ r.take (r.length - 2), x < 256 := fun x hx => h x (List.mem_of_mem_take hx)
 have hnil : ∀ x ∈ ([] : List Int), 0 ≤ x ∧ x < 256 := fun x hx => by cases hx
 unfold decN
 split
 ·exact hnil
 ·unfold decOf
  split
  ·exact ints_byte ht
  ·split
   ·exact ints_byte (flips_lt _ ht)
   ·split
    ·exact ints_byte ht
    ·exact hnil
theorem allR_byte {m : Nat} : ∀ (d : Nat) (L out : List Int) (fx : Int), (∀ x ∈ L, 0 ≤ x ∧ x < 256) → (∀ x ∈ out, 0 ≤ x ∧ x < 256) → ∀ x ∈ (allR m d L out fx).1, 0 ≤ x ∧ x < 256 := by
 intro d
 induction d with
 | zero => intro L out fx _ ho; exact ho
 | succ d ih =>
  intro L out fx hL ho
  unfold allR
  split
  ·exact ih _ _ _ (bytes_drop hL m) (app_byte ho (decN_byte (nats_lt (bytes_take hL m))))
  ·intro x hx
   cases hx
def decB (S C : Nat) (ch lab : List Int) : List Int × Int × Int × Int × Int × Int × Int :=
 if ((8 * lab.length - count (nats lab) : Nat) : Int) ≤ 20 then ([], 0, 0, 0, 0, 2, 0) else
 if (allR (S + 2) C ch [] 0).2.2 = 0 then
  if (decN (nats lab)).2.2 = 0 then
   if ends ((allR (S + 2) C ch [] 0).1 ++ (decN (nats lab)).1) = true then
    if (takeTag ((decN (nats lab)).1.take 24)).2.2.2.2 = 0 then ((allR (S + 2) C ch [] 0).1, (takeTag ((decN (nats lab)).1.take 24)).1, (takeTag ((decN (nats lab)).1.take 24)).2.1, (takeTag ((decN (nats lab)).1.take 24)).2.2.1, (takeTag ((decN (nats lab)).1.take 24)).2.2.2.1, if wrap64 ((allR (S + 2) C ch [] 0).2.1 + (decN (nats lab)).2.1) > 0 then 1 else 0, 0)
    else ([], 0, 0, 0, 0, 0, (takeTag ((decN (nats lab)).1.take 24)).2.2.2.2)
   else ([], 0, 0, 0, 0, 0, 12)
  else ([], 0, 0, 0, 0, 0, (decN (nats lab)).2.2)
 else ([], 0, 0, 0, 0, 0, (allR (S + 2) C ch [] 0).2.2)
def decP (raw : List Int) (a0 a1 a2 a3 a4 a5 a6 : Int) : List Int × Int × Int × Int × Int × Int × Int :=
 if okG a0 a1 a2 a3 a4 a5 a6 ∧ (raw.length : Int) = a3 * (a4 + 2) + 31 then decB a4.toNat a3.toNat (raw.take (raw.length - 31)) ((raw.take (raw.length - 1)).drop (raw.length - 31)) else ([], 0, 0, 0, 0, 0, 2)
theorem label_eq {a0 a1 a2 a3 a4 a5 a6 : Int} {n : Nat} {raw : List Int} (hn : n ≤ 100000) (h : n + 30 ≤ raw.length) : page_shape_label.f a0 a1 a2 a3 a4 a5 a6 (n : Int) raw = some ((raw.take (n + 30)).drop n) := by
 have e : wrap64 (wrap64 ((n : Int) + 28) + 2) = ((n + 30 : Nat) : Int) := by
  rw [w64_id (x := (n : Int) + 28) (by omega) (by omega), w64_id (by omega) (by omega)]
  omega
 unfold page_shape_label.f
 rw [e, Int.toNat_natCast, Int.toNat_natCast, if_pos (by omega), if_pos (by omega), if_pos (by omega)]
theorem chunks_eq {a0 a1 a2 a3 a4 a5 a6 : Int} {n : Nat} {raw : List Int} (h : n ≤ raw.length) : page_shape_chunks.f a0 a1 a2 a3 a4 a5 a6 (n : Int) raw = some (raw.take n) := by
 unfold page_shape_chunks.f
 rw [Int.toNat_natCast, if_pos (by omega), if_pos (by omega)]
theorem size_eq {a0 a1 a2 a3 a4 a5 a6 a7 : Int} (h : okG a0 a1 a2 a3 a4 a5 a6) : page_shape_size.f a0 a1 a2 a3 a4 a5 a6 a7 = some (a3 * (a4 + 2) + 31) := by
 unfold page_shape_size.f
 rw [raw_eq, if_pos h]
 rfl
theorem decB_ev {raw : List Int} (hb : ∀ x ∈ raw, 0 ≤ x ∧ x < 256) {S C : Nat} {q0 q1 q2 q5 q6 : Int} (hS0 : 4 ≤ S) (hS : S ≤ 512) (hC : C ≤ 16) (hl : raw.length = C * (S + 2) + 31) :
  Ev (fun k => page_Decode.j1 k raw 0 q0 q1 q2 (C : Int) (S : Int) q5 q6 ((C * (S + 2) : Nat) : Int)) (decB S C (raw.take (C * (S + 2))) ((raw.take (C * (S + 2) + 30)).drop (C * (S + 2)))) := by
 have hn : C * (S + 2) ≤ 10000 := Nat.le_trans (Nat.mul_le_mul hC (show S + 2 ≤ 514 by omega)) (by decide)
 have hcl : (raw.take (C * (S + 2))).length = C * (S + 2) := by rw [List.length_take]; omega
 have hll : ((raw.take (C * (S + 2) + 30)).drop (C * (S + 2))).length = 30 := by rw [List.length_drop, List.length_take]; omega
 have hcb := bytes_take hb (C * (S + 2))
 have hlb := bytes_drop (bytes_take hb (C * (S + 2) + 30)) (C * (S + 2))
 have hlab := label_eq (a0 := q0) (a1 := q1) (a2 := q2) (a3 := (C : Int)) (a4 := (S : Int)) (a5 := q5) (a6 := q6) (n := C * (S + 2)) (raw := raw) (by omega) (by omega)
 have ech := chunks_eq (a0 := q0) (a1 := q1) (a2 := q2) (a3 := (C : Int)) (a4 := (S : Int)) (a5 := q5) (a6 := q6) (n := C * (S + 2)) (raw := raw) (by omega)
 generalize (raw.take (C * (S + 2) + 30)).drop (C * (S + 2)) = lab at hll hlb hlab ⊢
 generalize raw.take (C * (S + 2)) = ch at hcl hcb ech ⊢
 have hz := zeros_ev hlb (by omega)
 have ha := all_on (L := ch) (m := S + 2) (d := C) ⟨by omega, by omega⟩ hcl hcb (by omega)
 rw [show ((S + 2 : Nat) : Int) - 2 = (S : Int) by omega] at ha
 have hal := allR_short (S + 2) C ch [] 0 hcl
 have hab := allR_byte (m := S + 2) C ch [] 0 hcb (fun x hx => by cases hx)
 have hd := decode_ev hlb (by omega)
 have hdl := decN_len (r := nats lab)
 have hdb := decN_byte (nats_lt hlb)
 rw [nats_length, hll] at hdl
 rw [List.length_nil, hcl] at hal
 refine Ev.step (fun k => page_Decode.j1.eq_2 ..) ?_
 refine Ev.bindv hlab (Ev.bind hz ?_)
 unfold decB
 refine Ev.ite (fun h => ?_) (fun h => ?_)
 ·rw [if_pos h]
  exact Ev.ret rfl
 rw [if_neg h]
 clear h hz
 refine Ev.step (fun k => page_Decode.j2.eq_2 ..) ?_
 refine Ev.bindv ech (Ev.bind ha ?_)
 clear ha ech
 generalize allR (S + 2) C ch [] 0 = A at hal hab ⊢
 refine Ev.ite (fun h => ?_) (fun h => ?_)
 ·rw [if_pos h]
  refine Ev.step (fun k => page_Decode.j3.eq_2 ..) ?_
  refine Ev.bindv hlab (Ev.bind hd ?_)
  clear hd hlab
  generalize decN (nats lab) = D at hdl hdb ⊢
  refine Ev.ite (fun h2 => ?_) (fun h2 => ?_)
  ·rw [if_pos h2]
   have hdl2 := hdl h2
   have hcheck := check_ev (b := A.1 ++ D.1) (app_byte hab hdb) (by rw [List.length_append]; omega)
   have htake := ttake_ev (D.1.take 24) (bytes_take hdb 24)
   refine Ev.step (fun k => page_Decode.j4.eq_2 ..) ?_
   refine Ev.bindv rfl (Ev.pos (by rw [List.length_nil]; omega) (Ev.bindv rfl ?_))
   rw [List.nil_append]
   refine Ev.pos (by omega) (Ev.bind hcheck ?_)
   refine Ev.ite (fun h3 => ?_) (fun h3 => ?_)
   ·rw [if_pos h3]
    refine Ev.step (fun k => page_Decode.j5.eq_2 ..) ?_
    refine Ev.pos (by omega) (Ev.bind htake ?_)
    generalize takeTag (D.1.take 24) = t
    refine Ev.ite (fun h4 => ?_) (fun h4 => ?_)
    ·rw [if_pos h4]
     refine Ev.ite (fun h5 => ?_) (fun h5 => ?_)
     ·rw [if_pos h5]
      exact Ev.ret rfl
     ·rw [if_neg h5]
      exact Ev.ret rfl
    ·rw [if_neg h4]
     exact Ev.ret rfl
   ·rw [if_neg h3]
    exact Ev.ret rfl
  ·rw [if_neg h2]
   exact Ev.ret rfl
 ·rw [if_neg h]
  exact Ev.ret rfl
theorem pdec_ev {raw : List Int} (hb : ∀ x ∈ raw, 0 ≤ x ∧ x < 256) (a0 a1 a2 a3 a4 a5 a6 : Int) : Ev (fun k => page_Decode.f k a0 a1 a2 a3 a4 a5 a6 raw) (decP raw a0 a1 a2 a3 a4 a5 a6) := by
 refine Ev.congr (fun k => by rw [page_Decode.f]) ?_
 refine Ev.bindv of_eq ?_
 dsimp only
 have hbad : ∀ (q0 q1 q2 q3 q4 q5 q6 q7 : Int), ¬ (okG a0 a1 a2 a3 a4 a5 a6 ∧ (raw.length : Int) = a3 * (a4 + 2) + 31) → Ev (fun k => page_Decode.j0 k raw 0 true q0 q1 q2 q3 q4 q5 q6 q7) (decP raw a0 a1 a2 a3 a4 a5 a6) := fun q0 q1 q2 q3 q4 q5 q6 q7 h => by
  refine Ev.step (fun k => page_Decode.j0.eq_2 ..) (Ev.pos rfl (Ev.ret ?_))
  unfold decP
  rw [if_neg h]
 by_cases hg : okG a0 a1 a2 a3 a4 a5 a6
 ·refine Ev.pos (decide_eq_true hg) (Ev.bindv (size_eq hg) ?_)
  by_cases hl : (raw.length : Int) = a3 * (a4 + 2) + 31
  ·have e : ((raw.length : Int) != a3 * (a4 + 2) + 31) = false := bne_eq_false_iff_eq.2 hl
   rw [e]
   refine Ev.step (fun k => page_Decode.j0.eq_2 ..) (Ev.neg (by decide) ?_)
   unfold decP
   rw [if_pos ⟨hg, hl⟩]
   obtain ⟨h3, h4⟩ := okG_bounds hg
   have hm := mul_bound h3 (y := a4 + 2) ⟨by omega, by omega⟩
   rw [w64_id (x := a4 + 2) (by omega) (by omega), w64_id (x := a3 * (a4 + 2)) (by omega) (by omega)]
   obtain ⟨C, rfl⟩ := Int.eq_ofNat_of_zero_le (a := a3) (by omega)
   obtain ⟨S, rfl⟩ := Int.eq_ofNat_of_zero_le (a := a4) (by omega)
   have en : (C : Int) * ((S : Int) + 2) = ((C * (S + 2) : Nat) : Int) := by rw [Int.natCast_mul, Int.natCast_add]; rfl
   rw [en] at hl ⊢
   have hl2 : raw.length = C * (S + 2) + 31 := by omega
   rw [Int.toNat_natCast, Int.toNat_natCast, show raw.length - 31 = C * (S + 2) by omega, show raw.length - 1 = C * (S + 2) + 30 by omega]
   exact decB_ev hb (by omega) (by omega) (by omega) hl2
  ·have e : ((raw.length : Int) != a3 * (a4 + 2) + 31) = true := bne_iff_ne.2 hl
   rw [e]
   exact hbad _ _ _ _ _ _ _ _ (fun z => hl z.2)
 ·rw [decide_eq_false hg]
  exact Ev.neg (by decide) (hbad _ _ _ _ _ _ _ _ (fun z => hg z.1))
def markP (raw : List Int) (a0 a1 a2 a3 a4 a5 a6 : Int) : Bool := decide (okG a0 a1 a2 a3 a4 a5 a6 ∧ (raw.length : Int) = a3 * (a4 + 2) + 31) && decide (((count (nats (raw.drop (raw.length - 1))) : Nat) : Int) < 4)
theorem mark_ev {raw : List Int} (hb : ∀ x ∈ raw, 0 ≤ x ∧ x < 256) (a0 a1 a2 a3 a4 a5 a6 : Int) : Ev (fun k => page_Marked.f k a0 a1 a2 a3 a4 a5 a6 raw) (markP raw a0 a1 a2 a3 a4 a5 a6) := by
 refine Ev.congr (fun k => by rw [page_Marked.f]) ?_
 refine Ev.bindv of_eq ?_
 dsimp only
 unfold markP
 by_cases hg : okG a0 a1 a2 a3 a4 a5 a6
 ·refine Ev.pos (decide_eq_true hg) (Ev.bindv (size_eq hg) ?_)
  by_cases hl : (raw.length : Int) = a3 * (a4 + 2) + 31
  ·obtain ⟨h3, h4⟩ := okG_bounds hg
   have hm := mul_bound h3 (y := a4 + 2) ⟨by omega, by omega⟩
   rw [decide_eq_true ⟨hg, hl⟩, w64_id (x := (raw.length : Int) - 1) (by omega) (by omega), show ((raw.length : Int) - 1).toNat = raw.length - 1 by omega]
   refine Ev.pos hl (Ev.pos (by omega) (Ev.pos (by omega) (Ev.bind (count_ev (bytes_drop hb _) (by rw [List.length_drop]; omega)) (Ev.ret ?_))))
   rw [Bool.true_and]
  ·rw [decide_eq_false (fun z => hl z.2)]
   exact Ev.neg hl (Ev.ret rfl)
 ·rw [decide_eq_false hg, decide_eq_false (fun z => hg z.1)]
  exact Ev.neg (by decide) (Ev.ret rfl)
end Go.Proofs.Ytmehbabchakkpaa.PurePageMarks
namespace Go.Proofs.Ytmehbabchakkpaa.Pure
open Go.RowKit Go.Proofs.Ytmehbabchakkpaa.QPageMarks Go.Proofs.YtmehbabchakkpaaW.PrintWords Go.Proofs.YtmehbabchakkpaaW.PrintLast Go.Proofs.YtmehbabchakkpaaW.PrintMore Go.Proofs.Ytmehbabchakkpaa.EvKit Go.Proofs.Ytmehbabchakkpaa.PackMath Go.Proofs.Ytmehbabchakkpaa.TagMath Go.Proofs.Ytmehbabchakkpaa.CrcMath Go.Proofs.Ytmehbabchakkpaa.NatKit Go.Proofs.Ytmehbabchakkpaa.BitsMath Go.Proofs.Ytmehbabchakkpaa.ChunkMath Go.Proofs.Ytmehbabchakkpaa.PurePageMarks
theorem same_pages {raw : List Int} (mark : Int) (a0 a1 a2 a3 a4 a5 a6 : Int) : decP (raw.set (raw.length - 1) mark) a0 a1 a2 a3 a4 a5 a6 = decP raw a0 a1 a2 a3 a4 a5 a6 := by
 unfold decP
 rw [List.length_set]
 by_cases h : okG a0 a1 a2 a3 a4 a5 a6 ∧ (raw.length : Int) = a3 * (a4 + 2) + 31
 ·obtain ⟨h3, h4⟩ := okG_bounds h.1
  have hm := mul_bound h3 (y := a4 + 2) ⟨by omega, by omega⟩
  have hl := h.2
  rw [if_pos h, if_pos h, List.take_set_of_le (by omega), List.take_set_of_le (by omega)]
 ·rw [if_neg h, if_neg h]
theorem marks_j2 {l : List Int} {m : Int} (hl : ∀ x ∈ l, 0 ≤ x ∧ x < 256) (hm : 0 ≤ m ∧ m < 256) (h0 : 0 < l.length) (h4 : l.length ≤ 400) (a0 a1 a2 a3 a4 a5 a6 : Int) : Ev (fun k => incunablelaw08_PageMarks.j2 k l m a0 a1 a2 a3 a4 a5 a6) true := by
 have e1 : wrap64 ((l.length : Int) - 1) = ((l.length - 1 : Nat) : Int) := by
  rw [w64_id (by omega) (by omega)]
  omega
 have ho : ∀ x ∈ l.set (l.length - 1) m, 0 ≤ x ∧ x < 256 := fun x hx => by
  rcases List.mem_or_eq_of_mem_set hx with h | rfl
  ·exact hl x h
  ·exact hm
 refine Ev.step (fun k => incunablelaw08_PageMarks.j2.eq_2 ..) ?_
 refine Ev.bindv rfl (Ev.pos (by rw [List.length_nil]; omega) (Ev.bindv rfl ?_))
 rw [List.nil_append, e1, Int.toNat_natCast]
 refine Ev.pos (by omega) (Ev.pos (by omega) (Ev.bindv rfl ?_))
 refine Ev.bind (pdec_ev hl a0 a1 a2 a3 a4 a5 a6) ?_
 have hd := pdec_ev ho a0 a1 a2 a3 a4 a5 a6
 rw [same_pages] at hd
 refine Ev.bind hd ?_
 clear hd e1
 generalize decP l a0 a1 a2 a3 a4 a5 a6 = D
 have hmark := mark_ev ho a0 a1 a2 a3 a4 a5 a6
 have hdrop : (l.set (l.length - 1) m).drop ((l.set (l.length - 1) m).length - 1) = [m] := by
  rw [List.length_set]
  obtain ⟨n, hn⟩ : ∃ n, l.length = n + 1 := ⟨l.length - 1, by omega⟩
  rw [hn, Nat.add_sub_cancel, List.drop_eq_getElem_cons (by rw [List.length_set]; omega), List.getElem_set_self, List.drop_eq_nil_of_le (by rw [List.length_set]; omega)]
 unfold markP at hmark
 rw [hdrop, List.length_set] at hmark
 have hc := count_ev (l := [m]) (fun x hx => by rw [List.mem_singleton.1 hx]; exact hm) (by rw [List.length_singleton]; decide)
 generalize l.set (l.length - 1) m = o at hmark
 have key : ∀ b : Bool, b = decide (okG a0 a1 a2 a3 a4 a5 a6 ∧ (l.length : Int) = a3 * (a4 + 2) + 31) → Ev (fun k => incunablelaw08_PageMarks.j3 k m o D.1 D.2.2.2.2.2.1 D.2.2.2.2.2.2 D.1 D.2.2.2.2.2.1 D.2.2.2.2.2.2 b a0 a1 a2 a3 a4 a5 a6 D.2.1 D.2.2.1 D.2.2.2.1 D.2.2.2.2.1 D.2.1 D.2.2.1 D.2.2.2.1 D.2.2.2.2.1) true := by
  intro b hb
  refine Ev.step (fun k => incunablelaw08_PageMarks.j3.eq_2 ..) ?_
  refine Ev.pos rfl (Ev.pos (by simp) (Ev.pos rfl (Ev.pos rfl (Ev.bind hmark ?_))))
  rw [← hb]
  cases b with
  | true => exact Ev.pos rfl (Ev.bind hc (Ev.ret (by simp)))
  | false => exact Ev.neg (by decide) (Ev.ret (by simp))
 refine Ev.bindv check_eq ?_
 by_cases hg : okG a0 a1 a2 a3 a4 a5 a6
 ·rw [if_pos hg]
  refine Ev.pos rfl (Ev.bindv raw_eq ?_)
  rw [if_pos hg]
  refine key _ ?_
  by_cases hl2 : (l.length : Int) = a3 * (a4 + 2) + 31
  ·rw [decide_eq_true ⟨hg, hl2⟩]
   exact beq_iff_eq.2 hl2
  ·rw [decide_eq_false (fun z => hl2 z.2)]
   exact beq_eq_false_iff_ne.2 hl2
 ·rw [if_neg hg]
  refine Ev.neg (by decide) (key _ ?_)
  rw [decide_eq_false (fun z => hg z.1)]
theorem PageMarks : StmPageMarks := by
 rintro ⟨a0, a1, a2, a3, a4, a5, a6⟩ l m _ _ hl' hm'
 have hl : ∀ x ∈ l, 0 ≤ x ∧ x < 256 := fun x hx => wf_u8 (hl'.2 x hx)
 have hm := wf_u8 hm'
 clear hl' hm'
 refine Ev.rounds (Ev.congr (fun k => by rw [incunablelaw08_PageMarks.f]) ?_)
 refine Ev.bind page_awake_ev (Ev.pos rfl ?_)
 refine Ev.step (fun k => incunablelaw08_PageMarks.j0.eq_2 ..) ?_
 obtain ⟨b, hb⟩ : ∃ b, incunablelaw08_Small.f a0 a1 a2 a3 a4 a5 a6 = some b := by
  unfold incunablelaw08_Small.f
  split
  ·split
   ·split
    ·exact ⟨_, rfl⟩
    ·exact ⟨_, rfl⟩
   ·exact ⟨_, rfl⟩
  ·exact ⟨_, rfl⟩
 have hoff : Ev (fun k => incunablelaw08_PageMarks.j1 k l m true a0 a1 a2 a3 a4 a5 a6) true := by
  refine Ev.step (fun k => incunablelaw08_PageMarks.j1.eq_2 ..) ?_
  exact Ev.pos rfl (Ev.ret rfl)
 refine Ev.bindv hb (Ev.ite (fun _ => Ev.ite (fun _ => hoff) (fun h4 => ?_)) (fun _ => hoff))
 by_cases h0 : l.length = 0
 ·rw [show ((l.length : Int) == 0) = true from beq_iff_eq.2 (by omega)]
  exact hoff
 ·rw [show ((l.length : Int) == 0) = false from beq_eq_false_iff_ne.2 (by omega)]
  refine Ev.step (fun k => incunablelaw08_PageMarks.j1.eq_2 ..) ?_
  exact Ev.neg (by decide) (marks_j2 hl hm (by omega) (by omega) a0 a1 a2 a3 a4 a5 a6)
end Go.Proofs.Ytmehbabchakkpaa.Pure
