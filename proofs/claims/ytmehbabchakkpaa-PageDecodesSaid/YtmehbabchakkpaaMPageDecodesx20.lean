import Derived.Test.YtmehbabchakkpaaMPageDecodesx19
namespace Go.Proofs.Ytmehbabchakkpaa.TagMath
open Go.RowKit YtmehbabchakkpaaW.PrintWords
def ofList (l : List Int) : Int × Int × Int × Int × Int :=
 if rd l 0 = 0 ∧ rd l 5 = 0 ∧ mayTag (rd l 1) (rd l 2) (rd l 3) (rd l 4) = true then (rd l 1, rd l 2, rd l 3, rd l 4, 0) else (0, 0, 0, 0, 11)
def takeTag (b : List Int) : Int × Int × Int × Int × Int :=
 if (Go.Proofs.Ytmehbabchakkpaa.PackMath.pkTake sizes b).2 = 0 then ofList (Go.Proofs.Ytmehbabchakkpaa.PackMath.pkTake sizes b).1 else (0, 0, 0, 0, (Go.Proofs.Ytmehbabchakkpaa.PackMath.pkTake sizes b).2)
theorem six {b : List Int} (h : (Go.Proofs.Ytmehbabchakkpaa.PackMath.pkTake sizes b).2 = 0) : (Go.Proofs.Ytmehbabchakkpaa.PackMath.pkTake sizes b).1.length = 6 := by
 have e := Go.Proofs.Ytmehbabchakkpaa.PackMath.pkTake_ok (Prod.ext rfl h : Go.Proofs.Ytmehbabchakkpaa.PackMath.pkTake sizes b = ((Go.Proofs.Ytmehbabchakkpaa.PackMath.pkTake sizes b).1, 0))
 rw [Go.Proofs.Ytmehbabchakkpaa.PackMath.takeGo_length e.2.2]
 rfl
end Go.Proofs.Ytmehbabchakkpaa.TagMath
namespace Go.Proofs.Ytmehbabchakkpaa.PurePageDecodes
open Go.RowKit QPageDecodes YtmehbabchakkpaaW.PrintWords YtmehbabchakkpaaW.PrintLast YtmehbabchakkpaaW.PrintMore EvKit PackMath TagMath
theorem ttake_ev (b : List Int) (hb : ∀ x ∈ b, 0 ≤ x ∧ x < 256) : Ev (fun k => tag_Take.f k b) (takeTag b) := by
 have hbad : ∀ x y z v : Int, Ev (fun k => tag_Take.j0 k true x y z v) (0, 0, 0, 0, 11) := fun x y z v => Ev.step (fun _ => tag_Take.j0.eq_2 ..) (Ev.pos rfl (Ev.ret rfl))
 refine Ev.congr (fun k => by rw [tag_Take.f]) ?_
 refine Ev.bindv (a := sizes) rfl ?_
 refine Ev.bind (take_ev _ _ hb) ?_
 unfold takeTag
 refine Ev.ite (fun h => ?_) (fun h => Ev.ret ?_)
 ·rw [if_pos h]
  have h6 := six h
  generalize (pkTake sizes b).1 = l at h6 ⊢
  unfold ofList
  refine Ev.pos (by omega) ?_
  refine Ev.pos (by omega) ?_
  refine Ev.pos (by omega) ?_
  refine Ev.pos (by omega) ?_
  refine Ev.pos (by omega) ?_
  refine Ev.ite (fun h0 => ?_) (fun h0 => ?_)
  ·refine Ev.pos (by omega) ?_
   refine Ev.ite (fun h5 => ?_) (fun h5 => ?_)
   ·refine Ev.bindv (may_eq _ _ _ _) ?_
    cases hm : mayTag (rd l 1) (rd l 2) (rd l 3) (rd l 4) with
    | true =>
     rw [if_pos ⟨h0, h5, rfl⟩]
     exact Ev.step (fun _ => tag_Take.j0.eq_2 ..) (Ev.neg (by decide) (Ev.ret rfl))
    | false =>
     rw [if_neg fun h => by cases h.2.2]
     exact hbad _ _ _ _
   ·rw [if_neg fun h => h5 h.2.1]
    exact hbad _ _ _ _
  ·rw [if_neg fun h => h0 h.1]
   exact hbad _ _ _ _
 ·rw [if_neg h]
end Go.Proofs.Ytmehbabchakkpaa.PurePageDecodes
namespace Go.Proofs.Ytmehbabchakkpaa.PurePageDecodes
open Go.RowKit QPageDecodes YtmehbabchakkpaaW.PrintWords YtmehbabchakkpaaW.PrintLast YtmehbabchakkpaaW.PrintMore EvKit PackMath TagMath CrcMath NatKit BitsMath ChunkMath
theorem decN_len {r : List Nat} (h : (decN r).2.2 = 0) : (decN r).1.length = r.length - 2 := by
 unfold decN at h ⊢
 split at h
 ·exact absurd h (by decide)
 ·rename_i hn
  rw [if_neg hn]
  have hl : (r.take (r.length - 2)).length = r.length - 2 := by rw [List.length_take]; omega
  unfold decOf at h ⊢
  split at h
  ·rename_i h1
   rw [if_pos h1]
   show (ints _).length = _
   rw [ints_length, hl]
  ·rename_i h1
   rw [if_neg h1]
   split at h
   ·rename_i h2
    rw [if_pos h2]
    show (ints _).length = _
    rw [ints_length, flips_length, hl]
   ·rename_i h2
    rw [if_neg h2]
    split at h
    ·rename_i h3
     rw [if_pos h3]
     show (ints _).length = _
     rw [ints_length, hl]
    ·exact absurd h (by decide)
theorem decN_byte {r : List Nat} (h : ∀ x ∈ r, x < 256) : ∀ x ∈ (decN r).1, 0 ≤ x ∧ x < 256 := by
 have ht : ∀ x ∈ r.take (r.length - 2), x < 256 := fun x hx => h x (List.mem_of_mem_take hx)
 have hnil : ∀ x ∈ ([] : List Int), 0 ≤ x ∧ x < 256 := fun x hx => by cases hx
 unfold decN
 split
 ·exact hnil
 ·unfold decOf
  split
  ·exact ints_byte ht
  ·split
   ·exact ints_byte (flips_lt _ ht)
   ·split
    ·exact ints_byte ht
    ·exact hnil
theorem allR_byte {m : Nat} : ∀ (d : Nat) (L out : List Int) (fx : Int), (∀ x ∈ L, 0 ≤ x ∧ x < 256) → (∀ x ∈ out, 0 ≤ x ∧ x < 256) → ∀ x ∈ (allR m d L out fx).1, 0 ≤ x ∧ x < 256 := by
 intro d
 induction d with
 | zero => intro L out fx _ ho; exact ho
 | succ d ih =>
  intro L out fx hL ho
  unfold allR
  split
  ·exact ih _ _ _ (bytes_drop hL m) (app_byte ho (decN_byte (nats_lt (bytes_take hL m))))
  ·intro x hx
   cases hx
def decB (S C : Nat) (ch lab : List Int) : List Int × Int × Int × Int × Int × Int × Int :=
 if ((8 * lab.length - count (nats lab) : Nat) : Int) ≤ 20 then ([], 0, 0, 0, 0, 2, 0) else
 if (allR (S + 2) C ch [] 0).2.2 = 0 then
  if (decN (nats lab)).2.2 = 0 then
   if ends ((allR (S + 2) C ch [] 0).1 ++ (decN (nats lab)).1) = true then
    if (takeTag ((decN (nats lab)).1.take 24)).2.2.2.2 = 0 then ((allR (S + 2) C ch [] 0).1, (takeTag ((decN (nats lab)).1.take 24)).1, (takeTag ((decN (nats lab)).1.take 24)).2.1, (takeTag ((decN (nats lab)).1.take 24)).2.2.1, (takeTag ((decN (nats lab)).1.take 24)).2.2.2.1, if wrap64 ((allR (S + 2) C ch [] 0).2.1 + (decN (nats lab)).2.1) > 0 then 1 else 0, 0)
    else ([], 0, 0, 0, 0, 0, (takeTag ((decN (nats lab)).1.take 24)).2.2.2.2)
   else ([], 0, 0, 0, 0, 0, 12)
  else ([], 0, 0, 0, 0, 0, (decN (nats lab)).2.2)
 else ([], 0, 0, 0, 0, 0, (allR (S + 2) C ch [] 0).2.2)
def decP (raw : List Int) (a0 a1 a2 a3 a4 a5 a6 : Int) : List Int × Int × Int × Int × Int × Int × Int :=
 if okG a0 a1 a2 a3 a4 a5 a6 ∧ (raw.length : Int) = a3 * (a4 + 2) + 31 then decB a4.toNat a3.toNat (raw.take (raw.length - 31)) ((raw.take (raw.length - 1)).drop (raw.length - 31)) else ([], 0, 0, 0, 0, 0, 2)
theorem label_eq {a0 a1 a2 a3 a4 a5 a6 : Int} {n : Nat} {raw : List Int} (hn : n ≤ 100000) (h : n + 30 ≤ raw.length) : page_shape_label.f a0 a1 a2 a3 a4 a5 a6 (n : Int) raw = some ((raw.take (n + 30)).drop n) := by
 have e : wrap64 (wrap64 ((n : Int) + 28) + 2) = ((n + 30 : Nat) : Int) := by
  rw [w64_id (x := (n : Int) + 28) (by omega) (by omega), w64_id (by omega) (by omega)]
  omega
 unfold page_shape_label.f
 rw [e, Int.toNat_natCast, Int.toNat_natCast, if_pos (by omega), if_pos (by omega), if_pos (by omega)]
theorem chunks_eq {a0 a1 a2 a3 a4 a5 a6 : Int} {n : Nat} {raw : List Int} (h : n ≤ raw.length) : page_shape_chunks.f a0 a1 a2 a3 a4 a5 a6 (n : Int) raw = some (raw.take n) := by
 unfold page_shape_chunks.f
 rw [Int.toNat_natCast, if_pos (by omega), if_pos (by omega)]
theorem size_eq {a0 a1 a2 a3 a4 a5 a6 a7 : Int} (h : okG a0 a1 a2 a3 a4 a5 a6) : page_shape_size.f a0 a1 a2 a3 a4 a5 a6 a7 = some (a3 * (a4 + 2) + 31) := by
 unfold page_shape_size.f
 rw [raw_eq, if_pos h]
 rfl
theorem decB_ev {raw : List Int} (hb : ∀ x ∈ raw, 0 ≤ x ∧ x < 256) {S C : Nat} {q0 q1 q2 q5 q6 : Int} (hS0 : 4 ≤ S) (hS : S ≤ 512) (hC : C ≤ 16) (hl : raw.length = C * (S + 2) + 31) :
  Ev (fun k => page_Decode.j1 k raw 0 q0 q1 q2 (C : Int) (S : Int) q5 q6 ((C * (S + 2) : Nat) : Int)) (decB S C (raw.take (C * (S + 2))) ((raw.take (C * (S + 2) + 30)).drop (C * (S + 2)))) := by
 have hn : C * (S + 2) ≤ 10000 := Nat.le_trans (Nat.mul_le_mul hC (show S + 2 ≤ 514 by omega)) (by decide)
 have hcl : (raw.take (C * (S + 2))).length = C * (S + 2) := by rw [List.length_take]; omega
 have hll : ((raw.take (C * (S + 2) + 30)).drop (C * (S + 2))).length = 30 := by rw [List.length_drop, List.length_take]; omega
 have hcb := bytes_take hb (C * (S + 2))
 have hlb := bytes_drop (bytes_take hb (C * (S + 2) + 30)) (C * (S + 2))
 have hlab := label_eq (a0 := q0) (a1 := q1) (a2 := q2) (a3 := (C : Int)) (a4 := (S : Int)) (a5 := q5) (a6 := q6) (n := C * (S + 2)) (raw := raw) (by omega) (by omega)
 have ech := chunks_eq (a0 := q0) (a1 := q1) (a2 := q2) (a3 := (C : Int)) (a4 := (S : Int)) (a5 := q5) (a6 := q6) (n := C * (S + 2)) (raw := raw) (by omega)
 generalize (raw.take (C * (S + 2) + 30)).drop (C * (S + 2)) = lab at hll hlb hlab ⊢
 generalize raw.take (C * (S + 2)) = ch at hcl hcb ech ⊢
 have hz := zeros_ev hlb (by omega)
 have ha := all_on (L := ch) (m := S + 2) (d := C) ⟨by omega, by omega⟩ hcl hcb (by omega)
 rw [show ((S + 2 : Nat) : Int) - 2 = (S : Int) by omega] at ha
 have hal := allR_short (S + 2) C ch [] 0 hcl
 have hab := allR_byte (m := S + 2) C ch [] 0 hcb (fun x hx => by cases hx)
 have hd := decode_ev hlb (by omega)
 have hdl := decN_len (r := nats lab)
 have hdb := decN_byte (nats_lt hlb)
 rw [nats_length, hll] at hdl
 rw [List.length_nil, hcl] at hal
 refine Ev.step (fun k => page_Decode.j1.eq_2 ..) ?_
 refine Ev.bindv hlab (Ev.bind hz ?_)
 unfold decB
 refine Ev.ite (fun h => ?_) (fun h => ?_)
 ·rw [if_pos h]
  exact Ev.ret rfl
 rw [if_neg h]
 clear h hz
 refine Ev.step (fun k => page_Decode.j2.eq_2 ..) ?_
 refine Ev.bindv ech (Ev.bind ha ?_)
 clear ha ech
 generalize allR (S + 2) C ch [] 0 = A at hal hab ⊢
 refine Ev.ite (fun h => ?_) (fun h => ?_)
 ·rw [if_pos h]
  refine Ev.step (fun k => page_Decode.j3.eq_2 ..) ?_
  refine Ev.bindv hlab (Ev.bind hd ?_)
  clear hd hlab
  generalize decN (nats lab) = D at hdl hdb ⊢
  refine Ev.ite (fun h2 => ?_) (fun h2 => ?_)
  ·rw [if_pos h2]
   have hdl2 := hdl h2
   have hcheck := check_ev (b := A.1 ++ D.1) (app_byte hab hdb) (by rw [List.length_append]; omega)
   have htake := ttake_ev (D.1.take 24) (bytes_take hdb 24)
   refine Ev.step (fun k => page_Decode.j4.eq_2 ..) ?_
   refine Ev.bindv rfl (Ev.pos (by rw [List.length_nil]; omega) (Ev.bindv rfl ?_))
   rw [List.nil_append]
   refine Ev.pos (by omega) (Ev.bind hcheck ?_)
   refine Ev.ite (fun h3 => ?_) (fun h3 => ?_)
   ·rw [if_pos h3]
    refine Ev.step (fun k => page_Decode.j5.eq_2 ..) ?_
    refine Ev.pos (by omega) (Ev.bind htake ?_)
    generalize takeTag (D.1.take 24) = t
    refine Ev.ite (fun h4 => ?_) (fun h4 => ?_)
    ·rw [if_pos h4]
     refine Ev.ite (fun h5 => ?_) (fun h5 => ?_)
     ·rw [if_pos h5]
      exact Ev.ret rfl
     ·rw [if_neg h5]
      exact Ev.ret rfl
    ·rw [if_neg h4]
     exact Ev.ret rfl
   ·rw [if_neg h3]
    exact Ev.ret rfl
  ·rw [if_neg h2]
   exact Ev.ret rfl
 ·rw [if_neg h]
  exact Ev.ret rfl
theorem pdec_ev {raw : List Int} (hb : ∀ x ∈ raw, 0 ≤ x ∧ x < 256) (a0 a1 a2 a3 a4 a5 a6 : Int) : Ev (fun k => page_Decode.f k a0 a1 a2 a3 a4 a5 a6 raw) (decP raw a0 a1 a2 a3 a4 a5 a6) := by
 refine Ev.congr (fun k => by rw [page_Decode.f]) ?_
 refine Ev.bindv of_eq ?_
 dsimp only
 have hbad : ∀ (q0 q1 q2 q3 q4 q5 q6 q7 : Int), ¬ (okG a0 a1 a2 a3 a4 a5 a6 ∧ (raw.length : Int) = a3 * (a4 + 2) + 31) → Ev (fun k => page_Decode.j0 k raw 0 true q0 q1 q2 q3 q4 q5 q6 q7) (decP raw a0 a1 a2 a3 a4 a5 a6) := fun q0 q1 q2 q3 q4 q5 q6 q7 h => by
  refine Ev.step (fun k => page_Decode.j0.eq_2 ..) (Ev.pos rfl (Ev.ret ?_))
  unfold decP
  rw [if_neg h]
 by_cases hg : okG a0 a1 a2 a3 a4 a5 a6
 ·refine Ev.pos (decide_eq_true hg) (Ev.bindv (size_eq hg) ?_)
  by_cases hl : (raw.length : Int) = a3 * (a4 + 2) + 31
  ·have e : ((raw.length : Int) != a3 * (a4 + 2) + 31) = false := bne_eq_false_iff_eq.2 hl
   rw [e]
   refine Ev.step (fun k => page_Decode.j0.eq_2 ..) (Ev.neg (by decide) ?_)
   unfold decP
   rw [if_pos ⟨hg, hl⟩]
   obtain ⟨h3, h4⟩ := okG_bounds hg
   have hm := mul_bound h3 (y := a4 + 2) ⟨by omega, by omega⟩
   rw [w64_id (x := a4 + 2) (by omega) (by omega), w64_id (x := a3 * (a4 + 2)) (by omega) (by omega)]
   obtain ⟨C, rfl⟩ := Int.eq_ofNat_of_zero_le (a := a3) (by omega)
   obtain ⟨S, rfl⟩ := Int.eq_ofNat_of_zero_le (a := a4) (by omega)
   have en : (C : Int) * ((S : Int) + 2) = ((C * (S + 2) : Nat) : Int) := by rw [Int.natCast_mul, Int.natCast_add]; rfl
   rw [en] at hl ⊢
   have hl2 : raw.length = C * (S + 2) + 31 := by omega
   rw [Int.toNat_natCast, Int.toNat_natCast, show raw.length - 31 = C * (S + 2) by omega, show raw.length - 1 = C * (S + 2) + 30 by omega]
   exact decB_ev hb (by omega) (by omega) (by omega) hl2
  ·have e : ((raw.length : Int) != a3 * (a4 + 2) + 31) = true := bne_iff_ne.2 hl
   rw [e]
   exact hbad _ _ _ _ _ _ _ _ (fun z => hl z.2)
 ·rw [decide_eq_false hg]
  exact Ev.neg (by decide) (hbad _ _ _ _ _ _ _ _ (fun z => hg z.1))
def markP (raw : List Int) (a0 a1 a2 a3 a4 a5 a6 : Int) : Bool := decide (okG a0 a1 a2 a3 a4 a5 a6 ∧ (raw.length : Int) = a3 * (a4 + 2) + 31) && decide (((count (nats (raw.drop (raw.length - 1))) : Nat) : Int) < 4)
theorem mark_ev {raw : List Int} (hb : ∀ x ∈ raw, 0 ≤ x ∧ x < 256) (a0 a1 a2 a3 a4 a5 a6 : Int) : Ev (fun k => page_Marked.f k a0 a1 a2 a3 a4 a5 a6 raw) (markP raw a0 a1 a2 a3 a4 a5 a6) := by
 refine Ev.congr (fun k => by rw [page_Marked.f]) ?_
 refine Ev.bindv of_eq ?_
 dsimp only
 unfold markP
 by_cases hg : okG a0 a1 a2 a3 a4 a5 a6
 ·refine Ev.pos (decide_eq_true hg) (Ev.bindv (size_eq hg) ?_)
  by_cases hl : (raw.length : Int) = a3 * (a4 + 2) + 31
  ·obtain ⟨h3, h4⟩ := okG_bounds hg
   have hm := mul_bound h3 (y := a4 + 2) ⟨by omega, by omega⟩
   rw [decide_eq_true ⟨hg, hl⟩, w64_id (x := (raw.length : Int) - 1) (by omega) (by omega), show ((raw.length : Int) - 1).toNat = raw.length - 1 by omega]
   refine Ev.pos hl (Ev.pos (by omega) (Ev.pos (by omega) (Ev.bind (count_ev (bytes_drop hb _) (by rw [List.length_drop]; omega)) (Ev.ret ?_))))
   rw [Bool.true_and]
  ·rw [decide_eq_false (fun z => hl z.2)]
   exact Ev.neg hl (Ev.ret rfl)
 ·rw [decide_eq_false hg, decide_eq_false (fun z => hg z.1)]
  exact Ev.neg (by decide) (Ev.ret rfl)
end Go.Proofs.Ytmehbabchakkpaa.PurePageDecodes
namespace Go.Proofs.Ytmehbabchakkpaa.PurePageDecodes
open Go.RowKit QPageDecodes YtmehbabchakkpaaW.PrintWords YtmehbabchakkpaaW.PrintLast YtmehbabchakkpaaW.PrintMore EvKit PackMath
theorem rsize_l0 (l : List Int) (hl : l.length ≤ 1000000) (d : Nat) : ∀ (i : Nat) (n : Int), i + d = l.length → i ≤ 64 → 0 ≤ n → n ≤ 8 * i →
  Ev (fun k => incunableref03_Size.l0 k l n (i : Int)) (if (decide (l.length ≤ 64) && (l.drop i).all (fun s => decide (1 ≤ s) && decide (s ≤ 8))) then (n + (l.drop i).sum, true) else (0, false)) := by
 induction d with
 | zero =>
  intro i n hi h64 h0 h1
  refine Ev.step (fun k => incunableref03_Size.l0.eq_2 ..) ?_
  refine Ev.neg (by omega) (Ev.ret ?_)
  rw [List.drop_of_length_le (by omega)]
  have : l.length ≤ 64 := by omega
  simp [this]
 | succ d ih =>
  intro i n hi h64 h0 h1
  refine Ev.step (fun k => incunableref03_Size.l0.eq_2 ..) ?_
  refine Ev.pos (by omega) (Ev.ite (fun h => Ev.ret ?_) (fun h => Ev.pos (by omega) ?_))
  ·have : ¬ l.length ≤ 64 := by omega
   simp [this]
  rw [drop_rd (l := l) (i := i) (by omega)]
  generalize rd l (i : Int) = s
  refine Ev.ite (fun h => Ev.ret ?_) (fun h => Ev.ite (fun h' => Ev.ret ?_) (fun h' => ?_))
  ·have : ¬ 1 ≤ s := by omega
   simp [this]
  ·have : ¬ s ≤ 8 := by omega
   simp [this]
  ·rw [w64_succ (by omega), w64_id (by omega) (by omega)]
   refine Ev.eq (ih (i + 1) (n + s) (by omega) (by omega) (by omega) (by omega)) ?_
   have e1 : 1 ≤ s := by omega
   have e2 : s ≤ 8 := by omega
   simp only [List.all_cons, List.sum_cons, e1, e2, decide_true, Bool.true_and, Int.add_assoc]
theorem rsize_ev (l : List Int) (hl : l.length ≤ 1000000) : Ev (fun k => incunableref03_Size.f k l) (pkSize l) := by
 refine Ev.congr (fun k => by rw [incunableref03_Size.f]) ?_
 refine Ev.eq (rsize_l0 l hl l.length 0 0 (by omega) (by omega) (by omega) (by omega)) ?_
 simp [pkSize, okSizes]
end Go.Proofs.Ytmehbabchakkpaa.PurePageDecodes
namespace Go.Proofs.Ytmehbabchakkpaa.PurePageDecodes
open Go.RowKit QPageDecodes YtmehbabchakkpaaW.PrintWords YtmehbabchakkpaaW.PrintLast YtmehbabchakkpaaW.PrintMore EvKit PackMath
theorem rpow7 {m : Nat} (h : m ≤ 7) : (256 : Int) ^ m ≤ 72057594037927936 := by
 have : m = 0 ∨ m = 1 ∨ m = 2 ∨ m = 3 ∨ m = 4 ∨ m = 5 ∨ m = 6 ∨ m = 7 := by omega
 rcases this with rfl | rfl | rfl | rfl | rfl | rfl | rfl | rfl <;> decide
theorem rpow_next {j : Nat} (h : j ≤ 7) (h7 : j ≠ 7) : (256 : Int) ^ j * 256 ≤ 72057594037927936 := by
 have := rpow7 (m := j + 1) (by omega)
 rwa [Int.pow_succ] at this
theorem rtake_succ {b : List Int} {d : Nat} (h : d < b.length) : b.take (d + 1) = b.take d ++ [rd b (d : Int)] := by
 rw [List.take_succ_eq_append_getElem h, rd_nat h]
theorem rd_drop {b : List Int} {a j : Nat} (h : a + j < b.length) : rd (b.drop a) (j : Int) = rd b ((a + j : Nat) : Int) := by
 rw [rd_nat h, rd_nat (by rw [List.length_drop]; omega), List.getElem_drop]
theorem rtake_l1 {l b out : List Int} {s : Int} {i a m : Nat} {r : List Int × Int} (U : Nat → Int) (hU0 : ∀ j, j ≤ m → 0 ≤ U j ∧ U j < 256 ^ j) (hU : ∀ j, j < m → U (j + 1) = U j + 256 ^ j * rd b ((a + j : Nat) : Int))
  (hb : ∀ x ∈ b, 0 ≤ x ∧ x < 256) (hi : i < l.length) (hs : rd l (i : Int) = s) (hm : s = m) (h8 : m ≤ 8) (hab : a + m ≤ b.length) (hbl : b.length < 1000000) (ho : out.length < 17592186044416)
  (hgo : U m ≤ 4611686018427387904 → Ev (fun k => incunableref03_Take.l0 k l b (out ++ [U m]) (wrap64 ((a : Int) + s)) (wrap64 ((i : Int) + 1))) r)
  (hno : 4611686018427387904 < U m → r = ([], 11)) (d : Nat) :
  ∀ (j : Nat) (n sc : Int), j + d = m → (j ≤ 7 → sc = 256 ^ j) → n = U j → n ≤ 4611686018427387904 →
  Ev (fun k => incunableref03_Take.l1 k l b out (a : Int) (i : Int) n sc (j : Int)) r := by
 have i0 : (0 : Int) ≤ (i : Int) := Int.natCast_nonneg _
 have i1 : (i : Int) < (l.length : Int) := by exact_mod_cast hi
 induction d with
 | zero =>
  intro j n sc hj hsc hnv hn
  have e : j = m := hj
  have g : ¬ (j : Int) < rd l (i : Int) := by rw [hs, hm, e]; exact Int.lt_irrefl _
  refine Ev.step (fun k => incunableref03_Take.l1.eq_2 ..) ?_
  refine Ev.pos i0 ?_
  refine Ev.pos i1 ?_
  refine Ev.neg g ?_
  refine Ev.pos ho ?_
  subst e
  subst hnv
  rw [hs]
  exact hgo hn
 | succ d ih =>
  intro j n sc hj hsc hnv hn
  have hjm : j < m := by clear hgo hno hU hU0 ih; omega
  have hj7 : j ≤ 7 := by clear hgo hno hU hU0 ih; omega
  have hjl : a + j < b.length := by clear hgo hno hU hU0 ih; omega
  have hsc := hsc hj7
  subst hsc
  have g : (j : Int) < rd l (i : Int) := by rw [hs, hm]; exact_mod_cast hjm
  have q0 : (0 : Int) ≤ ((a + j : Nat) : Int) := Int.natCast_nonneg _
  have q1 : ((a + j : Nat) : Int) < (b.length : Int) := by exact_mod_cast hjl
  have hw : wrap64 ((a : Int) + (j : Int)) = ((a + j : Nat) : Int) := by
   rw [← Int.natCast_add]
   exact w64_id (by clear hgo hno hU hU0 ih; omega) (by clear hgo hno hU hU0 ih; omega)
  have hw1 : wrap64 ((j : Int) + 1) = ((j + 1 : Nat) : Int) := w64_succ (by clear hgo hno hU hU0 ih; omega)
  have hc := hb _ (rd_mem q0 q1)
  have hsucc := hU j hjm
  have hn0 := hU0 j (Nat.le_of_lt hjm)
  have hn2 := ih (j + 1) (n + 256 ^ j * rd b ((a + j : Nat) : Int))
  have hp := rpow7 hj7
  have hp0 : 0 < (256 : Int) ^ j := Int.pow_pos (by decide)
  have hp1 : j ≠ 7 → (256 : Int) ^ j * 256 ≤ 72057594037927936 := rpow_next hj7
  have hp7 : j = 7 → (256 : Int) ^ j = 72057594037927936 := by rintro rfl; decide
  have hps : ∀ x : Int, x = 256 ^ j * 256 → x = 256 ^ (j + 1) := by rintro x rfl; exact (Int.pow_succ 256 j).symm
  rw [← hnv] at hn0 hsucc
  clear hgo hU hU0 ih hnv
  refine Ev.step (fun k => incunableref03_Take.l1.eq_2 ..) ?_
  refine Ev.pos i0 ?_
  refine Ev.pos i1 ?_
  refine Ev.pos g ?_
  rw [hw, hw1]
  refine Ev.pos q0 ?_
  refine Ev.pos q1 ?_
  clear hw hw1 g
  generalize rd b ((a + j : Nat) : Int) = c at hc hsucc hn2 ⊢
  have hc1 : wrap64 c = c := w64_id (Int.le_trans (by decide) hc.1) (Int.le_trans (Int.le_of_lt hc.2) (by decide))
  rw [hc1, Int.mul_comm c]
  clear hc1
  generalize (256 : Int) ^ j = p at hn0 hsucc hn2 hp hp0 hp1 hp7 hps ⊢
  have hm0 : 0 ≤ p * c := Int.mul_nonneg (Int.le_of_lt hp0) hc.1
  have hm1 : p * c ≤ p * 256 := Int.mul_le_mul_of_nonneg_left (Int.le_of_lt hc.2) (Int.le_of_lt hp0)
  have next : n + p * c ≤ 4611686018427387904 → Ev (fun k => incunableref03_Take.l1 k l b out (a : Int) (i : Int) (wrap64 (n + wrap64 (p * c))) (wrap64 (p * 256)) ((j + 1 : Nat) : Int)) r := by
   intro hle
   have f1 : wrap64 (p * c) = p * c := w64_id (Int.le_trans (by decide) hm0) (by omega)
   have f2 : wrap64 (n + p * c) = n + p * c := w64_id (by omega) (by omega)
   rw [f1, f2]
   clear f1 f2
   refine hn2 _ (by omega) (fun h7 => hps _ (w64_id (by omega) ?_)) hsucc.symm hle
   have := hp1 (by omega)
   omega
  by_cases h7 : j = 7
  ·have e7 := hp7 h7
   subst e7
   subst h7
   have hm8 : m = 8 := by omega
   subst hm8
   have hbad : 4611686018427387904 < n + 72057594037927936 * c → ([], 11) = r := by
    intro h
    refine (hno ?_).symm
    rw [hsucc]
    exact h
   clear hno hn2 hsucc hps hp1
   exact Ev.pos rfl (Ev.ite (fun h => Ev.ret (hbad (by omega))) (fun h => Ev.ite (fun h' => Ev.ite (fun h'' => Ev.ret (hbad (by omega))) (fun h'' => next (by omega))) (fun h' => next (by omega))))
  ·have h6 := hp1 h7
   have h7' : ¬ (j : Int) = 7 := by omega
   exact Ev.neg h7' (next (by omega))
theorem rtake_l0 {l b : List Int} (hok : okSizes l = true) (hb : ∀ x ∈ b, 0 ≤ x ∧ x < 256) (hbl : b.length < 1000000) (d : Nat) : ∀ (i a : Nat) (out : List Int), i + d = l.length → a ≤ b.length → (b.length : Int) = a + (l.drop i).sum → out.length ≤ i →
  Ev (fun k => incunableref03_Take.l0 k l b out (a : Int) (i : Int)) (endTake out (takeGo (l.drop i) (b.drop a))) := by
 have hk := okSizes_iff.1 hok
 induction d with
 | zero =>
  intro i a out hi ha hsum ho
  refine Ev.step (fun k => incunableref03_Take.l0.eq_2 ..) ?_
  refine Ev.neg (by omega) (Ev.ret ?_)
  rw [List.drop_of_length_le (by omega)]
  simp [takeGo, endTake]
 | succ d ih =>
  intro i a out hi ha hsum ho
  refine Ev.step (fun k => incunableref03_Take.l0.eq_2 ..) ?_
  refine Ev.pos (by omega) ?_
  have hs := hk.2 _ (rd_mem (l := l) (i := (i : Int)) (by omega) (by omega))
  have hrest := sum_nonneg (l := l.drop (i + 1)) fun x hx => hk.2 x (List.mem_of_mem_drop hx)
  rw [drop_rd (l := l) (i := i) (by omega)] at hsum ⊢
  rw [List.sum_cons] at hsum
  generalize hsv : rd l (i : Int) = s at hs hsum ⊢
  obtain ⟨m, rfl⟩ := Int.eq_ofNat_of_zero_le (show 0 ≤ s by omega)
  have hm8 : m ≤ 8 := by omega
  have ham : a + m ≤ b.length := by omega
  have g1 : i + 1 + d = l.length := by omega
  have g2 : (b.length : Int) = ((a + m : Nat) : Int) + (l.drop (i + 1)).sum := by omega
  have g3 : out.length + 1 ≤ i + 1 := by omega
  have g4 : i < l.length := by omega
  have g5 : out.length < 17592186044416 := by omega
  have w1 : wrap64 ((i : Int) + 1) = ((i + 1 : Nat) : Int) := w64_succ (by omega)
  have w2 : wrap64 ((a : Int) + (m : Int)) = ((a + m : Nat) : Int) := by rw [← Int.natCast_add]; exact w64_id (by clear w1; omega) (by clear w1; omega)
  have hab : ∀ j, j ≤ m → ((b.drop a).take j).length = j := fun j hj => by clear w1 w2; rw [List.length_take, List.length_drop]; omega
  have hbj : ∀ j, ∀ x ∈ (b.drop a).take j, 0 ≤ x ∧ x < 256 := fun j x hx => hb x (List.mem_of_mem_drop (List.mem_of_mem_take hx))
  have h1 : ∀ j, j ≤ m → 0 ≤ unle ((b.drop a).take j) ∧ unle ((b.drop a).take j) < 256 ^ j := by
   intro j hj
   have := unle_lt _ (hbj j)
   rw [hab j hj] at this
   exact ⟨unle_nonneg _ (hbj j), this⟩
  have h2 : ∀ j, j < m → unle ((b.drop a).take (j + 1)) = unle ((b.drop a).take j) + 256 ^ j * rd b ((a + j : Nat) : Int) := by
   intro j hj
   clear w1 w2 h1
   rw [rtake_succ (by rw [List.length_drop]; omega), unle_append, hab j (by omega), rd_drop (by omega)]
   simp [unle]
  refine rtake_l1 (U := fun j => unle ((b.drop a).take j)) h1 h2 hb g4 hsv rfl hm8 ham hbl g5 ?_ ?_ m 0 0 1 (Nat.zero_add m) (by intro _; rfl) (by simp [unle]) (by decide)
  ·intro hle
   rw [w1, w2]
   refine Ev.eq (ih (i + 1) (a + m) _ g1 ham g2 (by rw [List.length_append, List.length_singleton]; exact g3)) ?_
   have et : takeGo ((m : Int) :: l.drop (i + 1)) (b.drop a) = (takeGo (l.drop (i + 1)) (b.drop (a + m))).map (unle ((b.drop a).take m) :: ·) := by
    rw [takeGo, Int.toNat_natCast, if_pos hle, List.drop_drop]
   rw [et]
   cases takeGo (l.drop (i + 1)) (b.drop (a + m))
   ·rfl
   ·simp only [endTake, Option.map_some, List.append_assoc, List.singleton_append]
  ·intro hle
   have hle' : ¬ unle ((b.drop a).take m) ≤ 4611686018427387904 := Int.not_le.2 hle
   have et : takeGo ((m : Int) :: l.drop (i + 1)) (b.drop a) = none := by
    rw [takeGo, Int.toNat_natCast, if_neg hle']
   rw [et]
   rfl
theorem rtake_ev (l b : List Int) (hl : l.length ≤ 1000000) (hb : ∀ x ∈ b, 0 ≤ x ∧ x < 256) (hbl : b.length < 1000000) : Ev (fun k => incunableref03_Take.f k l b) (pkTake l b) := by
 refine Ev.congr (fun k => by rw [incunableref03_Take.f]) ?_
 refine Ev.bind (rsize_ev l hl) ?_
 refine Ev.ite (fun h => ?_) (fun h => ?_)
 ·have hok : okSizes l = true := by
   cases e : okSizes l
   ·simp [pkSize, e] at h
   ·rfl
  have e1 : pkSize l = (l.sum, true) := by simp [pkSize, hok]
  rw [e1]
  simp only [pkTake, hok, if_true]
  refine Ev.ite (fun h1 => Ev.ret ?_) (fun h1 => Ev.ite (fun h2 => Ev.ret ?_) (fun h2 => ?_))
  ·rw [if_pos h1]
  ·rw [if_neg h1, if_pos h2]
  ·rw [if_neg h1, if_neg h2]
   have := rtake_l0 hok hb hbl l.length 0 0 [] (by omega) (by omega) (by simp; omega) (by simp)
   simpa using this
 ·have hok : okSizes l = false := by
   cases e : okSizes l
   ·rfl
   ·simp [pkSize, e] at h
  refine Ev.ret ?_
  simp [pkTake, hok]
end Go.Proofs.Ytmehbabchakkpaa.PurePageDecodes
namespace Go.Proofs.Ytmehbabchakkpaa.PurePageDecodes
open Go.RowKit QPageDecodes YtmehbabchakkpaaW.PrintWords YtmehbabchakkpaaW.PrintLast YtmehbabchakkpaaW.PrintMore EvKit PackMath TagMath
theorem from_eq (n low high : Int) : incunableref07_from.f n low high = some (between n low high) := by
 unfold incunableref07_from.f between
 by_cases h : n ≥ low
 ·rw [if_pos h]
  have h' : low ≤ n := h
  simp [h']
 ·rw [if_neg h]
  have h' : ¬ low ≤ n := h
  simp [h']
theorem rmay_eq (a b c d : Int) : incunableref07_May.f a b c d = some (mayTag a b c d) := by
 unfold incunableref07_May.f mayTag
 rw [from_eq, from_eq, from_eq, from_eq]
 simp only [Option.bind_some]
 cases between a 1 4 <;> cases between b 0 2147483648 <;> cases between c 0 2305843009213693952 <;> cases between d 0 2147483648 <;> rfl
theorem rttake_ev (b : List Int) (hb : ∀ x ∈ b, 0 ≤ x ∧ x < 256) (hl : b.length < 1000000) : Ev (fun k => incunableref07_Take.f k b) (takeTag b) := by
 refine Ev.congr (fun k => by rw [incunableref07_Take.f]) ?_
 refine Ev.bindv (a := sizes) rfl ?_
 refine Ev.bind (rtake_ev _ _ (by decide) hb hl) ?_
 unfold takeTag
 refine Ev.ite (fun h => ?_) (fun h => Ev.ret ?_)
 ·rw [if_pos h]
  have h6 := six h
  generalize (pkTake sizes b).1 = l at h6 ⊢
  unfold ofList
  refine Ev.step (fun k => incunableref07_Take.j0.eq_2 ..) ?_
  refine Ev.pos (by omega) (Ev.pos (by omega) (Ev.pos (by omega) (Ev.pos (by omega) (Ev.pos (by omega) ?_))))
  have hj : ∀ q0 q1 q2 q3 : Int, Ev (fun k => incunableref07_Take.j1 k true q0 q1 q2 q3) (0, 0, 0, 0, 11) := fun _ _ _ _ => Ev.step (fun k => incunableref07_Take.j1.eq_2 ..) (Ev.pos rfl (Ev.ret rfl))
  refine Ev.ite (fun h0 => ?_) (fun h0 => ?_)
  ·refine Ev.pos (by omega) (Ev.ite (fun h5 => ?_) (fun h5 => ?_))
   ·refine Ev.bindv (rmay_eq _ _ _ _) ?_
    by_cases hm : mayTag (rd l 1) (rd l 2) (rd l 3) (rd l 4) = true
    ·rw [if_pos ⟨h0, h5, hm⟩, hm]
     exact Ev.step (fun k => incunableref07_Take.j1.eq_2 ..) (Ev.neg (by decide) (Ev.ret rfl))
    ·rw [if_neg fun h => hm h.2.2, Bool.eq_false_iff.2 hm]
     exact hj _ _ _ _
   ·rw [if_neg fun h => h5 h.2.1]
    exact hj _ _ _ _
  ·rw [if_neg fun h => h0 h.1]
   exact hj _ _ _ _
 ·rw [if_neg h]
end Go.Proofs.Ytmehbabchakkpaa.PurePageDecodes
namespace Go.Proofs.Ytmehbabchakkpaa.PurePageDecodes
open Go.RowKit QPageDecodes YtmehbabchakkpaaW.PrintWords YtmehbabchakkpaaW.PrintLast YtmehbabchakkpaaW.PrintMore EvKit BitsKit CrcMath NatKit
theorem rsum_l0 (bs : List Nat) (hb : ∀ x ∈ bs, x < 2) (hn : bs.length < 100000000) (d : Nat) : ∀ (c i : Nat), c < 4294967296 → i + d = bs.length →
  Ev (fun k => incunableref02_Sum.l0 k (c : Int) (ints bs) (i : Int)) ((4294967295 ^^^ (bs.drop i).foldl bitStep c : Nat) : Int) := by
 have hl : (ints bs).length = bs.length := List.length_map _
 induction d with
 | zero =>
  intro c i hc hi
  refine Ev.step (fun k => incunableref02_Sum.l0.eq_2 ..) ?_
  refine Ev.neg (by omega) (Ev.ret ?_)
  rw [List.drop_of_length_le (by omega), List.foldl_nil, ← not_xor hc]
  omega
 | succ d ih =>
  intro c i hc hi
  have hil : i < bs.length := by omega
  have hx : bs[i] < 2 := hb _ (List.getElem_mem hil)
  refine Ev.step (fun k => incunableref02_Sum.l0.eq_2 ..) ?_
  refine Ev.pos (by omega) ?_
  refine Ev.pos (by omega) ?_
  rw [rd_ints, List.getD_eq_getElem?_getD, List.getElem?_eq_getElem hil, Option.getD_some, List.drop_eq_getElem_cons hil, List.foldl_cons]
  rw [Int.tmod_eq_emod_of_nonneg (Int.natCast_nonneg _), Int.tdiv_eq_ediv_of_nonneg (Int.natCast_nonneg _), w64_id (by omega) (by omega), w64_succ (by omega), show (c : Int) / 2 % 4294967296 = ((c / 2 : Nat) : Int) from by omega]
  have next := ih (bitStep c bs[i]) (i + 1) (bitStep_lt hc) (by omega)
  generalize bs[i] = x at hx next ⊢
  refine Ev.ite (fun h => ?_) (fun h => ?_)
  ·have h' : c % 2 = x := by omega
   have e : bitStep c x = c / 2 := by unfold bitStep; rw [if_pos h', Nat.xor_zero]
   rw [e] at next ⊢
   exact next
  ·have h' : ¬ c % 2 = x := by omega
   have e : bitStep c x = c / 2 ^^^ 3988292384 := by unfold bitStep; rw [if_neg h']
   have e2 : Go.bits .xor .u32 ((c / 2 : Nat) : Int) 3988292384 = ((c / 2 ^^^ 3988292384 : Nat) : Int) := xor_u32 (by omega) (by decide)
   rw [e] at next ⊢
   rw [e2]
   exact next
theorem bitAt_lt (l : List Nat) (i : Nat) : bitAt l i < 2 := Nat.mod_lt _ (by decide)
theorem rsum_ev {l : List Int} (hl : ∀ x ∈ l, 0 ≤ x ∧ x < 256) (hn : l.length < 1000000) : Ev (fun k => incunableref02_Sum.f k l) ((CrcMath.sum (nats l) : Nat) : Int) := by
 refine Ev.congr (fun k => by rw [incunableref02_Sum.f]) ?_
 refine Ev.bind (list_ev hl hn) ?_
 refine Ev.eq (rsum_l0 (bitList (nats l)) (fun x hx => ?_) ?_ (bitList (nats l)).length 4294967295 0 (by decide) (by omega)) ?_
 ·obtain ⟨i, _, rfl⟩ := List.mem_map.1 hx
  exact bitAt_lt _ _
 ·unfold bitList
  rw [List.length_map, List.length_range, nats_length]
  omega
 ·unfold CrcMath.sum
  rw [run_bitList _ (nats_lt hl), List.drop_zero]
theorem rbytes_eq (n : Nat) : incunableref02_Bytes.f (n : Int) = some (four n) := by
 unfold incunableref02_Bytes.f four
 simp only [Int.tmod_eq_emod_of_nonneg (Int.natCast_nonneg n), Int.tdiv_eq_ediv_of_nonneg (Int.natCast_nonneg n)]
 congr 1
 simp only [List.cons.injEq, and_true]
 omega
end Go.Proofs.Ytmehbabchakkpaa.PurePageDecodes
namespace Go.Proofs.Ytmehbabchakkpaa.PurePageDecodes
open Go.RowKit QPageDecodes YtmehbabchakkpaaW.PrintWords YtmehbabchakkpaaW.PrintLast YtmehbabchakkpaaW.PrintMore EvKit PackMath TagMath CrcMath NatKit BitsMath ChunkMath
theorem rraw_eq {a0 a1 a2 a3 a4 a5 a6 : Int} (h : okG a0 a1 a2 a3 a4 a5 a6) : incunableref04_Raw.f a0 a1 a2 a3 a4 a5 a6 = some (a3 * (a4 + 2) + 31) := by
 obtain ⟨h3, h4⟩ := okG_bounds h
 have := mul_bound h3 ⟨h4.1, by omega⟩
 unfold incunableref04_Raw.f
 rw [w64_id (x := a3 * a4) (by omega) (by omega), w64_id (x := 2 * a3) (by omega) (by omega), w64_id (x := a3 * a4 + 2 * a3) (by omega) (by omega), w64_id (by omega) (by omega), Int.mul_add]
 congr 1
 omega
theorem rdecB_ev {raw : List Int} (hb : ∀ x ∈ raw, 0 ≤ x ∧ x < 256) {S C : Nat} {q0 q1 q2 q5 q6 : Int} (hS0 : 4 ≤ S) (hS : S ≤ 512) (hC : C ≤ 16) (hl : raw.length = C * (S + 2) + 31) :
  Ev (fun k => incunableref08_Decode.j1 k raw q0 q1 q2 (C : Int) (S : Int) q5 q6) (decB S C (raw.take (C * (S + 2))) ((raw.take (C * (S + 2) + 30)).drop (C * (S + 2)))) := by
 have hn : C * (S + 2) ≤ 10000 := Nat.le_trans (Nat.mul_le_mul hC (show S + 2 ≤ 514 by omega)) (by decide)
 have hcl : (raw.take (C * (S + 2))).length = C * (S + 2) := by rw [List.length_take]; omega
 have hll : ((raw.take (C * (S + 2) + 30)).drop (C * (S + 2))).length = 30 := by rw [List.length_drop, List.length_take]; omega
 have hcb := bytes_take hb (C * (S + 2))
 have hlb := bytes_drop (bytes_take hb (C * (S + 2) + 30)) (C * (S + 2))
 have ew1 : wrap64 ((C : Int) * wrap64 ((S : Int) + 2)) = ((C * (S + 2) : Nat) : Int) := by
  rw [w64_id (x := (S : Int) + 2) (by omega) (by omega), show (C : Int) * ((S : Int) + 2) = ((C * (S + 2) : Nat) : Int) by rw [Int.natCast_mul, Int.natCast_add]; rfl]
  exact w64_id (by omega) (by omega)
 have ew2 : wrap64 (((C * (S + 2) : Nat) : Int) + 30) = ((C * (S + 2) + 30 : Nat) : Int) := by
  rw [w64_id (by omega) (by omega)]
  omega
 refine Ev.step (fun k => incunableref08_Decode.j1.eq_2 ..) ?_
 rw [ew1, ew2, Int.toNat_natCast, Int.toNat_natCast]
 clear ew1 ew2
 refine Ev.pos (by omega) (Ev.pos (by omega) (Ev.pos (by omega) ?_))
 have ech : Int.toNat ((C * (S + 2) : Nat) : Int) = C * (S + 2) := Int.toNat_natCast _
 obtain ⟨ch, hch⟩ : ∃ ch, raw.take (C * (S + 2)) = ch := ⟨_, rfl⟩
 rw [hch] at hcl hcb ⊢
 generalize (raw.take (C * (S + 2) + 30)).drop (C * (S + 2)) = lab at hll hlb ⊢
 have hz := rzeros_ev hlb (by omega)
 have ha := rall_on (L := ch) (m := S + 2) (d := C) ⟨by omega, by omega⟩ hcl hcb (by omega)
 rw [show ((S + 2 : Nat) : Int) - 2 = (S : Int) by omega] at ha
 have hal := allR_short (S + 2) C ch [] 0 hcl
 have hab := allR_byte (m := S + 2) C ch [] 0 hcb (fun x hx => by cases hx)
 have hd := rdecode_ev hlb (by omega)
 have hdl := decN_len (r := nats lab)
 have hdb := decN_byte (nats_lt hlb)
 rw [nats_length, hll] at hdl
 rw [List.length_nil, hcl] at hal
 refine Ev.bind hz ?_
 unfold decB
 refine Ev.ite (fun h => ?_) (fun h => ?_)
 ·rw [if_pos h]
  exact Ev.ret rfl
 rw [if_neg h]
 clear h hz
 refine Ev.step (fun k => incunableref08_Decode.j2.eq_2 ..) ?_
 rw [ech, hch]
 refine Ev.pos (by omega) (Ev.pos (by omega) (Ev.bind ha ?_))
 clear ha ech hch
 generalize allR (S + 2) C ch [] 0 = A at hal hab ⊢
 refine Ev.ite (fun h => ?_) (fun h => ?_)
 ·rw [if_pos h]
  refine Ev.step (fun k => incunableref08_Decode.j3.eq_2 ..) ?_
  refine Ev.bind hd ?_
  clear hd
  generalize decN (nats lab) = D at hdl hdb ⊢
  refine Ev.ite (fun h2 => ?_) (fun h2 => ?_)
  ·rw [if_pos h2]
   have hdl2 := hdl h2
   have htl : (D.1.take 24).length = 24 := by rw [List.length_take]; omega
   have hse : ends (A.1 ++ D.1) = decide (four (CrcMath.sum (nats (A.1 ++ D.1.take 24))) = D.1.drop 24) := by
    unfold ends
    rw [decide_eq_true (by rw [List.length_append]; omega), Bool.true_and, List.length_append, List.take_append, List.drop_append, show A.1.length + D.1.length - 4 - A.1.length = 24 by omega, List.take_of_length_le (by omega), List.drop_of_length_le (l := A.1) (by omega), List.nil_append]
   have hsum := rsum_ev (l := A.1 ++ D.1.take 24) (app_byte hab (bytes_take hdb 24)) (by rw [List.length_append]; omega)
   have htake := rttake_ev (D.1.take 24) (bytes_take hdb 24) (by omega)
   refine Ev.step (fun k => incunableref08_Decode.j4.eq_2 ..) ?_
   refine Ev.pos (by rw [List.length_nil]; omega) (Ev.bindv rfl (Ev.pos (by omega) (Ev.bindv rfl ?_)))
   rw [List.nil_append]
   refine Ev.pos (by omega) (Ev.bind hsum (Ev.bindv (rbytes_eq _) ?_))
   refine Ev.bind (same_ev _ _ (by show 4 < 1000000000; decide)) ?_
   rw [← hse]
   clear hse hsum
   refine Ev.ite (fun h3 => ?_) (fun h3 => ?_)
   ·rw [if_pos h3]
    refine Ev.step (fun k => incunableref08_Decode.j5.eq_2 ..) ?_
    refine Ev.pos (by omega) (Ev.bind htake ?_)
    generalize takeTag (D.1.take 24) = t
    refine Ev.ite (fun h4 => ?_) (fun h4 => ?_)
    ·rw [if_pos h4]
     refine Ev.ite (fun h5 => ?_) (fun h5 => ?_)
     ·rw [if_pos h5]
      exact Ev.ret rfl
     ·rw [if_neg h5]
      exact Ev.ret rfl
    ·rw [if_neg h4]
     exact Ev.ret rfl
   ·rw [if_neg h3]
    exact Ev.ret rfl
  ·rw [if_neg h2]
   exact Ev.ret rfl
 ·rw [if_neg h]
  exact Ev.ret rfl
theorem rpdec_ev {raw : List Int} (hb : ∀ x ∈ raw, 0 ≤ x ∧ x < 256) (a0 a1 a2 a3 a4 a5 a6 : Int) : Ev (fun k => incunableref08_Decode.f k a0 a1 a2 a3 a4 a5 a6 raw) (decP raw a0 a1 a2 a3 a4 a5 a6) := by
 refine Ev.congr (fun k => by rw [incunableref08_Decode.f]) ?_
 refine Ev.bindv right_eq ?_
 have hbad : ¬ (okG a0 a1 a2 a3 a4 a5 a6 ∧ (raw.length : Int) = a3 * (a4 + 2) + 31) → Ev (fun k => incunableref08_Decode.j0 k raw true a0 a1 a2 a3 a4 a5 a6) (decP raw a0 a1 a2 a3 a4 a5 a6) := fun h => by
  refine Ev.step (fun k => incunableref08_Decode.j0.eq_2 ..) (Ev.pos rfl (Ev.ret ?_))
  unfold decP
  rw [if_neg h]
 by_cases hg : okG a0 a1 a2 a3 a4 a5 a6
 ·refine Ev.pos (decide_eq_true hg) (Ev.bindv (rraw_eq hg) ?_)
  by_cases hl : (raw.length : Int) = a3 * (a4 + 2) + 31
  ·have e : ((raw.length : Int) != a3 * (a4 + 2) + 31) = false := bne_eq_false_iff_eq.2 hl
   rw [e]
   refine Ev.step (fun k => incunableref08_Decode.j0.eq_2 ..) (Ev.neg (by decide) ?_)
   unfold decP
   rw [if_pos ⟨hg, hl⟩]
   obtain ⟨h3, h4⟩ := okG_bounds hg
   have hm := mul_bound h3 (y := a4 + 2) ⟨by omega, by omega⟩
   obtain ⟨C, rfl⟩ := Int.eq_ofNat_of_zero_le (a := a3) (by omega)
   obtain ⟨S, rfl⟩ := Int.eq_ofNat_of_zero_le (a := a4) (by omega)
   have en : (C : Int) * ((S : Int) + 2) = ((C * (S + 2) : Nat) : Int) := by rw [Int.natCast_mul, Int.natCast_add]; rfl
   rw [en] at hl
   have hl2 : raw.length = C * (S + 2) + 31 := by omega
   rw [Int.toNat_natCast, Int.toNat_natCast, show raw.length - 31 = C * (S + 2) by omega, show raw.length - 1 = C * (S + 2) + 30 by omega]
   exact rdecB_ev hb (by omega) (by omega) (by omega) hl2
  ·have e : ((raw.length : Int) != a3 * (a4 + 2) + 31) = true := bne_iff_ne.2 hl
   rw [e]
   exact hbad (fun z => hl z.2)
 ·rw [decide_eq_false hg]
  exact Ev.neg (by decide) (hbad (fun z => hg z.1))
theorem rmark_ev {raw : List Int} (hb : ∀ x ∈ raw, 0 ≤ x ∧ x < 256) (a0 a1 a2 a3 a4 a5 a6 : Int) : Ev (fun k => incunableref08_Marked.f k a0 a1 a2 a3 a4 a5 a6 raw) (markP raw a0 a1 a2 a3 a4 a5 a6) := by
 refine Ev.congr (fun k => by rw [incunableref08_Marked.f]) ?_
 refine Ev.bindv right_eq ?_
 unfold markP
 by_cases hg : okG a0 a1 a2 a3 a4 a5 a6
 ·refine Ev.pos (decide_eq_true hg) (Ev.bindv (rraw_eq hg) ?_)
  by_cases hl : (raw.length : Int) = a3 * (a4 + 2) + 31
  ·obtain ⟨h3, h4⟩ := okG_bounds hg
   have hm := mul_bound h3 (y := a4 + 2) ⟨by omega, by omega⟩
   rw [decide_eq_true ⟨hg, hl⟩, w64_id (x := (raw.length : Int) - 1) (by omega) (by omega), show ((raw.length : Int) - 1).toNat = raw.length - 1 by omega]
   refine Ev.pos hl (Ev.pos (by omega) (Ev.pos (by omega) (Ev.bind (rzeros_ev (bytes_drop hb _) (by rw [List.length_drop]; omega)) (Ev.ret ?_))))
   have h1 : (raw.drop (raw.length - 1)).length = 1 := by rw [List.length_drop]; omega
   have h2 := count_le (nats (raw.drop (raw.length - 1)))
   rw [nats_length, h1] at h2
   rw [Bool.true_and, h1]
   exact decide_eq_decide.2 (by omega)
  ·rw [decide_eq_false (fun z => hl z.2)]
   exact Ev.neg hl (Ev.ret rfl)
 ·rw [decide_eq_false hg, decide_eq_false (fun z => hg z.1)]
  exact Ev.neg (by decide) (Ev.ret rfl)
end Go.Proofs.Ytmehbabchakkpaa.PurePageDecodes
namespace Go.Proofs.Ytmehbabchakkpaa.Pure
open Go.RowKit QPageDecodes YtmehbabchakkpaaW.PrintWords YtmehbabchakkpaaW.PrintLast YtmehbabchakkpaaW.PrintMore EvKit PackMath TagMath CrcMath NatKit BitsMath ChunkMath PurePageDecodes
theorem decP_short {raw : List Int} (h : raw.length ≤ 400) (a0 a1 a2 a3 a4 a5 a6 : Int) : (decP raw a0 a1 a2 a3 a4 a5 a6).1.length < 1000000000 := by
 unfold decP
 split
 ·rename_i hg
  obtain ⟨h3, h4⟩ := okG_bounds hg.1
  have hm := mul_bound h3 (y := a4 + 2) ⟨by omega, by omega⟩
  have hl := hg.2
  obtain ⟨C, rfl⟩ := Int.eq_ofNat_of_zero_le (a := a3) (by omega)
  obtain ⟨S, rfl⟩ := Int.eq_ofNat_of_zero_le (a := a4) (by omega)
  have en : (C : Int) * ((S : Int) + 2) = ((C * (S + 2) : Nat) : Int) := by rw [Int.natCast_mul, Int.natCast_add]; rfl
  rw [en] at hl
  have := allR_short (S + 2) C (raw.take (raw.length - 31)) [] 0 (by rw [List.length_take]; omega)
  rw [List.length_take, List.length_nil] at this
  unfold decB
  rw [Int.toNat_natCast, Int.toNat_natCast]
  split
  ·exact (by decide : (0 : Nat) < 1000000000)
  ·split
   ·split
    ·split
     ·split
      ·show (allR (S + 2) C (raw.take (raw.length - 31)) [] 0).1.length < _
       omega
      ·exact (by decide : (0 : Nat) < 1000000000)
     ·exact (by decide : (0 : Nat) < 1000000000)
    ·exact (by decide : (0 : Nat) < 1000000000)
   ·exact (by decide : (0 : Nat) < 1000000000)
 ·exact (by decide : (0 : Nat) < 1000000000)
theorem decodes_j2 {l : List Int} (hl : ∀ x ∈ l, 0 ≤ x ∧ x < 256) (h4 : l.length ≤ 400) (a0 a1 a2 a3 a4 a5 a6 : Int) : Ev (fun k => incunablelaw08_PageDecodes.j2 k l a0 a1 a2 a3 a4 a5 a6) true := by
 refine Ev.step (fun k => incunablelaw08_PageDecodes.j2.eq_2 ..) ?_
 refine Ev.bind (pdec_ev hl a0 a1 a2 a3 a4 a5 a6) (Ev.bind (rpdec_ev hl a0 a1 a2 a3 a4 a5 a6) ?_)
 have hs := decP_short h4 a0 a1 a2 a3 a4 a5 a6
 generalize decP l a0 a1 a2 a3 a4 a5 a6 = D at hs
 have hsame := same_ev D.1 D.1 hs
 rw [decide_eq_true rfl] at hsame
 refine Ev.bind hsame (Ev.pos rfl (Ev.pos (by simp) (Ev.pos rfl (Ev.pos rfl ?_))))
 refine Ev.bind (mark_ev hl a0 a1 a2 a3 a4 a5 a6) (Ev.bind (rmark_ev hl a0 a1 a2 a3 a4 a5 a6) (Ev.ret ?_))
 simp
theorem PageDecodes : StmPageDecodes := by
 rintro ⟨a0, a1, a2, a3, a4, a5, a6⟩ l _ _ hl'
 have hl : ∀ x ∈ l, 0 ≤ x ∧ x < 256 := fun x hx => wf_u8 (hl'.2 x hx)
 clear hl'
 refine Ev.rounds (Ev.congr (fun k => by rw [incunablelaw08_PageDecodes.f]) ?_)
 refine Ev.bind page_awake_ev (Ev.pos rfl ?_)
 refine Ev.step (fun k => incunablelaw08_PageDecodes.j0.eq_2 ..) ?_
 obtain ⟨b, hb⟩ : ∃ b, incunablelaw08_Small.f a0 a1 a2 a3 a4 a5 a6 = some b := by
  unfold incunablelaw08_Small.f
  split
  ·split
   ·split
    ·exact ⟨_, rfl⟩
    ·exact ⟨_, rfl⟩
   ·exact ⟨_, rfl⟩
  ·exact ⟨_, rfl⟩
 have hoff : Ev (fun k => incunablelaw08_PageDecodes.j1 k l true a0 a1 a2 a3 a4 a5 a6) true := by
  refine Ev.step (fun k => incunablelaw08_PageDecodes.j1.eq_2 ..) ?_
  exact Ev.pos rfl (Ev.ret rfl)
 refine Ev.bindv hb (Ev.ite (fun _ => ?_) (fun _ => hoff))
 by_cases h4 : (l.length : Int) > 400
 ·rw [decide_eq_true h4]
  exact hoff
 ·rw [decide_eq_false h4]
  refine Ev.step (fun k => incunablelaw08_PageDecodes.j1.eq_2 ..) ?_
  exact Ev.neg (by decide) (decodes_j2 hl (by omega) a0 a1 a2 a3 a4 a5 a6)
end Go.Proofs.Ytmehbabchakkpaa.Pure
