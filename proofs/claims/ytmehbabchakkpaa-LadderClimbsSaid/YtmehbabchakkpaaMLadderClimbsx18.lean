import Derived.Test.YtmehbabchakkpaaMLadderClimbsx17
import Derived.Laws.Strings
namespace Go.Proofs.Ytmehbabchakkpaa.PureLadderClimbs
open Go.RowKit QLadderClimbs YtmehbabchakkpaaW.PrintWords YtmehbabchakkpaaW.PrintLast YtmehbabchakkpaaW.PrintMore EvKit BitsKit CrcMath NatKit BitsMath LenMath HamMath ChunkMath
def allR (m : Nat) : Nat → List Int → List Int → Int → List Int × Int × Int
 | 0, _, out, fx => (out, fx, 0)
 | d + 1, L, out, fx => if (decN (nats (L.take m))).2.2 = 0 then allR m d (L.drop m) (out ++ (decN (nats (L.take m))).1) (wrap64 (fx + (decN (nats (L.take m))).2.1)) else ([], 0, (decN (nats (L.take m))).2.2)
theorem decN_size (r : List Nat) (h : (decN r).2.2 = 0) : 0 < (decN r).1.length ∧ (decN r).1.length ≤ r.length := by
 unfold decN at h ⊢
 split at h
 ·exact absurd h (by decide)
 ·rename_i hn
  rw [if_neg hn]
  have hl : (r.take (r.length - 2)).length = r.length - 2 := by rw [List.length_take]; omega
  unfold decOf at h ⊢
  split at h
  ·rename_i h1
   rw [if_pos h1]
   show 0 < (ints _).length ∧ (ints _).length ≤ _
   rw [ints_length, hl]
   omega
  ·rename_i h1
   rw [if_neg h1]
   split at h
   ·rename_i h2
    rw [if_pos h2]
    show 0 < (ints _).length ∧ (ints _).length ≤ _
    rw [ints_length, flips_length, hl]
    omega
   ·rename_i h2
    rw [if_neg h2]
    split at h
    ·rename_i h3
     rw [if_pos h3]
     show 0 < (ints _).length ∧ (ints _).length ≤ _
     rw [ints_length, hl]
     omega
    ·exact absurd h (by decide)
theorem allR_short (m : Nat) : ∀ (d : Nat) (L out : List Int) (fx : Int), L.length = d * m → (allR m d L out fx).1.length ≤ out.length + L.length := by
 intro d
 induction d with
 | zero => intro L out fx _; show out.length ≤ _; omega
 | succ d ih =>
  intro L out fx hl
  have hl1 : (L.drop m).length = d * m := by rw [List.length_drop, hl, Nat.succ_mul]; omega
  have hl2 : (L.take m).length ≤ m := by rw [List.length_take]; omega
  unfold allR
  split
  ·rename_i h
   have h1 := (decN_size _ h).2
   rw [nats_length] at h1
   have h2 := ih (L.drop m) (out ++ (decN (nats (L.take m))).1) (wrap64 (fx + (decN (nats (L.take m))).2.1)) hl1
   rw [List.length_append] at h2
   have h3 : L.length = m + d * m := by rw [hl, Nat.succ_mul]; omega
   omega
  ·exact Nat.zero_le _
theorem may_on {l : List Int} {m d : Nat} (hm : 3 ≤ m ∧ m ≤ 514) (hl : l.length = d * m) : chunk_may.f l ((m : Int) - 2) = some true := by
 unfold chunk_may.f
 rw [if_pos (by omega), if_pos (by omega), w64_id (x := (m : Int) - 2 + 2) (by omega) (by omega), show (m : Int) - 2 + 2 = (m : Int) by omega, if_neg (by omega), hl, show ((d * m : Nat) : Int) % (m : Int) = 0 by rw [Int.natCast_mul]; exact Int.mul_emod_left _ _]
 rfl
theorem bytes_take {L : List Int} (hL : ∀ x ∈ L, 0 ≤ x ∧ x < 256) (m : Nat) : ∀ x ∈ L.take m, 0 ≤ x ∧ x < 256 := fun x hx => hL x (List.mem_of_mem_take hx)
theorem bytes_drop {L : List Int} (hL : ∀ x ∈ L, 0 ≤ x ∧ x < 256) (m : Nat) : ∀ x ∈ L.drop m, 0 ≤ x ∧ x < 256 := fun x hx => hL x (List.mem_of_mem_drop hx)
theorem all_l0 {m : Nat} (hm : 3 ≤ m ∧ m ≤ 514) : ∀ (d : Nat) (L out : List Int) (fx : Int), L.length = d * m → (∀ x ∈ L, 0 ≤ x ∧ x < 256) → out.length + L.length ≤ 1000000 → Ev (fun k => chunk_All.l0 k L ((m : Int) - 2) out fx) (allR m d L out fx) := by
 intro d
 induction d with
 | zero =>
  intro L out fx hl _ _
  refine Ev.step (fun k => chunk_All.l0.eq_2 ..) ?_
  exact Ev.pos (by omega) (Ev.ret rfl)
 | succ d ih =>
  intro L out fx hl hb hs
  have h3 : L.length = m + d * m := by rw [hl, Nat.succ_mul]; omega
  have hl1 : (L.drop m).length = d * m := by rw [List.length_drop]; omega
  have hl2 : (L.take m).length = m := by rw [List.length_take]; omega
  refine Ev.step (fun k => chunk_All.l0.eq_2 ..) ?_
  rw [show ((m : Int) - 2 + 2).toNat = m by omega]
  refine Ev.neg (by omega) (Ev.bind (decode_ev (bytes_take hb m) (by omega)) ?_)
  unfold allR
  have hz := decN_size (nats (L.take m))
  rw [nats_length, hl2] at hz
  generalize decN (nats (L.take m)) = t at hz ⊢
  refine Ev.ite (fun h => ?_) (fun h => ?_)
  ·rw [if_pos h]
   have h4 := hz h
   refine Ev.pos h4.1 (Ev.pos (by omega) ?_)
   exact ih _ _ _ hl1 (bytes_drop hb m) (by rw [List.length_append]; omega)
  ·rw [if_neg h]
   exact Ev.ret rfl
theorem all_on {L : List Int} {m d : Nat} (hm : 3 ≤ m ∧ m ≤ 514) (hl : L.length = d * m) (hb : ∀ x ∈ L, 0 ≤ x ∧ x < 256) (hs : L.length ≤ 1000000) : Ev (fun k => chunk_All.f k L ((m : Int) - 2)) (allR m d L [] 0) := by
 refine Ev.congr (fun k => by rw [chunk_All.f]) ?_
 refine Ev.bindv (may_on hm hl) (Ev.pos rfl (Ev.pos ⟨by omega, by omega, ?_⟩ ?_))
 ·rw [show ((m : Int) - 2 + 2).toNat = m by omega, hl]
  exact Nat.mul_mod_left _ _
 ·exact all_l0 hm d L [] 0 hl hb (by rw [List.length_nil]; omega)
theorem rall_l0 {m : Nat} (hm : 3 ≤ m ∧ m ≤ 514) {L : List Int} (hb : ∀ x ∈ L, 0 ≤ x ∧ x < 256) (hs : L.length ≤ 1000000) : ∀ (d i : Nat) (out : List Int) (fx : Int), L.length = i * m + d * m → out.length + d * m ≤ 1000000 → Ev (fun k => r06_All.l0 k L ((m : Int) - 2) out fx ((i * m : Nat) : Int)) (allR m d (L.drop (i * m)) out fx) := by
 intro d
 induction d with
 | zero =>
  intro i out fx hl _
  refine Ev.step (fun k => r06_All.l0.eq_2 ..) ?_
  exact Ev.neg (by omega) (Ev.ret rfl)
 | succ d ih =>
  intro i out fx hl ho
  have h3 : L.length = i * m + (m + d * m) := by rw [hl, Nat.succ_mul]; omega
  have h5 : out.length + (m + d * m) ≤ 1000000 := by rw [Nat.succ_mul] at ho; omega
  have hn : (i + 1) * m = i * m + m := Nat.succ_mul i m
  refine Ev.step (fun k => r06_All.l0.eq_2 ..) ?_
  have e1 : wrap64 (wrap64 (((i * m : Nat) : Int) + ((m : Int) - 2)) + 2) = (((i + 1) * m : Nat) : Int) := by
   rw [hn, w64_id (x := ((i * m : Nat) : Int) + ((m : Int) - 2)) (by omega) (by omega), w64_id (by omega) (by omega)]
   omega
  rw [e1, Int.toNat_natCast, Int.toNat_natCast, hn]
  refine Ev.pos (by omega) (Ev.pos (by omega) (Ev.pos (by omega) (Ev.pos (by omega) ?_)))
  have hp : (L.take (i * m + m)).drop (i * m) = (L.drop (i * m)).take m := by rw [List.drop_take, Nat.add_sub_cancel_left]
  rw [hp]
  have hl2 : ((L.drop (i * m)).take m).length = m := by rw [List.length_take, List.length_drop]; omega
  have hd2 : L.drop ((i + 1) * m) = (L.drop (i * m)).drop m := by rw [List.drop_drop, hn]
  refine Ev.bind (rdecode_ev (bytes_take (bytes_drop hb _) m) (by omega)) ?_
  unfold allR
  have hz := decN_size (nats ((L.drop (i * m)).take m))
  rw [nats_length, hl2] at hz
  generalize decN (nats ((L.drop (i * m)).take m)) = t at hz ⊢
  refine Ev.ite (fun h => ?_) (fun h => ?_)
  ·rw [if_pos h]
   have h4 := hz h
   refine Ev.pos (by omega) ?_
   have := ih (i + 1) (out ++ t.1) (wrap64 (fx + t.2.1)) (by rw [hn]; omega) (by rw [List.length_append]; omega)
   rw [hd2, hn] at this
   exact this
  ·rw [if_neg h]
   exact Ev.ret rfl
theorem rall_on {L : List Int} {m d : Nat} (hm : 3 ≤ m ∧ m ≤ 514) (hl : L.length = d * m) (hb : ∀ x ∈ L, 0 ≤ x ∧ x < 256) (hs : L.length ≤ 1000000) : Ev (fun k => r06_All.f k L ((m : Int) - 2)) (allR m d L [] 0) := by
 refine Ev.congr (fun k => by rw [r06_All.f]) ?_
 refine Ev.neg (by omega) (Ev.neg (by omega) ?_)
 rw [w64_id (x := (m : Int) - 2 + 2) (by omega) (by omega), show (m : Int) - 2 + 2 = (m : Int) by omega]
 refine Ev.neg (by omega) ?_
 rw [hl, show ((d * m : Nat) : Int) % (m : Int) = 0 by rw [Int.natCast_mul]; exact Int.mul_emod_left _ _]
 refine Ev.step (fun k => r06_All.j0.eq_2 ..) ?_
 refine Ev.neg (by decide) ?_
 have := rall_l0 hm hb hs d 0 [] 0 (by omega) (by rw [List.length_nil]; omega)
 rw [Nat.zero_mul, List.drop_zero] at this
 exact this
end Go.Proofs.Ytmehbabchakkpaa.PureLadderClimbs
namespace Go.Proofs.Ytmehbabchakkpaa.PureLadderClimbs
open Go.RowKit QLadderClimbs YtmehbabchakkpaaW.PrintWords YtmehbabchakkpaaW.PrintLast YtmehbabchakkpaaW.PrintMore EvKit BitsKit CrcMath NatKit
theorem str_beq {a b : List Int} (ha : ∀ x ∈ a, 0 ≤ x ∧ x < 256) (hb : ∀ x ∈ b, 0 ≤ x ∧ x < 256) : ((strOfNums a).toList == (strOfNums b).toList) = decide (a = b) := by
 rw [Bool.eq_iff_iff, beq_iff_eq, decide_eq_true_eq, ByteArray.toList_eq, ByteArray.toList_eq]
 constructor
 ·intro h
  refine str_eq ha hb ?_
  have := Array.toList_inj.1 h
  cases ea : strOfNums a
  cases eb : strOfNums b
  rw [ea, eb] at this
  congr 1
 ·rintro rfl
  rfl
def ends (b : List Int) : Bool := decide (4 ≤ b.length) && decide (four (CrcMath.sum (nats (b.take (b.length - 4)))) = b.drop (b.length - 4))
theorem check_ev {b : List Int} (hb : ∀ x ∈ b, 0 ≤ x ∧ x < 256) (hn : b.length < 1000000) : Ev (fun k => crc_Check.f k b) (ends b) := by
 refine Ev.congr (fun k => by rw [crc_Check.f]) ?_
 have hw : wrap64 ((b.length : Int) - 4) = (b.length : Int) - 4 := w64_id (by omega) (by omega)
 rw [hw]
 clear hw
 refine Ev.ite (fun h => ?_) (fun h => Ev.ret ?_)
 ·refine Ev.pos (by omega) ?_
  refine Ev.pos (by omega) ?_
  rw [show ((b.length : Int) - 4).toNat = b.length - 4 from by omega]
  refine Ev.bind (sum_one (fun x hx => hb x (List.mem_of_mem_take hx)) (by rw [List.length_take]; omega)) ?_
  refine Ev.bind (bytes_ev _) (Ev.ret ?_)
  rw [str_beq (four_byte _) (fun x hx => hb x (List.mem_of_mem_drop hx))]
  unfold ends
  rw [decide_eq_true (show 4 ≤ b.length by omega), Bool.true_and]
 ·unfold ends
  rw [decide_eq_false (show ¬ 4 ≤ b.length by omega), Bool.false_and]
end Go.Proofs.Ytmehbabchakkpaa.PureLadderClimbs
namespace Go.Proofs.Ytmehbabchakkpaa.PureLadderClimbs
open Go.RowKit QLadderClimbs YtmehbabchakkpaaW.PrintWords YtmehbabchakkpaaW.PrintLast YtmehbabchakkpaaW.PrintMore EvKit PackMath
theorem wraps_u64 (n : Int) (h₀ : 0 ≤ n) (h₁ : n < 2 ^ 64) : IntKind.u64.wrap n = n := w_u64 n h₀ (by simpa using h₁)
theorem or_byte {x b : Int} (h0 : 0 ≤ x) (h : x < 256 ^ 7) (b0 : 0 ≤ b) (b1 : b < 256) : Go.bits .or .u64 (IntKind.u64.wrap (x * 256)) (IntKind.u64.wrap b) = b + 256 * x := by
 have e : (256 : Int) ^ 7 = 72057594037927936 := by decide
 rw [e] at h
 rw [wraps_u64 (x * 256) (by omega) (by omega), wraps_u64 b (by omega) (by omega), bits_join .u64 64 (by decide) wraps_u64 8 (x * 256) b (by omega) (by omega) (by omega) b0 (by omega) (by omega)]
 omega
theorem pow7 {m : Nat} (h : m ≤ 7) : (256 : Int) ^ m ≤ 256 ^ 7 := by
 have : m = 0 ∨ m = 1 ∨ m = 2 ∨ m = 3 ∨ m = 4 ∨ m = 5 ∨ m = 6 ∨ m = 7 := by omega
 rcases this with rfl | rfl | rfl | rfl | rfl | rfl | rfl | rfl <;> decide
theorem take_succ_rd {b : List Int} {d : Nat} (h : d < b.length) : b.take (d + 1) = b.take d ++ [rd b (d : Int)] := by
 rw [List.take_succ_eq_append_getElem h, rd_nat h]
theorem take_l1 {b out l : List Int} {s len i : Int} {r : List Int × Int} (hb : ∀ x ∈ b, 0 ≤ x ∧ x < 256) (hs : s ≤ 8) (hsb : s ≤ (b.length : Int)) (d : Nat) : ∀ (x : Int) (m : Nat), (d : Int) + m = s → 0 ≤ x → x < 256 ^ m →
  Ev (fun k => (if unle (b.take d) + 256 ^ d * x > 4611686018427387904 then (some (([] : List Int), 11)) else (if out.length < 17592186044416 then (if 0 ≤ s then (if s ≤ (b.length : Int) then (pack_Take.l0 k (b.drop (s : Int).toNat) (out ++ [wrap64 (unle (b.take d) + 256 ^ d * x)]) l len (wrap64 (i + 1))) else (none)) else (none)) else (none)))) r →
  Ev (fun k => pack_Take.l1 k b out s x (wrap64 ((d : Int) - 1)) l len i) r := by
 induction d with
 | zero =>
  intro x m hm h0 h1 h
  rw [show wrap64 (((0 : Nat) : Int) - 1) = -1 from by rw [w64_id (by omega) (by omega)]; omega]
  refine Ev.step (fun k => pack_Take.l1.eq_2 ..) ?_
  refine Ev.neg (by omega) ?_
  simpa [unle] using h
 | succ d ih =>
  intro x m hm h0 h1 h
  rw [show wrap64 (((d + 1 : Nat) : Int) - 1) = (d : Int) from by rw [w64_id (by omega) (by omega)]; omega]
  refine Ev.step (fun k => pack_Take.l1.eq_2 ..) ?_
  refine Ev.pos (by omega) (Ev.pos (by omega) (Ev.pos (by omega) ?_))
  have hc := hb _ (rd_mem (l := b) (i := (d : Int)) (by omega) (by omega))
  have hx : x < 256 ^ 7 := Int.lt_of_lt_of_le h1 (pow7 (by omega))
  rw [or_byte h0 hx hc.1 hc.2]
  refine ih (rd b (d : Int) + 256 * x) (m + 1) (by omega) (by omega) (by rw [Int.pow_succ]; omega) ?_
  have e : unle (b.take (d + 1)) + 256 ^ (d + 1) * x = unle (b.take d) + 256 ^ d * (rd b (d : Int) + 256 * x) := by
   rw [take_succ_rd (by omega), unle_append, List.length_take, Nat.min_eq_left (by omega), Int.pow_succ]
   simp only [unle, Int.mul_add, Int.mul_assoc, Int.mul_zero, Int.add_zero, Int.add_assoc]
  rw [e] at h
  exact h
theorem take_l0 {l : List Int} (hok : okSizes l = true) (d : Nat) : ∀ (i : Nat) (b out : List Int), i + d = l.length → (∀ x ∈ b, 0 ≤ x ∧ x < 256) → (b.length : Int) = (l.drop i).sum → out.length ≤ i →
  Ev (fun k => pack_Take.l0 k b out l (l.length : Int) (i : Int)) (endTake out (takeGo (l.drop i) b)) := by
 have hk := okSizes_iff.1 hok
 induction d with
 | zero =>
  intro i b out hi hb hsum ho
  refine Ev.step (fun k => pack_Take.l0.eq_2 ..) ?_
  refine Ev.neg (by omega) (Ev.ret ?_)
  rw [List.drop_of_length_le (by omega)]
  simp [takeGo, endTake]
 | succ d ih =>
  intro i b out hi hb hsum ho
  refine Ev.step (fun k => pack_Take.l0.eq_2 ..) ?_
  refine Ev.pos (by omega) (Ev.pos (by omega) (Ev.pos (by omega) ?_))
  have hs := hk.2 _ (rd_mem (l := l) (i := (i : Int)) (by omega) (by omega))
  have hrest := sum_nonneg (l := l.drop (i + 1)) fun x hx => hk.2 x (List.mem_of_mem_drop hx)
  rw [drop_rd (l := l) (i := i) (by omega)] at hsum ⊢
  rw [List.sum_cons] at hsum
  generalize rd l (i : Int) = s at hs hsum ⊢
  have hd : wrap64 (s - 1) = wrap64 ((s.toNat : Int) - 1) := by rw [show (s.toNat : Int) = s by omega]
  rw [hd]
  refine take_l1 hb (by omega) (by omega) s.toNat 0 0 (by omega) (by omega) (by simp) ?_
  have hn := unle_nonneg (b.take s.toNat) fun x hx => hb x (List.mem_of_mem_take hx)
  rw [Int.mul_zero, Int.add_zero]
  refine Ev.ite (fun h => Ev.ret ?_) (fun h => ?_)
  ·have h' : ¬ unle (b.take s.toNat) ≤ 4611686018427387904 := by omega
   simp [takeGo, h', endTake]
  ·refine Ev.pos (by omega) (Ev.pos (by omega) (Ev.pos (by omega) ?_))
   rw [w64_succ (by omega), w64_id (by omega) (by omega)]
   refine Ev.eq (ih (i + 1) (b.drop s.toNat) (out ++ [unle (b.take s.toNat)]) (by omega) (fun x hx => hb x (List.mem_of_mem_drop hx)) (by rw [List.length_drop]; omega) (by simp; omega)) ?_
   have h' : unle (b.take s.toNat) ≤ 4611686018427387904 := by omega
   simp only [takeGo, h', if_true]
   cases takeGo (l.drop (i + 1)) (b.drop s.toNat) <;> simp [endTake]
theorem take_ev (l b : List Int) (hb : ∀ x ∈ b, 0 ≤ x ∧ x < 256) : Ev (fun k => pack_Take.f k l b) (pkTake l b) := by
 refine Ev.congr (fun k => by rw [pack_Take.f]) ?_
 refine Ev.bind (size_ev l) ?_
 refine Ev.ite (fun h => ?_) (fun h => ?_)
 ·have hok : okSizes l = true := by
   cases e : okSizes l
   ·simp [pkSize, e] at h
   ·rfl
  have e1 : pkSize l = (l.sum, true) := by simp [pkSize, hok]
  rw [e1]
  simp only [pkTake, hok, if_true]
  refine Ev.ite (fun h1 => Ev.ret ?_) (fun h1 => Ev.ite (fun h2 => Ev.ret ?_) (fun h2 => ?_))
  ·rw [if_pos h1]
  ·rw [if_neg h1, if_pos h2]
  ·rw [if_neg h1, if_neg h2]
   exact take_l0 hok l.length 0 b [] (by omega) hb (by simp; omega) (by simp)
 ·have hok : okSizes l = false := by
   cases e : okSizes l
   ·rfl
   ·simp [pkSize, e] at h
  refine Ev.ret ?_
  simp [pkTake, hok]
end Go.Proofs.Ytmehbabchakkpaa.PureLadderClimbs
namespace Go.Proofs.Ytmehbabchakkpaa.TagMath
open Go.RowKit YtmehbabchakkpaaW.PrintWords
def ofList (l : List Int) : Int × Int × Int × Int × Int :=
 if rd l 0 = 0 ∧ rd l 5 = 0 ∧ mayTag (rd l 1) (rd l 2) (rd l 3) (rd l 4) = true then (rd l 1, rd l 2, rd l 3, rd l 4, 0) else (0, 0, 0, 0, 11)
def takeTag (b : List Int) : Int × Int × Int × Int × Int :=
 if (Go.Proofs.Ytmehbabchakkpaa.PackMath.pkTake sizes b).2 = 0 then ofList (Go.Proofs.Ytmehbabchakkpaa.PackMath.pkTake sizes b).1 else (0, 0, 0, 0, (Go.Proofs.Ytmehbabchakkpaa.PackMath.pkTake sizes b).2)
theorem six {b : List Int} (h : (Go.Proofs.Ytmehbabchakkpaa.PackMath.pkTake sizes b).2 = 0) : (Go.Proofs.Ytmehbabchakkpaa.PackMath.pkTake sizes b).1.length = 6 := by
 have e := Go.Proofs.Ytmehbabchakkpaa.PackMath.pkTake_ok (Prod.ext rfl h : Go.Proofs.Ytmehbabchakkpaa.PackMath.pkTake sizes b = ((Go.Proofs.Ytmehbabchakkpaa.PackMath.pkTake sizes b).1, 0))
 rw [Go.Proofs.Ytmehbabchakkpaa.PackMath.takeGo_length e.2.2]
 rfl
end Go.Proofs.Ytmehbabchakkpaa.TagMath
namespace Go.Proofs.Ytmehbabchakkpaa.PureLadderClimbs
open Go.RowKit QLadderClimbs YtmehbabchakkpaaW.PrintWords YtmehbabchakkpaaW.PrintLast YtmehbabchakkpaaW.PrintMore EvKit PackMath TagMath
theorem ttake_ev (b : List Int) (hb : ∀ x ∈ b, 0 ≤ x ∧ x < 256) : Ev (fun k => tag_Take.f k b) (takeTag b) := by
 have hbad : ∀ x y z v : Int, Ev (fun k => tag_Take.j0 k true x y z v) (0, 0, 0, 0, 11) := fun x y z v => Ev.step (fun _ => tag_Take.j0.eq_2 ..) (Ev.pos rfl (Ev.ret rfl))
 refine Ev.congr (fun k => by rw [tag_Take.f]) ?_
 refine Ev.bindv (a := sizes) rfl ?_
 refine Ev.bind (take_ev _ _ hb) ?_
 unfold takeTag
 refine Ev.ite (fun h => ?_) (fun h => Ev.ret ?_)
 ·rw [if_pos h]
  have h6 := six h
  generalize (pkTake sizes b).1 = l at h6 ⊢
  unfold ofList
  refine Ev.pos (by omega) ?_
  refine Ev.pos (by omega) ?_
  refine Ev.pos (by omega) ?_
  refine Ev.pos (by omega) ?_
  refine Ev.pos (by omega) ?_
  refine Ev.ite (fun h0 => ?_) (fun h0 => ?_)
  ·refine Ev.pos (by omega) ?_
   refine Ev.ite (fun h5 => ?_) (fun h5 => ?_)
   ·refine Ev.bindv (may_eq _ _ _ _) ?_
    cases hm : mayTag (rd l 1) (rd l 2) (rd l 3) (rd l 4) with
    | true =>
     rw [if_pos ⟨h0, h5, rfl⟩]
     exact Ev.step (fun _ => tag_Take.j0.eq_2 ..) (Ev.neg (by decide) (Ev.ret rfl))
    | false =>
     rw [if_neg fun h => by cases h.2.2]
     exact hbad _ _ _ _
   ·rw [if_neg fun h => h5 h.2.1]
    exact hbad _ _ _ _
  ·rw [if_neg fun h => h0 h.1]
   exact hbad _ _ _ _
 ·rw [if_neg h]
end Go.Proofs.Ytmehbabchakkpaa.PureLadderClimbs
namespace Go.Proofs.Ytmehbabchakkpaa.PureLadderClimbs
open Go.RowKit QLadderClimbs YtmehbabchakkpaaW.PrintWords YtmehbabchakkpaaW.PrintLast YtmehbabchakkpaaW.PrintMore EvKit PackMath TagMath CrcMath NatKit BitsMath ChunkMath
theorem decN_len {r : List Nat} (h : (decN r).2.2 = 0) : (decN r).1.length = r.length - 2 := by
 unfold decN at h ⊢
 split at h
 ·exact absurd h (by decide)
 ·rename_i hn
  rw [if_neg hn]
  have hl : (r.take (r.length - 2)).length = r.length - 2 := by rw [List.length_take]; omega
  unfold decOf at h ⊢
  split at h
  ·rename_i h1
   rw [if_pos h1]
   show (ints _).length = _
   rw [ints_length, hl]
  ·rename_i h1
   rw [if_neg h1]
   split at h
   ·rename_i h2
    rw [if_pos h2]
    show (ints _).length = _
    rw [ints_length, flips_length, hl]
   ·rename_i h2
    rw [if_neg h2]
    split at h
    ·rename_i h3
     rw [if_pos h3]
     show (ints _).length = _
     rw [ints_length, hl]
    ·exact absurd h (by decide)
theorem decN_byte {r : List Nat} (h : ∀ x ∈ r, x < 256) : ∀ x ∈ (decN r).1, 0 ≤ x ∧ x < 256 := by
 have ht : ∀ x ∈ r.take (r.length - 2), x < 256 := fun x hx => h x (List.mem_of_mem_take hx)
 have hnil : ∀ x ∈ ([] : List Int), 0 ≤ x ∧ x < 256 := fun x hx => by cases hx
 unfold decN
 split
 ·exact hnil
 ·unfold decOf
  split
  ·exact ints_byte ht
  ·split
   ·exact ints_byte (flips_lt _ ht)
   ·split
    ·exact ints_byte ht
    ·exact hnil
theorem allR_byte {m : Nat} : ∀ (d : Nat) (L out : List Int) (fx : Int), (∀ x ∈ L, 0 ≤ x ∧ x < 256) → (∀ x ∈ out, 0 ≤ x ∧ x < 256) → ∀ x ∈ (allR m d L out fx).1, 0 ≤ x ∧ x < 256 := by
 intro d
 induction d with
 | zero => intro L out fx _ ho; exact ho
 | succ d ih =>
  intro L out fx hL ho
  unfold allR
  split
  ·exact ih _ _ _ (bytes_drop hL m) (app_byte ho (decN_byte (nats_lt (bytes_take hL m))))
  ·intro x hx
   cases hx
def decB (S C : Nat) (ch lab : List Int) : List Int × Int × Int × Int × Int × Int × Int :=
 if ((8 * lab.length - count (nats lab) : Nat) : Int) ≤ 20 then ([], 0, 0, 0, 0, 2, 0) else
 if (allR (S + 2) C ch [] 0).2.2 = 0 then
  if (decN (nats lab)).2.2 = 0 then
   if ends ((allR (S + 2) C ch [] 0).1 ++ (decN (nats lab)).1) = true then
    if (takeTag ((decN (nats lab)).1.take 24)).2.2.2.2 = 0 then ((allR (S + 2) C ch [] 0).1, (takeTag ((decN (nats lab)).1.take 24)).1, (takeTag ((decN (nats lab)).1.take 24)).2.1, (takeTag ((decN (nats lab)).1.take 24)).2.2.1, (takeTag ((decN (nats lab)).1.take 24)).2.2.2.1, if wrap64 ((allR (S + 2) C ch [] 0).2.1 + (decN (nats lab)).2.1) > 0 then 1 else 0, 0)
    else ([], 0, 0, 0, 0, 0, (takeTag ((decN (nats lab)).1.take 24)).2.2.2.2)
   else ([], 0, 0, 0, 0, 0, 12)
  else ([], 0, 0, 0, 0, 0, (decN (nats lab)).2.2)
 else ([], 0, 0, 0, 0, 0, (allR (S + 2) C ch [] 0).2.2)
def decP (raw : List Int) (a0 a1 a2 a3 a4 a5 a6 : Int) : List Int × Int × Int × Int × Int × Int × Int :=
 if okG a0 a1 a2 a3 a4 a5 a6 ∧ (raw.length : Int) = a3 * (a4 + 2) + 31 then decB a4.toNat a3.toNat (raw.take (raw.length - 31)) ((raw.take (raw.length - 1)).drop (raw.length - 31)) else ([], 0, 0, 0, 0, 0, 2)
theorem label_eq {a0 a1 a2 a3 a4 a5 a6 : Int} {n : Nat} {raw : List Int} (hn : n ≤ 100000) (h : n + 30 ≤ raw.length) : page_shape_label.f a0 a1 a2 a3 a4 a5 a6 (n : Int) raw = some ((raw.take (n + 30)).drop n) := by
 have e : wrap64 (wrap64 ((n : Int) + 28) + 2) = ((n + 30 : Nat) : Int) := by
  rw [w64_id (x := (n : Int) + 28) (by omega) (by omega), w64_id (by omega) (by omega)]
  omega
 unfold page_shape_label.f
 rw [e, Int.toNat_natCast, Int.toNat_natCast, if_pos (by omega), if_pos (by omega), if_pos (by omega)]
theorem chunks_eq {a0 a1 a2 a3 a4 a5 a6 : Int} {n : Nat} {raw : List Int} (h : n ≤ raw.length) : page_shape_chunks.f a0 a1 a2 a3 a4 a5 a6 (n : Int) raw = some (raw.take n) := by
 unfold page_shape_chunks.f
 rw [Int.toNat_natCast, if_pos (by omega), if_pos (by omega)]
theorem size_eq {a0 a1 a2 a3 a4 a5 a6 a7 : Int} (h : okG a0 a1 a2 a3 a4 a5 a6) : page_shape_size.f a0 a1 a2 a3 a4 a5 a6 a7 = some (a3 * (a4 + 2) + 31) := by
 unfold page_shape_size.f
 rw [raw_eq, if_pos h]
 rfl
theorem decB_ev {raw : List Int} (hb : ∀ x ∈ raw, 0 ≤ x ∧ x < 256) {S C : Nat} {q0 q1 q2 q5 q6 : Int} (hS0 : 4 ≤ S) (hS : S ≤ 512) (hC : C ≤ 16) (hl : raw.length = C * (S + 2) + 31) :
  Ev (fun k => page_Decode.j1 k raw 0 q0 q1 q2 (C : Int) (S : Int) q5 q6 ((C * (S + 2) : Nat) : Int)) (decB S C (raw.take (C * (S + 2))) ((raw.take (C * (S + 2) + 30)).drop (C * (S + 2)))) := by
 have hn : C * (S + 2) ≤ 10000 := Nat.le_trans (Nat.mul_le_mul hC (show S + 2 ≤ 514 by omega)) (by decide)
 have hcl : (raw.take (C * (S + 2))).length = C * (S + 2) := by rw [List.length_take]; omega
 have hll : ((raw.take (C * (S + 2) + 30)).drop (C * (S + 2))).length = 30 := by rw [List.length_drop, List.length_take]; omega
 have hcb := bytes_take hb (C * (S + 2))
 have hlb := bytes_drop (bytes_take hb (C * (S + 2) + 30)) (C * (S + 2))
 have hlab := label_eq (a0 := q0) (a1 := q1) (a2 := q2) (a3 := (C : Int)) (a4 := (S : Int)) (a5 := q5) (a6 := q6) (n := C * (S + 2)) (raw := raw) (by omega) (by omega)
 have ech := chunks_eq (a0 := q0) (a1 := q1) (a2 := q2) (a3 := (C : Int)) (a4 := (S : Int)) (a5 := q5) (a6 := q6) (n := C * (S + 2)) (raw := raw) (by omega)
 generalize (raw.take (C * (S + 2) + 30)).drop (C * (S + 2)) = lab at hll hlb hlab ⊢
 generalize raw.take (C * (S + 2)) = ch at hcl hcb ech ⊢
 have hz := zeros_ev hlb (by omega)
 have ha := all_on (L := ch) (m := S + 2) (d := C) ⟨by omega, by omega⟩ hcl hcb (by omega)
 rw [show ((S + 2 : Nat) : Int) - 2 = (S : Int) by omega] at ha
 have hal := allR_short (S + 2) C ch [] 0 hcl
 have hab := allR_byte (m := S + 2) C ch [] 0 hcb (fun x hx => by cases hx)
 have hd := decode_ev hlb (by omega)
 have hdl := decN_len (r := nats lab)
 have hdb := decN_byte (nats_lt hlb)
 rw [nats_length, hll] at hdl
 rw [List.length_nil, hcl] at hal
 refine Ev.step (fun k => page_Decode.j1.eq_2 ..) ?_
 refine Ev.bindv hlab (Ev.bind hz ?_)
 unfold decB
 refine Ev.ite (fun h => ?_) (fun h => ?_)
 ·rw [if_pos h]
  exact Ev.ret rfl
 rw [if_neg h]
 clear h hz
 refine Ev.step (fun k => page_Decode.j2.eq_2 ..) ?_
 refine Ev.bindv ech (Ev.bind ha ?_)
 clear ha ech
 generalize allR (S + 2) C ch [] 0 = A at hal hab ⊢
 refine Ev.ite (fun h => ?_) (fun h => ?_)
 ·rw [if_pos h]
  refine Ev.step (fun k => page_Decode.j3.eq_2 ..) ?_
  refine Ev.bindv hlab (Ev.bind hd ?_)
  clear hd hlab
  generalize decN (nats lab) = D at hdl hdb ⊢
  refine Ev.ite (fun h2 => ?_) (fun h2 => ?_)
  ·rw [if_pos h2]
   have hdl2 := hdl h2
   have hcheck := check_ev (b := A.1 ++ D.1) (app_byte hab hdb) (by rw [List.length_append]; omega)
   have htake := ttake_ev (D.1.take 24) (bytes_take hdb 24)
   refine Ev.step (fun k => page_Decode.j4.eq_2 ..) ?_
   refine Ev.bindv rfl (Ev.pos (by rw [List.length_nil]; omega) (Ev.bindv rfl ?_))
   rw [List.nil_append]
   refine Ev.pos (by omega) (Ev.bind hcheck ?_)
   refine Ev.ite (fun h3 => ?_) (fun h3 => ?_)
   ·rw [if_pos h3]
    refine Ev.step (fun k => page_Decode.j5.eq_2 ..) ?_
    refine Ev.pos (by omega) (Ev.bind htake ?_)
    generalize takeTag (D.1.take 24) = t
    refine Ev.ite (fun h4 => ?_) (fun h4 => ?_)
    ·rw [if_pos h4]
     refine Ev.ite (fun h5 => ?_) (fun h5 => ?_)
     ·rw [if_pos h5]
      exact Ev.ret rfl
     ·rw [if_neg h5]
      exact Ev.ret rfl
    ·rw [if_neg h4]
     exact Ev.ret rfl
   ·rw [if_neg h3]
    exact Ev.ret rfl
  ·rw [if_neg h2]
   exact Ev.ret rfl
 ·rw [if_neg h]
  exact Ev.ret rfl
theorem pdec_ev {raw : List Int} (hb : ∀ x ∈ raw, 0 ≤ x ∧ x < 256) (a0 a1 a2 a3 a4 a5 a6 : Int) : Ev (fun k => page_Decode.f k a0 a1 a2 a3 a4 a5 a6 raw) (decP raw a0 a1 a2 a3 a4 a5 a6) := by
 refine Ev.congr (fun k => by rw [page_Decode.f]) ?_
 refine Ev.bindv of_eq ?_
 dsimp only
 have hbad : ∀ (q0 q1 q2 q3 q4 q5 q6 q7 : Int), ¬ (okG a0 a1 a2 a3 a4 a5 a6 ∧ (raw.length : Int) = a3 * (a4 + 2) + 31) → Ev (fun k => page_Decode.j0 k raw 0 true q0 q1 q2 q3 q4 q5 q6 q7) (decP raw a0 a1 a2 a3 a4 a5 a6) := fun q0 q1 q2 q3 q4 q5 q6 q7 h => by
  refine Ev.step (fun k => page_Decode.j0.eq_2 ..) (Ev.pos rfl (Ev.ret ?_))
  unfold decP
  rw [if_neg h]
 by_cases hg : okG a0 a1 a2 a3 a4 a5 a6
 ·refine Ev.pos (decide_eq_true hg) (Ev.bindv (size_eq hg) ?_)
  by_cases hl : (raw.length : Int) = a3 * (a4 + 2) + 31
  ·have e : ((raw.length : Int) != a3 * (a4 + 2) + 31) = false := bne_eq_false_iff_eq.2 hl
   rw [e]
   refine Ev.step (fun k => page_Decode.j0.eq_2 ..) (Ev.neg (by decide) ?_)
   unfold decP
   rw [if_pos ⟨hg, hl⟩]
   obtain ⟨h3, h4⟩ := okG_bounds hg
   have hm := mul_bound h3 (y := a4 + 2) ⟨by omega, by omega⟩
   rw [w64_id (x := a4 + 2) (by omega) (by omega), w64_id (x := a3 * (a4 + 2)) (by omega) (by omega)]
   obtain ⟨C, rfl⟩ := Int.eq_ofNat_of_zero_le (a := a3) (by omega)
   obtain ⟨S, rfl⟩ := Int.eq_ofNat_of_zero_le (a := a4) (by omega)
   have en : (C : Int) * ((S : Int) + 2) = ((C * (S + 2) : Nat) : Int) := by rw [Int.natCast_mul, Int.natCast_add]; rfl
   rw [en] at hl ⊢
   have hl2 : raw.length = C * (S + 2) + 31 := by omega
   rw [Int.toNat_natCast, Int.toNat_natCast, show raw.length - 31 = C * (S + 2) by omega, show raw.length - 1 = C * (S + 2) + 30 by omega]
   exact decB_ev hb (by omega) (by omega) (by omega) hl2
  ·have e : ((raw.length : Int) != a3 * (a4 + 2) + 31) = true := bne_iff_ne.2 hl
   rw [e]
   exact hbad _ _ _ _ _ _ _ _ (fun z => hl z.2)
 ·rw [decide_eq_false hg]
  exact Ev.neg (by decide) (hbad _ _ _ _ _ _ _ _ (fun z => hg z.1))
end Go.Proofs.Ytmehbabchakkpaa.PureLadderClimbs
namespace Go.Proofs.Ytmehbabchakkpaa.PureLadderClimbs
open Go.RowKit QLadderClimbs YtmehbabchakkpaaW.PrintWords YtmehbabchakkpaaW.PrintLast YtmehbabchakkpaaW.PrintMore EvKit PackMath TagMath CrcMath NatKit BitsMath ChunkMath
abbrev R8 := List Int × Int × Int × Int × Int × Int × Int × Int
def badR (e : Int) : R8 := ([], 0, 0, 0, 0, 0, 0, e)
def walkN (dec : List Int → List Int × Int × Int × Int × Int × Int × Int) : List (List Int) → Int → R8
 | [], _ => badR 30
 | l :: ls, i => if (dec l).2.2.2.2.2.2 = 0 then ((dec l).1, (dec l).2.1, (dec l).2.2.1, (dec l).2.2.2.1, (dec l).2.2.2.2.1, (dec l).2.2.2.2.2.1, i, 0) else if (dec l).2.2.2.2.2.2 = 2 then badR 2 else walkN dec ls (i + 1)
theorem walk_ev {ls : List (List Int)} {a0 a1 a2 a3 a4 a5 a6 : Int} (hb : ∀ l ∈ ls, ∀ x ∈ l, 0 ≤ x ∧ x < 256) (hn : (ls.length : Int) ≤ a5) (hs : ls.length ≤ 1000000) : ∀ (d i : Nat), i + d = ls.length → Ev (fun k => ladder_Climb.w0 k a0 a1 a2 a3 a4 a5 a6 ls (i : Int)) (walkN (fun l => decP l a0 a1 a2 a3 a4 a5 a6) (ls.drop i) (i : Int)) := by
 intro d
 induction d with
 | zero =>
  intro i hi
  refine Ev.step (fun k => ladder_Climb.w0.eq_2 ..) ?_
  rw [List.drop_eq_nil_of_le (by omega)]
  exact Ev.ite (fun _ => Ev.neg (by omega) (Ev.ret rfl)) (fun _ => Ev.ret rfl)
 | succ d ih =>
  intro i hi
  have hlt : i < ls.length := by omega
  have hg : ls.getD i [] = ls[i] := by simp [hlt]
  refine Ev.step (fun k => ladder_Climb.w0.eq_2 ..) ?_
  rw [Int.toNat_natCast, hg, w64_succ (by omega), List.drop_eq_getElem_cons hlt]
  refine Ev.pos (by omega) (Ev.pos (by omega) (Ev.bind (pdec_ev (hb _ (List.getElem_mem hlt)) a0 a1 a2 a3 a4 a5 a6) ?_))
  have ih2 := ih (i + 1) (by omega)
  unfold walkN
  refine Ev.ite (fun h => ?_) (fun h => ?_)
  ·rw [if_pos h]
   exact Ev.ret rfl
  ·rw [if_neg h]
   refine Ev.ite (fun h2 => ?_) (fun h2 => ?_)
   ·rw [if_pos h2]
    exact Ev.ret rfl
   ·rw [if_neg h2]
    exact ih2
def climbP (ls : List (List Int)) (a0 a1 a2 a3 a4 a5 a6 : Int) : R8 :=
 if okG a0 a1 a2 a3 a4 a5 a6 ∧ ls.length ≠ 0 ∧ (ls.length : Int) ≤ a5 ∧ (ls.all fun l => decide ((l.length : Int) = a3 * (a4 + 2) + 31)) = true then walkN (fun l => decP l a0 a1 a2 a3 a4 a5 a6) ls 0 else badR 2
theorem climb_ev {ls : List (List Int)} (hb : ∀ l ∈ ls, ∀ x ∈ l, 0 ≤ x ∧ x < 256) (hs : ls.length ≤ 1000000) (a0 a1 a2 a3 a4 a5 a6 : Int) : Ev (fun k => ladder_Climb.f k a0 a1 a2 a3 a4 a5 a6 ls) (climbP ls a0 a1 a2 a3 a4 a5 a6) := by
 refine Ev.congr (fun k => by rw [ladder_Climb.f]) ?_
 refine Ev.bindv check_eq ?_
 unfold climbP
 by_cases hg : okG a0 a1 a2 a3 a4 a5 a6
 ·rw [if_pos hg]
  refine Ev.pos rfl (Ev.ite (fun h => ?_) (fun h => Ev.ite (fun h2 => ?_) (fun h2 => ?_)))
  ·rw [if_neg (fun z => z.2.1 h)]
   exact Ev.ret rfl
  ·rw [if_neg (fun z => by have := z.2.2.1; omega)]
   exact Ev.ret rfl
  ·refine Ev.bindv raw_eq ?_
   rw [if_pos hg]
   refine Ev.ite (fun h3 => ?_) (fun h3 => ?_)
   ·rw [if_pos ⟨hg, h, by omega, h3⟩]
    exact walk_ev hb (by omega) hs ls.length 0 (by omega)
   ·rw [if_neg (fun z => h3 z.2.2.2)]
    exact Ev.ret rfl
 ·rw [if_neg hg, if_neg (fun z => hg z.1)]
  exact Ev.neg (by decide) (Ev.ret rfl)
theorem small_some (a0 a1 a2 a3 a4 a5 a6 : Int) : ∃ b, l08_Small.f a0 a1 a2 a3 a4 a5 a6 = some b := by
 unfold l08_Small.f
 split
 ·split
  ·split
   ·exact ⟨_, rfl⟩
   ·exact ⟨_, rfl⟩
  ·exact ⟨_, rfl⟩
 ·exact ⟨_, rfl⟩
theorem few_l0 {ls : List (List Int)} (hs : ls.length ≤ 9000000000000) (a0 a1 a2 a3 a4 a5 a6 : Int) : ∀ (d i : Nat), i + d = ls.length → ∃ b, (b = true → ls.length ≤ 12) ∧ Ev (fun k => l09_few.l0 k ls ls (ls.length : Int) (i : Int) a0 a1 a2 a3 a4 a5 a6) b := by
 intro d
 induction d with
 | zero =>
  intro i hi
  obtain ⟨b, hb⟩ := small_some a0 a1 a2 a3 a4 a5 a6
  cases b with
  | true =>
   refine ⟨decide ((ls.length : Int) ≤ 12), fun h => (by have := of_decide_eq_true h; omega), ?_⟩
   refine Ev.step (fun k => l09_few.l0.eq_2 ..) ?_
   exact Ev.neg (by omega) (Ev.bindv hb (Ev.pos rfl (Ev.ret rfl)))
  | false =>
   refine ⟨false, fun h => (by cases h), ?_⟩
   refine Ev.step (fun k => l09_few.l0.eq_2 ..) ?_
   exact Ev.neg (by omega) (Ev.bindv hb (Ev.neg (by decide) (Ev.ret rfl)))
 | succ d ih =>
  intro i hi
  obtain ⟨b, h1, h2⟩ := ih (i + 1) (by omega)
  by_cases h : ((rd_L3 ls (i : Int)).length : Int) > 400
  ·refine ⟨false, fun h => (by cases h), ?_⟩
   refine Ev.step (fun k => l09_few.l0.eq_2 ..) ?_
   exact Ev.pos (by omega) (Ev.pos (by omega) (Ev.pos (by omega) (Ev.pos h (Ev.ret rfl))))
  ·refine ⟨b, h1, ?_⟩
   refine Ev.step (fun k => l09_few.l0.eq_2 ..) ?_
   refine Ev.pos (by omega) (Ev.pos (by omega) (Ev.pos (by omega) (Ev.neg h ?_)))
   rw [w64_succ (by omega)]
   exact h2
theorem few_ev {ls : List (List Int)} (hs : ls.length ≤ 9000000000000) (a0 a1 a2 a3 a4 a5 a6 : Int) : ∃ b, (b = true → ls.length ≤ 12) ∧ Ev (fun k => l09_few.f k a0 a1 a2 a3 a4 a5 a6 ls) b := by
 obtain ⟨b, h1, h2⟩ := few_l0 hs a0 a1 a2 a3 a4 a5 a6 ls.length 0 (by omega)
 refine ⟨b, h1, ?_⟩
 refine Ev.congr (fun k => by rw [l09_few.f]) ?_
 exact h2
theorem psame_ev {l : List Int} {t1 t2 t3 t4 s : Int} (h : l.length < 1000000000) : Ev (fun k => l09_Same.f k l t1 t2 t3 t4 s l t1 t2 t3 t4 s) true := by
 refine Ev.congr (fun k => by rw [l09_Same.f]) ?_
 have hs := same_ev l l h
 rw [decide_eq_true rfl] at hs
 exact Ev.bind hs (Ev.pos rfl (Ev.pos (by simp) (Ev.ret (by simp))))
theorem decP_short (raw : List Int) (a0 a1 a2 a3 a4 a5 a6 : Int) : (decP raw a0 a1 a2 a3 a4 a5 a6).1.length < 1000000000 := by
 unfold decP
 split
 ·rename_i hg
  obtain ⟨h3, h4⟩ := okG_bounds hg.1
  have hm := mul_bound h3 (y := a4 + 2) ⟨by omega, by omega⟩
  have hl := hg.2
  obtain ⟨C, rfl⟩ := Int.eq_ofNat_of_zero_le (a := a3) (by omega)
  obtain ⟨S, rfl⟩ := Int.eq_ofNat_of_zero_le (a := a4) (by omega)
  have en : (C : Int) * ((S : Int) + 2) = ((C * (S + 2) : Nat) : Int) := by rw [Int.natCast_mul, Int.natCast_add]; rfl
  rw [en] at hl
  rw [Int.toNat_natCast, Int.toNat_natCast, show raw.length - 31 = C * (S + 2) by omega]
  have hcl : (raw.take (C * (S + 2))).length = C * (S + 2) := by rw [List.length_take]; omega
  have hal := allR_short (S + 2) C _ [] 0 hcl
  rw [List.length_nil, hcl] at hal
  unfold decB
  repeat' split
  all_goals first | exact Nat.zero_lt_succ _ | (show (allR (S + 2) C _ [] 0).1.length < _; omega)
 ·exact Nat.zero_lt_succ _
theorem walk_short (dec : List Int → List Int × Int × Int × Int × Int × Int × Int) (hd : ∀ l, (dec l).1.length < 1000000000) : ∀ (ls : List (List Int)) (i : Int), (walkN dec ls i).1.length < 1000000000
 | [], _ => Nat.zero_lt_succ _
 | l :: ls, i => by
  unfold walkN
  split
  ·exact hd l
  ·split
   ·exact Nat.zero_lt_succ _
   ·exact walk_short dec hd ls (i + 1)
theorem climb_short (ls : List (List Int)) (a0 a1 a2 a3 a4 a5 a6 : Int) : (climbP ls a0 a1 a2 a3 a4 a5 a6).1.length < 1000000000 := by
 unfold climbP
 split
 ·exact walk_short _ (fun l => decP_short l a0 a1 a2 a3 a4 a5 a6) ls 0
 ·exact Nat.zero_lt_succ _
theorem ladder_awake_ev : Ev (fun k => l09_awake.f k) true := by
 refine Ev.congr (fun k => by rw [l09_awake.f]) ?_
 refine Ev.bindv rfl (Ev.bindv rfl ?_)
 dsimp only
 have hr : rawN 1 2 4 1 4 2 1 = 37 := by decide
 have he := erased_ev 1 2 4 1 4 2 1
 rw [hr] at he
 refine Ev.bind he ?_
 refine Ev.bind (climb_ev (ls := [List.replicate 37 255]) (fun l hl x hx => by
  rw [List.mem_singleton.1 hl] at hx
  obtain rfl := (List.mem_replicate.1 hx).2
  exact ⟨by decide, by decide⟩) (by decide) 1 2 4 1 4 2 1) ?_
 have hg : okG 1 2 4 1 4 2 1 := by decide
 have hd : decP (List.replicate 37 255) 1 2 4 1 4 2 1 = ([], 0, 0, 0, 0, 2, 0) := by
  unfold decP
  rw [if_pos ⟨hg, by decide⟩]
  unfold decB
  rw [if_pos (by decide +kernel)]
 have e : climbP [List.replicate 37 255] 1 2 4 1 4 2 1 = ([], 0, 0, 0, 0, 2, 0, 0) := by
  unfold climbP
  rw [if_pos ⟨hg, by decide, by decide, by decide⟩]
  unfold walkN
  rw [hd]
  rfl
 rw [e]
 exact Ev.pos rfl (Ev.pos rfl (Ev.ret rfl))
end Go.Proofs.Ytmehbabchakkpaa.PureLadderClimbs
namespace Go.Proofs.Ytmehbabchakkpaa.PureLadderClimbs
open Go.RowKit QLadderClimbs YtmehbabchakkpaaW.PrintWords YtmehbabchakkpaaW.PrintLast YtmehbabchakkpaaW.PrintMore EvKit PackMath
theorem rsize_l0 (l : List Int) (hl : l.length ≤ 1000000) (d : Nat) : ∀ (i : Nat) (n : Int), i + d = l.length → i ≤ 64 → 0 ≤ n → n ≤ 8 * i →
  Ev (fun k => r03_Size.l0 k l n (i : Int)) (if (decide (l.length ≤ 64) && (l.drop i).all (fun s => decide (1 ≤ s) && decide (s ≤ 8))) then (n + (l.drop i).sum, true) else (0, false)) := by
 induction d with
 | zero =>
  intro i n hi h64 h0 h1
  refine Ev.step (fun k => r03_Size.l0.eq_2 ..) ?_
  refine Ev.neg (by omega) (Ev.ret ?_)
  rw [List.drop_of_length_le (by omega)]
  have : l.length ≤ 64 := by omega
  simp [this]
 | succ d ih =>
  intro i n hi h64 h0 h1
  refine Ev.step (fun k => r03_Size.l0.eq_2 ..) ?_
  refine Ev.pos (by omega) (Ev.ite (fun h => Ev.ret ?_) (fun h => Ev.pos (by omega) ?_))
  ·have : ¬ l.length ≤ 64 := by omega
   simp [this]
  rw [drop_rd (l := l) (i := i) (by omega)]
  generalize rd l (i : Int) = s
  refine Ev.ite (fun h => Ev.ret ?_) (fun h => Ev.ite (fun h' => Ev.ret ?_) (fun h' => ?_))
  ·have : ¬ 1 ≤ s := by omega
   simp [this]
  ·have : ¬ s ≤ 8 := by omega
   simp [this]
  ·rw [w64_succ (by omega), w64_id (by omega) (by omega)]
   refine Ev.eq (ih (i + 1) (n + s) (by omega) (by omega) (by omega) (by omega)) ?_
   have e1 : 1 ≤ s := by omega
   have e2 : s ≤ 8 := by omega
   simp only [List.all_cons, List.sum_cons, e1, e2, decide_true, Bool.true_and, Int.add_assoc]
theorem rsize_ev (l : List Int) (hl : l.length ≤ 1000000) : Ev (fun k => r03_Size.f k l) (pkSize l) := by
 refine Ev.congr (fun k => by rw [r03_Size.f]) ?_
 refine Ev.eq (rsize_l0 l hl l.length 0 0 (by omega) (by omega) (by omega) (by omega)) ?_
 simp [pkSize, okSizes]
end Go.Proofs.Ytmehbabchakkpaa.PureLadderClimbs
namespace Go.Proofs.Ytmehbabchakkpaa.PureLadderClimbs
open Go.RowKit QLadderClimbs YtmehbabchakkpaaW.PrintWords YtmehbabchakkpaaW.PrintLast YtmehbabchakkpaaW.PrintMore EvKit PackMath
end Go.Proofs.Ytmehbabchakkpaa.PureLadderClimbs
namespace Go.Proofs.Ytmehbabchakkpaa.PureLadderClimbs
open Go.RowKit QLadderClimbs YtmehbabchakkpaaW.PrintWords YtmehbabchakkpaaW.PrintLast YtmehbabchakkpaaW.PrintMore EvKit PackMath
theorem rpow7 {m : Nat} (h : m ≤ 7) : (256 : Int) ^ m ≤ 72057594037927936 := by
 have : m = 0 ∨ m = 1 ∨ m = 2 ∨ m = 3 ∨ m = 4 ∨ m = 5 ∨ m = 6 ∨ m = 7 := by omega
 rcases this with rfl | rfl | rfl | rfl | rfl | rfl | rfl | rfl <;> decide
theorem rpow_next {j : Nat} (h : j ≤ 7) (h7 : j ≠ 7) : (256 : Int) ^ j * 256 ≤ 72057594037927936 := by
 have := rpow7 (m := j + 1) (by omega)
 rwa [Int.pow_succ] at this
theorem rtake_succ {b : List Int} {d : Nat} (h : d < b.length) : b.take (d + 1) = b.take d ++ [rd b (d : Int)] := by
 rw [List.take_succ_eq_append_getElem h, rd_nat h]
theorem rd_drop {b : List Int} {a j : Nat} (h : a + j < b.length) : rd (b.drop a) (j : Int) = rd b ((a + j : Nat) : Int) := by
 rw [rd_nat h, rd_nat (by rw [List.length_drop]; omega), List.getElem_drop]
theorem rtake_l1 {l b out : List Int} {s : Int} {i a m : Nat} {r : List Int × Int} (U : Nat → Int) (hU0 : ∀ j, j ≤ m → 0 ≤ U j ∧ U j < 256 ^ j) (hU : ∀ j, j < m → U (j + 1) = U j + 256 ^ j * rd b ((a + j : Nat) : Int))
  (hb : ∀ x ∈ b, 0 ≤ x ∧ x < 256) (hi : i < l.length) (hs : rd l (i : Int) = s) (hm : s = m) (h8 : m ≤ 8) (hab : a + m ≤ b.length) (hbl : b.length < 1000000) (ho : out.length < 17592186044416)
  (hgo : U m ≤ 4611686018427387904 → Ev (fun k => r03_Take.l0 k l b (out ++ [U m]) (wrap64 ((a : Int) + s)) (wrap64 ((i : Int) + 1))) r)
  (hno : 4611686018427387904 < U m → r = ([], 11)) (d : Nat) :
  ∀ (j : Nat) (n sc : Int), j + d = m → (j ≤ 7 → sc = 256 ^ j) → n = U j → n ≤ 4611686018427387904 →
  Ev (fun k => r03_Take.l1 k l b out (a : Int) (i : Int) n sc (j : Int)) r := by
 have i0 : (0 : Int) ≤ (i : Int) := Int.natCast_nonneg _
 have i1 : (i : Int) < (l.length : Int) := by exact_mod_cast hi
 induction d with
 | zero =>
  intro j n sc hj hsc hnv hn
  have e : j = m := hj
  have g : ¬ (j : Int) < rd l (i : Int) := by rw [hs, hm, e]; exact Int.lt_irrefl _
  refine Ev.step (fun k => r03_Take.l1.eq_2 ..) ?_
  refine Ev.pos i0 ?_
  refine Ev.pos i1 ?_
  refine Ev.neg g ?_
  refine Ev.pos ho ?_
  subst e
  subst hnv
  rw [hs]
  exact hgo hn
 | succ d ih =>
  intro j n sc hj hsc hnv hn
  have hjm : j < m := by clear hgo hno hU hU0 ih; omega
  have hj7 : j ≤ 7 := by clear hgo hno hU hU0 ih; omega
  have hjl : a + j < b.length := by clear hgo hno hU hU0 ih; omega
  have hsc := hsc hj7
  subst hsc
  have g : (j : Int) < rd l (i : Int) := by rw [hs, hm]; exact_mod_cast hjm
  have q0 : (0 : Int) ≤ ((a + j : Nat) : Int) := Int.natCast_nonneg _
  have q1 : ((a + j : Nat) : Int) < (b.length : Int) := by exact_mod_cast hjl
  have hw : wrap64 ((a : Int) + (j : Int)) = ((a + j : Nat) : Int) := by
   rw [← Int.natCast_add]
   exact w64_id (by clear hgo hno hU hU0 ih; omega) (by clear hgo hno hU hU0 ih; omega)
  have hw1 : wrap64 ((j : Int) + 1) = ((j + 1 : Nat) : Int) := w64_succ (by clear hgo hno hU hU0 ih; omega)
  have hc := hb _ (rd_mem q0 q1)
  have hsucc := hU j hjm
  have hn0 := hU0 j (Nat.le_of_lt hjm)
  have hn2 := ih (j + 1) (n + 256 ^ j * rd b ((a + j : Nat) : Int))
  have hp := rpow7 hj7
  have hp0 : 0 < (256 : Int) ^ j := Int.pow_pos (by decide)
  have hp1 : j ≠ 7 → (256 : Int) ^ j * 256 ≤ 72057594037927936 := rpow_next hj7
  have hp7 : j = 7 → (256 : Int) ^ j = 72057594037927936 := by rintro rfl; decide
  have hps : ∀ x : Int, x = 256 ^ j * 256 → x = 256 ^ (j + 1) := by rintro x rfl; exact (Int.pow_succ 256 j).symm
  rw [← hnv] at hn0 hsucc
  clear hgo hU hU0 ih hnv
  refine Ev.step (fun k => r03_Take.l1.eq_2 ..) ?_
  refine Ev.pos i0 ?_
  refine Ev.pos i1 ?_
  refine Ev.pos g ?_
  rw [hw, hw1]
  refine Ev.pos q0 ?_
  refine Ev.pos q1 ?_
  clear hw hw1 g
  generalize rd b ((a + j : Nat) : Int) = c at hc hsucc hn2 ⊢
  have hc1 : wrap64 c = c := w64_id (Int.le_trans (by decide) hc.1) (Int.le_trans (Int.le_of_lt hc.2) (by decide))
  rw [hc1, Int.mul_comm c]
  clear hc1
  generalize (256 : Int) ^ j = p at hn0 hsucc hn2 hp hp0 hp1 hp7 hps ⊢
  have hm0 : 0 ≤ p * c := Int.mul_nonneg (Int.le_of_lt hp0) hc.1
  have hm1 : p * c ≤ p * 256 := Int.mul_le_mul_of_nonneg_left (Int.le_of_lt hc.2) (Int.le_of_lt hp0)
  have next : n + p * c ≤ 4611686018427387904 → Ev (fun k => r03_Take.l1 k l b out (a : Int) (i : Int) (wrap64 (n + wrap64 (p * c))) (wrap64 (p * 256)) ((j + 1 : Nat) : Int)) r := by
   intro hle
   have f1 : wrap64 (p * c) = p * c := w64_id (Int.le_trans (by decide) hm0) (by omega)
   have f2 : wrap64 (n + p * c) = n + p * c := w64_id (by omega) (by omega)
   rw [f1, f2]
   clear f1 f2
   refine hn2 _ (by omega) (fun h7 => hps _ (w64_id (by omega) ?_)) hsucc.symm hle
   have := hp1 (by omega)
   omega
  by_cases h7 : j = 7
  ·have e7 := hp7 h7
   subst e7
   subst h7
   have hm8 : m = 8 := by omega
   subst hm8
   have hbad : 4611686018427387904 < n + 72057594037927936 * c → ([], 11) = r := by
    intro h
    refine (hno ?_).symm
    rw [hsucc]
    exact h
   clear hno hn2 hsucc hps hp1
   exact Ev.pos rfl (Ev.ite (fun h => Ev.ret (hbad (by omega))) (fun h => Ev.ite (fun h' => Ev.ite (fun h'' => Ev.ret (hbad (by omega))) (fun h'' => next (by omega))) (fun h' => next (by omega))))
  ·have h6 := hp1 h7
   have h7' : ¬ (j : Int) = 7 := by omega
   exact Ev.neg h7' (next (by omega))
theorem rtake_l0 {l b : List Int} (hok : okSizes l = true) (hb : ∀ x ∈ b, 0 ≤ x ∧ x < 256) (hbl : b.length < 1000000) (d : Nat) : ∀ (i a : Nat) (out : List Int), i + d = l.length → a ≤ b.length → (b.length : Int) = a + (l.drop i).sum → out.length ≤ i →
  Ev (fun k => r03_Take.l0 k l b out (a : Int) (i : Int)) (endTake out (takeGo (l.drop i) (b.drop a))) := by
 have hk := okSizes_iff.1 hok
 induction d with
 | zero =>
  intro i a out hi ha hsum ho
  refine Ev.step (fun k => r03_Take.l0.eq_2 ..) ?_
  refine Ev.neg (by omega) (Ev.ret ?_)
  rw [List.drop_of_length_le (by omega)]
  simp [takeGo, endTake]
 | succ d ih =>
  intro i a out hi ha hsum ho
  refine Ev.step (fun k => r03_Take.l0.eq_2 ..) ?_
  refine Ev.pos (by omega) ?_
  have hs := hk.2 _ (rd_mem (l := l) (i := (i : Int)) (by omega) (by omega))
  have hrest := sum_nonneg (l := l.drop (i + 1)) fun x hx => hk.2 x (List.mem_of_mem_drop hx)
  rw [drop_rd (l := l) (i := i) (by omega)] at hsum ⊢
  rw [List.sum_cons] at hsum
  generalize hsv : rd l (i : Int) = s at hs hsum ⊢
  obtain ⟨m, rfl⟩ := Int.eq_ofNat_of_zero_le (show 0 ≤ s by omega)
  have hm8 : m ≤ 8 := by omega
  have ham : a + m ≤ b.length := by omega
  have g1 : i + 1 + d = l.length := by omega
  have g2 : (b.length : Int) = ((a + m : Nat) : Int) + (l.drop (i + 1)).sum := by omega
  have g3 : out.length + 1 ≤ i + 1 := by omega
  have g4 : i < l.length := by omega
  have g5 : out.length < 17592186044416 := by omega
  have w1 : wrap64 ((i : Int) + 1) = ((i + 1 : Nat) : Int) := w64_succ (by omega)
  have w2 : wrap64 ((a : Int) + (m : Int)) = ((a + m : Nat) : Int) := by rw [← Int.natCast_add]; exact w64_id (by clear w1; omega) (by clear w1; omega)
  have hab : ∀ j, j ≤ m → ((b.drop a).take j).length = j := fun j hj => by clear w1 w2; rw [List.length_take, List.length_drop]; omega
  have hbj : ∀ j, ∀ x ∈ (b.drop a).take j, 0 ≤ x ∧ x < 256 := fun j x hx => hb x (List.mem_of_mem_drop (List.mem_of_mem_take hx))
  have h1 : ∀ j, j ≤ m → 0 ≤ unle ((b.drop a).take j) ∧ unle ((b.drop a).take j) < 256 ^ j := by
   intro j hj
   have := unle_lt _ (hbj j)
   rw [hab j hj] at this
   exact ⟨unle_nonneg _ (hbj j), this⟩
  have h2 : ∀ j, j < m → unle ((b.drop a).take (j + 1)) = unle ((b.drop a).take j) + 256 ^ j * rd b ((a + j : Nat) : Int) := by
   intro j hj
   clear w1 w2 h1
   rw [rtake_succ (by rw [List.length_drop]; omega), unle_append, hab j (by omega), rd_drop (by omega)]
   simp [unle]
  refine rtake_l1 (U := fun j => unle ((b.drop a).take j)) h1 h2 hb g4 hsv rfl hm8 ham hbl g5 ?_ ?_ m 0 0 1 (Nat.zero_add m) (by intro _; rfl) (by simp [unle]) (by decide)
  ·intro hle
   rw [w1, w2]
   refine Ev.eq (ih (i + 1) (a + m) _ g1 ham g2 (by rw [List.length_append, List.length_singleton]; exact g3)) ?_
   have et : takeGo ((m : Int) :: l.drop (i + 1)) (b.drop a) = (takeGo (l.drop (i + 1)) (b.drop (a + m))).map (unle ((b.drop a).take m) :: ·) := by
    rw [takeGo, Int.toNat_natCast, if_pos hle, List.drop_drop]
   rw [et]
   cases takeGo (l.drop (i + 1)) (b.drop (a + m))
   ·rfl
   ·simp only [endTake, Option.map_some, List.append_assoc, List.singleton_append]
  ·intro hle
   have hle' : ¬ unle ((b.drop a).take m) ≤ 4611686018427387904 := Int.not_le.2 hle
   have et : takeGo ((m : Int) :: l.drop (i + 1)) (b.drop a) = none := by
    rw [takeGo, Int.toNat_natCast, if_neg hle']
   rw [et]
   rfl
theorem rtake_ev (l b : List Int) (hl : l.length ≤ 1000000) (hb : ∀ x ∈ b, 0 ≤ x ∧ x < 256) (hbl : b.length < 1000000) : Ev (fun k => r03_Take.f k l b) (pkTake l b) := by
 refine Ev.congr (fun k => by rw [r03_Take.f]) ?_
 refine Ev.bind (rsize_ev l hl) ?_
 refine Ev.ite (fun h => ?_) (fun h => ?_)
 ·have hok : okSizes l = true := by
   cases e : okSizes l
   ·simp [pkSize, e] at h
   ·rfl
  have e1 : pkSize l = (l.sum, true) := by simp [pkSize, hok]
  rw [e1]
  simp only [pkTake, hok, if_true]
  refine Ev.ite (fun h1 => Ev.ret ?_) (fun h1 => Ev.ite (fun h2 => Ev.ret ?_) (fun h2 => ?_))
  ·rw [if_pos h1]
  ·rw [if_neg h1, if_pos h2]
  ·rw [if_neg h1, if_neg h2]
   have := rtake_l0 hok hb hbl l.length 0 0 [] (by omega) (by omega) (by simp; omega) (by simp)
   simpa using this
 ·have hok : okSizes l = false := by
   cases e : okSizes l
   ·rfl
   ·simp [pkSize, e] at h
  refine Ev.ret ?_
  simp [pkTake, hok]
end Go.Proofs.Ytmehbabchakkpaa.PureLadderClimbs
namespace Go.Proofs.Ytmehbabchakkpaa.PureLadderClimbs
open Go.RowKit QLadderClimbs YtmehbabchakkpaaW.PrintWords YtmehbabchakkpaaW.PrintLast YtmehbabchakkpaaW.PrintMore EvKit PackMath TagMath
theorem from_eq (n low high : Int) : r07_from.f n low high = some (between n low high) := by
 unfold r07_from.f between
 by_cases h : n ≥ low
 ·rw [if_pos h]
  have h' : low ≤ n := h
  simp [h']
 ·rw [if_neg h]
  have h' : ¬ low ≤ n := h
  simp [h']
theorem rmay_eq (a b c d : Int) : r07_May.f a b c d = some (mayTag a b c d) := by
 unfold r07_May.f mayTag
 rw [from_eq, from_eq, from_eq, from_eq]
 simp only [Option.bind_some]
 cases between a 1 4 <;> cases between b 0 2147483648 <;> cases between c 0 2305843009213693952 <;> cases between d 0 2147483648 <;> rfl
theorem rttake_ev (b : List Int) (hb : ∀ x ∈ b, 0 ≤ x ∧ x < 256) (hl : b.length < 1000000) : Ev (fun k => r07_Take.f k b) (takeTag b) := by
 refine Ev.congr (fun k => by rw [r07_Take.f]) ?_
 refine Ev.bindv (a := sizes) rfl ?_
 refine Ev.bind (rtake_ev _ _ (by decide) hb hl) ?_
 unfold takeTag
 refine Ev.ite (fun h => ?_) (fun h => Ev.ret ?_)
 ·rw [if_pos h]
  have h6 := six h
  generalize (pkTake sizes b).1 = l at h6 ⊢
  unfold ofList
  refine Ev.step (fun k => r07_Take.j0.eq_2 ..) ?_
  refine Ev.pos (by omega) (Ev.pos (by omega) (Ev.pos (by omega) (Ev.pos (by omega) (Ev.pos (by omega) ?_))))
  have hj : ∀ q0 q1 q2 q3 : Int, Ev (fun k => r07_Take.j1 k true q0 q1 q2 q3) (0, 0, 0, 0, 11) := fun _ _ _ _ => Ev.step (fun k => r07_Take.j1.eq_2 ..) (Ev.pos rfl (Ev.ret rfl))
  refine Ev.ite (fun h0 => ?_) (fun h0 => ?_)
  ·refine Ev.pos (by omega) (Ev.ite (fun h5 => ?_) (fun h5 => ?_))
   ·refine Ev.bindv (rmay_eq _ _ _ _) ?_
    by_cases hm : mayTag (rd l 1) (rd l 2) (rd l 3) (rd l 4) = true
    ·rw [if_pos ⟨h0, h5, hm⟩, hm]
     exact Ev.step (fun k => r07_Take.j1.eq_2 ..) (Ev.neg (by decide) (Ev.ret rfl))
    ·rw [if_neg fun h => hm h.2.2, Bool.eq_false_iff.2 hm]
     exact hj _ _ _ _
   ·rw [if_neg fun h => h5 h.2.1]
    exact hj _ _ _ _
  ·rw [if_neg fun h => h0 h.1]
   exact hj _ _ _ _
 ·rw [if_neg h]
end Go.Proofs.Ytmehbabchakkpaa.PureLadderClimbs
namespace Go.Proofs.Ytmehbabchakkpaa.PureLadderClimbs
open Go.RowKit QLadderClimbs YtmehbabchakkpaaW.PrintWords YtmehbabchakkpaaW.PrintLast YtmehbabchakkpaaW.PrintMore EvKit BitsKit CrcMath NatKit
theorem rsum_l0 (bs : List Nat) (hb : ∀ x ∈ bs, x < 2) (hn : bs.length < 100000000) (d : Nat) : ∀ (c i : Nat), c < 4294967296 → i + d = bs.length →
  Ev (fun k => r02_Sum.l0 k (c : Int) (ints bs) (i : Int)) ((4294967295 ^^^ (bs.drop i).foldl bitStep c : Nat) : Int) := by
 have hl : (ints bs).length = bs.length := List.length_map _
 induction d with
 | zero =>
  intro c i hc hi
  refine Ev.step (fun k => r02_Sum.l0.eq_2 ..) ?_
  refine Ev.neg (by omega) (Ev.ret ?_)
  rw [List.drop_of_length_le (by omega), List.foldl_nil, ← not_xor hc]
  omega
 | succ d ih =>
  intro c i hc hi
  have hil : i < bs.length := by omega
  have hx : bs[i] < 2 := hb _ (List.getElem_mem hil)
  refine Ev.step (fun k => r02_Sum.l0.eq_2 ..) ?_
  refine Ev.pos (by omega) ?_
  refine Ev.pos (by omega) ?_
  rw [rd_ints, List.getD_eq_getElem?_getD, List.getElem?_eq_getElem hil, Option.getD_some, List.drop_eq_getElem_cons hil, List.foldl_cons]
  rw [Int.tmod_eq_emod_of_nonneg (Int.natCast_nonneg _), Int.tdiv_eq_ediv_of_nonneg (Int.natCast_nonneg _), w64_id (by omega) (by omega), w64_succ (by omega), show (c : Int) / 2 % 4294967296 = ((c / 2 : Nat) : Int) from by omega]
  have next := ih (bitStep c bs[i]) (i + 1) (bitStep_lt hc) (by omega)
  generalize bs[i] = x at hx next ⊢
  refine Ev.ite (fun h => ?_) (fun h => ?_)
  ·have h' : c % 2 = x := by omega
   have e : bitStep c x = c / 2 := by unfold bitStep; rw [if_pos h', Nat.xor_zero]
   rw [e] at next ⊢
   exact next
  ·have h' : ¬ c % 2 = x := by omega
   have e : bitStep c x = c / 2 ^^^ 3988292384 := by unfold bitStep; rw [if_neg h']
   have e2 : Go.bits .xor .u32 ((c / 2 : Nat) : Int) 3988292384 = ((c / 2 ^^^ 3988292384 : Nat) : Int) := xor_u32 (by omega) (by decide)
   rw [e] at next ⊢
   rw [e2]
   exact next
theorem bitAt_lt (l : List Nat) (i : Nat) : bitAt l i < 2 := Nat.mod_lt _ (by decide)
theorem rsum_ev {l : List Int} (hl : ∀ x ∈ l, 0 ≤ x ∧ x < 256) (hn : l.length < 1000000) : Ev (fun k => r02_Sum.f k l) ((CrcMath.sum (nats l) : Nat) : Int) := by
 refine Ev.congr (fun k => by rw [r02_Sum.f]) ?_
 refine Ev.bind (list_ev hl hn) ?_
 refine Ev.eq (rsum_l0 (bitList (nats l)) (fun x hx => ?_) ?_ (bitList (nats l)).length 4294967295 0 (by decide) (by omega)) ?_
 ·obtain ⟨i, _, rfl⟩ := List.mem_map.1 hx
  exact bitAt_lt _ _
 ·unfold bitList
  rw [List.length_map, List.length_range, nats_length]
  omega
 ·unfold CrcMath.sum
  rw [run_bitList _ (nats_lt hl), List.drop_zero]
theorem rbytes_eq (n : Nat) : r02_Bytes.f (n : Int) = some (four n) := by
 unfold r02_Bytes.f four
 simp only [Int.tmod_eq_emod_of_nonneg (Int.natCast_nonneg n), Int.tdiv_eq_ediv_of_nonneg (Int.natCast_nonneg n)]
 congr 1
 simp only [List.cons.injEq, and_true]
 omega
end Go.Proofs.Ytmehbabchakkpaa.PureLadderClimbs
namespace Go.Proofs.Ytmehbabchakkpaa.PureLadderClimbs
open Go.RowKit QLadderClimbs YtmehbabchakkpaaW.PrintWords YtmehbabchakkpaaW.PrintLast YtmehbabchakkpaaW.PrintMore EvKit PackMath TagMath CrcMath NatKit BitsMath ChunkMath
theorem rraw_eq {a0 a1 a2 a3 a4 a5 a6 : Int} (h : okG a0 a1 a2 a3 a4 a5 a6) : r04_Raw.f a0 a1 a2 a3 a4 a5 a6 = some (a3 * (a4 + 2) + 31) := by
 obtain ⟨h3, h4⟩ := okG_bounds h
 have := mul_bound h3 ⟨h4.1, by omega⟩
 unfold r04_Raw.f
 rw [w64_id (x := a3 * a4) (by omega) (by omega), w64_id (x := 2 * a3) (by omega) (by omega), w64_id (x := a3 * a4 + 2 * a3) (by omega) (by omega), w64_id (by omega) (by omega), Int.mul_add]
 congr 1
 omega
theorem rdecB_ev {raw : List Int} (hb : ∀ x ∈ raw, 0 ≤ x ∧ x < 256) {S C : Nat} {q0 q1 q2 q5 q6 : Int} (hS0 : 4 ≤ S) (hS : S ≤ 512) (hC : C ≤ 16) (hl : raw.length = C * (S + 2) + 31) :
  Ev (fun k => r08_Decode.j1 k raw q0 q1 q2 (C : Int) (S : Int) q5 q6) (decB S C (raw.take (C * (S + 2))) ((raw.take (C * (S + 2) + 30)).drop (C * (S + 2)))) := by
 have hn : C * (S + 2) ≤ 10000 := Nat.le_trans (Nat.mul_le_mul hC (show S + 2 ≤ 514 by omega)) (by decide)
 have hcl : (raw.take (C * (S + 2))).length = C * (S + 2) := by rw [List.length_take]; omega
 have hll : ((raw.take (C * (S + 2) + 30)).drop (C * (S + 2))).length = 30 := by rw [List.length_drop, List.length_take]; omega
 have hcb := bytes_take hb (C * (S + 2))
 have hlb := bytes_drop (bytes_take hb (C * (S + 2) + 30)) (C * (S + 2))
 have ew1 : wrap64 ((C : Int) * wrap64 ((S : Int) + 2)) = ((C * (S + 2) : Nat) : Int) := by
  rw [w64_id (x := (S : Int) + 2) (by omega) (by omega), show (C : Int) * ((S : Int) + 2) = ((C * (S + 2) : Nat) : Int) by rw [Int.natCast_mul, Int.natCast_add]; rfl]
  exact w64_id (by omega) (by omega)
 have ew2 : wrap64 (((C * (S + 2) : Nat) : Int) + 30) = ((C * (S + 2) + 30 : Nat) : Int) := by
  rw [w64_id (by omega) (by omega)]
  omega
 refine Ev.step (fun k => r08_Decode.j1.eq_2 ..) ?_
 rw [ew1, ew2, Int.toNat_natCast, Int.toNat_natCast]
 clear ew1 ew2
 refine Ev.pos (by omega) (Ev.pos (by omega) (Ev.pos (by omega) ?_))
 have ech : Int.toNat ((C * (S + 2) : Nat) : Int) = C * (S + 2) := Int.toNat_natCast _
 obtain ⟨ch, hch⟩ : ∃ ch, raw.take (C * (S + 2)) = ch := ⟨_, rfl⟩
 rw [hch] at hcl hcb ⊢
 generalize (raw.take (C * (S + 2) + 30)).drop (C * (S + 2)) = lab at hll hlb ⊢
 have hz := rzeros_ev hlb (by omega)
 have ha := rall_on (L := ch) (m := S + 2) (d := C) ⟨by omega, by omega⟩ hcl hcb (by omega)
 rw [show ((S + 2 : Nat) : Int) - 2 = (S : Int) by omega] at ha
 have hal := allR_short (S + 2) C ch [] 0 hcl
 have hab := allR_byte (m := S + 2) C ch [] 0 hcb (fun x hx => by cases hx)
 have hd := rdecode_ev hlb (by omega)
 have hdl := decN_len (r := nats lab)
 have hdb := decN_byte (nats_lt hlb)
 rw [nats_length, hll] at hdl
 rw [List.length_nil, hcl] at hal
 refine Ev.bind hz ?_
 unfold decB
 refine Ev.ite (fun h => ?_) (fun h => ?_)
 ·rw [if_pos h]
  exact Ev.ret rfl
 rw [if_neg h]
 clear h hz
 refine Ev.step (fun k => r08_Decode.j2.eq_2 ..) ?_
 rw [ech, hch]
 refine Ev.pos (by omega) (Ev.pos (by omega) (Ev.bind ha ?_))
 clear ha ech hch
 generalize allR (S + 2) C ch [] 0 = A at hal hab ⊢
 refine Ev.ite (fun h => ?_) (fun h => ?_)
 ·rw [if_pos h]
  refine Ev.step (fun k => r08_Decode.j3.eq_2 ..) ?_
  refine Ev.bind hd ?_
  clear hd
  generalize decN (nats lab) = D at hdl hdb ⊢
  refine Ev.ite (fun h2 => ?_) (fun h2 => ?_)
  ·rw [if_pos h2]
   have hdl2 := hdl h2
   have htl : (D.1.take 24).length = 24 := by rw [List.length_take]; omega
   have hse : ends (A.1 ++ D.1) = decide (four (CrcMath.sum (nats (A.1 ++ D.1.take 24))) = D.1.drop 24) := by
    unfold ends
    rw [decide_eq_true (by rw [List.length_append]; omega), Bool.true_and, List.length_append, List.take_append, List.drop_append, show A.1.length + D.1.length - 4 - A.1.length = 24 by omega, List.take_of_length_le (by omega), List.drop_of_length_le (l := A.1) (by omega), List.nil_append]
   have hsum := rsum_ev (l := A.1 ++ D.1.take 24) (app_byte hab (bytes_take hdb 24)) (by rw [List.length_append]; omega)
   have htake := rttake_ev (D.1.take 24) (bytes_take hdb 24) (by omega)
   refine Ev.step (fun k => r08_Decode.j4.eq_2 ..) ?_
   refine Ev.pos (by rw [List.length_nil]; omega) (Ev.bindv rfl (Ev.pos (by omega) (Ev.bindv rfl ?_)))
   rw [List.nil_append]
   refine Ev.pos (by omega) (Ev.bind hsum (Ev.bindv (rbytes_eq _) ?_))
   refine Ev.bind (same_ev _ _ (by show 4 < 1000000000; decide)) ?_
   rw [← hse]
   clear hse hsum
   refine Ev.ite (fun h3 => ?_) (fun h3 => ?_)
   ·rw [if_pos h3]
    refine Ev.step (fun k => r08_Decode.j5.eq_2 ..) ?_
    refine Ev.pos (by omega) (Ev.bind htake ?_)
    generalize takeTag (D.1.take 24) = t
    refine Ev.ite (fun h4 => ?_) (fun h4 => ?_)
    ·rw [if_pos h4]
     refine Ev.ite (fun h5 => ?_) (fun h5 => ?_)
     ·rw [if_pos h5]
      exact Ev.ret rfl
     ·rw [if_neg h5]
      exact Ev.ret rfl
    ·rw [if_neg h4]
     exact Ev.ret rfl
   ·rw [if_neg h3]
    exact Ev.ret rfl
  ·rw [if_neg h2]
   exact Ev.ret rfl
 ·rw [if_neg h]
  exact Ev.ret rfl
theorem rpdec_ev {raw : List Int} (hb : ∀ x ∈ raw, 0 ≤ x ∧ x < 256) (a0 a1 a2 a3 a4 a5 a6 : Int) : Ev (fun k => r08_Decode.f k a0 a1 a2 a3 a4 a5 a6 raw) (decP raw a0 a1 a2 a3 a4 a5 a6) := by
 refine Ev.congr (fun k => by rw [r08_Decode.f]) ?_
 refine Ev.bindv right_eq ?_
 have hbad : ¬ (okG a0 a1 a2 a3 a4 a5 a6 ∧ (raw.length : Int) = a3 * (a4 + 2) + 31) → Ev (fun k => r08_Decode.j0 k raw true a0 a1 a2 a3 a4 a5 a6) (decP raw a0 a1 a2 a3 a4 a5 a6) := fun h => by
  refine Ev.step (fun k => r08_Decode.j0.eq_2 ..) (Ev.pos rfl (Ev.ret ?_))
  unfold decP
  rw [if_neg h]
 by_cases hg : okG a0 a1 a2 a3 a4 a5 a6
 ·refine Ev.pos (decide_eq_true hg) (Ev.bindv (rraw_eq hg) ?_)
  by_cases hl : (raw.length : Int) = a3 * (a4 + 2) + 31
  ·have e : ((raw.length : Int) != a3 * (a4 + 2) + 31) = false := bne_eq_false_iff_eq.2 hl
   rw [e]
   refine Ev.step (fun k => r08_Decode.j0.eq_2 ..) (Ev.neg (by decide) ?_)
   unfold decP
   rw [if_pos ⟨hg, hl⟩]
   obtain ⟨h3, h4⟩ := okG_bounds hg
   have hm := mul_bound h3 (y := a4 + 2) ⟨by omega, by omega⟩
   obtain ⟨C, rfl⟩ := Int.eq_ofNat_of_zero_le (a := a3) (by omega)
   obtain ⟨S, rfl⟩ := Int.eq_ofNat_of_zero_le (a := a4) (by omega)
   have en : (C : Int) * ((S : Int) + 2) = ((C * (S + 2) : Nat) : Int) := by rw [Int.natCast_mul, Int.natCast_add]; rfl
   rw [en] at hl
   have hl2 : raw.length = C * (S + 2) + 31 := by omega
   rw [Int.toNat_natCast, Int.toNat_natCast, show raw.length - 31 = C * (S + 2) by omega, show raw.length - 1 = C * (S + 2) + 30 by omega]
   exact rdecB_ev hb (by omega) (by omega) (by omega) hl2
  ·have e : ((raw.length : Int) != a3 * (a4 + 2) + 31) = true := bne_iff_ne.2 hl
   rw [e]
   exact hbad (fun z => hl z.2)
 ·rw [decide_eq_false hg]
  exact Ev.neg (by decide) (hbad (fun z => hg z.1))
end Go.Proofs.Ytmehbabchakkpaa.PureLadderClimbs
namespace Go.Proofs.Ytmehbabchakkpaa.PureLadderClimbs
open Go.RowKit QLadderClimbs YtmehbabchakkpaaW.PrintWords YtmehbabchakkpaaW.PrintLast YtmehbabchakkpaaW.PrintMore EvKit PackMath TagMath CrcMath NatKit BitsMath ChunkMath
theorem decN_err {r : List Nat} (h : 3 ≤ r.length ∧ r.length ≤ 514) : (decN r).2.2 ≠ 2 := by
 unfold decN
 rw [if_neg (by omega)]
 unfold decOf
 repeat' split
 all_goals first | exact (by decide : (0 : Int) ≠ 2) | exact (by decide : (14 : Int) ≠ 2)
theorem allR_err {m : Nat} (hm : 3 ≤ m ∧ m ≤ 514) : ∀ (d : Nat) (L out : List Int) (fx : Int), L.length = d * m → (allR m d L out fx).2.2 ≠ 2 := by
 intro d
 induction d with
 | zero => intro L out fx _; exact (by decide : (0 : Int) ≠ 2)
 | succ d ih =>
  intro L out fx hl
  rw [Nat.succ_mul] at hl
  unfold allR
  split
  ·exact ih _ _ _ (by rw [List.length_drop]; omega)
  ·exact decN_err (by rw [nats_length, List.length_take]; omega)
theorem takeTag_err (b : List Int) : (takeTag b).2.2.2.2 ≠ 2 := by
 unfold takeTag
 split
 ·unfold ofList
  split
  ·exact (by decide : (0 : Int) ≠ 2)
  ·exact (by decide : (11 : Int) ≠ 2)
 ·show (pkTake sizes b).2 ≠ 2
  unfold pkTake
  rw [if_pos (by decide)]
  split
  ·exact (by decide : (10 : Int) ≠ 2)
  ·split
   ·exact (by decide : (13 : Int) ≠ 2)
   ·cases takeGo sizes b with
    | none => exact (by decide : (11 : Int) ≠ 2)
    | some l => exact (by decide : (0 : Int) ≠ 2)
theorem decP_err {raw : List Int} {a0 a1 a2 a3 a4 a5 a6 : Int} (hg : okG a0 a1 a2 a3 a4 a5 a6) (hl : (raw.length : Int) = a3 * (a4 + 2) + 31) : (decP raw a0 a1 a2 a3 a4 a5 a6).2.2.2.2.2.2 ≠ 2 := by
 unfold decP
 rw [if_pos ⟨hg, hl⟩]
 obtain ⟨h3, h4⟩ := okG_bounds hg
 have hm := mul_bound h3 (y := a4 + 2) ⟨by omega, by omega⟩
 obtain ⟨C, rfl⟩ := Int.eq_ofNat_of_zero_le (a := a3) (by omega)
 obtain ⟨S, rfl⟩ := Int.eq_ofNat_of_zero_le (a := a4) (by omega)
 have en : (C : Int) * ((S : Int) + 2) = ((C * (S + 2) : Nat) : Int) := by rw [Int.natCast_mul, Int.natCast_add]; rfl
 rw [en] at hl
 rw [Int.toNat_natCast, Int.toNat_natCast, show raw.length - 31 = C * (S + 2) by omega, show raw.length - 1 = C * (S + 2) + 30 by omega]
 have h1 := allR_err (m := S + 2) (by omega) C (raw.take (C * (S + 2))) [] 0 (by rw [List.length_take]; omega)
 have h2 := decN_err (r := nats ((raw.take (C * (S + 2) + 30)).drop (C * (S + 2)))) (by rw [nats_length, List.length_drop, List.length_take]; omega)
 have h3 := takeTag_err ((decN (nats ((raw.take (C * (S + 2) + 30)).drop (C * (S + 2))))).1.take 24)
 unfold decB
 split
 ·exact (by decide : (0 : Int) ≠ 2)
 ·split
  ·split
   ·split
    ·split
     ·exact (by decide : (0 : Int) ≠ 2)
     ·exact h3
    ·exact (by decide : (12 : Int) ≠ 2)
   ·exact h2
  ·exact h1
theorem rwalk_ev {ls : List (List Int)} {a0 a1 a2 a3 a4 a5 a6 : Int} (hb : ∀ l ∈ ls, ∀ x ∈ l, 0 ≤ x ∧ x < 256) (hg : okG a0 a1 a2 a3 a4 a5 a6) (hl : ∀ l ∈ ls, (l.length : Int) = a3 * (a4 + 2) + 31) (hs : ls.length ≤ 1000000) : ∀ (d i : Nat), i + d = ls.length → Ev (fun k => r09_Climb.l1 k ls (i : Int) a0 a1 a2 a3 a4 a5 a6) (walkN (fun l => decP l a0 a1 a2 a3 a4 a5 a6) (ls.drop i) (i : Int)) := by
 intro d
 induction d with
 | zero =>
  intro i hi
  refine Ev.step (fun k => r09_Climb.l1.eq_2 ..) ?_
  rw [List.drop_eq_nil_of_le (by omega)]
  exact Ev.neg (by omega) (Ev.ret rfl)
 | succ d ih =>
  intro i hi
  have hlt : i < ls.length := by omega
  have hgd : rd_L3 ls (i : Int) = ls[i] := by
   show ls.getD ((i : Int)).toNat [] = _
   rw [Int.toNat_natCast]
   simp [hlt]
  refine Ev.step (fun k => r09_Climb.l1.eq_2 ..) ?_
  rw [hgd, w64_succ (by omega), List.drop_eq_getElem_cons hlt]
  refine Ev.pos (by omega) (Ev.pos (by omega) (Ev.bind (rpdec_ev (hb _ (List.getElem_mem hlt)) a0 a1 a2 a3 a4 a5 a6) ?_))
  have ih2 := ih (i + 1) (by omega)
  have he := decP_err hg (hl _ (List.getElem_mem hlt))
  unfold walkN
  refine Ev.ite (fun h => ?_) (fun h => ?_)
  ·rw [if_pos h]
   exact Ev.ret rfl
  ·rw [if_neg h, if_neg he]
   exact ih2
theorem rlens_ev {ls : List (List Int)} {a0 a1 a2 a3 a4 a5 a6 : Int} {r : R8} (hg : okG a0 a1 a2 a3 a4 a5 a6) (hs : ls.length ≤ 1000000)
  (hr : (ls.all fun l => decide ((l.length : Int) = a3 * (a4 + 2) + 31)) = true → Ev (fun k => r09_Climb.l1 k ls 0 a0 a1 a2 a3 a4 a5 a6) r) (hn : ¬ (ls.all fun l => decide ((l.length : Int) = a3 * (a4 + 2) + 31)) = true → badR 2 = r) :
  ∀ (d i : Nat), i + d = ls.length → (ls.take i).all (fun l => decide ((l.length : Int) = a3 * (a4 + 2) + 31)) = true → Ev (fun k => r09_Climb.l0 k ls (i : Int) a0 a1 a2 a3 a4 a5 a6) r := by
 intro d
 induction d with
 | zero =>
  intro i hi ht
  rw [List.take_of_length_le (by omega)] at ht
  refine Ev.step (fun k => r09_Climb.l0.eq_2 ..) ?_
  exact Ev.neg (by omega) (hr ht)
 | succ d ih =>
  intro i hi ht
  have hlt : i < ls.length := by omega
  have hgd : rd_L3 ls (i : Int) = ls[i] := by
   show ls.getD ((i : Int)).toNat [] = _
   rw [Int.toNat_natCast]
   simp [hlt]
  refine Ev.step (fun k => r09_Climb.l0.eq_2 ..) ?_
  rw [hgd, w64_succ (by omega)]
  refine Ev.pos (by omega) (Ev.pos (by omega) (Ev.bindv (rraw_eq hg) ?_))
  refine Ev.ite (fun h => ?_) (fun h => ?_)
  ·refine ih (i + 1) (by omega) ?_
   rw [List.take_succ_eq_append_getElem hlt, List.all_append, ht, List.all_cons, List.all_nil, decide_eq_true h]
   rfl
  ·refine Ev.ret (hn fun z => h ?_)
   exact of_decide_eq_true (List.all_eq_true.1 z _ (List.getElem_mem hlt))
theorem rclimb_ev {ls : List (List Int)} (hb : ∀ l ∈ ls, ∀ x ∈ l, 0 ≤ x ∧ x < 256) (hs : ls.length ≤ 1000000) (a0 a1 a2 a3 a4 a5 a6 : Int) : Ev (fun k => r09_Climb.f k a0 a1 a2 a3 a4 a5 a6 ls) (climbP ls a0 a1 a2 a3 a4 a5 a6) := by
 refine Ev.congr (fun k => by rw [r09_Climb.f]) ?_
 refine Ev.bindv right_eq ?_
 have hbad : (¬ (okG a0 a1 a2 a3 a4 a5 a6 ∧ ls.length ≠ 0 ∧ (ls.length : Int) ≤ a5 ∧ (ls.all fun l => decide ((l.length : Int) = a3 * (a4 + 2) + 31)) = true)) → Ev (fun k => r09_Climb.j0 k ls true a0 a1 a2 a3 a4 a5 a6) (climbP ls a0 a1 a2 a3 a4 a5 a6) := fun h => by
  refine Ev.step (fun k => r09_Climb.j0.eq_2 ..) (Ev.pos rfl (Ev.ret ?_))
  unfold climbP
  rw [if_neg h]
  rfl
 by_cases hg : okG a0 a1 a2 a3 a4 a5 a6
 ·refine Ev.pos (decide_eq_true hg) (Ev.ite (fun h => hbad (fun z => z.2.1 (by omega))) (fun h => ?_))
  by_cases h2 : (ls.length : Int) > a5
  ·rw [decide_eq_true h2]
   exact hbad (fun z => by have := z.2.2.1; omega)
  ·rw [decide_eq_false h2]
   refine Ev.step (fun k => r09_Climb.j0.eq_2 ..) (Ev.neg (by decide) ?_)
   refine rlens_ev hg hs (fun ha => ?_) (fun ha => ?_) ls.length 0 (by omega) (by simp)
   ·have hc : climbP ls a0 a1 a2 a3 a4 a5 a6 = walkN (fun l => decP l a0 a1 a2 a3 a4 a5 a6) ls 0 := by
     unfold climbP
     rw [if_pos ⟨hg, by omega, by omega, ha⟩]
    rw [hc]
    exact rwalk_ev hb hg (fun l hl => of_decide_eq_true (List.all_eq_true.1 ha l hl)) hs ls.length 0 (by omega)
   ·unfold climbP
    rw [if_neg (fun z => ha z.2.2.2)]
 ·rw [decide_eq_false hg]
  exact Ev.neg (by decide) (hbad (fun z => hg z.1))
end Go.Proofs.Ytmehbabchakkpaa.PureLadderClimbs
namespace Go.Proofs.Ytmehbabchakkpaa.Pure
open Go.RowKit QLadderClimbs YtmehbabchakkpaaW.PrintWords YtmehbabchakkpaaW.PrintLast YtmehbabchakkpaaW.PrintMore EvKit PureLadderClimbs
theorem LadderClimbs : StmLadderClimbs := by
 rintro ⟨a0, a1, a2, a3, a4, a5, a6⟩ l _ hn hl'
 have hb : ∀ x ∈ l, ∀ y ∈ x, 0 ≤ y ∧ y < 256 := fun x hx y hy => wf_u8 ((hl'.2 x hx).2 y hy)
 clear hl'
 refine Ev.rounds (Ev.congr (fun k => by rw [l09_LadderClimbs.f]) ?_)
 refine Ev.bind ladder_awake_ev (Ev.pos rfl ?_)
 dsimp only
 obtain ⟨b, hb12, hfew⟩ := few_ev (ls := l) (by omega) a0 a1 a2 a3 a4 a5 a6
 refine Ev.step (fun k => l09_LadderClimbs.j0.eq_2 ..) ?_
 refine Ev.bind hfew (Ev.ite (fun hbt => ?_) (fun _ => Ev.ret rfl))
 have h12 := hb12 hbt
 refine Ev.step (fun k => l09_LadderClimbs.j1.eq_2 ..) ?_
 refine Ev.bind (climb_ev hb (by omega) a0 a1 a2 a3 a4 a5 a6) (Ev.bind (rclimb_ev hb (by omega) a0 a1 a2 a3 a4 a5 a6) ?_)
 have hs := climb_short l a0 a1 a2 a3 a4 a5 a6
 generalize climbP l a0 a1 a2 a3 a4 a5 a6 = R at hs
 refine Ev.bind (psame_ev hs) (Ev.pos rfl (Ev.pos rfl (Ev.ret ?_)))
 exact beq_iff_eq.2 rfl
end Go.Proofs.Ytmehbabchakkpaa.Pure
