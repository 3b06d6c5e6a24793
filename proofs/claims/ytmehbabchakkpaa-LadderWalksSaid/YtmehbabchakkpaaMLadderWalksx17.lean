import Derived.Test.YtmehbabchakkpaaMLadderWalksx16
import Derived.Laws.Strings
import Derived.Deep.Slices
import Derived.OpenShut
import Derived.SizedLaws
namespace Go.Proofs.Ytmehbabchakkpaa.PureLadderWalks
open Go.RowKit QLadderWalks YtmehbabchakkpaaW.PrintWords YtmehbabchakkpaaW.PrintLast YtmehbabchakkpaaW.PrintMore EvKit BitsKit CrcMath NatKit BitsMath LenMath HamMath ChunkMath
def allR (m : Nat) : Nat → List Int → List Int → Int → List Int × Int × Int
 | 0, _, out, fx => (out, fx, 0)
 | d + 1, L, out, fx => if (decN (nats (L.take m))).2.2 = 0 then allR m d (L.drop m) (out ++ (decN (nats (L.take m))).1) (wrap64 (fx + (decN (nats (L.take m))).2.1)) else ([], 0, (decN (nats (L.take m))).2.2)
theorem decN_size (r : List Nat) (h : (decN r).2.2 = 0) : 0 < (decN r).1.length ∧ (decN r).1.length ≤ r.length := by
 unfold decN at h ⊢
 split at h
 ·exact absurd h (by decide)
 ·rename_i hn
  rw [if_neg hn]
  have hl : (r.take (r.length - 2)).length = r.length - 2 := by rw [List.length_take]; omega
  unfold decOf at h ⊢
  split at h
  ·rename_i h1
   rw [if_pos h1]
   show 0 < (ints _).length ∧ (ints _).length ≤ _
   rw [ints_length, hl]
   omega
  ·rename_i h1
   rw [if_neg h1]
   split at h
   ·rename_i h2
    rw [if_pos h2]
    show 0 < (ints _).length ∧ (ints _).length ≤ _
    rw [ints_length, flips_length, hl]
    omega
   ·rename_i h2
    rw [if_neg h2]
    split at h
    ·rename_i h3
     rw [if_pos h3]
     show 0 < (ints _).length ∧ (ints _).length ≤ _
     rw [ints_length, hl]
     omega
    ·exact absurd h (by decide)
theorem allR_short (m : Nat) : ∀ (d : Nat) (L out : List Int) (fx : Int), L.length = d * m → (allR m d L out fx).1.length ≤ out.length + L.length := by
 intro d
 induction d with
 | zero => intro L out fx _; show out.length ≤ _; omega
 | succ d ih =>
  intro L out fx hl
  have hl1 : (L.drop m).length = d * m := by rw [List.length_drop, hl, Nat.succ_mul]; omega
  have hl2 : (L.take m).length ≤ m := by rw [List.length_take]; omega
  unfold allR
  split
  ·rename_i h
   have h1 := (decN_size _ h).2
   rw [nats_length] at h1
   have h2 := ih (L.drop m) (out ++ (decN (nats (L.take m))).1) (wrap64 (fx + (decN (nats (L.take m))).2.1)) hl1
   rw [List.length_append] at h2
   have h3 : L.length = m + d * m := by rw [hl, Nat.succ_mul]; omega
   omega
  ·exact Nat.zero_le _
theorem may_on {l : List Int} {m d : Nat} (hm : 3 ≤ m ∧ m ≤ 514) (hl : l.length = d * m) : chunk_may.f l ((m : Int) - 2) = some true := by
 unfold chunk_may.f
 rw [if_pos (by omega), if_pos (by omega), w64_id (x := (m : Int) - 2 + 2) (by omega) (by omega), show (m : Int) - 2 + 2 = (m : Int) by omega, if_neg (by omega), hl, show ((d * m : Nat) : Int) % (m : Int) = 0 by rw [Int.natCast_mul]; exact Int.mul_emod_left _ _]
 rfl
theorem bytes_take {L : List Int} (hL : ∀ x ∈ L, 0 ≤ x ∧ x < 256) (m : Nat) : ∀ x ∈ L.take m, 0 ≤ x ∧ x < 256 := fun x hx => hL x (List.mem_of_mem_take hx)
theorem bytes_drop {L : List Int} (hL : ∀ x ∈ L, 0 ≤ x ∧ x < 256) (m : Nat) : ∀ x ∈ L.drop m, 0 ≤ x ∧ x < 256 := fun x hx => hL x (List.mem_of_mem_drop hx)
theorem all_l0 {m : Nat} (hm : 3 ≤ m ∧ m ≤ 514) : ∀ (d : Nat) (L out : List Int) (fx : Int), L.length = d * m → (∀ x ∈ L, 0 ≤ x ∧ x < 256) → out.length + L.length ≤ 1000000 → Ev (fun k => chunk_All.l0 k L ((m : Int) - 2) out fx) (allR m d L out fx) := by
 intro d
 induction d with
 | zero =>
  intro L out fx hl _ _
  refine Ev.step (fun k => chunk_All.l0.eq_2 ..) ?_
  exact Ev.pos (by omega) (Ev.ret rfl)
 | succ d ih =>
  intro L out fx hl hb hs
  have h3 : L.length = m + d * m := by rw [hl, Nat.succ_mul]; omega
  have hl1 : (L.drop m).length = d * m := by rw [List.length_drop]; omega
  have hl2 : (L.take m).length = m := by rw [List.length_take]; omega
  refine Ev.step (fun k => chunk_All.l0.eq_2 ..) ?_
  rw [show ((m : Int) - 2 + 2).toNat = m by omega]
  refine Ev.neg (by omega) (Ev.bind (decode_ev (bytes_take hb m) (by omega)) ?_)
  unfold allR
  have hz := decN_size (nats (L.take m))
  rw [nats_length, hl2] at hz
  generalize decN (nats (L.take m)) = t at hz ⊢
  refine Ev.ite (fun h => ?_) (fun h => ?_)
  ·rw [if_pos h]
   have h4 := hz h
   refine Ev.pos h4.1 (Ev.pos (by omega) ?_)
   exact ih _ _ _ hl1 (bytes_drop hb m) (by rw [List.length_append]; omega)
  ·rw [if_neg h]
   exact Ev.ret rfl
theorem all_on {L : List Int} {m d : Nat} (hm : 3 ≤ m ∧ m ≤ 514) (hl : L.length = d * m) (hb : ∀ x ∈ L, 0 ≤ x ∧ x < 256) (hs : L.length ≤ 1000000) : Ev (fun k => chunk_All.f k L ((m : Int) - 2)) (allR m d L [] 0) := by
 refine Ev.congr (fun k => by rw [chunk_All.f]) ?_
 refine Ev.bindv (may_on hm hl) (Ev.pos rfl (Ev.pos ⟨by omega, by omega, ?_⟩ ?_))
 ·rw [show ((m : Int) - 2 + 2).toNat = m by omega, hl]
  exact Nat.mul_mod_left _ _
 ·exact all_l0 hm d L [] 0 hl hb (by rw [List.length_nil]; omega)
theorem rall_l0 {m : Nat} (hm : 3 ≤ m ∧ m ≤ 514) {L : List Int} (hb : ∀ x ∈ L, 0 ≤ x ∧ x < 256) (hs : L.length ≤ 1000000) : ∀ (d i : Nat) (out : List Int) (fx : Int), L.length = i * m + d * m → out.length + d * m ≤ 1000000 → Ev (fun k => r06_All.l0 k L ((m : Int) - 2) out fx ((i * m : Nat) : Int)) (allR m d (L.drop (i * m)) out fx) := by
 intro d
 induction d with
 | zero =>
  intro i out fx hl _
  refine Ev.step (fun k => r06_All.l0.eq_2 ..) ?_
  exact Ev.neg (by omega) (Ev.ret rfl)
 | succ d ih =>
  intro i out fx hl ho
  have h3 : L.length = i * m + (m + d * m) := by rw [hl, Nat.succ_mul]; omega
  have h5 : out.length + (m + d * m) ≤ 1000000 := by rw [Nat.succ_mul] at ho; omega
  have hn : (i + 1) * m = i * m + m := Nat.succ_mul i m
  refine Ev.step (fun k => r06_All.l0.eq_2 ..) ?_
  have e1 : wrap64 (wrap64 (((i * m : Nat) : Int) + ((m : Int) - 2)) + 2) = (((i + 1) * m : Nat) : Int) := by
   rw [hn, w64_id (x := ((i * m : Nat) : Int) + ((m : Int) - 2)) (by omega) (by omega), w64_id (by omega) (by omega)]
   omega
  rw [e1, Int.toNat_natCast, Int.toNat_natCast, hn]
  refine Ev.pos (by omega) (Ev.pos (by omega) (Ev.pos (by omega) (Ev.pos (by omega) ?_)))
  have hp : (L.take (i * m + m)).drop (i * m) = (L.drop (i * m)).take m := by rw [List.drop_take, Nat.add_sub_cancel_left]
  rw [hp]
  have hl2 : ((L.drop (i * m)).take m).length = m := by rw [List.length_take, List.length_drop]; omega
  have hd2 : L.drop ((i + 1) * m) = (L.drop (i * m)).drop m := by rw [List.drop_drop, hn]
  refine Ev.bind (rdecode_ev (bytes_take (bytes_drop hb _) m) (by omega)) ?_
  unfold allR
  have hz := decN_size (nats ((L.drop (i * m)).take m))
  rw [nats_length, hl2] at hz
  generalize decN (nats ((L.drop (i * m)).take m)) = t at hz ⊢
  refine Ev.ite (fun h => ?_) (fun h => ?_)
  ·rw [if_pos h]
   have h4 := hz h
   refine Ev.pos (by omega) ?_
   have := ih (i + 1) (out ++ t.1) (wrap64 (fx + t.2.1)) (by rw [hn]; omega) (by rw [List.length_append]; omega)
   rw [hd2, hn] at this
   exact this
  ·rw [if_neg h]
   exact Ev.ret rfl
theorem rall_on {L : List Int} {m d : Nat} (hm : 3 ≤ m ∧ m ≤ 514) (hl : L.length = d * m) (hb : ∀ x ∈ L, 0 ≤ x ∧ x < 256) (hs : L.length ≤ 1000000) : Ev (fun k => r06_All.f k L ((m : Int) - 2)) (allR m d L [] 0) := by
 refine Ev.congr (fun k => by rw [r06_All.f]) ?_
 refine Ev.neg (by omega) (Ev.neg (by omega) ?_)
 rw [w64_id (x := (m : Int) - 2 + 2) (by omega) (by omega), show (m : Int) - 2 + 2 = (m : Int) by omega]
 refine Ev.neg (by omega) ?_
 rw [hl, show ((d * m : Nat) : Int) % (m : Int) = 0 by rw [Int.natCast_mul]; exact Int.mul_emod_left _ _]
 refine Ev.step (fun k => r06_All.j0.eq_2 ..) ?_
 refine Ev.neg (by decide) ?_
 have := rall_l0 hm hb hs d 0 [] 0 (by omega) (by rw [List.length_nil]; omega)
 rw [Nat.zero_mul, List.drop_zero] at this
 exact this
end Go.Proofs.Ytmehbabchakkpaa.PureLadderWalks
namespace Go.Proofs.Ytmehbabchakkpaa.PureLadderWalks
open Go.RowKit QLadderWalks YtmehbabchakkpaaW.PrintWords YtmehbabchakkpaaW.PrintLast YtmehbabchakkpaaW.PrintMore EvKit BitsKit CrcMath NatKit
theorem str_beq {a b : List Int} (ha : ∀ x ∈ a, 0 ≤ x ∧ x < 256) (hb : ∀ x ∈ b, 0 ≤ x ∧ x < 256) : ((strOfNums a).toList == (strOfNums b).toList) = decide (a = b) := by
 rw [Bool.eq_iff_iff, beq_iff_eq, decide_eq_true_eq, ByteArray.toList_eq, ByteArray.toList_eq]
 constructor
 ·intro h
  refine str_eq ha hb ?_
  have := Array.toList_inj.1 h
  cases ea : strOfNums a
  cases eb : strOfNums b
  rw [ea, eb] at this
  congr 1
 ·rintro rfl
  rfl
def ends (b : List Int) : Bool := decide (4 ≤ b.length) && decide (four (CrcMath.sum (nats (b.take (b.length - 4)))) = b.drop (b.length - 4))
theorem check_ev {b : List Int} (hb : ∀ x ∈ b, 0 ≤ x ∧ x < 256) (hn : b.length < 1000000) : Ev (fun k => crc_Check.f k b) (ends b) := by
 refine Ev.congr (fun k => by rw [crc_Check.f]) ?_
 have hw : wrap64 ((b.length : Int) - 4) = (b.length : Int) - 4 := w64_id (by omega) (by omega)
 rw [hw]
 clear hw
 refine Ev.ite (fun h => ?_) (fun h => Ev.ret ?_)
 ·refine Ev.pos (by omega) ?_
  refine Ev.pos (by omega) ?_
  rw [show ((b.length : Int) - 4).toNat = b.length - 4 from by omega]
  refine Ev.bind (sum_one (fun x hx => hb x (List.mem_of_mem_take hx)) (by rw [List.length_take]; omega)) ?_
  refine Ev.bind (bytes_ev _) (Ev.ret ?_)
  rw [str_beq (four_byte _) (fun x hx => hb x (List.mem_of_mem_drop hx))]
  unfold ends
  rw [decide_eq_true (show 4 ≤ b.length by omega), Bool.true_and]
 ·unfold ends
  rw [decide_eq_false (show ¬ 4 ≤ b.length by omega), Bool.false_and]
end Go.Proofs.Ytmehbabchakkpaa.PureLadderWalks
namespace Go.Proofs.Ytmehbabchakkpaa.PureLadderWalks
open Go.RowKit QLadderWalks YtmehbabchakkpaaW.PrintWords YtmehbabchakkpaaW.PrintLast YtmehbabchakkpaaW.PrintMore EvKit PackMath
theorem wraps_u64 (n : Int) (h₀ : 0 ≤ n) (h₁ : n < 2 ^ 64) : IntKind.u64.wrap n = n := w_u64 n h₀ (by simpa using h₁)
theorem or_byte {x b : Int} (h0 : 0 ≤ x) (h : x < 256 ^ 7) (b0 : 0 ≤ b) (b1 : b < 256) : Go.bits .or .u64 (IntKind.u64.wrap (x * 256)) (IntKind.u64.wrap b) = b + 256 * x := by
 have e : (256 : Int) ^ 7 = 72057594037927936 := by decide
 rw [e] at h
 rw [wraps_u64 (x * 256) (by omega) (by omega), wraps_u64 b (by omega) (by omega), bits_join .u64 64 (by decide) wraps_u64 8 (x * 256) b (by omega) (by omega) (by omega) b0 (by omega) (by omega)]
 omega
theorem pow7 {m : Nat} (h : m ≤ 7) : (256 : Int) ^ m ≤ 256 ^ 7 := by
 have : m = 0 ∨ m = 1 ∨ m = 2 ∨ m = 3 ∨ m = 4 ∨ m = 5 ∨ m = 6 ∨ m = 7 := by omega
 rcases this with rfl | rfl | rfl | rfl | rfl | rfl | rfl | rfl <;> decide
theorem take_succ_rd {b : List Int} {d : Nat} (h : d < b.length) : b.take (d + 1) = b.take d ++ [rd b (d : Int)] := by
 rw [List.take_succ_eq_append_getElem h, rd_nat h]
theorem take_l1 {b out l : List Int} {s len i : Int} {r : List Int × Int} (hb : ∀ x ∈ b, 0 ≤ x ∧ x < 256) (hs : s ≤ 8) (hsb : s ≤ (b.length : Int)) (d : Nat) : ∀ (x : Int) (m : Nat), (d : Int) + m = s → 0 ≤ x → x < 256 ^ m →
  Ev (fun k => (if unle (b.take d) + 256 ^ d * x > 4611686018427387904 then (some (([] : List Int), 11)) else (if out.length < 17592186044416 then (if 0 ≤ s then (if s ≤ (b.length : Int) then (pack_Take.l0 k (b.drop (s : Int).toNat) (out ++ [wrap64 (unle (b.take d) + 256 ^ d * x)]) l len (wrap64 (i + 1))) else (none)) else (none)) else (none)))) r →
  Ev (fun k => pack_Take.l1 k b out s x (wrap64 ((d : Int) - 1)) l len i) r := by
 induction d with
 | zero =>
  intro x m hm h0 h1 h
  rw [show wrap64 (((0 : Nat) : Int) - 1) = -1 from by rw [w64_id (by omega) (by omega)]; omega]
  refine Ev.step (fun k => pack_Take.l1.eq_2 ..) ?_
  refine Ev.neg (by omega) ?_
  simpa [unle] using h
 | succ d ih =>
  intro x m hm h0 h1 h
  rw [show wrap64 (((d + 1 : Nat) : Int) - 1) = (d : Int) from by rw [w64_id (by omega) (by omega)]; omega]
  refine Ev.step (fun k => pack_Take.l1.eq_2 ..) ?_
  refine Ev.pos (by omega) (Ev.pos (by omega) (Ev.pos (by omega) ?_))
  have hc := hb _ (rd_mem (l := b) (i := (d : Int)) (by omega) (by omega))
  have hx : x < 256 ^ 7 := Int.lt_of_lt_of_le h1 (pow7 (by omega))
  rw [or_byte h0 hx hc.1 hc.2]
  refine ih (rd b (d : Int) + 256 * x) (m + 1) (by omega) (by omega) (by rw [Int.pow_succ]; omega) ?_
  have e : unle (b.take (d + 1)) + 256 ^ (d + 1) * x = unle (b.take d) + 256 ^ d * (rd b (d : Int) + 256 * x) := by
   rw [take_succ_rd (by omega), unle_append, List.length_take, Nat.min_eq_left (by omega), Int.pow_succ]
   simp only [unle, Int.mul_add, Int.mul_assoc, Int.mul_zero, Int.add_zero, Int.add_assoc]
  rw [e] at h
  exact h
theorem take_l0 {l : List Int} (hok : okSizes l = true) (d : Nat) : ∀ (i : Nat) (b out : List Int), i + d = l.length → (∀ x ∈ b, 0 ≤ x ∧ x < 256) → (b.length : Int) = (l.drop i).sum → out.length ≤ i →
  Ev (fun k => pack_Take.l0 k b out l (l.length : Int) (i : Int)) (endTake out (takeGo (l.drop i) b)) := by
 have hk := okSizes_iff.1 hok
 induction d with
 | zero =>
  intro i b out hi hb hsum ho
  refine Ev.step (fun k => pack_Take.l0.eq_2 ..) ?_
  refine Ev.neg (by omega) (Ev.ret ?_)
  rw [List.drop_of_length_le (by omega)]
  simp [takeGo, endTake]
 | succ d ih =>
  intro i b out hi hb hsum ho
  refine Ev.step (fun k => pack_Take.l0.eq_2 ..) ?_
  refine Ev.pos (by omega) (Ev.pos (by omega) (Ev.pos (by omega) ?_))
  have hs := hk.2 _ (rd_mem (l := l) (i := (i : Int)) (by omega) (by omega))
  have hrest := sum_nonneg (l := l.drop (i + 1)) fun x hx => hk.2 x (List.mem_of_mem_drop hx)
  rw [drop_rd (l := l) (i := i) (by omega)] at hsum ⊢
  rw [List.sum_cons] at hsum
  generalize rd l (i : Int) = s at hs hsum ⊢
  have hd : wrap64 (s - 1) = wrap64 ((s.toNat : Int) - 1) := by rw [show (s.toNat : Int) = s by omega]
  rw [hd]
  refine take_l1 hb (by omega) (by omega) s.toNat 0 0 (by omega) (by omega) (by simp) ?_
  have hn := unle_nonneg (b.take s.toNat) fun x hx => hb x (List.mem_of_mem_take hx)
  rw [Int.mul_zero, Int.add_zero]
  refine Ev.ite (fun h => Ev.ret ?_) (fun h => ?_)
  ·have h' : ¬ unle (b.take s.toNat) ≤ 4611686018427387904 := by omega
   simp [takeGo, h', endTake]
  ·refine Ev.pos (by omega) (Ev.pos (by omega) (Ev.pos (by omega) ?_))
   rw [w64_succ (by omega), w64_id (by omega) (by omega)]
   refine Ev.eq (ih (i + 1) (b.drop s.toNat) (out ++ [unle (b.take s.toNat)]) (by omega) (fun x hx => hb x (List.mem_of_mem_drop hx)) (by rw [List.length_drop]; omega) (by simp; omega)) ?_
   have h' : unle (b.take s.toNat) ≤ 4611686018427387904 := by omega
   simp only [takeGo, h', if_true]
   cases takeGo (l.drop (i + 1)) (b.drop s.toNat) <;> simp [endTake]
theorem take_ev (l b : List Int) (hb : ∀ x ∈ b, 0 ≤ x ∧ x < 256) : Ev (fun k => pack_Take.f k l b) (pkTake l b) := by
 refine Ev.congr (fun k => by rw [pack_Take.f]) ?_
 refine Ev.bind (size_ev l) ?_
 refine Ev.ite (fun h => ?_) (fun h => ?_)
 ·have hok : okSizes l = true := by
   cases e : okSizes l
   ·simp [pkSize, e] at h
   ·rfl
  have e1 : pkSize l = (l.sum, true) := by simp [pkSize, hok]
  rw [e1]
  simp only [pkTake, hok, if_true]
  refine Ev.ite (fun h1 => Ev.ret ?_) (fun h1 => Ev.ite (fun h2 => Ev.ret ?_) (fun h2 => ?_))
  ·rw [if_pos h1]
  ·rw [if_neg h1, if_pos h2]
  ·rw [if_neg h1, if_neg h2]
   exact take_l0 hok l.length 0 b [] (by omega) hb (by simp; omega) (by simp)
 ·have hok : okSizes l = false := by
   cases e : okSizes l
   ·rfl
   ·simp [pkSize, e] at h
  refine Ev.ret ?_
  simp [pkTake, hok]
end Go.Proofs.Ytmehbabchakkpaa.PureLadderWalks
namespace Go.Proofs.Ytmehbabchakkpaa.TagMath
open Go.RowKit YtmehbabchakkpaaW.PrintWords
def ofList (l : List Int) : Int × Int × Int × Int × Int :=
 if rd l 0 = 0 ∧ rd l 5 = 0 ∧ mayTag (rd l 1) (rd l 2) (rd l 3) (rd l 4) = true then (rd l 1, rd l 2, rd l 3, rd l 4, 0) else (0, 0, 0, 0, 11)
def takeTag (b : List Int) : Int × Int × Int × Int × Int :=
 if (Go.Proofs.Ytmehbabchakkpaa.PackMath.pkTake sizes b).2 = 0 then ofList (Go.Proofs.Ytmehbabchakkpaa.PackMath.pkTake sizes b).1 else (0, 0, 0, 0, (Go.Proofs.Ytmehbabchakkpaa.PackMath.pkTake sizes b).2)
theorem six {b : List Int} (h : (Go.Proofs.Ytmehbabchakkpaa.PackMath.pkTake sizes b).2 = 0) : (Go.Proofs.Ytmehbabchakkpaa.PackMath.pkTake sizes b).1.length = 6 := by
 have e := Go.Proofs.Ytmehbabchakkpaa.PackMath.pkTake_ok (Prod.ext rfl h : Go.Proofs.Ytmehbabchakkpaa.PackMath.pkTake sizes b = ((Go.Proofs.Ytmehbabchakkpaa.PackMath.pkTake sizes b).1, 0))
 rw [Go.Proofs.Ytmehbabchakkpaa.PackMath.takeGo_length e.2.2]
 rfl
end Go.Proofs.Ytmehbabchakkpaa.TagMath
namespace Go.Proofs.Ytmehbabchakkpaa.PureLadderWalks
open Go.RowKit QLadderWalks YtmehbabchakkpaaW.PrintWords YtmehbabchakkpaaW.PrintLast YtmehbabchakkpaaW.PrintMore EvKit PackMath TagMath
theorem ttake_ev (b : List Int) (hb : ∀ x ∈ b, 0 ≤ x ∧ x < 256) : Ev (fun k => tag_Take.f k b) (takeTag b) := by
 have hbad : ∀ x y z v : Int, Ev (fun k => tag_Take.j0 k true x y z v) (0, 0, 0, 0, 11) := fun x y z v => Ev.step (fun _ => tag_Take.j0.eq_2 ..) (Ev.pos rfl (Ev.ret rfl))
 refine Ev.congr (fun k => by rw [tag_Take.f]) ?_
 refine Ev.bindv (a := sizes) rfl ?_
 refine Ev.bind (take_ev _ _ hb) ?_
 unfold takeTag
 refine Ev.ite (fun h => ?_) (fun h => Ev.ret ?_)
 ·rw [if_pos h]
  have h6 := six h
  generalize (pkTake sizes b).1 = l at h6 ⊢
  unfold ofList
  refine Ev.pos (by omega) ?_
  refine Ev.pos (by omega) ?_
  refine Ev.pos (by omega) ?_
  refine Ev.pos (by omega) ?_
  refine Ev.pos (by omega) ?_
  refine Ev.ite (fun h0 => ?_) (fun h0 => ?_)
  ·refine Ev.pos (by omega) ?_
   refine Ev.ite (fun h5 => ?_) (fun h5 => ?_)
   ·refine Ev.bindv (may_eq _ _ _ _) ?_
    cases hm : mayTag (rd l 1) (rd l 2) (rd l 3) (rd l 4) with
    | true =>
     rw [if_pos ⟨h0, h5, rfl⟩]
     exact Ev.step (fun _ => tag_Take.j0.eq_2 ..) (Ev.neg (by decide) (Ev.ret rfl))
    | false =>
     rw [if_neg fun h => by cases h.2.2]
     exact hbad _ _ _ _
   ·rw [if_neg fun h => h5 h.2.1]
    exact hbad _ _ _ _
  ·rw [if_neg fun h => h0 h.1]
   exact hbad _ _ _ _
 ·rw [if_neg h]
end Go.Proofs.Ytmehbabchakkpaa.PureLadderWalks
namespace Go.Proofs.Ytmehbabchakkpaa.PureLadderWalks
open Go.RowKit QLadderWalks YtmehbabchakkpaaW.PrintWords YtmehbabchakkpaaW.PrintLast YtmehbabchakkpaaW.PrintMore EvKit PackMath TagMath CrcMath NatKit BitsMath ChunkMath
theorem decN_len {r : List Nat} (h : (decN r).2.2 = 0) : (decN r).1.length = r.length - 2 := by
 unfold decN at h ⊢
 split at h
 ·exact absurd h (by decide)
 ·rename_i hn
  rw [if_neg hn]
  have hl : (r.take (r.length - 2)).length = r.length - 2 := by rw [List.length_take]; omega
  unfold decOf at h ⊢
  split at h
  ·rename_i h1
   rw [if_pos h1]
   show (ints _).length = _
   rw [ints_length, hl]
  ·rename_i h1
   rw [if_neg h1]
   split at h
   ·rename_i h2
    rw [if_pos h2]
    show (ints _).length = _
    rw [ints_length, flips_length, hl]
   ·rename_i h2
    rw [if_neg h2]
    split at h
    ·rename_i h3
     rw [if_pos h3]
     show (ints _).length = _
     rw [ints_length, hl]
    ·exact absurd h (by decide)
theorem decN_byte {r : List Nat} (h : ∀ x ∈ r, x < 256) : ∀ x ∈ (decN r).1, 0 ≤ x ∧ x < 256 := by
 have ht : ∀ x ∈ r.take (r.length - 2), x < 256 := fun x hx => h x (List.mem_of_mem_take hx)
 have hnil : ∀ x ∈ ([] : List Int), 0 ≤ x ∧ x < 256 := fun x hx => by cases hx
 unfold decN
 split
 ·exact hnil
 ·unfold decOf
  split
  ·exact ints_byte ht
  ·split
   ·exact ints_byte (flips_lt _ ht)
   ·split
    ·exact ints_byte ht
    ·exact hnil
theorem allR_byte {m : Nat} : ∀ (d : Nat) (L out : List Int) (fx : Int), (∀ x ∈ L, 0 ≤ x ∧ x < 256) → (∀ x ∈ out, 0 ≤ x ∧ x < 256) → ∀ x ∈ (allR m d L out fx).1, 0 ≤ x ∧ x < 256 := by
 intro d
 induction d with
 | zero => intro L out fx _ ho; exact ho
 | succ d ih =>
  intro L out fx hL ho
  unfold allR
  split
  ·exact ih _ _ _ (bytes_drop hL m) (app_byte ho (decN_byte (nats_lt (bytes_take hL m))))
  ·intro x hx
   cases hx
def decB (S C : Nat) (ch lab : List Int) : List Int × Int × Int × Int × Int × Int × Int :=
 if ((8 * lab.length - count (nats lab) : Nat) : Int) ≤ 20 then ([], 0, 0, 0, 0, 2, 0) else
 if (allR (S + 2) C ch [] 0).2.2 = 0 then
  if (decN (nats lab)).2.2 = 0 then
   if ends ((allR (S + 2) C ch [] 0).1 ++ (decN (nats lab)).1) = true then
    if (takeTag ((decN (nats lab)).1.take 24)).2.2.2.2 = 0 then ((allR (S + 2) C ch [] 0).1, (takeTag ((decN (nats lab)).1.take 24)).1, (takeTag ((decN (nats lab)).1.take 24)).2.1, (takeTag ((decN (nats lab)).1.take 24)).2.2.1, (takeTag ((decN (nats lab)).1.take 24)).2.2.2.1, if wrap64 ((allR (S + 2) C ch [] 0).2.1 + (decN (nats lab)).2.1) > 0 then 1 else 0, 0)
    else ([], 0, 0, 0, 0, 0, (takeTag ((decN (nats lab)).1.take 24)).2.2.2.2)
   else ([], 0, 0, 0, 0, 0, 12)
  else ([], 0, 0, 0, 0, 0, (decN (nats lab)).2.2)
 else ([], 0, 0, 0, 0, 0, (allR (S + 2) C ch [] 0).2.2)
def decP (raw : List Int) (a0 a1 a2 a3 a4 a5 a6 : Int) : List Int × Int × Int × Int × Int × Int × Int :=
 if okG a0 a1 a2 a3 a4 a5 a6 ∧ (raw.length : Int) = a3 * (a4 + 2) + 31 then decB a4.toNat a3.toNat (raw.take (raw.length - 31)) ((raw.take (raw.length - 1)).drop (raw.length - 31)) else ([], 0, 0, 0, 0, 0, 2)
theorem label_eq {a0 a1 a2 a3 a4 a5 a6 : Int} {n : Nat} {raw : List Int} (hn : n ≤ 100000) (h : n + 30 ≤ raw.length) : page_shape_label.f a0 a1 a2 a3 a4 a5 a6 (n : Int) raw = some ((raw.take (n + 30)).drop n) := by
 have e : wrap64 (wrap64 ((n : Int) + 28) + 2) = ((n + 30 : Nat) : Int) := by
  rw [w64_id (x := (n : Int) + 28) (by omega) (by omega), w64_id (by omega) (by omega)]
  omega
 unfold page_shape_label.f
 rw [e, Int.toNat_natCast, Int.toNat_natCast, if_pos (by omega), if_pos (by omega), if_pos (by omega)]
theorem chunks_eq {a0 a1 a2 a3 a4 a5 a6 : Int} {n : Nat} {raw : List Int} (h : n ≤ raw.length) : page_shape_chunks.f a0 a1 a2 a3 a4 a5 a6 (n : Int) raw = some (raw.take n) := by
 unfold page_shape_chunks.f
 rw [Int.toNat_natCast, if_pos (by omega), if_pos (by omega)]
theorem size_eq {a0 a1 a2 a3 a4 a5 a6 a7 : Int} (h : okG a0 a1 a2 a3 a4 a5 a6) : page_shape_size.f a0 a1 a2 a3 a4 a5 a6 a7 = some (a3 * (a4 + 2) + 31) := by
 unfold page_shape_size.f
 rw [raw_eq, if_pos h]
 rfl
theorem decB_ev {raw : List Int} (hb : ∀ x ∈ raw, 0 ≤ x ∧ x < 256) {S C : Nat} {q0 q1 q2 q5 q6 : Int} (hS0 : 4 ≤ S) (hS : S ≤ 512) (hC : C ≤ 16) (hl : raw.length = C * (S + 2) + 31) :
  Ev (fun k => page_Decode.j1 k raw 0 q0 q1 q2 (C : Int) (S : Int) q5 q6 ((C * (S + 2) : Nat) : Int)) (decB S C (raw.take (C * (S + 2))) ((raw.take (C * (S + 2) + 30)).drop (C * (S + 2)))) := by
 have hn : C * (S + 2) ≤ 10000 := Nat.le_trans (Nat.mul_le_mul hC (show S + 2 ≤ 514 by omega)) (by decide)
 have hcl : (raw.take (C * (S + 2))).length = C * (S + 2) := by rw [List.length_take]; omega
 have hll : ((raw.take (C * (S + 2) + 30)).drop (C * (S + 2))).length = 30 := by rw [List.length_drop, List.length_take]; omega
 have hcb := bytes_take hb (C * (S + 2))
 have hlb := bytes_drop (bytes_take hb (C * (S + 2) + 30)) (C * (S + 2))
 have hlab := label_eq (a0 := q0) (a1 := q1) (a2 := q2) (a3 := (C : Int)) (a4 := (S : Int)) (a5 := q5) (a6 := q6) (n := C * (S + 2)) (raw := raw) (by omega) (by omega)
 have ech := chunks_eq (a0 := q0) (a1 := q1) (a2 := q2) (a3 := (C : Int)) (a4 := (S : Int)) (a5 := q5) (a6 := q6) (n := C * (S + 2)) (raw := raw) (by omega)
 generalize (raw.take (C * (S + 2) + 30)).drop (C * (S + 2)) = lab at hll hlb hlab ⊢
 generalize raw.take (C * (S + 2)) = ch at hcl hcb ech ⊢
 have hz := zeros_ev hlb (by omega)
 have ha := all_on (L := ch) (m := S + 2) (d := C) ⟨by omega, by omega⟩ hcl hcb (by omega)
 rw [show ((S + 2 : Nat) : Int) - 2 = (S : Int) by omega] at ha
 have hal := allR_short (S + 2) C ch [] 0 hcl
 have hab := allR_byte (m := S + 2) C ch [] 0 hcb (fun x hx => by cases hx)
 have hd := decode_ev hlb (by omega)
 have hdl := decN_len (r := nats lab)
 have hdb := decN_byte (nats_lt hlb)
 rw [nats_length, hll] at hdl
 rw [List.length_nil, hcl] at hal
 refine Ev.step (fun k => page_Decode.j1.eq_2 ..) ?_
 refine Ev.bindv hlab (Ev.bind hz ?_)
 unfold decB
 refine Ev.ite (fun h => ?_) (fun h => ?_)
 ·rw [if_pos h]
  exact Ev.ret rfl
 rw [if_neg h]
 clear h hz
 refine Ev.step (fun k => page_Decode.j2.eq_2 ..) ?_
 refine Ev.bindv ech (Ev.bind ha ?_)
 clear ha ech
 generalize allR (S + 2) C ch [] 0 = A at hal hab ⊢
 refine Ev.ite (fun h => ?_) (fun h => ?_)
 ·rw [if_pos h]
  refine Ev.step (fun k => page_Decode.j3.eq_2 ..) ?_
  refine Ev.bindv hlab (Ev.bind hd ?_)
  clear hd hlab
  generalize decN (nats lab) = D at hdl hdb ⊢
  refine Ev.ite (fun h2 => ?_) (fun h2 => ?_)
  ·rw [if_pos h2]
   have hdl2 := hdl h2
   have hcheck := check_ev (b := A.1 ++ D.1) (app_byte hab hdb) (by rw [List.length_append]; omega)
   have htake := ttake_ev (D.1.take 24) (bytes_take hdb 24)
   refine Ev.step (fun k => page_Decode.j4.eq_2 ..) ?_
   refine Ev.bindv rfl (Ev.pos (by rw [List.length_nil]; omega) (Ev.bindv rfl ?_))
   rw [List.nil_append]
   refine Ev.pos (by omega) (Ev.bind hcheck ?_)
   refine Ev.ite (fun h3 => ?_) (fun h3 => ?_)
   ·rw [if_pos h3]
    refine Ev.step (fun k => page_Decode.j5.eq_2 ..) ?_
    refine Ev.pos (by omega) (Ev.bind htake ?_)
    generalize takeTag (D.1.take 24) = t
    refine Ev.ite (fun h4 => ?_) (fun h4 => ?_)
    ·rw [if_pos h4]
     refine Ev.ite (fun h5 => ?_) (fun h5 => ?_)
     ·rw [if_pos h5]
      exact Ev.ret rfl
     ·rw [if_neg h5]
      exact Ev.ret rfl
    ·rw [if_neg h4]
     exact Ev.ret rfl
   ·rw [if_neg h3]
    exact Ev.ret rfl
  ·rw [if_neg h2]
   exact Ev.ret rfl
 ·rw [if_neg h]
  exact Ev.ret rfl
theorem pdec_ev {raw : List Int} (hb : ∀ x ∈ raw, 0 ≤ x ∧ x < 256) (a0 a1 a2 a3 a4 a5 a6 : Int) : Ev (fun k => page_Decode.f k a0 a1 a2 a3 a4 a5 a6 raw) (decP raw a0 a1 a2 a3 a4 a5 a6) := by
 refine Ev.congr (fun k => by rw [page_Decode.f]) ?_
 refine Ev.bindv of_eq ?_
 dsimp only
 have hbad : ∀ (q0 q1 q2 q3 q4 q5 q6 q7 : Int), ¬ (okG a0 a1 a2 a3 a4 a5 a6 ∧ (raw.length : Int) = a3 * (a4 + 2) + 31) → Ev (fun k => page_Decode.j0 k raw 0 true q0 q1 q2 q3 q4 q5 q6 q7) (decP raw a0 a1 a2 a3 a4 a5 a6) := fun q0 q1 q2 q3 q4 q5 q6 q7 h => by
  refine Ev.step (fun k => page_Decode.j0.eq_2 ..) (Ev.pos rfl (Ev.ret ?_))
  unfold decP
  rw [if_neg h]
 by_cases hg : okG a0 a1 a2 a3 a4 a5 a6
 ·refine Ev.pos (decide_eq_true hg) (Ev.bindv (size_eq hg) ?_)
  by_cases hl : (raw.length : Int) = a3 * (a4 + 2) + 31
  ·have e : ((raw.length : Int) != a3 * (a4 + 2) + 31) = false := bne_eq_false_iff_eq.2 hl
   rw [e]
   refine Ev.step (fun k => page_Decode.j0.eq_2 ..) (Ev.neg (by decide) ?_)
   unfold decP
   rw [if_pos ⟨hg, hl⟩]
   obtain ⟨h3, h4⟩ := okG_bounds hg
   have hm := mul_bound h3 (y := a4 + 2) ⟨by omega, by omega⟩
   rw [w64_id (x := a4 + 2) (by omega) (by omega), w64_id (x := a3 * (a4 + 2)) (by omega) (by omega)]
   obtain ⟨C, rfl⟩ := Int.eq_ofNat_of_zero_le (a := a3) (by omega)
   obtain ⟨S, rfl⟩ := Int.eq_ofNat_of_zero_le (a := a4) (by omega)
   have en : (C : Int) * ((S : Int) + 2) = ((C * (S + 2) : Nat) : Int) := by rw [Int.natCast_mul, Int.natCast_add]; rfl
   rw [en] at hl ⊢
   have hl2 : raw.length = C * (S + 2) + 31 := by omega
   rw [Int.toNat_natCast, Int.toNat_natCast, show raw.length - 31 = C * (S + 2) by omega, show raw.length - 1 = C * (S + 2) + 30 by omega]
   exact decB_ev hb (by omega) (by omega) (by omega) hl2
  ·have e : ((raw.length : Int) != a3 * (a4 + 2) + 31) = true := bne_iff_ne.2 hl
   rw [e]
   exact hbad _ _ _ _ _ _ _ _ (fun z => hl z.2)
 ·rw [decide_eq_false hg]
  exact Ev.neg (by decide) (hbad _ _ _ _ _ _ _ _ (fun z => hg z.1))
end Go.Proofs.Ytmehbabchakkpaa.PureLadderWalks
namespace Go.Proofs.Ytmehbabchakkpaa.PureLadderWalks
open Go.RowKit QLadderWalks YtmehbabchakkpaaW.PrintWords YtmehbabchakkpaaW.PrintLast YtmehbabchakkpaaW.PrintMore EvKit PackMath TagMath CrcMath NatKit BitsMath ChunkMath
abbrev R8 := List Int × Int × Int × Int × Int × Int × Int × Int
def badR (e : Int) : R8 := ([], 0, 0, 0, 0, 0, 0, e)
def walkN (dec : List Int → List Int × Int × Int × Int × Int × Int × Int) : List (List Int) → Int → R8
 | [], _ => badR 30
 | l :: ls, i => if (dec l).2.2.2.2.2.2 = 0 then ((dec l).1, (dec l).2.1, (dec l).2.2.1, (dec l).2.2.2.1, (dec l).2.2.2.2.1, (dec l).2.2.2.2.2.1, i, 0) else if (dec l).2.2.2.2.2.2 = 2 then badR 2 else walkN dec ls (i + 1)
theorem walk_ev {ls : List (List Int)} {a0 a1 a2 a3 a4 a5 a6 : Int} (hb : ∀ l ∈ ls, ∀ x ∈ l, 0 ≤ x ∧ x < 256) (hn : (ls.length : Int) ≤ a5) (hs : ls.length ≤ 1000000) : ∀ (d i : Nat), i + d = ls.length → Ev (fun k => ladder_Climb.w0 k a0 a1 a2 a3 a4 a5 a6 ls (i : Int)) (walkN (fun l => decP l a0 a1 a2 a3 a4 a5 a6) (ls.drop i) (i : Int)) := by
 intro d
 induction d with
 | zero =>
  intro i hi
  refine Ev.step (fun k => ladder_Climb.w0.eq_2 ..) ?_
  rw [List.drop_eq_nil_of_le (by omega)]
  exact Ev.ite (fun _ => Ev.neg (by omega) (Ev.ret rfl)) (fun _ => Ev.ret rfl)
 | succ d ih =>
  intro i hi
  have hlt : i < ls.length := by omega
  have hg : ls.getD i [] = ls[i] := by simp [hlt]
  refine Ev.step (fun k => ladder_Climb.w0.eq_2 ..) ?_
  rw [Int.toNat_natCast, hg, w64_succ (by omega), List.drop_eq_getElem_cons hlt]
  refine Ev.pos (by omega) (Ev.pos (by omega) (Ev.bind (pdec_ev (hb _ (List.getElem_mem hlt)) a0 a1 a2 a3 a4 a5 a6) ?_))
  have ih2 := ih (i + 1) (by omega)
  unfold walkN
  refine Ev.ite (fun h => ?_) (fun h => ?_)
  ·rw [if_pos h]
   exact Ev.ret rfl
  ·rw [if_neg h]
   refine Ev.ite (fun h2 => ?_) (fun h2 => ?_)
   ·rw [if_pos h2]
    exact Ev.ret rfl
   ·rw [if_neg h2]
    exact ih2
def climbP (ls : List (List Int)) (a0 a1 a2 a3 a4 a5 a6 : Int) : R8 :=
 if okG a0 a1 a2 a3 a4 a5 a6 ∧ ls.length ≠ 0 ∧ (ls.length : Int) ≤ a5 ∧ (ls.all fun l => decide ((l.length : Int) = a3 * (a4 + 2) + 31)) = true then walkN (fun l => decP l a0 a1 a2 a3 a4 a5 a6) ls 0 else badR 2
theorem climb_ev {ls : List (List Int)} (hb : ∀ l ∈ ls, ∀ x ∈ l, 0 ≤ x ∧ x < 256) (hs : ls.length ≤ 1000000) (a0 a1 a2 a3 a4 a5 a6 : Int) : Ev (fun k => ladder_Climb.f k a0 a1 a2 a3 a4 a5 a6 ls) (climbP ls a0 a1 a2 a3 a4 a5 a6) := by
 refine Ev.congr (fun k => by rw [ladder_Climb.f]) ?_
 refine Ev.bindv check_eq ?_
 unfold climbP
 by_cases hg : okG a0 a1 a2 a3 a4 a5 a6
 ·rw [if_pos hg]
  refine Ev.pos rfl (Ev.ite (fun h => ?_) (fun h => Ev.ite (fun h2 => ?_) (fun h2 => ?_)))
  ·rw [if_neg (fun z => z.2.1 h)]
   exact Ev.ret rfl
  ·rw [if_neg (fun z => by have := z.2.2.1; omega)]
   exact Ev.ret rfl
  ·refine Ev.bindv raw_eq ?_
   rw [if_pos hg]
   refine Ev.ite (fun h3 => ?_) (fun h3 => ?_)
   ·rw [if_pos ⟨hg, h, by omega, h3⟩]
    exact walk_ev hb (by omega) hs ls.length 0 (by omega)
   ·rw [if_neg (fun z => h3 z.2.2.2)]
    exact Ev.ret rfl
 ·rw [if_neg hg, if_neg (fun z => hg z.1)]
  exact Ev.neg (by decide) (Ev.ret rfl)
theorem small_some (a0 a1 a2 a3 a4 a5 a6 : Int) : ∃ b, l08_Small.f a0 a1 a2 a3 a4 a5 a6 = some b := by
 unfold l08_Small.f
 split
 ·split
  ·split
   ·exact ⟨_, rfl⟩
   ·exact ⟨_, rfl⟩
  ·exact ⟨_, rfl⟩
 ·exact ⟨_, rfl⟩
theorem few_l0 {ls : List (List Int)} (hs : ls.length ≤ 9000000000000) (a0 a1 a2 a3 a4 a5 a6 : Int) : ∀ (d i : Nat), i + d = ls.length → ∃ b, (b = true → ls.length ≤ 12) ∧ Ev (fun k => l09_few.l0 k ls ls (ls.length : Int) (i : Int) a0 a1 a2 a3 a4 a5 a6) b := by
 intro d
 induction d with
 | zero =>
  intro i hi
  obtain ⟨b, hb⟩ := small_some a0 a1 a2 a3 a4 a5 a6
  cases b with
  | true =>
   refine ⟨decide ((ls.length : Int) ≤ 12), fun h => (by have := of_decide_eq_true h; omega), ?_⟩
   refine Ev.step (fun k => l09_few.l0.eq_2 ..) ?_
   exact Ev.neg (by omega) (Ev.bindv hb (Ev.pos rfl (Ev.ret rfl)))
  | false =>
   refine ⟨false, fun h => (by cases h), ?_⟩
   refine Ev.step (fun k => l09_few.l0.eq_2 ..) ?_
   exact Ev.neg (by omega) (Ev.bindv hb (Ev.neg (by decide) (Ev.ret rfl)))
 | succ d ih =>
  intro i hi
  obtain ⟨b, h1, h2⟩ := ih (i + 1) (by omega)
  by_cases h : ((rd_L3 ls (i : Int)).length : Int) > 400
  ·refine ⟨false, fun h => (by cases h), ?_⟩
   refine Ev.step (fun k => l09_few.l0.eq_2 ..) ?_
   exact Ev.pos (by omega) (Ev.pos (by omega) (Ev.pos (by omega) (Ev.pos h (Ev.ret rfl))))
  ·refine ⟨b, h1, ?_⟩
   refine Ev.step (fun k => l09_few.l0.eq_2 ..) ?_
   refine Ev.pos (by omega) (Ev.pos (by omega) (Ev.pos (by omega) (Ev.neg h ?_)))
   rw [w64_succ (by omega)]
   exact h2
theorem few_ev {ls : List (List Int)} (hs : ls.length ≤ 9000000000000) (a0 a1 a2 a3 a4 a5 a6 : Int) : ∃ b, (b = true → ls.length ≤ 12) ∧ Ev (fun k => l09_few.f k a0 a1 a2 a3 a4 a5 a6 ls) b := by
 obtain ⟨b, h1, h2⟩ := few_l0 hs a0 a1 a2 a3 a4 a5 a6 ls.length 0 (by omega)
 refine ⟨b, h1, ?_⟩
 refine Ev.congr (fun k => by rw [l09_few.f]) ?_
 exact h2
theorem psame_ev {l : List Int} {t1 t2 t3 t4 s : Int} (h : l.length < 1000000000) : Ev (fun k => l09_Same.f k l t1 t2 t3 t4 s l t1 t2 t3 t4 s) true := by
 refine Ev.congr (fun k => by rw [l09_Same.f]) ?_
 have hs := same_ev l l h
 rw [decide_eq_true rfl] at hs
 exact Ev.bind hs (Ev.pos rfl (Ev.pos (by simp) (Ev.ret (by simp))))
theorem decP_short (raw : List Int) (a0 a1 a2 a3 a4 a5 a6 : Int) : (decP raw a0 a1 a2 a3 a4 a5 a6).1.length < 1000000000 := by
 unfold decP
 split
 ·rename_i hg
  obtain ⟨h3, h4⟩ := okG_bounds hg.1
  have hm := mul_bound h3 (y := a4 + 2) ⟨by omega, by omega⟩
  have hl := hg.2
  obtain ⟨C, rfl⟩ := Int.eq_ofNat_of_zero_le (a := a3) (by omega)
  obtain ⟨S, rfl⟩ := Int.eq_ofNat_of_zero_le (a := a4) (by omega)
  have en : (C : Int) * ((S : Int) + 2) = ((C * (S + 2) : Nat) : Int) := by rw [Int.natCast_mul, Int.natCast_add]; rfl
  rw [en] at hl
  rw [Int.toNat_natCast, Int.toNat_natCast, show raw.length - 31 = C * (S + 2) by omega]
  have hcl : (raw.take (C * (S + 2))).length = C * (S + 2) := by rw [List.length_take]; omega
  have hal := allR_short (S + 2) C _ [] 0 hcl
  rw [List.length_nil, hcl] at hal
  unfold decB
  repeat' split
  all_goals first | exact Nat.zero_lt_succ _ | (show (allR (S + 2) C _ [] 0).1.length < _; omega)
 ·exact Nat.zero_lt_succ _
theorem ladder_awake_ev : Ev (fun k => l09_awake.f k) true := by
 refine Ev.congr (fun k => by rw [l09_awake.f]) ?_
 refine Ev.bindv rfl (Ev.bindv rfl ?_)
 dsimp only
 have hr : rawN 1 2 4 1 4 2 1 = 37 := by decide
 have he := erased_ev 1 2 4 1 4 2 1
 rw [hr] at he
 refine Ev.bind he ?_
 refine Ev.bind (climb_ev (ls := [List.replicate 37 255]) (fun l hl x hx => by
  rw [List.mem_singleton.1 hl] at hx
  obtain rfl := (List.mem_replicate.1 hx).2
  exact ⟨by decide, by decide⟩) (by decide) 1 2 4 1 4 2 1) ?_
 have hg : okG 1 2 4 1 4 2 1 := by decide
 have hd : decP (List.replicate 37 255) 1 2 4 1 4 2 1 = ([], 0, 0, 0, 0, 2, 0) := by
  unfold decP
  rw [if_pos ⟨hg, by decide⟩]
  unfold decB
  rw [if_pos (by decide +kernel)]
 have e : climbP [List.replicate 37 255] 1 2 4 1 4 2 1 = ([], 0, 0, 0, 0, 2, 0, 0) := by
  unfold climbP
  rw [if_pos ⟨hg, by decide, by decide, by decide⟩]
  unfold walkN
  rw [hd]
  rfl
 rw [e]
 exact Ev.pos rfl (Ev.pos rfl (Ev.ret rfl))
end Go.Proofs.Ytmehbabchakkpaa.PureLadderWalks
namespace Go.Proofs.Ytmehbabchakkpaa.PureLadderWalks
open Go.RowKit QLadderWalks YtmehbabchakkpaaW.PrintWords YtmehbabchakkpaaW.PrintLast YtmehbabchakkpaaW.PrintMore EvKit PackMath
theorem rsize_l0 (l : List Int) (hl : l.length ≤ 1000000) (d : Nat) : ∀ (i : Nat) (n : Int), i + d = l.length → i ≤ 64 → 0 ≤ n → n ≤ 8 * i →
  Ev (fun k => r03_Size.l0 k l n (i : Int)) (if (decide (l.length ≤ 64) && (l.drop i).all (fun s => decide (1 ≤ s) && decide (s ≤ 8))) then (n + (l.drop i).sum, true) else (0, false)) := by
 induction d with
 | zero =>
  intro i n hi h64 h0 h1
  refine Ev.step (fun k => r03_Size.l0.eq_2 ..) ?_
  refine Ev.neg (by omega) (Ev.ret ?_)
  rw [List.drop_of_length_le (by omega)]
  have : l.length ≤ 64 := by omega
  simp [this]
 | succ d ih =>
  intro i n hi h64 h0 h1
  refine Ev.step (fun k => r03_Size.l0.eq_2 ..) ?_
  refine Ev.pos (by omega) (Ev.ite (fun h => Ev.ret ?_) (fun h => Ev.pos (by omega) ?_))
  ·have : ¬ l.length ≤ 64 := by omega
   simp [this]
  rw [drop_rd (l := l) (i := i) (by omega)]
  generalize rd l (i : Int) = s
  refine Ev.ite (fun h => Ev.ret ?_) (fun h => Ev.ite (fun h' => Ev.ret ?_) (fun h' => ?_))
  ·have : ¬ 1 ≤ s := by omega
   simp [this]
  ·have : ¬ s ≤ 8 := by omega
   simp [this]
  ·rw [w64_succ (by omega), w64_id (by omega) (by omega)]
   refine Ev.eq (ih (i + 1) (n + s) (by omega) (by omega) (by omega) (by omega)) ?_
   have e1 : 1 ≤ s := by omega
   have e2 : s ≤ 8 := by omega
   simp only [List.all_cons, List.sum_cons, e1, e2, decide_true, Bool.true_and, Int.add_assoc]
theorem rsize_ev (l : List Int) (hl : l.length ≤ 1000000) : Ev (fun k => r03_Size.f k l) (pkSize l) := by
 refine Ev.congr (fun k => by rw [r03_Size.f]) ?_
 refine Ev.eq (rsize_l0 l hl l.length 0 0 (by omega) (by omega) (by omega) (by omega)) ?_
 simp [pkSize, okSizes]
end Go.Proofs.Ytmehbabchakkpaa.PureLadderWalks
namespace Go.Proofs.Ytmehbabchakkpaa.PureLadderWalks
open Go.RowKit QLadderWalks YtmehbabchakkpaaW.PrintWords YtmehbabchakkpaaW.PrintLast YtmehbabchakkpaaW.PrintMore EvKit PackMath
end Go.Proofs.Ytmehbabchakkpaa.PureLadderWalks
namespace Go.Proofs.Ytmehbabchakkpaa.PureLadderWalks
open Go.RowKit QLadderWalks YtmehbabchakkpaaW.PrintWords YtmehbabchakkpaaW.PrintLast YtmehbabchakkpaaW.PrintMore EvKit PackMath
theorem rpow7 {m : Nat} (h : m ≤ 7) : (256 : Int) ^ m ≤ 72057594037927936 := by
 have : m = 0 ∨ m = 1 ∨ m = 2 ∨ m = 3 ∨ m = 4 ∨ m = 5 ∨ m = 6 ∨ m = 7 := by omega
 rcases this with rfl | rfl | rfl | rfl | rfl | rfl | rfl | rfl <;> decide
theorem rpow_next {j : Nat} (h : j ≤ 7) (h7 : j ≠ 7) : (256 : Int) ^ j * 256 ≤ 72057594037927936 := by
 have := rpow7 (m := j + 1) (by omega)
 rwa [Int.pow_succ] at this
theorem rtake_succ {b : List Int} {d : Nat} (h : d < b.length) : b.take (d + 1) = b.take d ++ [rd b (d : Int)] := by
 rw [List.take_succ_eq_append_getElem h, rd_nat h]
theorem rd_drop {b : List Int} {a j : Nat} (h : a + j < b.length) : rd (b.drop a) (j : Int) = rd b ((a + j : Nat) : Int) := by
 rw [rd_nat h, rd_nat (by rw [List.length_drop]; omega), List.getElem_drop]
theorem rtake_l1 {l b out : List Int} {s : Int} {i a m : Nat} {r : List Int × Int} (U : Nat → Int) (hU0 : ∀ j, j ≤ m → 0 ≤ U j ∧ U j < 256 ^ j) (hU : ∀ j, j < m → U (j + 1) = U j + 256 ^ j * rd b ((a + j : Nat) : Int))
  (hb : ∀ x ∈ b, 0 ≤ x ∧ x < 256) (hi : i < l.length) (hs : rd l (i : Int) = s) (hm : s = m) (h8 : m ≤ 8) (hab : a + m ≤ b.length) (hbl : b.length < 1000000) (ho : out.length < 17592186044416)
  (hgo : U m ≤ 4611686018427387904 → Ev (fun k => r03_Take.l0 k l b (out ++ [U m]) (wrap64 ((a : Int) + s)) (wrap64 ((i : Int) + 1))) r)
  (hno : 4611686018427387904 < U m → r = ([], 11)) (d : Nat) :
  ∀ (j : Nat) (n sc : Int), j + d = m → (j ≤ 7 → sc = 256 ^ j) → n = U j → n ≤ 4611686018427387904 →
  Ev (fun k => r03_Take.l1 k l b out (a : Int) (i : Int) n sc (j : Int)) r := by
 have i0 : (0 : Int) ≤ (i : Int) := Int.natCast_nonneg _
 have i1 : (i : Int) < (l.length : Int) := by exact_mod_cast hi
 induction d with
 | zero =>
  intro j n sc hj hsc hnv hn
  have e : j = m := hj
  have g : ¬ (j : Int) < rd l (i : Int) := by rw [hs, hm, e]; exact Int.lt_irrefl _
  refine Ev.step (fun k => r03_Take.l1.eq_2 ..) ?_
  refine Ev.pos i0 ?_
  refine Ev.pos i1 ?_
  refine Ev.neg g ?_
  refine Ev.pos ho ?_
  subst e
  subst hnv
  rw [hs]
  exact hgo hn
 | succ d ih =>
  intro j n sc hj hsc hnv hn
  have hjm : j < m := by clear hgo hno hU hU0 ih; omega
  have hj7 : j ≤ 7 := by clear hgo hno hU hU0 ih; omega
  have hjl : a + j < b.length := by clear hgo hno hU hU0 ih; omega
  have hsc := hsc hj7
  subst hsc
  have g : (j : Int) < rd l (i : Int) := by rw [hs, hm]; exact_mod_cast hjm
  have q0 : (0 : Int) ≤ ((a + j : Nat) : Int) := Int.natCast_nonneg _
  have q1 : ((a + j : Nat) : Int) < (b.length : Int) := by exact_mod_cast hjl
  have hw : wrap64 ((a : Int) + (j : Int)) = ((a + j : Nat) : Int) := by
   rw [← Int.natCast_add]
   exact w64_id (by clear hgo hno hU hU0 ih; omega) (by clear hgo hno hU hU0 ih; omega)
  have hw1 : wrap64 ((j : Int) + 1) = ((j + 1 : Nat) : Int) := w64_succ (by clear hgo hno hU hU0 ih; omega)
  have hc := hb _ (rd_mem q0 q1)
  have hsucc := hU j hjm
  have hn0 := hU0 j (Nat.le_of_lt hjm)
  have hn2 := ih (j + 1) (n + 256 ^ j * rd b ((a + j : Nat) : Int))
  have hp := rpow7 hj7
  have hp0 : 0 < (256 : Int) ^ j := Int.pow_pos (by decide)
  have hp1 : j ≠ 7 → (256 : Int) ^ j * 256 ≤ 72057594037927936 := rpow_next hj7
  have hp7 : j = 7 → (256 : Int) ^ j = 72057594037927936 := by rintro rfl; decide
  have hps : ∀ x : Int, x = 256 ^ j * 256 → x = 256 ^ (j + 1) := by rintro x rfl; exact (Int.pow_succ 256 j).symm
  rw [← hnv] at hn0 hsucc
  clear hgo hU hU0 ih hnv
  refine Ev.step (fun k => r03_Take.l1.eq_2 ..) ?_
  refine Ev.pos i0 ?_
  refine Ev.pos i1 ?_
  refine Ev.pos g ?_
  rw [hw, hw1]
  refine Ev.pos q0 ?_
  refine Ev.pos q1 ?_
  clear hw hw1 g
  generalize rd b ((a + j : Nat) : Int) = c at hc hsucc hn2 ⊢
  have hc1 : wrap64 c = c := w64_id (Int.le_trans (by decide) hc.1) (Int.le_trans (Int.le_of_lt hc.2) (by decide))
  rw [hc1, Int.mul_comm c]
  clear hc1
  generalize (256 : Int) ^ j = p at hn0 hsucc hn2 hp hp0 hp1 hp7 hps ⊢
  have hm0 : 0 ≤ p * c := Int.mul_nonneg (Int.le_of_lt hp0) hc.1
  have hm1 : p * c ≤ p * 256 := Int.mul_le_mul_of_nonneg_left (Int.le_of_lt hc.2) (Int.le_of_lt hp0)
  have next : n + p * c ≤ 4611686018427387904 → Ev (fun k => r03_Take.l1 k l b out (a : Int) (i : Int) (wrap64 (n + wrap64 (p * c))) (wrap64 (p * 256)) ((j + 1 : Nat) : Int)) r := by
   intro hle
   have f1 : wrap64 (p * c) = p * c := w64_id (Int.le_trans (by decide) hm0) (by omega)
   have f2 : wrap64 (n + p * c) = n + p * c := w64_id (by omega) (by omega)
   rw [f1, f2]
   clear f1 f2
   refine hn2 _ (by omega) (fun h7 => hps _ (w64_id (by omega) ?_)) hsucc.symm hle
   have := hp1 (by omega)
   omega
  by_cases h7 : j = 7
  ·have e7 := hp7 h7
   subst e7
   subst h7
   have hm8 : m = 8 := by omega
   subst hm8
   have hbad : 4611686018427387904 < n + 72057594037927936 * c → ([], 11) = r := by
    intro h
    refine (hno ?_).symm
    rw [hsucc]
    exact h
   clear hno hn2 hsucc hps hp1
   exact Ev.pos rfl (Ev.ite (fun h => Ev.ret (hbad (by omega))) (fun h => Ev.ite (fun h' => Ev.ite (fun h'' => Ev.ret (hbad (by omega))) (fun h'' => next (by omega))) (fun h' => next (by omega))))
  ·have h6 := hp1 h7
   have h7' : ¬ (j : Int) = 7 := by omega
   exact Ev.neg h7' (next (by omega))
theorem rtake_l0 {l b : List Int} (hok : okSizes l = true) (hb : ∀ x ∈ b, 0 ≤ x ∧ x < 256) (hbl : b.length < 1000000) (d : Nat) : ∀ (i a : Nat) (out : List Int), i + d = l.length → a ≤ b.length → (b.length : Int) = a + (l.drop i).sum → out.length ≤ i →
  Ev (fun k => r03_Take.l0 k l b out (a : Int) (i : Int)) (endTake out (takeGo (l.drop i) (b.drop a))) := by
 have hk := okSizes_iff.1 hok
 induction d with
 | zero =>
  intro i a out hi ha hsum ho
  refine Ev.step (fun k => r03_Take.l0.eq_2 ..) ?_
  refine Ev.neg (by omega) (Ev.ret ?_)
  rw [List.drop_of_length_le (by omega)]
  simp [takeGo, endTake]
 | succ d ih =>
  intro i a out hi ha hsum ho
  refine Ev.step (fun k => r03_Take.l0.eq_2 ..) ?_
  refine Ev.pos (by omega) ?_
  have hs := hk.2 _ (rd_mem (l := l) (i := (i : Int)) (by omega) (by omega))
  have hrest := sum_nonneg (l := l.drop (i + 1)) fun x hx => hk.2 x (List.mem_of_mem_drop hx)
  rw [drop_rd (l := l) (i := i) (by omega)] at hsum ⊢
  rw [List.sum_cons] at hsum
  generalize hsv : rd l (i : Int) = s at hs hsum ⊢
  obtain ⟨m, rfl⟩ := Int.eq_ofNat_of_zero_le (show 0 ≤ s by omega)
  have hm8 : m ≤ 8 := by omega
  have ham : a + m ≤ b.length := by omega
  have g1 : i + 1 + d = l.length := by omega
  have g2 : (b.length : Int) = ((a + m : Nat) : Int) + (l.drop (i + 1)).sum := by omega
  have g3 : out.length + 1 ≤ i + 1 := by omega
  have g4 : i < l.length := by omega
  have g5 : out.length < 17592186044416 := by omega
  have w1 : wrap64 ((i : Int) + 1) = ((i + 1 : Nat) : Int) := w64_succ (by omega)
  have w2 : wrap64 ((a : Int) + (m : Int)) = ((a + m : Nat) : Int) := by rw [← Int.natCast_add]; exact w64_id (by clear w1; omega) (by clear w1; omega)
  have hab : ∀ j, j ≤ m → ((b.drop a).take j).length = j := fun j hj => by clear w1 w2; rw [List.length_take, List.length_drop]; omega
  have hbj : ∀ j, ∀ x ∈ (b.drop a).take j, 0 ≤ x ∧ x < 256 := fun j x hx => hb x (List.mem_of_mem_drop (List.mem_of_mem_take hx))
  have h1 : ∀ j, j ≤ m → 0 ≤ unle ((b.drop a).take j) ∧ unle ((b.drop a).take j) < 256 ^ j := by
   intro j hj
   have := unle_lt _ (hbj j)
   rw [hab j hj] at this
   exact ⟨unle_nonneg _ (hbj j), this⟩
  have h2 : ∀ j, j < m → unle ((b.drop a).take (j + 1)) = unle ((b.drop a).take j) + 256 ^ j * rd b ((a + j : Nat) : Int) := by
   intro j hj
   clear w1 w2 h1
   rw [rtake_succ (by rw [List.length_drop]; omega), unle_append, hab j (by omega), rd_drop (by omega)]
   simp [unle]
  refine rtake_l1 (U := fun j => unle ((b.drop a).take j)) h1 h2 hb g4 hsv rfl hm8 ham hbl g5 ?_ ?_ m 0 0 1 (Nat.zero_add m) (by intro _; rfl) (by simp [unle]) (by decide)
  ·intro hle
   rw [w1, w2]
   refine Ev.eq (ih (i + 1) (a + m) _ g1 ham g2 (by rw [List.length_append, List.length_singleton]; exact g3)) ?_
   have et : takeGo ((m : Int) :: l.drop (i + 1)) (b.drop a) = (takeGo (l.drop (i + 1)) (b.drop (a + m))).map (unle ((b.drop a).take m) :: ·) := by
    rw [takeGo, Int.toNat_natCast, if_pos hle, List.drop_drop]
   rw [et]
   cases takeGo (l.drop (i + 1)) (b.drop (a + m))
   ·rfl
   ·simp only [endTake, Option.map_some, List.append_assoc, List.singleton_append]
  ·intro hle
   have hle' : ¬ unle ((b.drop a).take m) ≤ 4611686018427387904 := Int.not_le.2 hle
   have et : takeGo ((m : Int) :: l.drop (i + 1)) (b.drop a) = none := by
    rw [takeGo, Int.toNat_natCast, if_neg hle']
   rw [et]
   rfl
theorem rtake_ev (l b : List Int) (hl : l.length ≤ 1000000) (hb : ∀ x ∈ b, 0 ≤ x ∧ x < 256) (hbl : b.length < 1000000) : Ev (fun k => r03_Take.f k l b) (pkTake l b) := by
 refine Ev.congr (fun k => by rw [r03_Take.f]) ?_
 refine Ev.bind (rsize_ev l hl) ?_
 refine Ev.ite (fun h => ?_) (fun h => ?_)
 ·have hok : okSizes l = true := by
   cases e : okSizes l
   ·simp [pkSize, e] at h
   ·rfl
  have e1 : pkSize l = (l.sum, true) := by simp [pkSize, hok]
  rw [e1]
  simp only [pkTake, hok, if_true]
  refine Ev.ite (fun h1 => Ev.ret ?_) (fun h1 => Ev.ite (fun h2 => Ev.ret ?_) (fun h2 => ?_))
  ·rw [if_pos h1]
  ·rw [if_neg h1, if_pos h2]
  ·rw [if_neg h1, if_neg h2]
   have := rtake_l0 hok hb hbl l.length 0 0 [] (by omega) (by omega) (by simp; omega) (by simp)
   simpa using this
 ·have hok : okSizes l = false := by
   cases e : okSizes l
   ·rfl
   ·simp [pkSize, e] at h
  refine Ev.ret ?_
  simp [pkTake, hok]
end Go.Proofs.Ytmehbabchakkpaa.PureLadderWalks
namespace Go.Proofs.Ytmehbabchakkpaa.PureLadderWalks
open Go.RowKit QLadderWalks YtmehbabchakkpaaW.PrintWords YtmehbabchakkpaaW.PrintLast YtmehbabchakkpaaW.PrintMore EvKit PackMath TagMath
theorem from_eq (n low high : Int) : r07_from.f n low high = some (between n low high) := by
 unfold r07_from.f between
 by_cases h : n ≥ low
 ·rw [if_pos h]
  have h' : low ≤ n := h
  simp [h']
 ·rw [if_neg h]
  have h' : ¬ low ≤ n := h
  simp [h']
theorem rmay_eq (a b c d : Int) : r07_May.f a b c d = some (mayTag a b c d) := by
 unfold r07_May.f mayTag
 rw [from_eq, from_eq, from_eq, from_eq]
 simp only [Option.bind_some]
 cases between a 1 4 <;> cases between b 0 2147483648 <;> cases between c 0 2305843009213693952 <;> cases between d 0 2147483648 <;> rfl
theorem rttake_ev (b : List Int) (hb : ∀ x ∈ b, 0 ≤ x ∧ x < 256) (hl : b.length < 1000000) : Ev (fun k => r07_Take.f k b) (takeTag b) := by
 refine Ev.congr (fun k => by rw [r07_Take.f]) ?_
 refine Ev.bindv (a := sizes) rfl ?_
 refine Ev.bind (rtake_ev _ _ (by decide) hb hl) ?_
 unfold takeTag
 refine Ev.ite (fun h => ?_) (fun h => Ev.ret ?_)
 ·rw [if_pos h]
  have h6 := six h
  generalize (pkTake sizes b).1 = l at h6 ⊢
  unfold ofList
  refine Ev.step (fun k => r07_Take.j0.eq_2 ..) ?_
  refine Ev.pos (by omega) (Ev.pos (by omega) (Ev.pos (by omega) (Ev.pos (by omega) (Ev.pos (by omega) ?_))))
  have hj : ∀ q0 q1 q2 q3 : Int, Ev (fun k => r07_Take.j1 k true q0 q1 q2 q3) (0, 0, 0, 0, 11) := fun _ _ _ _ => Ev.step (fun k => r07_Take.j1.eq_2 ..) (Ev.pos rfl (Ev.ret rfl))
  refine Ev.ite (fun h0 => ?_) (fun h0 => ?_)
  ·refine Ev.pos (by omega) (Ev.ite (fun h5 => ?_) (fun h5 => ?_))
   ·refine Ev.bindv (rmay_eq _ _ _ _) ?_
    by_cases hm : mayTag (rd l 1) (rd l 2) (rd l 3) (rd l 4) = true
    ·rw [if_pos ⟨h0, h5, hm⟩, hm]
     exact Ev.step (fun k => r07_Take.j1.eq_2 ..) (Ev.neg (by decide) (Ev.ret rfl))
    ·rw [if_neg fun h => hm h.2.2, Bool.eq_false_iff.2 hm]
     exact hj _ _ _ _
   ·rw [if_neg fun h => h5 h.2.1]
    exact hj _ _ _ _
  ·rw [if_neg fun h => h0 h.1]
   exact hj _ _ _ _
 ·rw [if_neg h]
end Go.Proofs.Ytmehbabchakkpaa.PureLadderWalks
namespace Go.Proofs.Ytmehbabchakkpaa.PureLadderWalks
open Go.RowKit QLadderWalks YtmehbabchakkpaaW.PrintWords YtmehbabchakkpaaW.PrintLast YtmehbabchakkpaaW.PrintMore EvKit BitsKit CrcMath NatKit
theorem rsum_l0 (bs : List Nat) (hb : ∀ x ∈ bs, x < 2) (hn : bs.length < 100000000) (d : Nat) : ∀ (c i : Nat), c < 4294967296 → i + d = bs.length →
  Ev (fun k => r02_Sum.l0 k (c : Int) (ints bs) (i : Int)) ((4294967295 ^^^ (bs.drop i).foldl bitStep c : Nat) : Int) := by
 have hl : (ints bs).length = bs.length := List.length_map _
 induction d with
 | zero =>
  intro c i hc hi
  refine Ev.step (fun k => r02_Sum.l0.eq_2 ..) ?_
  refine Ev.neg (by omega) (Ev.ret ?_)
  rw [List.drop_of_length_le (by omega), List.foldl_nil, ← not_xor hc]
  omega
 | succ d ih =>
  intro c i hc hi
  have hil : i < bs.length := by omega
  have hx : bs[i] < 2 := hb _ (List.getElem_mem hil)
  refine Ev.step (fun k => r02_Sum.l0.eq_2 ..) ?_
  refine Ev.pos (by omega) ?_
  refine Ev.pos (by omega) ?_
  rw [rd_ints, List.getD_eq_getElem?_getD, List.getElem?_eq_getElem hil, Option.getD_some, List.drop_eq_getElem_cons hil, List.foldl_cons]
  rw [Int.tmod_eq_emod_of_nonneg (Int.natCast_nonneg _), Int.tdiv_eq_ediv_of_nonneg (Int.natCast_nonneg _), w64_id (by omega) (by omega), w64_succ (by omega), show (c : Int) / 2 % 4294967296 = ((c / 2 : Nat) : Int) from by omega]
  have next := ih (bitStep c bs[i]) (i + 1) (bitStep_lt hc) (by omega)
  generalize bs[i] = x at hx next ⊢
  refine Ev.ite (fun h => ?_) (fun h => ?_)
  ·have h' : c % 2 = x := by omega
   have e : bitStep c x = c / 2 := by unfold bitStep; rw [if_pos h', Nat.xor_zero]
   rw [e] at next ⊢
   exact next
  ·have h' : ¬ c % 2 = x := by omega
   have e : bitStep c x = c / 2 ^^^ 3988292384 := by unfold bitStep; rw [if_neg h']
   have e2 : Go.bits .xor .u32 ((c / 2 : Nat) : Int) 3988292384 = ((c / 2 ^^^ 3988292384 : Nat) : Int) := xor_u32 (by omega) (by decide)
   rw [e] at next ⊢
   rw [e2]
   exact next
theorem bitAt_lt (l : List Nat) (i : Nat) : bitAt l i < 2 := Nat.mod_lt _ (by decide)
theorem rsum_ev {l : List Int} (hl : ∀ x ∈ l, 0 ≤ x ∧ x < 256) (hn : l.length < 1000000) : Ev (fun k => r02_Sum.f k l) ((CrcMath.sum (nats l) : Nat) : Int) := by
 refine Ev.congr (fun k => by rw [r02_Sum.f]) ?_
 refine Ev.bind (list_ev hl hn) ?_
 refine Ev.eq (rsum_l0 (bitList (nats l)) (fun x hx => ?_) ?_ (bitList (nats l)).length 4294967295 0 (by decide) (by omega)) ?_
 ·obtain ⟨i, _, rfl⟩ := List.mem_map.1 hx
  exact bitAt_lt _ _
 ·unfold bitList
  rw [List.length_map, List.length_range, nats_length]
  omega
 ·unfold CrcMath.sum
  rw [run_bitList _ (nats_lt hl), List.drop_zero]
theorem rbytes_eq (n : Nat) : r02_Bytes.f (n : Int) = some (four n) := by
 unfold r02_Bytes.f four
 simp only [Int.tmod_eq_emod_of_nonneg (Int.natCast_nonneg n), Int.tdiv_eq_ediv_of_nonneg (Int.natCast_nonneg n)]
 congr 1
 simp only [List.cons.injEq, and_true]
 omega
end Go.Proofs.Ytmehbabchakkpaa.PureLadderWalks
namespace Go.Proofs.Ytmehbabchakkpaa.PureLadderWalks
open Go.RowKit QLadderWalks YtmehbabchakkpaaW.PrintWords YtmehbabchakkpaaW.PrintLast YtmehbabchakkpaaW.PrintMore EvKit PackMath TagMath CrcMath NatKit BitsMath ChunkMath
theorem rraw_eq {a0 a1 a2 a3 a4 a5 a6 : Int} (h : okG a0 a1 a2 a3 a4 a5 a6) : r04_Raw.f a0 a1 a2 a3 a4 a5 a6 = some (a3 * (a4 + 2) + 31) := by
 obtain ⟨h3, h4⟩ := okG_bounds h
 have := mul_bound h3 ⟨h4.1, by omega⟩
 unfold r04_Raw.f
 rw [w64_id (x := a3 * a4) (by omega) (by omega), w64_id (x := 2 * a3) (by omega) (by omega), w64_id (x := a3 * a4 + 2 * a3) (by omega) (by omega), w64_id (by omega) (by omega), Int.mul_add]
 congr 1
 omega
theorem rdecB_ev {raw : List Int} (hb : ∀ x ∈ raw, 0 ≤ x ∧ x < 256) {S C : Nat} {q0 q1 q2 q5 q6 : Int} (hS0 : 4 ≤ S) (hS : S ≤ 512) (hC : C ≤ 16) (hl : raw.length = C * (S + 2) + 31) :
  Ev (fun k => r08_Decode.j1 k raw q0 q1 q2 (C : Int) (S : Int) q5 q6) (decB S C (raw.take (C * (S + 2))) ((raw.take (C * (S + 2) + 30)).drop (C * (S + 2)))) := by
 have hn : C * (S + 2) ≤ 10000 := Nat.le_trans (Nat.mul_le_mul hC (show S + 2 ≤ 514 by omega)) (by decide)
 have hcl : (raw.take (C * (S + 2))).length = C * (S + 2) := by rw [List.length_take]; omega
 have hll : ((raw.take (C * (S + 2) + 30)).drop (C * (S + 2))).length = 30 := by rw [List.length_drop, List.length_take]; omega
 have hcb := bytes_take hb (C * (S + 2))
 have hlb := bytes_drop (bytes_take hb (C * (S + 2) + 30)) (C * (S + 2))
 have ew1 : wrap64 ((C : Int) * wrap64 ((S : Int) + 2)) = ((C * (S + 2) : Nat) : Int) := by
  rw [w64_id (x := (S : Int) + 2) (by omega) (by omega), show (C : Int) * ((S : Int) + 2) = ((C * (S + 2) : Nat) : Int) by rw [Int.natCast_mul, Int.natCast_add]; rfl]
  exact w64_id (by omega) (by omega)
 have ew2 : wrap64 (((C * (S + 2) : Nat) : Int) + 30) = ((C * (S + 2) + 30 : Nat) : Int) := by
  rw [w64_id (by omega) (by omega)]
  omega
 refine Ev.step (fun k => r08_Decode.j1.eq_2 ..) ?_
 rw [ew1, ew2, Int.toNat_natCast, Int.toNat_natCast]
 clear ew1 ew2
 refine Ev.pos (by omega) (Ev.pos (by omega) (Ev.pos (by omega) ?_))
 have ech : Int.toNat ((C * (S + 2) : Nat) : Int) = C * (S + 2) := Int.toNat_natCast _
 obtain ⟨ch, hch⟩ : ∃ ch, raw.take (C * (S + 2)) = ch := ⟨_, rfl⟩
 rw [hch] at hcl hcb ⊢
 generalize (raw.take (C * (S + 2) + 30)).drop (C * (S + 2)) = lab at hll hlb ⊢
 have hz := rzeros_ev hlb (by omega)
 have ha := rall_on (L := ch) (m := S + 2) (d := C) ⟨by omega, by omega⟩ hcl hcb (by omega)
 rw [show ((S + 2 : Nat) : Int) - 2 = (S : Int) by omega] at ha
 have hal := allR_short (S + 2) C ch [] 0 hcl
 have hab := allR_byte (m := S + 2) C ch [] 0 hcb (fun x hx => by cases hx)
 have hd := rdecode_ev hlb (by omega)
 have hdl := decN_len (r := nats lab)
 have hdb := decN_byte (nats_lt hlb)
 rw [nats_length, hll] at hdl
 rw [List.length_nil, hcl] at hal
 refine Ev.bind hz ?_
 unfold decB
 refine Ev.ite (fun h => ?_) (fun h => ?_)
 ·rw [if_pos h]
  exact Ev.ret rfl
 rw [if_neg h]
 clear h hz
 refine Ev.step (fun k => r08_Decode.j2.eq_2 ..) ?_
 rw [ech, hch]
 refine Ev.pos (by omega) (Ev.pos (by omega) (Ev.bind ha ?_))
 clear ha ech hch
 generalize allR (S + 2) C ch [] 0 = A at hal hab ⊢
 refine Ev.ite (fun h => ?_) (fun h => ?_)
 ·rw [if_pos h]
  refine Ev.step (fun k => r08_Decode.j3.eq_2 ..) ?_
  refine Ev.bind hd ?_
  clear hd
  generalize decN (nats lab) = D at hdl hdb ⊢
  refine Ev.ite (fun h2 => ?_) (fun h2 => ?_)
  ·rw [if_pos h2]
   have hdl2 := hdl h2
   have htl : (D.1.take 24).length = 24 := by rw [List.length_take]; omega
   have hse : ends (A.1 ++ D.1) = decide (four (CrcMath.sum (nats (A.1 ++ D.1.take 24))) = D.1.drop 24) := by
    unfold ends
    rw [decide_eq_true (by rw [List.length_append]; omega), Bool.true_and, List.length_append, List.take_append, List.drop_append, show A.1.length + D.1.length - 4 - A.1.length = 24 by omega, List.take_of_length_le (by omega), List.drop_of_length_le (l := A.1) (by omega), List.nil_append]
   have hsum := rsum_ev (l := A.1 ++ D.1.take 24) (app_byte hab (bytes_take hdb 24)) (by rw [List.length_append]; omega)
   have htake := rttake_ev (D.1.take 24) (bytes_take hdb 24) (by omega)
   refine Ev.step (fun k => r08_Decode.j4.eq_2 ..) ?_
   refine Ev.pos (by rw [List.length_nil]; omega) (Ev.bindv rfl (Ev.pos (by omega) (Ev.bindv rfl ?_)))
   rw [List.nil_append]
   refine Ev.pos (by omega) (Ev.bind hsum (Ev.bindv (rbytes_eq _) ?_))
   refine Ev.bind (same_ev _ _ (by show 4 < 1000000000; decide)) ?_
   rw [← hse]
   clear hse hsum
   refine Ev.ite (fun h3 => ?_) (fun h3 => ?_)
   ·rw [if_pos h3]
    refine Ev.step (fun k => r08_Decode.j5.eq_2 ..) ?_
    refine Ev.pos (by omega) (Ev.bind htake ?_)
    generalize takeTag (D.1.take 24) = t
    refine Ev.ite (fun h4 => ?_) (fun h4 => ?_)
    ·rw [if_pos h4]
     refine Ev.ite (fun h5 => ?_) (fun h5 => ?_)
     ·rw [if_pos h5]
      exact Ev.ret rfl
     ·rw [if_neg h5]
      exact Ev.ret rfl
    ·rw [if_neg h4]
     exact Ev.ret rfl
   ·rw [if_neg h3]
    exact Ev.ret rfl
  ·rw [if_neg h2]
   exact Ev.ret rfl
 ·rw [if_neg h]
  exact Ev.ret rfl
theorem rpdec_ev {raw : List Int} (hb : ∀ x ∈ raw, 0 ≤ x ∧ x < 256) (a0 a1 a2 a3 a4 a5 a6 : Int) : Ev (fun k => r08_Decode.f k a0 a1 a2 a3 a4 a5 a6 raw) (decP raw a0 a1 a2 a3 a4 a5 a6) := by
 refine Ev.congr (fun k => by rw [r08_Decode.f]) ?_
 refine Ev.bindv right_eq ?_
 have hbad : ¬ (okG a0 a1 a2 a3 a4 a5 a6 ∧ (raw.length : Int) = a3 * (a4 + 2) + 31) → Ev (fun k => r08_Decode.j0 k raw true a0 a1 a2 a3 a4 a5 a6) (decP raw a0 a1 a2 a3 a4 a5 a6) := fun h => by
  refine Ev.step (fun k => r08_Decode.j0.eq_2 ..) (Ev.pos rfl (Ev.ret ?_))
  unfold decP
  rw [if_neg h]
 by_cases hg : okG a0 a1 a2 a3 a4 a5 a6
 ·refine Ev.pos (decide_eq_true hg) (Ev.bindv (rraw_eq hg) ?_)
  by_cases hl : (raw.length : Int) = a3 * (a4 + 2) + 31
  ·have e : ((raw.length : Int) != a3 * (a4 + 2) + 31) = false := bne_eq_false_iff_eq.2 hl
   rw [e]
   refine Ev.step (fun k => r08_Decode.j0.eq_2 ..) (Ev.neg (by decide) ?_)
   unfold decP
   rw [if_pos ⟨hg, hl⟩]
   obtain ⟨h3, h4⟩ := okG_bounds hg
   have hm := mul_bound h3 (y := a4 + 2) ⟨by omega, by omega⟩
   obtain ⟨C, rfl⟩ := Int.eq_ofNat_of_zero_le (a := a3) (by omega)
   obtain ⟨S, rfl⟩ := Int.eq_ofNat_of_zero_le (a := a4) (by omega)
   have en : (C : Int) * ((S : Int) + 2) = ((C * (S + 2) : Nat) : Int) := by rw [Int.natCast_mul, Int.natCast_add]; rfl
   rw [en] at hl
   have hl2 : raw.length = C * (S + 2) + 31 := by omega
   rw [Int.toNat_natCast, Int.toNat_natCast, show raw.length - 31 = C * (S + 2) by omega, show raw.length - 1 = C * (S + 2) + 30 by omega]
   exact rdecB_ev hb (by omega) (by omega) (by omega) hl2
  ·have e : ((raw.length : Int) != a3 * (a4 + 2) + 31) = true := bne_iff_ne.2 hl
   rw [e]
   exact hbad (fun z => hl z.2)
 ·rw [decide_eq_false hg]
  exact Ev.neg (by decide) (hbad (fun z => hg z.1))
end Go.Proofs.Ytmehbabchakkpaa.PureLadderWalks
namespace Go.Proofs.Ytmehbabchakkpaa.QLadderWalks
set_option linter.unusedVariables false
open Go.RowKit YtmehbabchakkpaaW.PrintWords YtmehbabchakkpaaW.PrintLast YtmehbabchakkpaaW.PrintMore EvKit PureLadderWalks
theorem LW_done {ls : List (List Int)} {a0 a1 a2 a3 a4 a5 a6 bad wt ra la i x2 x3 x4 x5 x6 : Int} {W : List Int} (h : wt ≠ 30) : Ev (fun k => LW.l0 k a0 a1 a2 a3 a4 a5 a6 ls bad wt ra la i W x2 x3 x4 x5 x6) (wt, ra, la, W, x2, x3, x4, x5, x6) := by
 refine Ev.step (fun k => LW.l0.eq_2 ..) ?_
 exact Ev.ite (fun _ => Ev.neg h (Ev.ret rfl)) (fun _ => Ev.ret rfl)
theorem LW_both {ls : List (List Int)} {a0 a1 a2 a3 a4 a5 a6 bad : Int} (hb : ∀ l ∈ ls, ∀ x ∈ l, 0 ≤ x ∧ x < 256) (hs : ls.length ≤ 1000000) : ∀ (d i : Nat), i + d = ls.length →
  ∃ (P : List Int) (p2 p3 p4 p5 p6 pr pe pn : Int), P.length < 1000000000 ∧ Ev (fun k => LW.w0 k a0 a1 a2 a3 a4 a5 a6 ls bad (i : Int) true (i : Int)) (P, p2, p3, p4, p5, p6, pr, pe, true, pn) ∧ Ev (fun k => LW.l0 k a0 a1 a2 a3 a4 a5 a6 ls bad 30 0 (i : Int) (i : Int) [] 0 0 0 0 0) (pe, pr, pn, P, p2, p3, p4, p5, p6) := by
 have hself : ∀ i : Int, (true && (i == i)) = true := fun i => by simp
 have hoff : ∀ i : Nat, (i : Int) < a5 → (¬ (i : Int) < (ls.length : Int) ∨ (i : Int) = bad) →
   ∃ (P : List Int) (p2 p3 p4 p5 p6 pr pe pn : Int), P.length < 1000000000 ∧ Ev (fun k => LW.w0 k a0 a1 a2 a3 a4 a5 a6 ls bad (i : Int) true (i : Int)) (P, p2, p3, p4, p5, p6, pr, pe, true, pn) ∧ Ev (fun k => LW.l0 k a0 a1 a2 a3 a4 a5 a6 ls bad 30 0 (i : Int) (i : Int) [] 0 0 0 0 0) (pe, pr, pn, P, p2, p3, p4, p5, p6) := fun i h5 h => by
  refine ⟨[], 0, 0, 0, 0, 0, 0, 20, wrap64 ((i : Int) + 1), by decide, ?_, ?_⟩
  ·refine Ev.step (fun k => LW.w0.eq_2 ..) ?_
   rw [hself]
   refine Ev.pos h5 (Ev.ite (fun hl => ?_) (fun _ => Ev.ret rfl))
   rcases h with h | h
   ·exact absurd hl h
   ·exact Ev.pos h (Ev.ret rfl)
  ·refine Ev.step (fun k => LW.l0.eq_2 ..) ?_
   refine Ev.pos h5 (Ev.pos rfl (Ev.ite (fun hl => ?_) (fun _ => LW_done (by decide))))
   rcases h with h | h
   ·exact absurd hl h
   ·exact Ev.pos h (LW_done (by decide))
 have hexit : ∀ i : Nat, ¬ (i : Int) < a5 →
   ∃ (P : List Int) (p2 p3 p4 p5 p6 pr pe pn : Int), P.length < 1000000000 ∧ Ev (fun k => LW.w0 k a0 a1 a2 a3 a4 a5 a6 ls bad (i : Int) true (i : Int)) (P, p2, p3, p4, p5, p6, pr, pe, true, pn) ∧ Ev (fun k => LW.l0 k a0 a1 a2 a3 a4 a5 a6 ls bad 30 0 (i : Int) (i : Int) [] 0 0 0 0 0) (pe, pr, pn, P, p2, p3, p4, p5, p6) := fun i h5 => by
  refine ⟨[], 0, 0, 0, 0, 0, 0, 30, (i : Int), by decide, ?_, ?_⟩
  ·refine Ev.step (fun k => LW.w0.eq_2 ..) ?_
   exact Ev.neg h5 (Ev.ret rfl)
  ·refine Ev.step (fun k => LW.l0.eq_2 ..) ?_
   exact Ev.neg h5 (Ev.ret rfl)
 intro d
 induction d with
 | zero =>
  intro i hi
  by_cases h5 : (i : Int) < a5
  ·exact hoff i h5 (.inl (by omega))
  ·exact hexit i h5
 | succ d ih =>
  intro i hi
  by_cases h5 : (i : Int) < a5
  ·by_cases hbd : (i : Int) = bad
   ·exact hoff i h5 (.inr hbd)
   ·have hlt : i < ls.length := by omega
    have hli : (i : Int) < (ls.length : Int) := by omega
    have hgd : ls.getD ((i : Int)).toNat [] = ls[i] := by
     rw [Int.toNat_natCast]
     simp [hlt]
    have hp := pdec_ev (hb _ (List.getElem_mem hlt)) a0 a1 a2 a3 a4 a5 a6
    have hr := rpdec_ev (hb _ (List.getElem_mem hlt)) a0 a1 a2 a3 a4 a5 a6
    have hshort := decP_short ls[i] a0 a1 a2 a3 a4 a5 a6
    obtain ⟨P', q2, q3, q4, q5, q6, qr, qe, qn, hP', hw', hl'⟩ := ih (i + 1) (by omega)
    have key : ∀ (P : List Int) (p2 p3 p4 p5 p6 pr pe pn : Int), P.length < 1000000000 →
      Ev (fun k => if (decP ls[i] a0 a1 a2 a3 a4 a5 a6).2.2.2.2.2.2 = 0 then some ((decP ls[i] a0 a1 a2 a3 a4 a5 a6).1, (decP ls[i] a0 a1 a2 a3 a4 a5 a6).2.1, (decP ls[i] a0 a1 a2 a3 a4 a5 a6).2.2.1, (decP ls[i] a0 a1 a2 a3 a4 a5 a6).2.2.2.1, (decP ls[i] a0 a1 a2 a3 a4 a5 a6).2.2.2.2.1, (decP ls[i] a0 a1 a2 a3 a4 a5 a6).2.2.2.2.2.1, (i : Int), 0, true, ((i + 1 : Nat) : Int)) else if (decP ls[i] a0 a1 a2 a3 a4 a5 a6).2.2.2.2.2.2 = 2 then some ([], 0, 0, 0, 0, 0, 0, 2, true, ((i + 1 : Nat) : Int)) else LW.w0 k a0 a1 a2 a3 a4 a5 a6 ls bad ((i + 1 : Nat) : Int) true ((i + 1 : Nat) : Int)) (P, p2, p3, p4, p5, p6, pr, pe, true, pn) →
      Ev (fun k => if (decP ls[i] a0 a1 a2 a3 a4 a5 a6).2.2.2.2.2.2 = 0 then LW.l0 k a0 a1 a2 a3 a4 a5 a6 ls bad 0 (i : Int) ((i + 1 : Nat) : Int) ((i + 1 : Nat) : Int) (decP ls[i] a0 a1 a2 a3 a4 a5 a6).1 (decP ls[i] a0 a1 a2 a3 a4 a5 a6).2.1 (decP ls[i] a0 a1 a2 a3 a4 a5 a6).2.2.1 (decP ls[i] a0 a1 a2 a3 a4 a5 a6).2.2.2.1 (decP ls[i] a0 a1 a2 a3 a4 a5 a6).2.2.2.2.1 (decP ls[i] a0 a1 a2 a3 a4 a5 a6).2.2.2.2.2.1 else if (decP ls[i] a0 a1 a2 a3 a4 a5 a6).2.2.2.2.2.2 = 2 then LW.l0 k a0 a1 a2 a3 a4 a5 a6 ls bad 2 0 ((i + 1 : Nat) : Int) ((i + 1 : Nat) : Int) [] 0 0 0 0 0 else LW.l0 k a0 a1 a2 a3 a4 a5 a6 ls bad 30 0 ((i + 1 : Nat) : Int) ((i + 1 : Nat) : Int) [] 0 0 0 0 0) (pe, pr, pn, P, p2, p3, p4, p5, p6) →
      ∃ (P : List Int) (p2 p3 p4 p5 p6 pr pe pn : Int), P.length < 1000000000 ∧ Ev (fun k => LW.w0 k a0 a1 a2 a3 a4 a5 a6 ls bad (i : Int) true (i : Int)) (P, p2, p3, p4, p5, p6, pr, pe, true, pn) ∧ Ev (fun k => LW.l0 k a0 a1 a2 a3 a4 a5 a6 ls bad 30 0 (i : Int) (i : Int) [] 0 0 0 0 0) (pe, pr, pn, P, p2, p3, p4, p5, p6) := fun P p2 p3 p4 p5 p6 pr pe pn h1 h2 h3 => by
     refine ⟨P, p2, p3, p4, p5, p6, pr, pe, pn, h1, ?_, ?_⟩
     ·refine Ev.step (fun k => LW.w0.eq_2 ..) ?_
      rw [hself, hgd, w64_succ (by omega)]
      exact Ev.pos h5 (Ev.pos hli (Ev.neg hbd (Ev.bind hp h2)))
     ·refine Ev.step (fun k => LW.l0.eq_2 ..) ?_
      rw [hgd, w64_succ (by omega)]
      exact Ev.pos h5 (Ev.pos rfl (Ev.pos hli (Ev.neg hbd (Ev.bind hr h3))))
    by_cases e0 : (decP ls[i] a0 a1 a2 a3 a4 a5 a6).2.2.2.2.2.2 = 0
    ·exact key _ _ _ _ _ _ _ _ _ hshort (Ev.pos e0 (Ev.ret rfl)) (Ev.pos e0 (LW_done (by decide)))
    ·by_cases e2 : (decP ls[i] a0 a1 a2 a3 a4 a5 a6).2.2.2.2.2.2 = 2
     ·exact key _ _ _ _ _ _ _ _ _ (by decide) (Ev.neg e0 (Ev.pos e2 (Ev.ret rfl))) (Ev.neg e0 (Ev.pos e2 (LW_done (by decide))))
     ·exact key _ _ _ _ _ _ _ _ _ hP' (Ev.neg e0 (Ev.neg e2 hw')) (Ev.neg e0 (Ev.neg e2 hl'))
  ·exact hexit i h5
def l09_LadderWalks.f (a0_0 a0_1 a0_2 a0_3 a0_4 a0_5 a0_6 : Int) (l1 : List (List Int)) (a2 : Int) : Option Bool := if (0 ≤ a2 ∧ a2 ≤ 255) ∧ l1.length ≤ 9000000000000 ∧ ∀ l ∈ l1, ∀ x ∈ l, 0 ≤ x ∧ x < 256 then some true else none
theorem l09_LadderWalks.calls (a0_0 : Int) (a0_1 : Int) (a0_2 : Int) (a0_3 : Int) (a0_4 : Int) (a0_5 : Int) (a0_6 : Int) (A1 : Option Addr) (c1 : Nat) (l1 : List (List Int)) (a2 : Int) (r : Bool) (w : World) (hr1 : Kd.C (Kd.slice 5 (Kd.int .u8)) w A1 l1.length l1) (hc1 : l1.length ≤ c1) (h : l09_LadderWalks.f a0_0 a0_1 a0_2 a0_3 a0_4 a0_5 a0_6 l1 a2 = some r) :
  Calls Try.prog 5 #[.agg #[.int .i64 a0_0, .int .i64 a0_1, .int .i64 a0_2, .int .i64 a0_3, .int .i64 a0_4, .int .i64 a0_5, .int .i64 a0_6], .slice A1 l1.length c1, .int .u8 a2] w fun e w' => e = .returned (.bool r) ∧ Below w.heap.size w w' := by
 unfold l09_LadderWalks.f at h
 split at h
 ·rename_i hx
  obtain rfl := si_ h
  clear h
  obtain ⟨ha2, hmax, hb⟩ := hx
  obtain ⟨ka, ea⟩ := ladder_awake_ev
  obtain ⟨b, hb12, kf, ef⟩ := few_ev (ls := l1) hmax a0_0 a0_1 a0_2 a0_3 a0_4 a0_5 a0_6
  cases b with
  | false => exact LadderWalks_core (ka + kf) a0_0 a0_1 a0_2 a0_3 a0_4 a0_5 a0_6 A1 c1 l1 a2 [] 0 0 0 0 0 0 0 0 false _ w hr1 hc1 ha2 (ea _ (by omega)) (ef _ (by omega)) (fun h => by cases h) right_eq (fun h => by cases h) (fun h => by cases h)
  | true =>
   have h12 := hb12 rfl
   by_cases hg : okG a0_0 a0_1 a0_2 a0_3 a0_4 a0_5 a0_6
   ·obtain ⟨P, p2, p3, p4, p5, p6, pr, pe, pn, hP, ⟨kw, ew⟩, ⟨kl, el⟩⟩ := LW_both (a0 := a0_0) (a1 := a0_1) (a2 := a0_2) (a3 := a0_3) (a4 := a0_4) (a5 := a0_5) (a6 := a0_6) (bad := a2) hb (by omega) l1.length 0 (by omega)
    obtain ⟨ks, es⟩ := psame_ev (l := P) (t1 := p2) (t2 := p3) (t3 := p4) (t4 := p5) (s := p6) hP
    obtain ⟨K, hK⟩ : ∃ K, K = ka + kf + kw + kl + ks := ⟨_, rfl⟩
    have hw : LW.walk K a0_0 a0_1 a0_2 a0_3 a0_4 a0_5 a0_6 l1 a2 = some (P, p2, p3, p4, p5, p6, pr, pe, true, pn) := by
     unfold LW.walk
     rw [check_eq, if_pos hg]
     exact ew K (by omega)
    exact LadderWalks_core K a0_0 a0_1 a0_2 a0_3 a0_4 a0_5 a0_6 A1 c1 l1 a2 P p2 p3 p4 p5 p6 pr pe pn true true w hr1 hc1 ha2 (ea _ (by omega)) (ef _ (by omega)) (fun _ => hw) (right_eq.trans (by rw [dt_ hg])) (fun _ h => by cases h) (fun _ _ => ⟨P, p2, p3, p4, p5, p6, el K (by omega), es _ (by omega)⟩)
   ·obtain ⟨ks, es⟩ := psame_ev (l := []) (t1 := 0) (t2 := 0) (t3 := 0) (t4 := 0) (s := 0) (by decide)
    obtain ⟨K, hK⟩ : ∃ K, K = ka + kf + ks := ⟨_, rfl⟩
    have hw : LW.walk K a0_0 a0_1 a0_2 a0_3 a0_4 a0_5 a0_6 l1 a2 = some ([], 0, 0, 0, 0, 0, 0, 2, true, 0) := by
     unfold LW.walk
     rw [check_eq, if_neg hg]
     rfl
    exact LadderWalks_core K a0_0 a0_1 a0_2 a0_3 a0_4 a0_5 a0_6 A1 c1 l1 a2 [] 0 0 0 0 0 0 2 0 true false w hr1 hc1 ha2 (ea _ (by omega)) (ef _ (by omega)) (fun _ => hw) (right_eq.trans (by rw [df_ hg])) (fun _ _ => ⟨rfl, rfl, rfl, es _ (by omega)⟩) (fun _ h => by cases h)
 ·cases h
end Go.Proofs.Ytmehbabchakkpaa.QLadderWalks
namespace Go.Proofs.Ytmehbabchakkpaa.OpenKit
open Go.RowKit YtmehbabchakkpaaW.PrintWords Go.ChangeShapes Go.WideShapes
def Opens {α : Type} (P : Program) (t : TypeId) (d : Kd α) (wf : α → Prop) : Prop :=
 ∀ {H : Type} (enc : TypeId × Value → H) (W : World) (spare : Nat → Bool) (held : Bool) (fuel : Nat) (cs : List Value) (x : DataW H × List MemPlace),
  DataW.trod enc P W 0 spare held fuel t cs = some x → ∃ a, d.K W a cs ∧ wf a
section
variable {P : Program} {t e : TypeId}
theorem opens_int {k : IntKind} (ht : P.underlying t = some (.int k)) : Opens P t (Kd.int k) (fun a => (Lit.int k a).wf = true) := by
 intro H enc W spare held fuel cs x h
 obtain ⟨n, rfl, _, hw⟩ := DataW.trod_int ht h
 exact ⟨n, rfl, hw⟩
theorem cells_some {W : World} {a : Addr} {n : Nat} {cs : List Value} (h : W.cells? 0 a n = some cs) : cs.length = n ∧ ∀ i u, cs[i]? = some u → W.cell? (a.add i) = some u := by
 unfold World.cells? at h
 rw [if_pos (Nat.zero_le _)] at h
 have hl := mapM_some_length h
 rw [List.length_range] at hl
 refine ⟨hl, fun i u hu => ?_⟩
 have hi : i < n := by
  rw [← hl]
  exact (List.getElem?_eq_some_iff.1 hu).1
 have := mapM_some_get h i i (by simp [hi])
 rw [this, hu]
theorem opens_slice {α : Type} [Inhabited α] {d : Kd α} {wf : α → Prop} (ht : P.underlying t = some (.slice e)) (he : Opens P e d wf) (hsz : P.cellsOf e = d.sz) :
  Opens P t (Kd.slice e d) (fun xs => xs.length ≤ maxLen ∧ ∀ x ∈ xs, wf x) := by
 intro H enc W spare held fuel cs x h
 rcases Go.Deep.open_slice ht h with ⟨rfl, _⟩ | ⟨a, len, cap, m, n, D, Pl, rfl, _, hl, hm, hmm, _, hel⟩
 ·exact ⟨[], ⟨none, 0, rfl, Nat.le_refl _, ⟨rfl, Nat.zero_le _, fun h => absurd h (Nat.lt_irrefl 0)⟩⟩, Nat.zero_le _, by simp⟩
 have hlm : len ≤ m := by rw [hmm]; split <;> omega
 have hx : ∀ i, i < len → ∃ y : α, ∃ c : List Value, c.length = d.sz ∧ d.K W y c ∧ wf y ∧ ∀ j u, c[j]? = some u → W.cell? ((a.add (i * d.sz)).add j) = some u := by
  intro i hi
  obtain ⟨c, hc, hr⟩ := hel i (by omega)
  obtain ⟨y, hy, hw⟩ := he enc W spare held n c _ hr
  rw [hsz] at hc
  obtain ⟨h1, h2⟩ := cells_some hc
  exact ⟨y, c, h1, hy, hw, h2⟩
 obtain ⟨f, hf⟩ := Go.Deep.choose_lt hx
 have hlen : ((List.range len).map f).length = len := by simp
 have hmax : len ≤ maxLen := Nat.le_trans hl hm
 refine ⟨(List.range len).map f, ⟨some a, cap, by rw [hlen], by rw [hlen]; exact hl, ?_⟩, by rw [hlen]; exact hmax, ?_⟩
 ·refine ⟨rfl, by rw [hlen]; exact hmax, fun _ => ⟨a, rfl, fun j p hj => ?_⟩⟩
  have hj' : j < len := by
   have := (List.getElem?_eq_some_iff.1 hj).1
   rwa [hlen] at this
  have e1 : f j = p := by simpa [hj'] using hj
  subst e1
  obtain ⟨c, h1, h2, _, h3⟩ := hf j hj'
  exact ⟨c, h1, h2, fun i u hu => by rw [← Go.Deep.add_add]; exact h3 i u hu⟩
 ·intro y hy
  obtain ⟨i, hi, rfl⟩ := List.mem_map.1 hy
  obtain ⟨_, _, _, hw, _⟩ := hf i (List.mem_range.1 hi)
  exact hw
def OpensF {α : Type} (P : Program) (o : Nat) (fs : List Field) (d : Kd α) (wf : α → Prop) : Prop :=
 ∀ {H : Type} (enc : TypeId × Value → H) (W : World) (spare : Nat → Bool) (held : Bool) (n : Nat) (cs : List Value),
  (∀ f, f ∈ fs → ∃ x, DataW.trod enc P W 0 spare held n f.type ((cs.drop f.offset).take (P.cellsOf f.type)) = some x) → ∃ a, d.K W a ((cs.drop o).take d.sz) ∧ wf a
theorem opensF_one {α : Type} {d : Kd α} {wf : α → Prop} {f : Field} {o : Nat} (ho : f.offset = o) (he : Opens P f.type d wf) (hsz : P.cellsOf f.type = d.sz) : OpensF P o [f] d wf := by
 intro H enc W spare held n cs h
 obtain ⟨x, hx⟩ := h f (by simp)
 rw [ho, hsz] at hx
 exact he enc W spare held n _ _ hx
theorem opensF_cons {α β : Type} {d : Kd α} {d' : Kd β} {wf : α → Prop} {wf' : β → Prop} {f : Field} {fs : List Field} {o : Nat} (ho : f.offset = o) (he : Opens P f.type d wf) (hsz : P.cellsOf f.type = d.sz)
  (hr : OpensF P (o + d.sz) fs d' wf') : OpensF P o (f :: fs) (Kd.pair d d') (fun x => wf x.1 ∧ wf' x.2) := by
 intro H enc W spare held n cs h
 obtain ⟨x, hx⟩ := h f (by simp)
 rw [ho, hsz] at hx
 obtain ⟨a, ha, hwa⟩ := he enc W spare held n _ _ hx
 obtain ⟨b, hb, hwb⟩ := hr enc W spare held n cs fun g hg => h g (by simp [hg])
 refine ⟨(a, b), ⟨_, _, ?_, ha, hb⟩, hwa, hwb⟩
 show (cs.drop o).take (d.sz + d'.sz) = _
 rw [List.take_add, List.drop_drop]
theorem opens_struct {α β : Type} {d : Kd α} {wf : α → Prop} {fs : Array Field} (ht : P.underlying t = some (.struct fs)) (hf : OpensF P 0 fs.toList d wf) (hsz : P.cellsOf t = d.sz) (g : β → α) (mk : α → β) (hg : ∀ x, g (mk x) = x) :
  Opens P t (Kd.iso d g) (fun y => wf (g y)) := by
 intro H enc W spare held fuel cs x h
 obtain ⟨xs, n, _, _, hl, hn, hfs⟩ := DataW.trod_struct ht h
 obtain ⟨a, ha, hw⟩ := hf enc W spare held n cs (by
  intro f hf
  obtain ⟨i, hi, e⟩ := List.getElem_of_mem hf
  have e' : fs[i]? = some f := by
   rw [← Array.getElem?_toList]
   rw [List.getElem?_eq_getElem hi, e]
  have hlt : i < xs.length := by rw [hn]; simpa using hi
  exact ⟨xs[i], by rw [hfs i f e', List.getElem?_eq_getElem hlt]⟩)
 refine ⟨mk a, ?_, ?_⟩
 ·show d.K W (g (mk a)) cs
  rw [hg]
  rwa [List.drop_zero, List.take_of_length_le (by omega)] at ha
 ·show wf (g (mk a))
  rw [hg]
  exact hw
theorem sized_any {H : Type} {enc : TypeId × Value → H} {W : World} {base : Nat} {spare : Nat → Bool} {held : Bool} {a : Option Addr} {len cap : Nat} {d : DataW H} {ps : List MemPlace} {ts : List TypeId} {ds : List (DataW H)} {j : Nat}
  (hsz : (DataW.weightsEach P ts ds).all (· ≤ reachBytes) = true) (ht : ts[j]? = some t) (hd : ds[j]? = some d) (hu : P.underlying t = some (.slice e)) {B : Nat} (hB : P.bytesOf e = B)
  (h : DataW.Trod enc P W base spare held t (.slice a len cap) d ps) : len * B ≤ 140737488351232 := by
 obtain ⟨fuel, hf⟩ := h
 rcases Go.Deep.open_slice hu hf with ⟨hcs, _⟩ | ⟨x, l, c, m, n, D, Pl, hcs, _, hl, _, _, hx, _⟩
 ·simp [Value.cells] at hcs
  obtain ⟨rfl, rfl, rfl⟩ := hcs
  simp
 ·simp [Value.cells] at hcs
  obtain ⟨rfl, rfl, rfl⟩ := hcs
  obtain ⟨hx, _⟩ := Prod.mk.inj hx
  subst hx
  have z := sized_slice hsz ht hd hu
  rw [hB] at z
  refine Nat.le_trans (Nat.mul_le_mul_right _ ?_) z
  simp
end
end Go.Proofs.Ytmehbabchakkpaa.OpenKit
namespace Go.Proofs.Ytmehbabchakkpaa.Pure
open Go.RowKit QLadderWalks YtmehbabchakkpaaW.PrintWords
def StmLadderWalks : Prop := ∀ (x0 : S23) (l1 : List (List Int)) (a2 : Int), ((fun y : S23 => (fun a : Int => (Lit.int .i64 a).wf = true) y.f0 ∧ (fun a : Int => (Lit.int .i64 a).wf = true) y.f1 ∧ (fun a : Int => (Lit.int .i64 a).wf = true) y.f2 ∧ (fun a : Int => (Lit.int .i64 a).wf = true) y.f3 ∧ (fun a : Int => (Lit.int .i64 a).wf = true) y.f4 ∧ (fun a : Int => (Lit.int .i64 a).wf = true) y.f5 ∧ (fun a : Int => (Lit.int .i64 a).wf = true) y.f6) x0) → (l1.length * 24 ≤ 140737488351232) → ((fun xs : List (List Int) => xs.length ≤ maxLen ∧ ∀ x ∈ xs, (fun xs : List Int => xs.length ≤ maxLen ∧ ∀ x ∈ xs, (fun a : Int => (Lit.int .u8 a).wf = true) x) x) l1) → ((Lit.int .u8 a2).wf = true) → l09_LadderWalks.f x0.f0 x0.f1 x0.f2 x0.f3 x0.f4 x0.f5 x0.f6 l1 a2 = some true
end Go.Proofs.Ytmehbabchakkpaa.Pure
namespace Go.Proofs.Ytmehbabchakkpaa.Pure
open Go.RowKit QLadderWalks YtmehbabchakkpaaW.PrintWords EvKit
theorem LadderWalks : StmLadderWalks := by
 rintro ⟨a0, a1, a2, a3, a4, a5, a6⟩ l m _ hn hl' hm'
 have hb : ∀ x ∈ l, ∀ y ∈ x, 0 ≤ y ∧ y < 256 := fun x hx y hy => wf_u8 ((hl'.2 x hx).2 y hy)
 have hm := wf_u8 hm'
 unfold l09_LadderWalks.f
 rw [if_pos ⟨⟨hm.1, by omega⟩, by omega, hb⟩]
end Go.Proofs.Ytmehbabchakkpaa.Pure
