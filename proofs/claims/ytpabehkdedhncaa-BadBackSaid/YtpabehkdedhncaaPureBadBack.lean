/-
  BadBack: what is put is taken, what is taken is put so again, two joined have each block of both. Conditions: the law's own.
-/
import Derived.Test.YtpabehkdedhncaaStmBadBack
import Derived.Test.YtpabehkdedhncaaBadTakeBadBack
import Derived.Test.YtpabehkdedhncaaJoinBadBack
import Derived.Test.YtpabehkdedhncaaSameBadBack
namespace Go.Proofs.Ytpabehkdedhncaa.Pure
open Go.RowKit Go.Proofs.Ytpabehkdedhncaa.QBadBack Go.Proofs.YtpabehkdedhncaaW.PrintWords Go.Proofs.Ytpabehkdedhncaa.EvKit Go.Proofs.Ytpabehkdedhncaa.PackMath Go.Proofs.Ytpabehkdedhncaa.CrcMath Go.Proofs.Ytpabehkdedhncaa.NatKit Go.Proofs.Ytpabehkdedhncaa.PureBadBack
theorem in_l0 (x : Int) (l : List Int) (hl : l.length < 1000000000) (d : Nat) : ∀ i : Nat, i + d = l.length →
    Ev (fun k => incunablelaw25_in.l0 k x l (l.length : Int) (i : Int)) (decide (x ∈ l.drop i)) := by
  induction d with
  | zero =>
    intro i hi
    refine Ev.step (fun k => incunablelaw25_in.l0.eq_2 ..) ?_
    refine Ev.neg (by omega) (Ev.ret ?_)
    rw [List.drop_of_length_le (by omega)]
    rfl
  | succ d ih =>
    intro i hi
    refine Ev.step (fun k => incunablelaw25_in.l0.eq_2 ..) ?_
    refine Ev.pos (by omega) (Ev.pos (by omega) (Ev.pos (by omega) ?_))
    rw [drop_rd (l := l) (i := i) (by omega), w64_succ (by omega)]
    refine Ev.ite (fun h => Ev.ret ?_) (fun h => Ev.eq (ih (i + 1) (by omega)) ?_)
    · rw [h]
      simp
    · have h' : ¬ x = rd l (i : Int) := fun e => h e.symm
      simp [h']
theorem in_ev (l : List Int) (x : Int) (hl : l.length < 1000000000) : Ev (fun k => incunablelaw25_in.f k l x) (decide (x ∈ l)) := by
  refine Ev.congr (fun k => by rw [incunablelaw25_in.f]) ?_
  exact in_l0 x l hl l.length 0 (by omega)
theorem rd_of_drop {p r : List Int} {m : Nat} {a : Int} (h : p.drop m = a :: r) : rd p (m : Int) = a ∧ p.drop (m + 1) = r := by
  have hm : m < p.length := by
    refine Nat.lt_of_not_le fun hh => ?_
    rw [List.drop_of_length_le hh] at h
    cases h
  rw [drop_rd hm] at h
  exact List.cons.inj h
theorem flat_len : ∀ l : List Int, (l.flatMap (Go.Proofs.Ytpabehkdedhncaa.PackMath.le 2)).length = 2 * l.length
  | [] => rfl
  | x :: l => by
    rw [List.flatMap_cons, List.length_append, flat_len l, le_length, List.length_cons]
    omega
theorem drop_flat (t : List Int) : ∀ (i : Nat) (l : List Int), i ≤ l.length → (l.flatMap (Go.Proofs.Ytpabehkdedhncaa.PackMath.le 2) ++ t).drop (2 * i) = (l.drop i).flatMap (Go.Proofs.Ytpabehkdedhncaa.PackMath.le 2) ++ t
  | 0, _, _ => rfl
  | i + 1, [], h => absurd h (by simp)
  | i + 1, x :: l, h => by
    have ih := drop_flat t i l (by simpa using h)
    show ((x % 256 :: x / 256 % 256 :: l.flatMap (Go.Proofs.Ytpabehkdedhncaa.PackMath.le 2)) ++ t).drop (2 * i + 2) = _
    show (l.flatMap (Go.Proofs.Ytpabehkdedhncaa.PackMath.le 2) ++ t).drop (2 * i) = _
    rw [ih]
    rfl
theorem blocks_of {h t l : List Int} (hh : h.length = 10) (hm : ∀ x ∈ l, 0 ≤ x ∧ x < 256) : blocksB (h ++ (l.flatMap (Go.Proofs.Ytpabehkdedhncaa.PackMath.le 2) ++ t)) l.length = l := by
  refine List.ext_getElem (blocks_len _ _) fun i h1 h2 => ?_
  have hx := hm _ (List.getElem_mem h2)
  have e : (h ++ (l.flatMap (Go.Proofs.Ytpabehkdedhncaa.PackMath.le 2) ++ t)).drop (10 + 2 * i) = l[i] % 256 :: l[i] / 256 % 256 :: ((l.drop (i + 1)).flatMap (Go.Proofs.Ytpabehkdedhncaa.PackMath.le 2) ++ t) := by
    rw [← hh, ← List.drop_drop, List.drop_left, drop_flat t i l (by omega), List.drop_eq_getElem_cons h2]
    rfl
  obtain ⟨r1, e1⟩ := rd_of_drop e
  obtain ⟨r2, _⟩ := rd_of_drop e1
  have e3 : ∀ (b : List Int) (n : Nat) (hi : i < (blocksB b n).length), (blocksB b n)[i] = blkB b i := fun b n hi => by simp [blocksB]
  rw [e3]
  unfold blkB
  rw [r1, show 11 + 2 * i = 10 + 2 * i + 1 by omega, r2]
  omega
theorem zero_rep (n : Nat) : zeroB (List.replicate n (0 : Int)) = true := by
  unfold zeroB
  rw [List.all_eq_true]
  intro x hx
  rw [(List.mem_replicate.1 hx).2]
  rfl
theorem four_len (n : Nat) : (four n).length = 4 := rfl
theorem put_back {z v : Int} {l p : List Int} (h : putB z v l = (p, 0)) (hl : l.length ≤ 300) : takeB p = (v, l, 0) ∧ (p.length : Int) = z := by
  unfold putB at h
  split at h
  · rename_i hc
    obtain ⟨hm, hz0, hz1⟩ := hc
    obtain ⟨ha, hv0, hv1⟩ := mayB_parts hm
    split at h
    · rename_i hr
      have hp := (Prod.mk.inj h).1
      have hby := asc_mem l (-1) (by decide) ha
      have hlen := asc_len l (-1) (by decide) ha
      have hbl : (bodyB z v l).length = z.toNat - 4 := by
        unfold bodyB
        rw [List.length_append, List.length_append, head_len, flat_len, List.length_replicate]
        omega
      have hpl : p.length = z.toNat := by
        rw [← hp]
        unfold withCrc
        rw [List.length_append, hbl, four_len]
        omega
      have ht : p.take (p.length - 4) = bodyB z v l := by
        rw [← hp]
        unfold withCrc
        rw [List.length_append, four_len, Nat.add_sub_cancel, List.take_left]
      have hd : p.drop (p.length - 4) = four (CrcMath.sum (nats (bodyB z v l))) := by
        rw [← hp]
        unfold withCrc
        rw [List.length_append, four_len, Nat.add_sub_cancel, List.drop_left]
      have he : ends p = true := by
        unfold ends
        rw [Bool.and_eq_true, decide_eq_true_eq, decide_eq_true_eq, ht, hd]
        exact ⟨by omega, rfl⟩
      have hpe : p = headB v l ++ (l.flatMap (Go.Proofs.Ytpabehkdedhncaa.PackMath.le 2) ++ (List.replicate (z - (14 + 2 * (l.length : Int))).toNat 0 ++ four (CrcMath.sum (nats (bodyB z v l))))) := by
        rw [← hp]
        unfold withCrc
        conv => lhs; arg 1; unfold bodyB
        rw [List.append_assoc, List.append_assoc]
      have h10 : p.take 10 = headB v l := by
        rw [hpe, ← head_len v l, List.take_left]
      have hpk := (back_put (pk_head (l := l) hv0 hv1 hl)).1
      have hbk : blocksB p l.length = l := by
        rw [hpe]
        exact blocks_of (head_len v l) hby
      have hrest : restB p l.length = List.replicate (z - (14 + 2 * (l.length : Int))).toNat 0 := by
        unfold restB
        rw [ht]
        unfold bodyB
        have e : (headB v l ++ l.flatMap (Go.Proofs.Ytpabehkdedhncaa.PackMath.le 2)).length = 10 + 2 * l.length := by rw [List.length_append, head_len, flat_len]
        rw [← e, List.drop_left]
      refine ⟨?_, by omega⟩
      unfold takeB
      rw [if_neg (by omega), if_pos he, h10, hpk]
      dsimp only
      have hr1 : rd [v, (l.length : Int)] 1 = (l.length : Int) := rfl
      have hr0 : rd [v, (l.length : Int)] 0 = v := rfl
      rw [hr1, hr0, if_pos ⟨rfl, by omega, by omega⟩, Int.toNat_natCast, hbk, hrest, zero_rep]
      unfold finB
      rw [Bool.true_and, if_pos hm]
    · have := (Prod.mk.inj h).2
      omega
  · have := (Prod.mk.inj h).2
    omega
theorem flat_blocks {b : List Int} (hb : ∀ x ∈ b, 0 ≤ x ∧ x < 256) : ∀ n : Nat, 10 + 2 * n ≤ b.length → (blocksB b n).flatMap (Go.Proofs.Ytpabehkdedhncaa.PackMath.le 2) = (b.drop 10).take (2 * n)
  | 0, _ => by rw [Nat.mul_zero, List.take_zero]; rfl
  | n + 1, h => by
    have ih := flat_blocks hb n (by omega)
    have m1 := hb _ (rd_mem (l := b) (i := ((10 + 2 * n : Nat) : Int)) (by omega) (by omega))
    have m2 := hb _ (rd_mem (l := b) (i := ((11 + 2 * n : Nat) : Int)) (by omega) (by omega))
    have e2 : ∀ x y : Int, 0 ≤ x ∧ x < 256 → 0 ≤ y ∧ y < 256 → Go.Proofs.Ytpabehkdedhncaa.PackMath.le 2 (x + 256 * y) = [x, y] := fun x y hx hy => by
      show [(x + 256 * y) % 256, (x + 256 * y) / 256 % 256] = [x, y]
      rw [show (x + 256 * y) % 256 = x by omega, show (x + 256 * y) / 256 % 256 = y by omega]
    rw [blocks_succ, List.flatMap_append, ih]
    show _ ++ (Go.Proofs.Ytpabehkdedhncaa.PackMath.le 2 (blkB b n) ++ []) = _
    unfold blkB
    rw [e2 _ _ m1 m2, List.append_nil, show 2 * (n + 1) = 2 * n + 2 by omega, List.take_add, List.drop_drop]
    congr 1
    have c := cut_two (b := b) (m := 10 + 2 * n) (by omega)
    rw [List.drop_take, show 10 + 2 * n + 2 - (10 + 2 * n) = 2 by omega] at c
    rw [c, show 11 + 2 * n = 10 + 2 * n + 1 by omega]
theorem rep_zero {l : List Int} (h : zeroB l = true) : l = List.replicate l.length 0 := by
  refine List.eq_replicate_iff.2 ⟨rfl, fun x hx => ?_⟩
  unfold zeroB at h
  have := List.all_eq_true.1 h x hx
  rwa [decide_eq_true_eq] at this
theorem take_back {b l : List Int} {v : Int} (hb : ∀ x ∈ b, 0 ≤ x ∧ x < 256) (hbl : b.length ≤ 1000) (h : takeB b = (v, l, 0)) : putB (b.length : Int) v l = (b, 0) ∧ l.length ≤ 256 := by
  unfold takeB at h
  split at h
  · have := (Prod.mk.inj (Prod.mk.inj h).2).2
    omega
  rename_i h14
  split at h
  · rename_i he
    have hh := take_head (s := b.take 10) (byte_sub hb fun x => List.mem_of_mem_take)
    have hbk := fun l => back_take (ss := [8, 2]) (b := b.take 10) (l := l) (byte_sub hb fun x => List.mem_of_mem_take)
    generalize pkTake [8, 2] (b.take 10) = p at hh h hbk
    obtain ⟨t, e⟩ := p
    split at h
    · rename_i hc
      obtain ⟨c0, c1, c2⟩ := hc
      obtain ⟨v', n, ht, hv, hn, hn2⟩ := hh c0
      dsimp only at ht c0 c1 c2 h
      subst ht
      subst c0
      have hr1 : rd [v', n] 1 = n := rfl
      have hr0 : rd [v', n] 0 = v' := rfl
      rw [hr1] at c1 c2 h
      rw [hr0] at h
      obtain ⟨m, rfl⟩ := Int.eq_ofNat_of_zero_le hn
      rw [Int.toNat_natCast] at h
      unfold finB at h
      split at h
      · rename_i hz
        rw [Bool.and_eq_true] at hz
        obtain ⟨hz, hm⟩ := hz
        have e1 := (Prod.mk.inj h).1
        have e2 := (Prod.mk.inj (Prod.mk.inj h).2).1
        subst e1
        subst e2
        have hbb := hbk _ rfl
        obtain ⟨ha, hv0, hv1⟩ := mayB_parts hm
        have hlm := blocks_len b m
        have hk := pk_head (v := v') (l := blocksB b m) hv0 hv1 (by omega)
        rw [hlm, hbb] at hk
        have hhead : headB v' (blocksB b m) = b.take 10 := ((Prod.mk.inj hk).1).symm
        refine ⟨?_, by omega⟩
        unfold putB
        rw [if_pos ⟨hm, by omega, by omega⟩, if_pos (by omega)]
        congr 1
        have hbody : bodyB (b.length : Int) v' (blocksB b m) = b.take (b.length - 4) := by
          unfold bodyB
          rw [hhead, flat_blocks hb m (by omega), hlm]
          have hrl : (restB b m).length = ((b.length : Int) - (14 + 2 * (m : Int))).toNat := by
            unfold restB
            rw [List.length_drop, List.length_take]
            omega
          rw [← hrl, ← rep_zero hz]
          unfold restB
          have s1 : b.take 10 ++ (b.drop 10).take (2 * m) = b.take (10 + 2 * m) := List.take_add.symm
          rw [s1]
          have s2 : b.take (10 + 2 * m) = (b.take (b.length - 4)).take (10 + 2 * m) := by
            rw [List.take_take, Nat.min_eq_left (by omega)]
          rw [s2, List.take_append_drop]
        unfold withCrc
        rw [hbody]
        unfold ends at he
        rw [Bool.and_eq_true, decide_eq_true_eq, decide_eq_true_eq] at he
        rw [he.2, List.take_append_drop]
      · have := (Prod.mk.inj (Prod.mk.inj h).2).2
        omega
    · have := (Prod.mk.inj (Prod.mk.inj h).2).2
      omega
  · have := (Prod.mk.inj (Prod.mk.inj h).2).2
    omega
theorem join_lt {a b : List Int} {i : Nat} (h : i + 1 < (bad_Join_upto a b 256).length) : rd (bad_Join_upto a b 256) (i : Int) < rd (bad_Join_upto a b 256) ((i + 1 : Nat) : Int) := by
  have hp : (bad_Join_upto a b 256).Pairwise (· < ·) := by
    unfold bad_Join_upto
    rw [List.pairwise_map]
    refine List.Pairwise.imp ?_ (List.Pairwise.filter _ List.pairwise_lt_range)
    intro x y hxy
    exact_mod_cast hxy
  rw [rd_nat (by omega), rd_nat h]
  exact List.pairwise_iff_getElem.1 hp i (i + 1) (by omega) h (by omega)
theorem badBack_l1 {a b : List Int} (ha : a.length ≤ 300) (hb : b.length ≤ 300) (d : Nat) : ∀ i : Nat, i + d = (a ++ b).length →
    Ev (fun k => incunablelaw25_BadBack.l1 k (bad_Join_upto a b 256) (a ++ b) (((a ++ b).length : Nat) : Int) (i : Int)) true := by
  have hlen : (a ++ b).length ≤ 600 := by rw [List.length_append]; omega
  have hj := join_le a b
  induction d with
  | zero =>
    intro i hi
    refine Ev.step (fun k => incunablelaw25_BadBack.l1.eq_2 ..) ?_
    exact Ev.neg (by omega) (Ev.ret rfl)
  | succ d ih =>
    intro i hi
    refine Ev.step (fun k => incunablelaw25_BadBack.l1.eq_2 ..) ?_
    refine Ev.pos (by omega) (Ev.pos (by omega) (Ev.pos (by omega) ?_))
    have hx := rd_mem (l := a ++ b) (i := (i : Int)) (by omega) (by omega)
    rw [w64_succ (by omega)]
    have e := ih (i + 1) (by omega)
    generalize rd (a ++ b) (i : Int) = x at hx
    refine Ev.ite (fun h0 => Ev.ite (fun h1 => ?_) (fun _ => e)) (fun _ => e)
    refine Ev.bind (in_ev _ x (by omega)) (Ev.pos (decide_eq_true (mem_join.2 ⟨h0, h1, List.mem_append.1 hx⟩)) e)
theorem badBack_l0 {a b : List Int} (z v : Int) (ha : a.length ≤ 300) (hb : b.length ≤ 300) (d : Nat) : ∀ i : Nat, i + d = (bad_Join_upto a b 256).length →
    Ev (fun k => incunablelaw25_BadBack.l0 k b (bad_Join_upto a b 256) (bad_Join_upto a b 256) (((bad_Join_upto a b 256).length : Nat) : Int) (i : Int) z v a) true := by
  have hj := join_le a b
  induction d with
  | zero =>
    intro i hi
    refine Ev.step (fun k => incunablelaw25_BadBack.l0.eq_2 ..) ?_
    refine Ev.neg (by omega) ?_
    refine Ev.bindv rfl (Ev.pos (by show 0 + a.length < _; omega) (Ev.bindv rfl (Ev.pos (by show a.length + b.length < _; omega) (Ev.bindv rfl ?_))))
    exact badBack_l1 ha hb (a ++ b).length 0 (Nat.zero_add _)
  | succ d ih =>
    intro i hi
    refine Ev.step (fun k => incunablelaw25_BadBack.l0.eq_2 ..) ?_
    refine Ev.pos (by omega) (Ev.pos (by omega) (Ev.pos (by omega) ?_))
    have hx := mem_join.1 (rd_mem (l := bad_Join_upto a b 256) (i := (i : Int)) (by omega) (by omega))
    have hlt := fun (hi0 : 0 < i) => join_lt (a := a) (b := b) (i := i - 1) (by omega)
    rw [w64_succ (by omega)]
    have e := ih (i + 1) (by omega)
    have hw : 0 < i → wrap64 ((i : Int) - 1) = ((i - 1 : Nat) : Int) := fun h => by
      rw [w64_id (by omega) (by omega)]
      omega
    have fin : ∀ {f : Nat → Option Bool}, Ev f true → Ev (fun k => if rd (bad_Join_upto a b 256) (i : Int) < 0 then some false else if rd (bad_Join_upto a b 256) (i : Int) ≥ 256 then some false else f k) true := fun h => Ev.neg (by omega) (Ev.neg (by omega) h)
    have both : Ev (fun k => (incunablelaw25_in.f k a (rd (bad_Join_upto a b 256) (i : Int))).bind fun t => if t = true then (if rd (bad_Join_upto a b 256) (i : Int) < 0 then some false else if rd (bad_Join_upto a b 256) (i : Int) ≥ 256 then some false else incunablelaw25_BadBack.l0 k b (bad_Join_upto a b 256) (bad_Join_upto a b 256) (((bad_Join_upto a b 256).length : Nat) : Int) ((i + 1 : Nat) : Int) z v a) else
        ((incunablelaw25_in.f k b (rd (bad_Join_upto a b 256) (i : Int))).bind fun t => if t = true then (if rd (bad_Join_upto a b 256) (i : Int) < 0 then some false else if rd (bad_Join_upto a b 256) (i : Int) ≥ 256 then some false else incunablelaw25_BadBack.l0 k b (bad_Join_upto a b 256) (bad_Join_upto a b 256) (((bad_Join_upto a b 256).length : Nat) : Int) ((i + 1 : Nat) : Int) z v a) else some false)) true := by
      refine Ev.bind (in_ev a _ (by omega)) (Ev.ite (fun _ => fin e) (fun hna => ?_))
      refine Ev.bind (in_ev b _ (by omega)) (Ev.pos ?_ (fin e))
      rcases hx.2.2 with hm | hm
      · exact absurd (decide_eq_true hm) hna
      · exact decide_eq_true hm
    by_cases hi0 : 0 < i
    · rw [hw hi0]
      have hl := hlt hi0
      rw [show i - 1 + 1 = i by omega] at hl
      exact Ev.pos (by omega) (Ev.pos (by omega) (Ev.pos (by omega) (Ev.neg (by omega) both)))
    · exact Ev.neg (by omega) both
theorem badBack_j1 (c a b : List Int) (z v : Int) (hc : ∀ x ∈ c, 0 ≤ x ∧ x < 256) (hcl : c.length ≤ 1000) (ha : a.length ≤ 300) (hb : b.length ≤ 300) : Ev (fun k => incunablelaw25_BadBack.j1 k c b z v a) true := by
  have h2 : Ev (fun k => incunablelaw25_BadBack.j2 k b z v a) true := by
    refine Ev.step (fun k => incunablelaw25_BadBack.j2.eq_2 ..) ?_
    refine Ev.bindv (show bad_Join.f a b = some (bad_Join_upto a b 256) from rfl) ?_
    exact badBack_l0 z v ha hb _ 0 (Nat.zero_add _)
  refine Ev.step (fun k => incunablelaw25_BadBack.j1.eq_2 ..) ?_
  refine Ev.bind (btake_ev c hc (by omega)) ?_
  refine Ev.ite (fun h => ?_) (fun _ => h2)
  obtain ⟨hp, hl⟩ := take_back (v := (takeB c).1) (l := (takeB c).2.1) hc hcl (Prod.ext rfl (Prod.ext rfl h))
  refine Ev.bind (bput_ev (c.length : Int) (takeB c).1 (takeB c).2.1 (by omega)) ?_
  rw [hp]
  exact Ev.pos rfl (Ev.bind (same_ev c c (by omega)) (Ev.pos (decide_eq_true rfl) h2))
theorem BadBack : StmBadBack := by
  intro x c b _ _ hcw _ _
  obtain ⟨z, v, a⟩ := x
  have hc : ∀ x ∈ c, 0 ≤ x ∧ x < 256 := fun x hx => wf_u8 (hcw.2 x hx)
  show ∃ k, incunablelaw25_BadBack.f k z v a c b = some true
  refine Ev.rounds (Ev.congr (fun k => by rw [incunablelaw25_BadBack.f]) ?_)
  refine Ev.bindv room_awake (Ev.pos rfl ?_)
  have hj : Ev (fun k => incunablelaw25_BadBack.j0 k c b true z v a) true := Ev.step (fun k => incunablelaw25_BadBack.j0.eq_2 ..) (Ev.pos rfl (Ev.ret rfl))
  refine Ev.ite (fun _ => hj) (fun h1 => Ev.ite (fun _ => hj) (fun h2 => Ev.ite (fun _ => hj) (fun h3 => ?_)))
  by_cases h4 : (b.length : Int) > 300
  · rw [decide_eq_true h4]
    exact hj
  rw [decide_eq_false h4]
  have hn := badBack_j1 c a b z v hc (by omega) (by omega) (by omega)
  refine Ev.step (fun k => incunablelaw25_BadBack.j0.eq_2 ..) ?_
  refine Ev.neg (by decide) (Ev.bind (bput_ev z v a (by omega)) (Ev.ite (fun h0 => ?_) (fun _ => hn)))
  obtain ⟨ht, hl⟩ := put_back (z := z) (v := v) (l := a) (p := (putB z v a).1) (Prod.ext rfl h0) (by omega)
  have hby : ∀ x ∈ (putB z v a).1, 0 ≤ x ∧ x < 256 := by
    unfold putB
    split
    · split
      · exact app_byte (app_byte (app_byte (head_byte v a) (fun x hx => by
          obtain ⟨y, _, hy⟩ := List.mem_flatMap.1 hx
          exact le_byte 2 y x hy)) (zeros_byte _)) (four_byte _)
      · exact fun x hx => absurd hx (by simp)
    · exact fun x hx => absurd hx (by simp)
  refine Ev.bind (btake_ev _ hby (by omega)) ?_
  rw [ht]
  refine Ev.pos rfl (Ev.pos rfl (Ev.bind (ints_ev a a (by omega)) (Ev.pos (decide_eq_true rfl) (Ev.pos hl hn))))
end Go.Proofs.Ytpabehkdedhncaa.Pure
