/-
  Texts for the law BadBytes, laid together by my program merge.py: each of them begins with what it says.
-/
import Derived.Test.YtpabehkdedhncaaMBadBytesx2
/-
  Tables of bad blocks: what bad.Take (and the document's Take) come to.
-/
namespace Go.Proofs.Ytpabehkdedhncaa.PureBadBytes
open Go.RowKit Go.Proofs.Ytpabehkdedhncaa.QBadBytes Go.Proofs.YtpabehkdedhncaaW.PrintWords Go.Proofs.YtpabehkdedhncaaW.PrintLast Go.Proofs.YtpabehkdedhncaaW.PrintMore Go.Proofs.Ytpabehkdedhncaa.EvKit Go.Proofs.Ytpabehkdedhncaa.PackMath Go.Proofs.Ytpabehkdedhncaa.CrcMath Go.Proofs.Ytpabehkdedhncaa.NatKit
def blkB (b : List Int) (i : Nat) : Int := rd b ((10 + 2 * i : Nat) : Int) + 256 * rd b ((11 + 2 * i : Nat) : Int)
def blocksB (b : List Int) (n : Nat) : List Int := (List.range n).map (blkB b)
def zeroB (l : List Int) : Bool := l.all fun x => decide (x = 0)
def finB (v : Int) (bs : List Int) (z : Bool) : Int × List Int × Int := if (z && mayB v bs) = true then (v, bs, 0) else (0, [], 11)
def restB (b : List Int) (n : Nat) : List Int := (b.take (b.length - 4)).drop (10 + 2 * n)
def takeB (b : List Int) : Int × List Int × Int :=
  if b.length < 14 then (0, [], 10) else if ends b = true then
    (if (pkTake [8, 2] (b.take 10)).2 = 0 ∧ ¬ rd (pkTake [8, 2] (b.take 10)).1 1 > ((b.length : Int) - 14) / 2 ∧ ¬ rd (pkTake [8, 2] (b.take 10)).1 1 > 256 then
      finB (rd (pkTake [8, 2] (b.take 10)).1 0) (blocksB b (rd (pkTake [8, 2] (b.take 10)).1 1).toNat) (zeroB (restB b (rd (pkTake [8, 2] (b.take 10)).1 1).toNat))
    else (0, [], 11)) else (0, [], 12)
theorem two0 (v n : Int) : (0 : Int) < (([v, n] : List Int).length : Int) := by
  show (0 : Int) < ((2 : Nat) : Int)
  decide
theorem two1 (v n : Int) : (1 : Int) < (([v, n] : List Int).length : Int) := by
  show (1 : Int) < ((2 : Nat) : Int)
  decide
theorem blocks_succ (b : List Int) (n : Nat) : blocksB b (n + 1) = blocksB b n ++ [blkB b n] := by
  unfold blocksB
  rw [List.range_succ, List.map_append]
  rfl
theorem blocks_len (b : List Int) (n : Nat) : (blocksB b n).length = n := by
  unfold blocksB
  rw [List.length_map, List.length_range]
theorem byte_sub {b c : List Int} (hb : ∀ x ∈ b, 0 ≤ x ∧ x < 256) (h : ∀ x ∈ c, x ∈ b) : ∀ x ∈ c, 0 ≤ x ∧ x < 256 := fun x hx => hb x (h x hx)
theorem take_two {s : List Int} (h : s.length = 2) (hb : ∀ x ∈ s, 0 ≤ x ∧ x < 256) : pkTake [2] s = ([unle s], 0) := by
  have hu : unle s ≤ 4611686018427387904 := by
    have := unle_lt s hb
    rw [h] at this
    have e : (256 : Int) ^ 2 = 65536 := rfl
    omega
  have ht : s.take (2 : Int).toNat = s := List.take_of_length_le (by rw [h]; exact Nat.le_refl 2)
  have g : takeGo [2] s = some [unle s] := by
    show (if unle (s.take (2 : Int).toNat) ≤ 4611686018427387904 then (some []).map (unle (s.take (2 : Int).toNat) :: ·) else none) = _
    rw [ht, if_pos hu]
    rfl
  unfold pkTake
  have hs : [(2 : Int)].sum = 2 := rfl
  rw [if_pos (by decide), hs, if_neg (by omega), if_neg (by omega), g]
  rfl
theorem take_head {s : List Int} (hb : ∀ x ∈ s, 0 ≤ x ∧ x < 256) (h : (pkTake [8, 2] s).2 = 0) : ∃ v n : Int, (pkTake [8, 2] s).1 = [v, n] ∧ 0 ≤ v ∧ 0 ≤ n ∧ n < 65536 := by
  generalize hp : pkTake [8, 2] s = p at h
  obtain ⟨l, e⟩ := p
  dsimp only at h
  subst h
  obtain ⟨_, h2, h3⟩ := pkTake_ok hp
  have hlen : s.length = 10 := by
    have : [(8 : Int), 2].sum = 10 := rfl
    omega
  have b1 := byte_sub hb (c := s.take (8 : Int).toNat) (fun x => List.mem_of_mem_take)
  have b2 := byte_sub hb (c := (s.drop (8 : Int).toNat).take (2 : Int).toNat) (fun x hx => List.mem_of_mem_drop (List.mem_of_mem_take hx))
  have hl2 : ((s.drop (8 : Int).toNat).take (2 : Int).toNat).length = 2 := by
    rw [List.length_take, List.length_drop, hlen]
    rfl
  have u2 := unle_lt _ b2
  rw [hl2] at u2
  have e2 : (256 : Int) ^ 2 = 65536 := rfl
  have n1 := unle_nonneg _ b1
  have n2 := unle_nonneg _ b2
  have h3 : (if unle (s.take (8 : Int).toNat) ≤ 4611686018427387904 then (if unle ((s.drop (8 : Int).toNat).take (2 : Int).toNat) ≤ 4611686018427387904 then (some []).map (unle ((s.drop (8 : Int).toNat).take (2 : Int).toNat) :: ·) else none).map (unle (s.take (8 : Int).toNat) :: ·) else none) = some l := h3
  split at h3
  · rw [if_pos (by omega)] at h3
    have h3 := Option.some.inj h3
    exact ⟨_, _, h3.symm, n1, n2, by omega⟩
  · cases h3
theorem cut_two {b : List Int} {m : Nat} (h : m + 2 ≤ b.length) : (b.take (m + 2)).drop m = [rd b (m : Int), rd b ((m + 1 : Nat) : Int)] := by
  rw [List.drop_take, show m + 2 - m = 2 by omega, drop_rd (l := b) (i := m) (by omega), drop_rd (l := b) (i := m + 1) (by omega)]
  rfl
theorem fin_loop {f : Nat → Option (Int × List Int × Int)} {v : Int} {bs : List Int} (h : f = fun k => (bad_may.f k v bs).bind fun t => if t = true then some (v, bs, 0) else some (0, ([] : List Int), 11)) (hl : bs.length < 1000000000) : Ev f (finB v bs true) := by
  subst h
  refine Ev.bind (may_ev v bs hl) ?_
  unfold finB
  rw [Bool.true_and]
  refine Ev.ite (fun h => Ev.ret ?_) (fun h => Ev.ret ?_)
  · rw [if_pos h]
  · rw [if_neg h]
theorem btake_l1 {v n : Int} {bs c : List Int} (hbs : bs.length < 1000000000) (hc : c.length < 1000000000) (d : Nat) : ∀ j : Nat, j + d = c.length →
    Ev (fun k => bad_Take.l1 k bs [v, n] c (c.length : Int) (j : Int)) (finB v bs (zeroB (c.drop j))) := by
  induction d with
  | zero =>
    intro j hj
    refine Ev.step (fun k => bad_Take.l1.eq_2 ..) ?_
    refine Ev.neg (by omega) (Ev.pos (two0 v n) ?_)
    rw [List.drop_of_length_le (by omega)]
    exact fin_loop rfl hbs
  | succ d ih =>
    intro j hj
    refine Ev.step (fun k => bad_Take.l1.eq_2 ..) ?_
    refine Ev.pos (by omega) (Ev.pos (by omega) (Ev.pos (by omega) ?_))
    rw [drop_rd (l := c) (i := j) (by omega), w64_succ (by omega)]
    have e := ih (j + 1) (by omega)
    generalize rd c (j : Int) = x
    unfold zeroB at e ⊢
    rw [List.all_cons]
    refine Ev.ite (fun h => Ev.eq e ?_) (fun h => Ev.ret ?_)
    · rw [decide_eq_true h, Bool.true_and]
    · rw [decide_eq_false h, Bool.false_and]
      rfl
theorem btake_l0 {b : List Int} {v : Int} {n : Nat} (hb : ∀ x ∈ b, 0 ≤ x ∧ x < 256) (hl : b.length < 1000000) (hn : 14 + 2 * n ≤ b.length) (d : Nat) : ∀ i : Nat, i + d = n →
    Ev (fun k => bad_Take.l0 k b (blocksB b i) [v, (n : Int)] (n : Int) (i : Int)) (finB v (blocksB b n) (zeroB (restB b n))) := by
  induction d with
  | zero =>
    intro i hi
    have h1 : wrap64 (10 + wrap64 (2 * (n : Int))) = ((10 + 2 * n : Nat) : Int) := by
      rw [w64_id (x := 2 * (n : Int)) (by omega) (by omega), w64_id (by omega) (by omega)]
      omega
    have h2 : wrap64 ((b.length : Int) - 4) = ((b.length - 4 : Nat) : Int) := by
      rw [w64_id (by omega) (by omega)]
      omega
    refine Ev.step (fun k => bad_Take.l0.eq_2 ..) ?_
    have hr : rd [v, (n : Int)] 1 = (n : Int) := rfl
    refine Ev.neg (by omega) (Ev.pos (two1 v n) ?_)
    rw [hr, h1, h2, Int.toNat_natCast, Int.toNat_natCast]
    clear h1 h2
    obtain rfl : i = n := by omega
    refine Ev.pos (by omega) (Ev.pos (by omega) (Ev.pos (by omega) ?_))
    exact btake_l1 (by rw [blocks_len]; omega) (by rw [List.length_drop, List.length_take]; omega) ((b.take (b.length - 4)).drop (10 + 2 * i)).length 0 (Nat.zero_add _)
  | succ d ih =>
    intro i hi
    have h1 : wrap64 (10 + wrap64 (2 * (i : Int))) = ((10 + 2 * i : Nat) : Int) := by
      rw [w64_id (x := 2 * (i : Int)) (by omega) (by omega), w64_id (by omega) (by omega)]
      omega
    have h2 : wrap64 (((10 + 2 * i : Nat) : Int) + 2) = ((10 + 2 * i + 2 : Nat) : Int) := by
      rw [w64_id (by omega) (by omega)]
      omega
    refine Ev.step (fun k => bad_Take.l0.eq_2 ..) ?_
    refine Ev.pos (by omega) ?_
    rw [h1, h2, Int.toNat_natCast, Int.toNat_natCast, w64_succ (by omega)]
    clear h1 h2
    refine Ev.pos (by omega) (Ev.pos (by omega) (Ev.pos (by omega) ?_))
    have hc := cut_two (b := b) (m := 10 + 2 * i) (by omega)
    rw [hc]
    have m1 := rd_mem (l := b) (i := ((10 + 2 * i : Nat) : Int)) (by omega) (by omega)
    have m2 := rd_mem (l := b) (i := ((10 + 2 * i + 1 : Nat) : Int)) (by omega) (by omega)
    have hcb : ∀ x ∈ [rd b ((10 + 2 * i : Nat) : Int), rd b ((10 + 2 * i + 1 : Nat) : Int)], 0 ≤ x ∧ x < 256 := by
      intro x hx
      rcases List.mem_cons.1 hx with rfl | hx
      · exact hb _ m1
      · rcases List.mem_cons.1 hx with rfl | hx
        · exact hb _ m2
        · cases hx
    refine Ev.bind (take_ev [2] _ hcb) ?_
    rw [take_two rfl hcb]
    have hu : unle [rd b ((10 + 2 * i : Nat) : Int), rd b ((10 + 2 * i + 1 : Nat) : Int)] = blkB b i := by
      show rd b ((10 + 2 * i : Nat) : Int) + 256 * (rd b ((10 + 2 * i + 1 : Nat) : Int) + 256 * 0) = rd b ((10 + 2 * i : Nat) : Int) + 256 * rd b ((11 + 2 * i : Nat) : Int)
      rw [show 10 + 2 * i + 1 = 11 + 2 * i by omega]
      omega
    rw [hu]
    refine Ev.pos (by show (blocksB b i).length + 1 < _; rw [blocks_len]; omega) ?_
    have e := ih (i + 1) (by omega)
    rw [blocks_succ] at e
    exact e
theorem tdiv_half {m : Nat} (h0 : 14 ≤ m) (h : m < 1000000) : wrap64 (Int.tdiv (wrap64 ((m : Int) - 14)) 2) = ((m : Int) - 14) / 2 := by
  rw [w64_id (x := (m : Int) - 14) (by omega) (by omega), Int.tdiv_eq_ediv_of_nonneg (by omega), w64_id (by omega) (by omega)]
theorem btake_ev (b : List Int) (hb : ∀ x ∈ b, 0 ≤ x ∧ x < 256) (hl : b.length < 1000000) : Ev (fun k => bad_Take.f k b) (takeB b) := by
  refine Ev.congr (fun k => by rw [bad_Take.f]) ?_
  unfold takeB
  by_cases h14 : b.length < 14
  · rw [if_pos h14]
    exact Ev.pos (by omega) (Ev.ret rfl)
  rw [if_neg h14]
  refine Ev.neg (by omega) (Ev.bind (check_ev hb hl) (Ev.ite (fun he => ?_) (fun he => Ev.ret (by rw [if_neg he]))))
  rw [if_pos he]
  refine Ev.pos (by omega) (Ev.bind (take_ev [8, 2] (b.take 10) (byte_sub hb fun x => List.mem_of_mem_take)) ?_)
  have hbad : ∀ t, Ev (fun k => bad_Take.j0 k b [] t true) (0, [], 11) := fun t => Ev.step (fun k => bad_Take.j0.eq_2 ..) (Ev.pos rfl (Ev.ret rfl))
  have hh := take_head (s := b.take 10) (byte_sub hb fun x => List.mem_of_mem_take)
  generalize pkTake [8, 2] (b.take 10) = p at hh
  obtain ⟨t, e⟩ := p
  by_cases h0 : e = 0
  · obtain ⟨v, n, ht, hv, hn, hn2⟩ := hh h0
    dsimp only at ht
    subst ht
    have hr : rd [v, n] 1 = n := rfl
    have hr0 : rd [v, n] 0 = v := rfl
    refine Ev.pos h0 (Ev.pos (two1 v n) ?_)
    rw [tdiv_half (by omega) hl]
    dsimp only
    rw [hr, hr0]
    by_cases hg : n > ((b.length : Int) - 14) / 2
    · rw [if_neg (fun z => z.2.1 hg)]
      exact Ev.pos hg (hbad _)
    refine Ev.neg hg ?_
    by_cases hg2 : n > 256
    · rw [if_neg (fun z => z.2.2 hg2), decide_eq_true hg2]
      exact hbad _
    rw [if_pos ⟨h0, hg, hg2⟩, decide_eq_false hg2]
    refine Ev.step (fun k => bad_Take.j0.eq_2 ..) (Ev.neg (by decide) (Ev.pos (two1 v n) ?_))
    rw [hr]
    obtain ⟨m, rfl⟩ := Int.eq_ofNat_of_zero_le hn
    rw [Int.toNat_natCast]
    exact btake_l0 hb hl (by omega) m 0 (by omega)
  · rw [if_neg (fun z => h0 z.1)]
    exact Ev.neg h0 (hbad _)
theorem rfin_loop {f : Nat → Option (Int × List Int × Int)} {v : Int} {bs : List Int} (h : f = fun k => (incunableref25_May.f k v bs).bind fun t => if t = true then some (v, bs, 0) else some (0, ([] : List Int), 11)) (hl : bs.length < 1000000000) : Ev f (finB v bs true) := by
  subst h
  refine Ev.bind (rmay_ev v bs hl) ?_
  unfold finB
  rw [Bool.true_and]
  refine Ev.ite (fun h => Ev.ret ?_) (fun h => Ev.ret ?_)
  · rw [if_pos h]
  · rw [if_neg h]
theorem rd_take {b : List Int} {j m : Nat} (h : j < m) (hm : m ≤ b.length) : rd (b.take m) (j : Int) = rd b (j : Int) := by
  rw [rd_nat (l := b.take m) (by rw [List.length_take]; omega), rd_nat (l := b) (by omega), List.getElem_take]
theorem rbtake_l1 {b : List Int} {v n : Int} {bs : List Int} (hbs : bs.length < 1000000000) (hl : b.length < 1000000) (h4 : 4 ≤ b.length) (d : Nat) : ∀ j : Nat, j + d = b.length - 4 →
    Ev (fun k => incunableref25_Take.l1 k b ((b.length - 4 : Nat) : Int) [v, n] bs (j : Int)) (finB v bs (zeroB ((b.take (b.length - 4)).drop j))) := by
  have hc : (b.take (b.length - 4)).length = b.length - 4 := by rw [List.length_take]; omega
  induction d with
  | zero =>
    intro j hj
    refine Ev.step (fun k => incunableref25_Take.l1.eq_2 ..) ?_
    refine Ev.neg (by omega) (Ev.pos (two0 v n) ?_)
    rw [List.drop_of_length_le (by omega)]
    exact rfin_loop rfl hbs
  | succ d ih =>
    intro j hj
    refine Ev.step (fun k => incunableref25_Take.l1.eq_2 ..) ?_
    refine Ev.pos (by omega) (Ev.pos (by omega) (Ev.pos (by omega) ?_))
    rw [drop_rd (l := b.take (b.length - 4)) (i := j) (by omega), rd_take (by omega) (by omega), w64_succ (by omega)]
    have e := ih (j + 1) (by omega)
    generalize rd b (j : Int) = x
    unfold zeroB at e ⊢
    rw [List.all_cons]
    refine Ev.ite (fun h => Ev.eq e ?_) (fun h => Ev.ret ?_)
    · rw [decide_eq_true h, Bool.true_and]
    · rw [decide_eq_false h, Bool.false_and]
      rfl
theorem rbtake_l0 {b : List Int} {v : Int} {n : Nat} (hb : ∀ x ∈ b, 0 ≤ x ∧ x < 256) (hl : b.length < 1000000) (hn : 14 + 2 * n ≤ b.length) (d : Nat) : ∀ i : Nat, i + d = n →
    Ev (fun k => incunableref25_Take.l0 k b ((b.length - 4 : Nat) : Int) [v, (n : Int)] (blocksB b i) (i : Int)) (finB v (blocksB b n) (zeroB (restB b n))) := by
  have hr : rd [v, (n : Int)] 1 = (n : Int) := rfl
  induction d with
  | zero =>
    intro i hi
    have h1 : wrap64 (10 + wrap64 (2 * (n : Int))) = ((10 + 2 * n : Nat) : Int) := by
      rw [w64_id (x := 2 * (n : Int)) (by omega) (by omega), w64_id (by omega) (by omega)]
      omega
    refine Ev.step (fun k => incunableref25_Take.l0.eq_2 ..) ?_
    refine Ev.pos (two1 v n) ?_
    rw [hr, h1]
    clear h1
    obtain rfl : i = n := by omega
    refine Ev.neg (by omega) ?_
    exact rbtake_l1 (by rw [blocks_len]; omega) hl (by omega) (b.length - 4 - (10 + 2 * i)) (10 + 2 * i) (by omega)
  | succ d ih =>
    intro i hi
    have h1 : wrap64 (10 + wrap64 (2 * (i : Int))) = ((10 + 2 * i : Nat) : Int) := by
      rw [w64_id (x := 2 * (i : Int)) (by omega) (by omega), w64_id (by omega) (by omega)]
      omega
    have h2 : wrap64 (11 + wrap64 (2 * (i : Int))) = ((11 + 2 * i : Nat) : Int) := by
      rw [w64_id (x := 2 * (i : Int)) (by omega) (by omega), w64_id (by omega) (by omega)]
      omega
    refine Ev.step (fun k => incunableref25_Take.l0.eq_2 ..) ?_
    refine Ev.pos (two1 v n) ?_
    rw [hr, h1, h2, w64_succ (by omega)]
    clear h1 h2
    have m1 := hb _ (rd_mem (l := b) (i := ((10 + 2 * i : Nat) : Int)) (by omega) (by omega))
    have m2 := hb _ (rd_mem (l := b) (i := ((11 + 2 * i : Nat) : Int)) (by omega) (by omega))
    have hu : wrap64 (wrap64 (rd b ((10 + 2 * i : Nat) : Int)) + wrap64 (256 * wrap64 (rd b ((11 + 2 * i : Nat) : Int)))) = blkB b i := by
      unfold blkB
      generalize rd b ((10 + 2 * i : Nat) : Int) = x at m1
      generalize rd b ((11 + 2 * i : Nat) : Int) = y at m2
      rw [w64_id (x := x) (by omega) (by omega), w64_id (x := y) (by omega) (by omega), w64_id (x := 256 * y) (by omega) (by omega), w64_id (by omega) (by omega)]
    rw [hu]
    clear hu
    refine Ev.pos (by omega) (Ev.pos (by omega) (Ev.pos (by omega) (Ev.pos (by omega) (Ev.pos (by omega) (Ev.pos (by rw [blocks_len]; omega) ?_)))))
    have e := ih (i + 1) (by omega)
    rw [blocks_succ] at e
    exact e
theorem rbtake_ev (b : List Int) (hb : ∀ x ∈ b, 0 ≤ x ∧ x < 256) (hl : b.length < 1000000) : Ev (fun k => incunableref25_Take.f k b) (takeB b) := by
  refine Ev.congr (fun k => by rw [incunableref25_Take.f]) ?_
  unfold takeB
  by_cases h14 : b.length < 14
  · rw [if_pos h14]
    exact Ev.pos (by omega) (Ev.ret rfl)
  rw [if_neg h14]
  have h2 : wrap64 ((b.length : Int) - 4) = ((b.length - 4 : Nat) : Int) := by
    rw [w64_id (by omega) (by omega)]
    omega
  rw [h2, Int.toNat_natCast]
  clear h2
  refine Ev.neg (by omega) (Ev.pos (by omega) (Ev.pos (by omega) ?_))
  refine Ev.bind (rsum_ev (byte_sub hb fun x => List.mem_of_mem_take) (by rw [List.length_take]; omega)) ?_
  refine Ev.bindv (rbytes_eq _) ?_
  refine Ev.bind (same_ev _ (b.drop (b.length - 4)) (by show 4 < 1000000000; decide)) ?_
  have hends : ends b = decide (four (CrcMath.sum (nats (b.take (b.length - 4)))) = b.drop (b.length - 4)) := by
    unfold ends
    rw [decide_eq_true (p := 4 ≤ b.length) (by omega), Bool.true_and]
  rw [← hends]
  refine Ev.ite (fun he => ?_) (fun he => Ev.ret (by rw [if_neg he]))
  rw [if_pos he]
  refine Ev.pos (by omega) ?_
  refine Ev.bind (rtake_ev [8, 2] (b.take 10) (by decide) (byte_sub hb fun x => List.mem_of_mem_take) (by rw [List.length_take]; omega)) ?_
  have hbad : ∀ t, Ev (fun k => incunableref25_Take.j0 k b ((b.length - 4 : Nat) : Int) t true) (0, [], 11) := fun t => Ev.step (fun k => incunableref25_Take.j0.eq_2 ..) (Ev.pos rfl (Ev.ret rfl))
  have hh := take_head (s := b.take 10) (byte_sub hb fun x => List.mem_of_mem_take)
  generalize pkTake [8, 2] (b.take 10) = p at hh
  obtain ⟨t, e⟩ := p
  by_cases h0 : e = 0
  · obtain ⟨v, n, ht, hv, hn, hn2⟩ := hh h0
    dsimp only at ht
    subst ht
    have hr : rd [v, n] 1 = n := rfl
    have hr0 : rd [v, n] 0 = v := rfl
    refine Ev.pos h0 (Ev.pos (two1 v n) ?_)
    dsimp only
    rw [hr, hr0]
    have hw : wrap64 (10 + wrap64 (2 * n)) = 10 + 2 * n := by
      rw [w64_id (x := 2 * n) (by omega) (by omega), w64_id (by omega) (by omega)]
    rw [hw]
    clear hw
    by_cases hg : n > ((b.length : Int) - 14) / 2
    · rw [if_neg (fun z => z.2.1 hg)]
      exact Ev.pos (by omega) (hbad _)
    refine Ev.neg (by omega) ?_
    by_cases hg2 : n > 256
    · rw [if_neg (fun z => z.2.2 hg2), decide_eq_true hg2]
      exact hbad _
    rw [if_pos ⟨h0, hg, hg2⟩, decide_eq_false hg2]
    refine Ev.step (fun k => incunableref25_Take.j0.eq_2 ..) (Ev.neg (by decide) ?_)
    obtain ⟨m, rfl⟩ := Int.eq_ofNat_of_zero_le hn
    rw [Int.toNat_natCast]
    exact rbtake_l0 hb hl (by omega) m 0 (by omega)
  · rw [if_neg (fun z => h0 z.1)]
    exact Ev.neg h0 (hbad _)
end Go.Proofs.Ytpabehkdedhncaa.PureBadBytes
/-
  What the document's comparison of two lists of numbers comes to: are they one list.
-/
namespace Go.Proofs.Ytpabehkdedhncaa.PureBadBytes
open Go.RowKit Go.Proofs.Ytpabehkdedhncaa.QBadBytes Go.Proofs.YtpabehkdedhncaaW.PrintWords Go.Proofs.YtpabehkdedhncaaW.PrintLast Go.Proofs.Ytpabehkdedhncaa.EvKit

theorem ints_l0 (a b : List Int) (hl : a.length = b.length) (hb : a.length < 1000000000) (d : Nat) : ∀ i : Nat, i + d = a.length →
    Ev (fun k => incunableref01_Ints.l0 k a b (i : Int)) (decide (a.drop i = b.drop i)) := by
  induction d with
  | zero =>
    intro i hi
    refine Ev.step (fun k => incunableref01_Ints.l0.eq_2 ..) ?_
    refine Ev.neg (by omega) (Ev.ret ?_)
    rw [List.drop_of_length_le (by omega), List.drop_of_length_le (by omega)]
    rfl
  | succ d ih =>
    intro i hi
    refine Ev.step (fun k => incunableref01_Ints.l0.eq_2 ..) ?_
    refine Ev.pos (by omega) (Ev.pos (by omega) (Ev.pos (by omega) ?_))
    rw [drop_rd (l := a) (i := i) (by omega), drop_rd (l := b) (i := i) (by omega)]
    refine Ev.ite (fun h => ?_) (fun h => Ev.ret ?_)
    · rw [w64_succ (by omega), h]
      refine Ev.eq (ih (i + 1) (by omega)) ?_
      simp
    · simp [h]
theorem ints_ev (a b : List Int) (hb : a.length < 1000000000) : Ev (fun k => incunableref01_Ints.f k a b) (decide (a = b)) := by
  refine Ev.congr (fun k => by rw [incunableref01_Ints.f]) ?_
  refine Ev.ite (fun h => ?_) (fun h => Ev.ret ?_)
  · exact ints_l0 a b (by omega) hb a.length 0 (by omega)
  · have : a ≠ b := fun e => h (by rw [e])
    simp [this]
end Go.Proofs.Ytpabehkdedhncaa.PureBadBytes
/-
  BadBytes: any table has the document's bytes, any bytes are the document's table. Conditions: the law's own.
-/
namespace Go.Proofs.Ytpabehkdedhncaa.Pure
open Go.RowKit Go.Proofs.Ytpabehkdedhncaa.QBadBytes Go.Proofs.YtpabehkdedhncaaW.PrintWords Go.Proofs.Ytpabehkdedhncaa.EvKit Go.Proofs.Ytpabehkdedhncaa.PureBadBytes
theorem badBytes_room (z : Int) : bad_Room.f z = some (if z ≥ 14 then mn (wrap64 (Int.tdiv (wrap64 (z - 14)) 2)) 256 else 0) := by
  unfold bad_Room.f
  by_cases h : z < 14
  · rw [if_pos h, if_neg (by omega)]
  · rw [if_neg h, if_pos (by omega)]
theorem badBytes_awake : incunablelaw25_awake.f = some true := by
  have e : bad_Room.f 32 = some 9 := by
    unfold bad_Room.f
    rw [if_neg (by decide), w64_id (x := 32 - 14) (by decide) (by decide), w64_id (by decide) (by decide)]
    decide
  unfold incunablelaw25_awake.f
  rw [e]
  rfl
theorem putB_len (z v : Int) (l : List Int) : (putB z v l).1.length < 1000000 := by
  unfold putB
  split
  · split
    · rename_i h h2
      show (withCrc (bodyB z v l)).length < 1000000
      unfold withCrc bodyB
      rw [List.length_append, List.length_append, List.length_append, head_len, List.length_replicate]
      have hf : (l.flatMap (Go.Proofs.Ytpabehkdedhncaa.PackMath.le 2)).length = 2 * l.length := by
        induction l with
        | nil => rfl
        | cons x l ih =>
          have hh : ∀ l : List Int, (l.flatMap (Go.Proofs.Ytpabehkdedhncaa.PackMath.le 2)).length = 2 * l.length := fun l => by
            induction l with
            | nil => rfl
            | cons x l ih => rw [List.flatMap_cons, List.length_append, ih, Go.Proofs.Ytpabehkdedhncaa.PackMath.le_length, List.length_cons]; omega
          exact hh _
      rw [hf]
      show 10 + 2 * l.length + (z - (14 + 2 * (l.length : Int))).toNat + 4 < 1000000
      omega
    · show 0 < 1000000
      decide
  · show 0 < 1000000
    decide
theorem takeB_len (b : List Int) : (takeB b).2.1.length < 1000000 := by
  unfold takeB
  split
  · show 0 < 1000000
    decide
  · split
    · split
      · rename_i h
        unfold finB
        split
        · show (blocksB _ _).length < 1000000
          rw [blocks_len]
          have := h.2.1
          omega
        · show 0 < 1000000
          decide
      · show 0 < 1000000
        decide
    · show 0 < 1000000
      decide
theorem badBytes_j2 (b : List Int) (hb : ∀ x ∈ b, 0 ≤ x ∧ x < 256) (hl : b.length < 1000000) : Ev (fun k => incunablelaw25_BadBytes.j2 k b false) true := by
  refine Ev.step (fun k => incunablelaw25_BadBytes.j2.eq_2 ..) ?_
  refine Ev.neg (by decide) (Ev.bind (btake_ev b hb hl) (Ev.bind (rbtake_ev b hb hl) (Ev.pos rfl ?_)))
  have := takeB_len b
  refine Ev.bind (ints_ev (takeB b).2.1 (takeB b).2.1 (by omega)) (Ev.pos (decide_eq_true rfl) (Ev.ret ?_))
  exact beq_self_eq_true _
theorem badBytes_j1 (b : List Int) (hb : ∀ x ∈ b, 0 ≤ x ∧ x < 256) (hl : b.length < 1000000) (z v : Int) (l p : List Int) (e m : Int) (hp : p.length < 1000000) (hm : bad_Room.f z = some m) :
    Ev (fun k => incunablelaw25_BadBytes.j1 k b p e p e m z v l) true := by
  refine Ev.step (fun k => incunablelaw25_BadBytes.j1.eq_2 ..) ?_
  refine Ev.pos rfl (Ev.bind (same_ev p p (by omega)) (Ev.pos (decide_eq_true rfl) (Ev.bindv hm ?_)))
  rw [bne_self_eq_false]
  exact badBytes_j2 b hb hl
theorem BadBytes : StmBadBytes := by
  intro x b hx _ hbw
  obtain ⟨z, v, l⟩ := x
  have hb : ∀ x ∈ b, 0 ≤ x ∧ x < 256 := fun x hx => wf_u8 (hbw.2 x hx)
  refine Ev.rounds (Ev.congr (fun k => by rw [incunablelaw25_BadBytes.f]) ?_)
  refine Ev.bindv badBytes_awake (Ev.pos rfl ?_)
  have hj : Ev (fun k => incunablelaw25_BadBytes.j0 k b true z v l) true := Ev.step (fun k => incunablelaw25_BadBytes.j0.eq_2 ..) (Ev.pos rfl (Ev.ret rfl))
  refine Ev.ite (fun _ => hj) (fun h1 => Ev.ite (fun _ => hj) (fun h2 => ?_))
  have h1 : l.length ≤ 300 := by
    have h1 : ¬ (l.length : Int) > 300 := h1
    omega
  have h2 : b.length < 1000000 := by omega
  by_cases h3 : z > 2000
  · show Ev (fun k => incunablelaw25_BadBytes.j0 k b (decide (z > 2000)) z v l) true
    rw [decide_eq_true h3]
    exact hj
  show Ev (fun k => incunablelaw25_BadBytes.j0 k b (decide (z > 2000)) z v l) true
  rw [decide_eq_false h3]
  refine Ev.step (fun k => incunablelaw25_BadBytes.j0.eq_2 ..) ?_
  refine Ev.neg (by decide) (Ev.bind (bput_ev z v l h1) (Ev.bind (rbput_ev z v l h1) ?_))
  have hr := badBytes_room z
  have hp := putB_len z v l
  refine Ev.ite (fun h => ?_) (fun h => ?_)
  · rw [if_pos h] at hr
    exact badBytes_j1 b hb h2 z v l _ _ _ hp hr
  · rw [if_neg h] at hr
    exact badBytes_j1 b hb h2 z v l _ _ _ hp hr
end Go.Proofs.Ytpabehkdedhncaa.Pure
