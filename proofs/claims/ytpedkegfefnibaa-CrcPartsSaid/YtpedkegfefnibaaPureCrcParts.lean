/-
  CrcParts: where parts are cut makes no difference; with its checksum behind it it checks, and with one byte turned it does not. Conditions: the law's own.
-/
import Derived.Test.YtpedkegfefnibaaStmCrcParts
import Derived.Test.YtpedkegfefnibaaCrcCheckCrcParts
import Derived.Test.YtpedkegfefnibaaCrcAwakeCrcParts
namespace Go.Proofs.Ytpedkegfefnibaa.Pure
open Go.RowKit Go.Proofs.Ytpedkegfefnibaa.QCrcParts Go.Proofs.YtpedkegfefnibaaW.PrintWords Go.Proofs.YtpedkegfefnibaaW.PrintLast Go.Proofs.YtpedkegfefnibaaW.PrintMore Go.Proofs.Ytpedkegfefnibaa.EvKit Go.Proofs.Ytpedkegfefnibaa.BitsKit Go.Proofs.Ytpedkegfefnibaa.CrcMath Go.Proofs.Ytpedkegfefnibaa.NatKit Go.Proofs.Ytpedkegfefnibaa.PureCrcParts
theorem four_inj {a b : Nat} (ha : a < 4294967296) (hb : b < 4294967296) (h : four a = four b) : a = b := by
  unfold four at h
  simp only [List.cons.injEq, and_true] at h
  omega
theorem four_length (n : Nat) : (four n).length = 4 := rfl
theorem run_turned {l : List Nat} {j v : Nat} (hl : ∀ b ∈ l, b < 256) (hj : j < l.length) (hv : v < 256) (hne : v ≠ l[j]) : run 4294967295 (l.set j v) ≠ run 4294967295 l := by
  intro h
  have e1 : l.set j v = l.take j ++ v :: l.drop (j + 1) := List.set_eq_take_append_cons_drop (l := l) (i := j) (a := v) |>.trans (by rw [if_pos hj])
  have e2 : l = l.take j ++ l[j] :: l.drop (j + 1) := by
    rw [← List.drop_eq_getElem_cons hj, List.take_append_drop]
  have hc : run 4294967295 (l.take j) < 4294967296 := run_lt (by decide) fun b hb => hl b (List.mem_of_mem_take hb)
  have hb := hl _ (List.getElem_mem hj)
  rw [e1] at h
  conv at h => rhs; rw [e2]
  rw [run_append, run_append] at h
  have h' : run (crcStep (run 4294967295 (l.take j)) v) (l.drop (j + 1)) = run (crcStep (run 4294967295 (l.take j)) l[j]) (l.drop (j + 1)) := h
  have h2 := run_inj (step_lt hc hv) (step_lt hc hb) (fun b hb => hl b (List.mem_of_mem_drop hb)) h'
  exact hne (step_inj_byte hc hv hb h2)
theorem sum_turned {l : List Nat} {j v : Nat} (hl : ∀ b ∈ l, b < 256) (hj : j < l.length) (hv : v < 256) (hne : v ≠ l[j]) : CrcMath.sum (l.set j v) ≠ CrcMath.sum l := by
  intro h
  unfold CrcMath.sum at h
  rw [Nat.xor_comm, Nat.xor_comm 4294967295 (run 4294967295 l)] at h
  exact run_turned hl hj hv hne (xor_cancel h)
theorem CrcParts : StmCrcParts := by
  intro l ⟨a, b⟩ w hlen hl ⟨ha, hb'⟩ hw
  have hb : ∀ x ∈ l, 0 ≤ x ∧ x < 256 := fun x hx => wf_u8 (hl.2 x hx)
  obtain ⟨ha0, ha1⟩ := wf_u16 ha
  obtain ⟨hb0, hb1⟩ := wf_u16 hb'
  obtain ⟨hw0, hw1⟩ := wf_u8 hw
  dsimp only at ha0 ha1 hb0 hb1 ⊢
  clear ha hb' hl hw
  refine Ev.rounds (Ev.congr (fun k => by rw [incunablelaw02_CrcParts.f]) ?_)
  refine Ev.bind crc_awake_ev (Ev.pos rfl ?_)
  refine Ev.ite (fun _ => Ev.ret rfl) (fun h1000 => ?_)
  have e1 : wrap64 ((l.length : Int) + 1) = (l.length : Int) + 1 := w64_id (by omega) (by omega)
  have e3 : wrap64 a = a := w64_id (by omega) (by omega)
  have e4 : wrap64 b = b := w64_id (by omega) (by omega)
  rw [e1, e3, e4]
  clear e1 e3 e4
  refine Ev.neg (by omega) (Ev.bind (sum_one hb (by omega)) ?_)
  rw [Int.tmod_eq_emod_of_nonneg ha0]
  obtain ⟨i, hi⟩ : ∃ q : Nat, a % ((l.length : Int) + 1) = (q : Int) := Int.eq_ofNat_of_zero_le (Int.emod_nonneg _ (by omega))
  have hi2 := Int.emod_lt_of_pos a (show 0 < (l.length : Int) + 1 by omega)
  rw [hi] at hi2 ⊢
  clear hi
  rw [Int.toNat_natCast]
  refine Ev.pos (by omega) (Ev.pos (by omega) ?_)
  have hsum := sum_lt (nats_lt hb)
  have hs3 := sum_ev (ls := [l.take i, [], l.drop i]) (by
    intro r hr x hx
    simp only [List.mem_cons, List.not_mem_nil, or_false] at hr
    rcases hr with rfl | rfl | rfl
    · exact hb x (List.mem_of_mem_take hx)
    · exact absurd hx (by simp)
    · exact hb x (List.mem_of_mem_drop hx)) (by simp) (by
    intro r hr
    simp only [List.mem_cons, List.not_mem_nil, or_false] at hr
    rcases hr with rfl | rfl | rfl
    · rw [List.length_take]; omega
    · simp
    · rw [List.length_drop]; omega)
  have ef : [l.take i, [], l.drop i].flatten = l := by simp
  rw [ef] at hs3
  refine Ev.bind hs3 (Ev.pos rfl ?_)
  generalize hS : CrcMath.sum (nats l) = S at hsum ⊢
  refine Ev.bindv rfl (Ev.pos (by rw [List.length_nil]; omega) (Ev.bindv rfl ?_))
  refine Ev.bind (bytes_ev S) (Ev.pos (by rw [List.nil_append, four_length]; omega) (Ev.bindv rfl ?_))
  rw [List.nil_append]
  have hwl : (l ++ four S).length = l.length + 4 := by rw [List.length_append, four_length]
  have hwb : ∀ x ∈ l ++ four S, 0 ≤ x ∧ x < 256 := by
    intro x hx
    rcases List.mem_append.1 hx with hx | hx
    · exact hb x hx
    · exact four_byte S x hx
  have hck := check_ev hwb (by omega)
  have he : ends (l ++ four S) = true := by
    unfold ends
    rw [hwl, show l.length + 4 - 4 = l.length by omega, List.take_left, List.drop_left, hS, decide_eq_true rfl, decide_eq_true (by omega)]
    rfl
  rw [he] at hck
  refine Ev.bind hck (Ev.pos rfl ?_)
  refine Ev.ite (fun _ => Ev.ret rfl) (fun hw2 => ?_)
  rw [hwl, Int.tmod_eq_emod_of_nonneg hb0]
  refine Ev.neg (by omega) ?_
  obtain ⟨j, hj⟩ : ∃ q : Nat, b % ((l.length + 4 : Nat) : Int) = (q : Int) := Int.eq_ofNat_of_zero_le (Int.emod_nonneg _ (by omega))
  have hj2 := Int.emod_lt_of_pos b (show 0 < ((l.length + 4 : Nat) : Int) by omega)
  rw [hj] at hj2 ⊢
  clear hj
  refine Ev.pos (by omega) (Ev.pos (by omega) ?_)
  rw [Int.toNat_natCast]
  obtain ⟨v, rfl⟩ := Int.eq_ofNat_of_zero_le hw0
  have hrd := rd_nats (l := l ++ four S) (fun x hx => (hwb x hx).1) j
  have hjl : j < (nats (l ++ four S)).length := by rw [nats_length]; omega
  have hget : (nats (l ++ four S)).getD j 0 = (nats (l ++ four S))[j] := by rw [List.getD_eq_getElem?_getD, List.getElem?_eq_getElem hjl]; rfl
  have hbj := nats_lt hwb _ (List.getElem_mem hjl)
  rw [hrd, hget]
  clear hrd hget
  generalize hx : (nats (l ++ four S))[j] = x at hbj ⊢
  rw [xor_u8 hbj (by omega)]
  have hxv : x ^^^ v < 256 := Nat.xor_lt_two_pow (n := 8) hbj (by omega)
  have hxne : x ^^^ v ≠ x := by
    intro h
    have := congrArg (x ^^^ ·) h
    simp only [← Nat.xor_assoc, Nat.xor_self, Nat.zero_xor] at this
    omega
  generalize x ^^^ v = y at hxv hxne ⊢
  have hyb : ∀ z ∈ (l ++ four S).set j (y : Int), 0 ≤ z ∧ z < 256 := by
    intro z hz
    rcases List.mem_or_eq_of_mem_set hz with hz | rfl
    · exact hwb z hz
    · omega
  have hck2 := check_ev hyb (by rw [List.length_set]; omega)
  have he2 : ends ((l ++ four S).set j (y : Int)) = false := by
    unfold ends
    rw [List.length_set, hwl, show l.length + 4 - 4 = l.length by omega]
    by_cases hjl2 : j < l.length
    · rw [List.set_append_left _ _ hjl2]
      have e1 : (l.set j (y : Int)).length = l.length := List.length_set
      rw [List.take_left' e1, List.drop_left' e1]
      have hjn : j < (nats l).length := by rw [nats_length]; exact hjl2
      have e2 : nats (l.set j (y : Int)) = (nats l).set j y := by
        unfold nats
        rw [List.map_set]
        rfl
      have e3 : (nats l)[j] = x := by
        rw [← hx]
        simp [nats_append, List.getElem_append_left hjn]
      have hne := sum_turned (nats_lt hb) hjn hxv (by rw [e3]; exact hxne)
      have hlt : CrcMath.sum ((nats l).set j y) < 4294967296 := sum_lt (fun b hb2 => by
        rcases List.mem_or_eq_of_mem_set hb2 with h | rfl
        · exact nats_lt hb b h
        · exact hxv)
      rw [e2, decide_eq_false (p := four (CrcMath.sum ((nats l).set j y)) = four S), Bool.and_false]
      intro h
      exact hne (by rw [hS]; exact four_inj hlt hsum h)
    · rw [List.set_append_right _ _ (by omega), List.take_left, List.drop_left, hS]
      have hj4 : j - l.length < (four S).length := by rw [four_length]; omega
      rw [decide_eq_false (p := four S = (four S).set (j - l.length) (y : Int)), Bool.and_false]
      intro h
      have h2 : (four S)[j - l.length] = (y : Int) := by
        have := congrArg (·[j - l.length]?) h
        simp only [List.getElem?_set_self hj4, List.getElem?_eq_getElem hj4] at this
        exact Option.some.inj this
      have h3 : ((x : Nat) : Int) = (four S)[j - l.length] := by
        rw [← hx]
        have hl' : l.length ≤ j := by omega
        have e4 : (nats (l ++ four S))[j] = ((l ++ four S)[j]'(by rw [hwl]; omega)).toNat := List.getElem_map _
        have e5 : (l ++ four S)[j]'(by rw [hwl]; omega) = (four S)[j - l.length] := List.getElem_append_right hl'
        rw [e4, e5]
        have := four_byte S _ (List.getElem_mem hj4)
        omega
      omega
  rw [he2] at hck2
  exact Ev.bind hck2 (Ev.ret rfl)
end Go.Proofs.Ytpedkegfefnibaa.Pure
