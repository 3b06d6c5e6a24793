/-
  TagBack: a tag's bytes give the tag again, and are mostly zero bits; bytes that a tag comes from are put so again. Conditions: the law's own.
-/
import Derived.Test.YtpabehkdedhncaaStmTagBack
import Derived.Test.YtpabehkdedhncaaTagTakeTagBack
import Derived.Test.YtpabehkdedhncaaBitsFnTagBack
import Derived.Test.YtpabehkdedhncaaSameTagBack
namespace Go.Proofs.Ytpabehkdedhncaa.TagMath
open Go.RowKit Go.Proofs.YtpabehkdedhncaaW.PrintWords Go.Proofs.Ytpabehkdedhncaa.PackMath Go.Proofs.Ytpabehkdedhncaa.CrcMath Go.Proofs.Ytpabehkdedhncaa.NatKit Go.Proofs.Ytpabehkdedhncaa.BitsMath
theorem putTag_ok {a b c d : Int} (h : (putTag a b c d).2 = 0) : mayTag a b c d = true ∧ pkPut sizes [0, a, b, c, d, 0] = ((putTag a b c d).1, 0) := by
  unfold putTag at h ⊢
  split at h
  · rename_i hm
    rw [if_pos hm]
    exact ⟨hm, Prod.ext rfl h⟩
  · exact absurd h (by decide)
theorem take_put {a b c d : Int} (h : (putTag a b c d).2 = 0) : takeTag (putTag a b c d).1 = (a, b, c, d, 0) := by
  obtain ⟨hm, hp⟩ := putTag_ok h
  have ht := (back_put hp).1
  unfold takeTag
  rw [ht, if_pos rfl]
  unfold ofList
  rw [if_pos ⟨rfl, rfl, hm⟩]
  rfl
theorem put_take {b : List Int} (hb : ∀ x ∈ b, 0 ≤ x ∧ x < 256) (h : (takeTag b).2.2.2.2 = 0) :
    putTag (takeTag b).1 (takeTag b).2.1 (takeTag b).2.2.1 (takeTag b).2.2.2.1 = (b, 0) ∧ mayTag (takeTag b).1 (takeTag b).2.1 (takeTag b).2.2.1 (takeTag b).2.2.2.1 = true := by
  unfold takeTag at h ⊢
  split at h
  · rename_i h0
    rw [if_pos h0]
    have hp := back_take hb (Prod.ext rfl h0 : pkTake sizes b = ((pkTake sizes b).1, 0))
    have h6 := six h0
    generalize (pkTake sizes b).1 = l at hp h6 h ⊢
    match l, h6 with
    | [x0, x1, x2, x3, x4, x5], _ =>
      unfold ofList at h ⊢
      split at h
      · rename_i hh
        rw [if_pos hh]
        obtain ⟨e0, e5, hm⟩ := hh
        have e0' : x0 = 0 := e0
        have e5' : x5 = 0 := e5
        subst e0'
        subst e5'
        refine ⟨?_, hm⟩
        show putTag x1 x2 x3 x4 = _
        have hm' : mayTag x1 x2 x3 x4 = true := hm
        unfold putTag
        rw [if_pos hm', hp]
      · exact absurd h (by decide)
  · rename_i h0
    exact absurd h h0
theorem take_err {b : List Int} (h : (takeTag b).2.2.2.2 ≠ 0) : (takeTag b).1 = 0 ∧ (takeTag b).2.1 = 0 ∧ (takeTag b).2.2.1 = 0 ∧ (takeTag b).2.2.2.1 = 0 := by
  unfold takeTag at h ⊢
  split
  · rename_i h0
    rw [if_pos h0] at h
    unfold ofList at h ⊢
    split
    · rename_i hh
      rw [if_pos hh] at h
      exact absurd rfl h
    · exact ⟨rfl, rfl, rfl, rfl⟩
  · exact ⟨rfl, rfl, rfl, rfl⟩
theorem count_append (a b : List Nat) : count (a ++ b) = count a + count b := by
  unfold count
  rw [List.map_append, List.sum_append]
theorem putGo_cons {s n : Int} {ss ns : List Int} {r : List Int} (h : putGo (s :: ss) (n :: ns) = some r) : ∃ q, putGo ss ns = some q ∧ r = le s.toNat n ++ q := by
  simp only [putGo] at h
  split at h
  · obtain ⟨q, hq, e⟩ := Option.map_eq_some_iff.1 h
    exact ⟨q, hq, e.symm⟩
  · exact absurd h (by simp)
theorem put_ones {a b c d : Int} {r : List Int} (h : putGo sizes [0, a, b, c, d, 0] = some r) : count (nats r) ≤ 136 ∧ r.length = 24 := by
  obtain ⟨q0, h0, e0⟩ := putGo_cons h
  obtain ⟨q1, h1, e1⟩ := putGo_cons h0
  obtain ⟨q2, h2, e2⟩ := putGo_cons h1
  obtain ⟨q3, h3, e3⟩ := putGo_cons h2
  obtain ⟨q4, h4, e4⟩ := putGo_cons h3
  obtain ⟨q5, h5, e5⟩ := putGo_cons h4
  have h5' : q5 = [] := by
    simp only [putGo] at h5
    exact (Option.some.inj h5).symm
  subst h5'
  have z0 : count (nats (le (2 : Int).toNat 0)) = 0 := by decide
  have z5 : count (nats (le (5 : Int).toNat 0)) = 0 := by decide
  have l1 := count_le (nats (le (1 : Int).toNat a))
  have l2 := count_le (nats (le (4 : Int).toNat b))
  have l3 := count_le (nats (le (8 : Int).toNat c))
  have l4 := count_le (nats (le (4 : Int).toNat d))
  rw [nats_length, le_length] at l1 l2 l3 l4
  have t1 : (1 : Int).toNat = 1 := rfl
  have t2 : (4 : Int).toNat = 4 := rfl
  have t3 : (8 : Int).toNat = 8 := rfl
  subst e5 e4 e3 e2 e1 e0
  constructor
  · rw [nats_append, nats_append, nats_append, nats_append, nats_append, nats_append, count_append, count_append, count_append, count_append, count_append, count_append, z0, z5]
    have zz : count (nats ([] : List Int)) = 0 := rfl
    rw [zz]
    omega
  · simp only [List.length_append, le_length, List.length_nil]
    rfl
end Go.Proofs.Ytpabehkdedhncaa.TagMath
namespace Go.Proofs.Ytpabehkdedhncaa.Pure
open Go.RowKit Go.Proofs.Ytpabehkdedhncaa.QTagBack Go.Proofs.YtpabehkdedhncaaW.PrintWords Go.Proofs.YtpabehkdedhncaaW.PrintLast Go.Proofs.YtpabehkdedhncaaW.PrintMore Go.Proofs.Ytpabehkdedhncaa.EvKit Go.Proofs.Ytpabehkdedhncaa.PureTagBack Go.Proofs.Ytpabehkdedhncaa.PackMath Go.Proofs.Ytpabehkdedhncaa.CrcMath Go.Proofs.Ytpabehkdedhncaa.NatKit Go.Proofs.Ytpabehkdedhncaa.BitsMath Go.Proofs.Ytpabehkdedhncaa.TagMath
theorem back_j0 {b : List Int} (hb : ∀ x ∈ b, 0 ≤ x ∧ x < 256) (hl : b.length ≤ 200) : Ev (fun k => incunablelaw07_TagBack.j0 k b) true := by
  refine Ev.step (fun k => incunablelaw07_TagBack.j0.eq_2 ..) ?_
  refine Ev.bind (ttake_ev b hb) ?_
  refine Ev.ite (fun h => ?_) (fun h => Ev.ret ?_)
  · obtain ⟨hp, hm⟩ := put_take hb h
    refine Ev.bind (tput_ev _ _ _ _) ?_
    rw [hp]
    refine Ev.pos rfl ?_
    refine Ev.bind (same_ev b b (by omega)) (Ev.pos (by simp) ?_)
    exact Ev.bindv (may_eq _ _ _ _) (Ev.ret hm)
  · obtain ⟨h1, h2, h3, h4⟩ := take_err h
    rw [h1, h2, h3, h4]
    rfl
theorem TagBack : StmTagBack := by
  intro t b _ _ hb0
  have hb : ∀ x ∈ b, 0 ≤ x ∧ x < 256 := fun x hx => wf_u8 (hb0.2 x hx)
  refine Ev.rounds (Ev.congr (fun k => by rw [incunablelaw07_TagBack.f]) ?_)
  refine Ev.bind tag_awake_ev (Ev.pos rfl ?_)
  refine Ev.ite (fun _ => Ev.ret rfl) (fun h200 => ?_)
  have hl : b.length ≤ 200 := by omega
  refine Ev.bind (tput_ev _ _ _ _) ?_
  refine Ev.ite (fun h => ?_) (fun _ => back_j0 hb hl)
  have ht := take_put h
  obtain ⟨hm, hp⟩ := putTag_ok h
  have hgo := pkPut_ok hp
  obtain ⟨ho, h24⟩ := put_ones hgo.2
  have hbytes := (back_put hp).2.2.1
  generalize (putTag t.f0 t.f1 t.f2 t.f3).1 = l at ht ho h24 hbytes ⊢
  refine Ev.bind (ttake_ev l hbytes) ?_
  rw [ht]
  refine Ev.pos rfl ?_
  refine Ev.neg (by simp) ?_
  refine Ev.bind (zeros_ev hbytes (by omega)) ?_
  refine Ev.neg (by omega) (Ev.pos (by omega) ?_)
  exact back_j0 hb hl
end Go.Proofs.Ytpabehkdedhncaa.Pure
