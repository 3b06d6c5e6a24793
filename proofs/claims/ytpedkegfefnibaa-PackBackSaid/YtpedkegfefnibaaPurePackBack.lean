/-
  PackBack: what pack.Put makes, pack.Take takes; what it takes is put so again; a byte more is too many. Conditions: the law's own.
-/
import Derived.Test.YtpedkegfefnibaaSized
import Derived.Test.YtpedkegfefnibaaPackPutPackBack
import Derived.Test.YtpedkegfefnibaaPackTakePackBack
import Derived.Test.YtpedkegfefnibaaSamePackBack
import Derived.Test.YtpedkegfefnibaaIntsPackBack
namespace Go.Proofs.Ytpedkegfefnibaa.PurePackBack
open Go.RowKit Go.Proofs.Ytpedkegfefnibaa.PPackBack Go.Proofs.YtpedkegfefnibaaW.PrintWords Go.Proofs.YtpedkegfefnibaaW.PrintLast Go.Proofs.Ytpedkegfefnibaa.EvKit Go.Proofs.Ytpedkegfefnibaa.PackMath

theorem awake_ev : Ev (fun k => incunablelaw03_awake.f k) true := by
  refine Ev.congr (fun k => by rw [incunablelaw03_awake.f]) ?_
  refine Ev.bind (put_ev [2] [300]) ?_
  have e : pkPut [2] [300] = ([44, 1], 0) := by decide
  rw [e]
  refine Ev.pos rfl (Ev.bind (same_ev [44, 1] [44, 1] (by decide)) (Ev.ret ?_))
  rfl
theorem back_j1 (l0 l2 : List Int) (h2 : ∀ x ∈ l2, 0 ≤ x ∧ x < 256) (hl2 : l2.length ≤ 1000) : Ev (fun k => incunablelaw03_PackBack.j1 k l0 l2) true := by
  refine Ev.step (fun k => incunablelaw03_PackBack.j1.eq_2 ..) ?_
  refine Ev.bind (take_ev l0 l2 h2) (Ev.ite (fun h => ?_) (fun h => Ev.ret ?_))
  · refine Ev.bind (put_ev l0 _) ?_
    rw [back_take h2 (Prod.ext rfl h : pkTake l0 l2 = ((pkTake l0 l2).1, 0))]
    refine Ev.pos rfl (Ev.bind (same_ev l2 l2 (by omega)) (Ev.ret ?_))
    simp
  · rw [pkTake_err h]
    rfl
theorem back_j0 (l0 l1 l2 : List Int) (h2 : ∀ x ∈ l2, 0 ≤ x ∧ x < 256) (hl1 : l1.length ≤ 100) (hl2 : l2.length ≤ 1000) : Ev (fun k => incunablelaw03_PackBack.j0 k l0 l1 l2 false) true := by
  refine Ev.step (fun k => incunablelaw03_PackBack.j0.eq_2 ..) ?_
  refine Ev.neg (by decide) (Ev.bind (put_ev l0 l1) (Ev.ite (fun h => ?_) (fun h => ?_)))
  · obtain ⟨b1, b2, b3, b4, b5⟩ := back_put (Prod.ext rfl h : pkPut l0 l1 = ((pkPut l0 l1).1, 0))
    generalize (pkPut l0 l1).1 = b at b1 b2 b3 b4 b5 ⊢
    refine Ev.bind (take_ev l0 b b3) ?_
    rw [b1]
    simp only [Option.bind_some, List.nil_append, List.length_nil]
    refine Ev.pos (by omega) (Ev.pos (by omega) (Ev.bind (take_ev l0 (b ++ [0]) ?_) ?_))
    · intro x hx
      rcases List.mem_append.1 hx with hx | hx
      · exact b3 x hx
      · simp at hx; omega
    · rw [b2]
      refine Ev.pos (by simp) (Ev.bind (ints_ev l1 l1 (by omega)) (Ev.pos (by simp) (Ev.pos (by simp) (back_j1 l0 l2 h2 hl2))))
  · exact back_j1 l0 l2 h2 hl2
end Go.Proofs.Ytpedkegfefnibaa.PurePackBack
namespace Go.Proofs.Ytpedkegfefnibaa.Pure
open Go.RowKit Go.Proofs.Ytpedkegfefnibaa.PPackBack Go.Proofs.YtpedkegfefnibaaW.PrintWords Go.Proofs.YtpedkegfefnibaaW.PrintLast Go.Proofs.Ytpedkegfefnibaa.EvKit Go.Proofs.Ytpedkegfefnibaa.PackMath Go.Proofs.Ytpedkegfefnibaa.PurePackBack
theorem PackBack : incunablelaw03_PackBack.Pure := by
  intro l0 l1 l2 _ _ _ _ _ _ _ _ h2
  refine Ev.rounds (Ev.congr (fun k => by rw [incunablelaw03_PackBack.f]) ?_)
  refine Ev.bind awake_ev (Ev.pos rfl ?_)
  have hj : Ev (fun k => incunablelaw03_PackBack.j0 k l0 l1 l2 true) true := Ev.step (fun k => incunablelaw03_PackBack.j0.eq_2 ..) (Ev.pos rfl (Ev.now _))
  refine Ev.ite (fun _ => hj) (fun _ => Ev.ite (fun _ => hj) (fun hb => ?_))
  by_cases hc : (l2.length : Int) > 1000
  · simp only [hc, decide_true]
    exact hj
  · simp only [hc, decide_false]
    exact back_j0 l0 l1 l2 (fun x hx => wf_u8 (h2 x hx)) (by omega) (by omega)
end Go.Proofs.Ytpedkegfefnibaa.Pure
