/-
  PackTakes: pack.Take gives the document's numbers, or the document's error, of any bytes in any layout. Conditions: the law's own.
-/
import Derived.Test.YtpedkegfefnibaaSized
import Derived.Test.YtpedkegfefnibaaPackAwakePackTakes
import Derived.Test.YtpedkegfefnibaaPackTakePackTakes
import Derived.Test.YtpedkegfefnibaaRefTakePackTakes
import Derived.Test.YtpedkegfefnibaaIntsPackTakes
namespace Go.Proofs.Ytpedkegfefnibaa.Pure
open Go.RowKit Go.Proofs.Ytpedkegfefnibaa.PPackTakes Go.Proofs.YtpedkegfefnibaaW.PrintWords Go.Proofs.YtpedkegfefnibaaW.PrintLast Go.Proofs.Ytpedkegfefnibaa.EvKit Go.Proofs.Ytpedkegfefnibaa.PackMath Go.Proofs.Ytpedkegfefnibaa.PurePackTakes
theorem takes_short {l b : List Int} : (pkTake l b).1.length ≤ 64 := by
  cases h : (pkTake l b).2 == 0
  · rw [pkTake_err (by simpa using h)]
    decide
  · have e := pkTake_ok (Prod.ext rfl (by simpa using h) : pkTake l b = ((pkTake l b).1, 0))
    have := okSizes_iff.1 e.1
    have key : ∀ (ss b r : List Int), takeGo ss b = some r → r.length = ss.length := by
      intro ss
      induction ss with
      | nil => intro b r h; simp [takeGo] at h; subst h; rfl
      | cons s ss ih =>
        intro b r h
        simp only [takeGo] at h
        split at h
        · obtain ⟨r', hr', rfl⟩ := Option.map_eq_some_iff.1 h
          simp [ih _ _ hr']
        · cases h
    rw [key _ _ _ e.2.2]
    exact this.1
theorem PackTakes : incunablelaw03_PackTakes.Pure := by
  intro l0 l1 _ _ _ _ _ h1
  have hb : ∀ x ∈ l1, 0 ≤ x ∧ x < 256 := fun x hx => wf_u8 (h1 x hx)
  refine Ev.rounds (Ev.congr (fun k => by rw [incunablelaw03_PackTakes.f]) ?_)
  refine Ev.bind pack_awake_ev (Ev.pos rfl ?_)
  have hj : Ev (fun k => incunablelaw03_PackTakes.j0 k l0 l1 true) true := by
    refine Ev.step (fun k => incunablelaw03_PackTakes.j0.eq_2 ..) ?_
    exact Ev.pos rfl (Ev.now _)
  refine Ev.ite (fun _ => hj) (fun ha => ?_)
  by_cases hc : (l1.length : Int) > 1000
  · simp only [hc, decide_true]
    exact hj
  · simp only [hc, decide_false]
    refine Ev.step (fun k => incunablelaw03_PackTakes.j0.eq_2 ..) ?_
    refine Ev.neg (by decide) ?_
    refine Ev.bind (take_ev l0 l1 hb) ?_
    refine Ev.bind (rtake_ev l0 l1 (by omega) hb (by omega)) ?_
    refine Ev.pos rfl ?_
    refine Ev.bind (ints_ev _ _ (Nat.lt_of_le_of_lt takes_short (by decide))) (Ev.ret ?_)
    simp
end Go.Proofs.Ytpedkegfefnibaa.Pure
