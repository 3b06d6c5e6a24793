/-
  PackPuts: pack.Put gives the document's bytes, or the document's error, of any numbers in any layout; pack.Size and pack.Fits are the document's. Conditions: the law's own.
-/
import Derived.Test.YtpedkegfefnibaaSized
import Derived.Test.YtpedkegfefnibaaPackAwakePackPuts
import Derived.Test.YtpedkegfefnibaaRefPutPackPuts
namespace Go.Proofs.Ytpedkegfefnibaa.PurePackPuts
open Go.RowKit Go.Proofs.Ytpedkegfefnibaa.PPackPuts Go.Proofs.YtpedkegfefnibaaW.PrintWords Go.Proofs.YtpedkegfefnibaaW.PrintLast Go.Proofs.Ytpedkegfefnibaa.EvKit Go.Proofs.Ytpedkegfefnibaa.PackMath
theorem puts_short {l b : List Int} : (pkPut l b).1.length ≤ 512 := by
  cases h : (pkPut l b).2 == 0
  · rw [pkPut_err (by simpa using h)]
    decide
  · exact (back_put (Prod.ext rfl (by simpa using h) : pkPut l b = ((pkPut l b).1, 0))).2.2.2.2
theorem puts_l0 (l0 l1 b : List Int) (e : Int) (z : Int × Bool) (hb : b.length ≤ 512) (h0 : l0.length ≤ 100) (d : Nat) : ∀ i : Nat, i + d = l0.length →
    Ev (fun k => incunablelaw03_PackPuts.l0 k l0 l1 b e b e z.1 z.2 z.1 z.2 (i : Int)) true := by
  have fin : ∀ i : Int, Ev (fun k => incunablelaw03_PackPuts.j2 k l0 l1 b e b e z.1 z.2 z.1 z.2 i false) true := by
    intro i
    refine Ev.step (fun k => incunablelaw03_PackPuts.j2.eq_2 ..) ?_
    refine Ev.neg (by decide) ?_
    refine Ev.pos rfl ?_
    refine Ev.bind (same_ev b b (by omega)) ?_
    refine Ev.pos (by simp) ?_
    refine Ev.pos rfl (Ev.ret ?_)
    simp
  induction d with
  | zero =>
    intro i hi
    refine Ev.step (fun k => incunablelaw03_PackPuts.l0.eq_2 ..) ?_
    exact Ev.neg (by omega) (fin i)
  | succ d ih =>
    intro i hi
    refine Ev.step (fun k => incunablelaw03_PackPuts.l0.eq_2 ..) ?_
    refine Ev.pos (by omega) ?_
    by_cases h : (i : Int) < (l1.length : Int)
    · simp only [h, decide_true]
      refine Ev.step (fun k => incunablelaw03_PackPuts.j2.eq_2 ..) ?_
      refine Ev.pos rfl ?_
      refine Ev.pos (by omega) ?_
      refine Ev.pos h ?_
      refine Ev.pos (by omega) ?_
      refine Ev.bind (fits_ev _ _) ?_
      refine Ev.bind (rfits_ev _ _) ?_
      refine Ev.neg (by simp) ?_
      rw [w64_succ (by omega)]
      exact ih (i + 1) (by omega)
    · simp only [h, decide_false]
      exact fin i
end Go.Proofs.Ytpedkegfefnibaa.PurePackPuts
namespace Go.Proofs.Ytpedkegfefnibaa.Pure
open Go.RowKit Go.Proofs.Ytpedkegfefnibaa.PPackPuts Go.Proofs.YtpedkegfefnibaaW.PrintWords Go.Proofs.YtpedkegfefnibaaW.PrintLast Go.Proofs.Ytpedkegfefnibaa.EvKit Go.Proofs.Ytpedkegfefnibaa.PackMath Go.Proofs.Ytpedkegfefnibaa.PurePackPuts
theorem PackPuts : incunablelaw03_PackPuts.Pure := by
  intro l0 l1 _ _ _ _ _ _
  refine Ev.rounds (Ev.congr (fun k => by rw [incunablelaw03_PackPuts.f]) ?_)
  refine Ev.bind pack_awake_ev (Ev.pos rfl ?_)
  have hj : Ev (fun k => incunablelaw03_PackPuts.j0 k l0 l1 true) true := by
    refine Ev.step (fun k => incunablelaw03_PackPuts.j0.eq_2 ..) ?_
    exact Ev.pos rfl (Ev.now _)
  refine Ev.ite (fun _ => hj) (fun ha => ?_)
  by_cases hc : (l1.length : Int) > 100
  · simp only [hc, decide_true]
    exact hj
  · simp only [hc, decide_false]
    refine Ev.step (fun k => incunablelaw03_PackPuts.j0.eq_2 ..) ?_
    refine Ev.neg (by decide) ?_
    refine Ev.bind (put_ev l0 l1) ?_
    refine Ev.bind (rput_ev l0 l1 (by omega)) ?_
    refine Ev.bind (size_ev l0) ?_
    refine Ev.bind (rsize_ev l0 (by omega)) ?_
    exact puts_l0 l0 l1 _ _ _ puts_short (by omega) l0.length 0 (by omega)
end Go.Proofs.Ytpedkegfefnibaa.Pure
