/-
  What tag.Take comes to.
-/
import Derived.Test.YtpabehkdedhncaaTagPutTagBack
import Derived.Test.YtpabehkdedhncaaPackTakeTagBack
namespace Go.Proofs.Ytpabehkdedhncaa.TagMath
open Go.RowKit Go.Proofs.YtpabehkdedhncaaW.PrintWords
def ofList (l : List Int) : Int × Int × Int × Int × Int :=
  if rd l 0 = 0 ∧ rd l 5 = 0 ∧ mayTag (rd l 1) (rd l 2) (rd l 3) (rd l 4) = true then (rd l 1, rd l 2, rd l 3, rd l 4, 0) else (0, 0, 0, 0, 11)
def takeTag (b : List Int) : Int × Int × Int × Int × Int :=
  if (Go.Proofs.Ytpabehkdedhncaa.PackMath.pkTake sizes b).2 = 0 then ofList (Go.Proofs.Ytpabehkdedhncaa.PackMath.pkTake sizes b).1 else (0, 0, 0, 0, (Go.Proofs.Ytpabehkdedhncaa.PackMath.pkTake sizes b).2)
theorem six {b : List Int} (h : (Go.Proofs.Ytpabehkdedhncaa.PackMath.pkTake sizes b).2 = 0) : (Go.Proofs.Ytpabehkdedhncaa.PackMath.pkTake sizes b).1.length = 6 := by
  have e := Go.Proofs.Ytpabehkdedhncaa.PackMath.pkTake_ok (Prod.ext rfl h : Go.Proofs.Ytpabehkdedhncaa.PackMath.pkTake sizes b = ((Go.Proofs.Ytpabehkdedhncaa.PackMath.pkTake sizes b).1, 0))
  rw [Go.Proofs.Ytpabehkdedhncaa.PackMath.takeGo_length e.2.2]
  rfl
end Go.Proofs.Ytpabehkdedhncaa.TagMath
namespace Go.Proofs.Ytpabehkdedhncaa.PureTagBack
open Go.RowKit Go.Proofs.Ytpabehkdedhncaa.QTagBack Go.Proofs.YtpabehkdedhncaaW.PrintWords Go.Proofs.YtpabehkdedhncaaW.PrintLast Go.Proofs.YtpabehkdedhncaaW.PrintMore Go.Proofs.Ytpabehkdedhncaa.EvKit Go.Proofs.Ytpabehkdedhncaa.PackMath Go.Proofs.Ytpabehkdedhncaa.TagMath

theorem ttake_ev (b : List Int) (hb : ∀ x ∈ b, 0 ≤ x ∧ x < 256) : Ev (fun k => tag_Take.f k b) (takeTag b) := by
  refine Ev.congr (fun k => by rw [tag_Take.f]) ?_
  refine Ev.bindv (a := sizes) rfl ?_
  refine Ev.bind (take_ev _ _ hb) ?_
  unfold takeTag
  refine Ev.ite (fun h => ?_) (fun h => Ev.ret ?_)
  · rw [if_pos h]
    have h6 := six h
    generalize (pkTake sizes b).1 = l at h6 ⊢
    unfold ofList
    refine Ev.pos (by omega) ?_
    refine Ev.pos (by omega) ?_
    refine Ev.pos (by omega) ?_
    refine Ev.pos (by omega) ?_
    refine Ev.pos (by omega) ?_
    refine Ev.ite (fun h0 => ?_) (fun h0 => Ev.ret ?_)
    · refine Ev.pos (by omega) ?_
      refine Ev.ite (fun h5 => ?_) (fun h5 => Ev.ret ?_)
      · refine Ev.bindv (may_eq _ _ _ _) ?_
        refine Ev.ite (fun hm => Ev.ret ?_) (fun hm => Ev.ret ?_)
        · rw [if_pos ⟨h0, h5, hm⟩]
        · rw [if_neg fun h => hm h.2.2]
      · rw [if_neg fun h => h5 h.2.1]
    · rw [if_neg fun h => h0 h.1]
  · rw [if_neg h]
end Go.Proofs.Ytpabehkdedhncaa.PureTagBack
