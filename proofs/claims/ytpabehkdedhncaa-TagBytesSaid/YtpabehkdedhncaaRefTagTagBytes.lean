/-
  What the document's tags come to: May, Put, Take.
-/
import Derived.Test.YtpabehkdedhncaaTagTakeTagBytes
import Derived.Test.YtpabehkdedhncaaRefPutTagBytes
import Derived.Test.YtpabehkdedhncaaRefTakeTagBytes
namespace Go.Proofs.Ytpabehkdedhncaa.PureTagBytes
open Go.RowKit Go.Proofs.Ytpabehkdedhncaa.PTagBytes Go.Proofs.YtpabehkdedhncaaW.PrintWords Go.Proofs.YtpabehkdedhncaaW.PrintLast Go.Proofs.YtpabehkdedhncaaW.PrintMore Go.Proofs.Ytpabehkdedhncaa.EvKit Go.Proofs.Ytpabehkdedhncaa.PackMath Go.Proofs.Ytpabehkdedhncaa.TagMath

theorem from_eq (n low high : Int) : incunableref07_from.f n low high = some (between n low high) := by
  unfold incunableref07_from.f between
  by_cases h : n ≥ low
  · rw [if_pos h]
    have h' : low ≤ n := h
    simp [h']
  · rw [if_neg h]
    have h' : ¬ low ≤ n := h
    simp [h']
theorem rmay_eq (a b c d : Int) : incunableref07_May.f a b c d = some (mayTag a b c d) := by
  unfold incunableref07_May.f mayTag
  rw [from_eq, from_eq, from_eq, from_eq]
  simp only [Option.bind_some]
  cases between a 1 4 <;> cases between b 0 2147483648 <;> cases between c 0 2305843009213693952 <;> cases between d 0 2147483648 <;> rfl
theorem rtput_ev (a b c d : Int) : Ev (fun k => incunableref07_Put.f k a b c d) (pkPut sizes [0, a, b, c, d, 0]).1 := by
  refine Ev.congr (fun k => by rw [incunableref07_Put.f]) ?_
  refine Ev.bindv (a := sizes) rfl ?_
  exact Ev.bind (rput_ev _ _ (by decide)) (Ev.ret rfl)
theorem rttake_ev (b : List Int) (hb : ∀ x ∈ b, 0 ≤ x ∧ x < 256) (hl : b.length < 1000000) : Ev (fun k => incunableref07_Take.f k b) (takeTag b) := by
  refine Ev.congr (fun k => by rw [incunableref07_Take.f]) ?_
  refine Ev.bindv (a := sizes) rfl ?_
  refine Ev.bind (rtake_ev _ _ (by decide) hb hl) ?_
  unfold takeTag
  refine Ev.ite (fun h => ?_) (fun h => Ev.ret ?_)
  · rw [if_pos h]
    have h6 := six h
    generalize (pkTake sizes b).1 = l at h6 ⊢
    unfold ofList
    refine Ev.pos (by omega) ?_
    refine Ev.pos (by omega) ?_
    refine Ev.pos (by omega) ?_
    refine Ev.pos (by omega) ?_
    refine Ev.pos (by omega) ?_
    refine Ev.ite (fun h0 => ?_) (fun h0 => Ev.ret ?_)
    · refine Ev.pos (by omega) ?_
      refine Ev.ite (fun h5 => ?_) (fun h5 => Ev.ret ?_)
      · refine Ev.bindv (rmay_eq _ _ _ _) ?_
        refine Ev.ite (fun hm => Ev.ret ?_) (fun hm => Ev.ret ?_)
        · rw [if_pos ⟨h0, h5, hm⟩]
        · rw [if_neg fun h => hm h.2.2]
      · rw [if_neg fun h => h5 h.2.1]
    · rw [if_neg fun h => h0 h.1]
  · rw [if_neg h]
end Go.Proofs.Ytpabehkdedhncaa.PureTagBytes
