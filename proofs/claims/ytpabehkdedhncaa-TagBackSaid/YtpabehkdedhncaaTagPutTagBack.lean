/-
  What tag.Put comes to, and the law's hand-made example of package tag.
-/
import Derived.Test.YtpabehkdedhncaaPackPutTagBack
namespace Go.Proofs.Ytpabehkdedhncaa.TagMath
def between (n low high : Int) : Bool := decide (low ≤ n) && decide (n ≤ high)
def mayTag (a b c d : Int) : Bool := between a 1 4 && between b 0 2147483648 && between c 0 2305843009213693952 && between d 0 2147483648
def sizes : List Int := [2, 1, 4, 8, 4, 5]
def putTag (a b c d : Int) : List Int × Int := if mayTag a b c d then Go.Proofs.Ytpabehkdedhncaa.PackMath.pkPut sizes [0, a, b, c, d, 0] else ([], 2)
end Go.Proofs.Ytpabehkdedhncaa.TagMath
namespace Go.Proofs.Ytpabehkdedhncaa.PureTagBack
open Go.RowKit Go.Proofs.Ytpabehkdedhncaa.QTagBack Go.Proofs.YtpabehkdedhncaaW.PrintWords Go.Proofs.YtpabehkdedhncaaW.PrintLast Go.Proofs.YtpabehkdedhncaaW.PrintMore Go.Proofs.Ytpabehkdedhncaa.EvKit Go.Proofs.Ytpabehkdedhncaa.PackMath Go.Proofs.Ytpabehkdedhncaa.TagMath

theorem within_eq (n low high : Int) : tag_within.f n low high = some (between n low high) := by
  unfold tag_within.f between
  by_cases h : n ≥ low
  · rw [if_pos h]
    have h' : low ≤ n := h
    simp [h']
  · rw [if_neg h]
    have h' : ¬ low ≤ n := h
    simp [h']
theorem may_eq (a b c d : Int) : tag_May.f a b c d = some (mayTag a b c d) := by
  unfold tag_May.f mayTag
  rw [within_eq, within_eq, within_eq, within_eq]
  simp only [Option.bind_some]
  cases between a 1 4 <;> cases between b 0 2147483648 <;> cases between c 0 2305843009213693952 <;> cases between d 0 2147483648 <;> rfl
theorem tput_ev (a b c d : Int) : Ev (fun k => tag_Put.f k a b c d) (putTag a b c d) := by
  refine Ev.congr (fun k => by rw [tag_Put.f]) ?_
  refine Ev.bindv (may_eq a b c d) ?_
  unfold putTag
  refine Ev.ite (fun h => ?_) (fun h => Ev.ret ?_)
  · refine Ev.bindv (a := [2, 1, 4, 8, 4, 5]) rfl ?_
    refine Ev.bind (put_ev _ _) (Ev.ret ?_)
    rw [if_pos h]
    rfl
  · rw [if_neg h]
theorem tag_awake_ev : Ev (fun k => incunablelaw07_awake.f k) true := by
  refine Ev.congr (fun k => by rw [incunablelaw07_awake.f]) ?_
  refine Ev.bind (tput_ev 2 5 0 0) ?_
  have e : putTag 2 5 0 0 = ([0, 0, 2, 5, 0, 0, 0, 0, 0, 0, 0, 0, 0, 0, 0, 0, 0, 0, 0, 0, 0, 0, 0, 0], 0) := by decide
  rw [e]
  refine Ev.val ?_
  decide
end Go.Proofs.Ytpabehkdedhncaa.PureTagBack
