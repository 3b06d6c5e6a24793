/-
  The law's hand-made example of package bits; are lists long.
-/
import Derived.Test.YtpedkegfefnibaaFlipBitsBack
import Derived.Test.YtpedkegfefnibaaSameBitsBack
namespace Go.Proofs.Ytpedkegfefnibaa.PureBitsBack
open Go.RowKit Go.Proofs.Ytpedkegfefnibaa.QBitsBack Go.Proofs.YtpedkegfefnibaaW.PrintWords Go.Proofs.YtpedkegfefnibaaW.PrintLast Go.Proofs.YtpedkegfefnibaaW.PrintMore Go.Proofs.Ytpedkegfefnibaa.EvKit Go.Proofs.Ytpedkegfefnibaa.CrcMath Go.Proofs.Ytpedkegfefnibaa.NatKit Go.Proofs.Ytpedkegfefnibaa.BitsMath
theorem bits_awake_ev : Ev (fun k => incunablelaw01_awake.f k) true := by
  refine Ev.congr (fun k => by rw [incunablelaw01_awake.f]) ?_
  refine Ev.bind (flip_ev (l := [0, 0]) (at_ := [9]) (by simp) (by simp) (by simp) (by simp)) ?_
  have e : ints (flips (nats [0, 0]) [9]) = [0, 2] := by decide +kernel
  rw [e]
  exact Ev.bind (same_ev [0, 2] [0, 2] (by simp)) (Ev.ret (by simp))
theorem many_l0 (ls : List (List Int)) (hn : ls.length < 1000000) (d : Nat) : ∀ i : Nat, i + d = ls.length → Ev (fun k => incunablelaw01_many.l0 k ls (ls.length : Int) (i : Int)) ((ls.drop i).any fun l => decide (l.length > 500)) := by
  induction d with
  | zero =>
    intro i hi
    refine Ev.step (fun k => incunablelaw01_many.l0.eq_2 ..) ?_
    refine Ev.neg (by omega) (Ev.ret ?_)
    rw [List.drop_of_length_le (by omega)]
    rfl
  | succ d ih =>
    intro i hi
    have hil : i < ls.length := by omega
    have hrd : rd_L1 ls (i : Int) = ls[i] := by
      unfold rd_L1
      rw [Int.toNat_natCast, List.getD_eq_getElem?_getD, List.getElem?_eq_getElem hil]
      rfl
    have next := ih (i + 1) (by omega)
    refine Ev.step (fun k => incunablelaw01_many.l0.eq_2 ..) ?_
    refine Ev.pos (by omega) ?_
    refine Ev.pos (by omega) ?_
    refine Ev.pos (by omega) ?_
    rw [hrd, List.drop_eq_getElem_cons hil, List.any_cons, w64_succ (by omega)]
    refine Ev.ite (fun h => Ev.ret ?_) (fun h => ?_)
    · rw [decide_eq_true (show ls[i].length > 500 by omega), Bool.true_or]
    · rw [decide_eq_false (show ¬ ls[i].length > 500 by omega), Bool.false_or]
      exact next
theorem many_ev (ls : List (List Int)) (hn : ls.length < 1000000) : Ev (fun k => incunablelaw01_many.f k ls) (ls.any fun l => decide (l.length > 500)) := by
  refine Ev.congr (fun k => by rw [incunablelaw01_many.f]) ?_
  exact many_l0 ls hn ls.length 0 (by omega)
end Go.Proofs.Ytpedkegfefnibaa.PureBitsBack
