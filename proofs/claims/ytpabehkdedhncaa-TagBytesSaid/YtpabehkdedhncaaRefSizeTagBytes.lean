/-
  What the document's Size comes to.
-/
import Derived.Test.YtpabehkdedhncaaPackMath
import Derived.Test.YtpabehkdedhncaaPTagBytesx
namespace Go.Proofs.Ytpabehkdedhncaa.PureTagBytes
open Go.RowKit Go.Proofs.Ytpabehkdedhncaa.PTagBytes Go.Proofs.YtpabehkdedhncaaW.PrintWords Go.Proofs.YtpabehkdedhncaaW.PrintLast Go.Proofs.YtpabehkdedhncaaW.PrintMore Go.Proofs.Ytpabehkdedhncaa.EvKit Go.Proofs.Ytpabehkdedhncaa.PackMath

theorem rsize_l0 (l : List Int) (hl : l.length ≤ 1000000) (d : Nat) : ∀ (i : Nat) (n : Int), i + d = l.length → i ≤ 64 → 0 ≤ n → n ≤ 8 * i →
    Ev (fun k => incunableref03_Size.l0 k l n (i : Int)) (if (decide (l.length ≤ 64) && (l.drop i).all (fun s => decide (1 ≤ s) && decide (s ≤ 8))) then (n + (l.drop i).sum, true) else (0, false)) := by
  induction d with
  | zero =>
    intro i n hi h64 h0 h1
    refine Ev.step (fun k => incunableref03_Size.l0.eq_2 ..) ?_
    refine Ev.neg (by omega) (Ev.ret ?_)
    rw [List.drop_of_length_le (by omega)]
    have : l.length ≤ 64 := by omega
    simp [this]
  | succ d ih =>
    intro i n hi h64 h0 h1
    refine Ev.step (fun k => incunableref03_Size.l0.eq_2 ..) ?_
    refine Ev.pos (by omega) (Ev.ite (fun h => Ev.ret ?_) (fun h => Ev.pos (by omega) ?_))
    · have : ¬ l.length ≤ 64 := by omega
      simp [this]
    rw [drop_rd (l := l) (i := i) (by omega)]
    generalize rd l (i : Int) = s
    refine Ev.ite (fun h => Ev.ret ?_) (fun h => Ev.ite (fun h' => Ev.ret ?_) (fun h' => ?_))
    · have : ¬ 1 ≤ s := by omega
      simp [this]
    · have : ¬ s ≤ 8 := by omega
      simp [this]
    · rw [w64_succ (by omega), w64_id (by omega) (by omega)]
      refine Ev.eq (ih (i + 1) (n + s) (by omega) (by omega) (by omega) (by omega)) ?_
      have e1 : 1 ≤ s := by omega
      have e2 : s ≤ 8 := by omega
      simp only [List.all_cons, List.sum_cons, e1, e2, decide_true, Bool.true_and, Int.add_assoc]
theorem rsize_ev (l : List Int) (hl : l.length ≤ 1000000) : Ev (fun k => incunableref03_Size.f k l) (pkSize l) := by
  refine Ev.congr (fun k => by rw [incunableref03_Size.f]) ?_
  refine Ev.eq (rsize_l0 l hl l.length 0 0 (by omega) (by omega) (by omega) (by omega)) ?_
  simp [pkSize, okSizes]
end Go.Proofs.Ytpabehkdedhncaa.PureTagBytes
