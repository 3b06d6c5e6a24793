/-
  The pure statement of the law CycleTexts: what is to be proved of the printed functions.
-/
import Derived.Test.YtpabehkdedhncaaQCycleTextsx4
namespace Go.Proofs.Ytpabehkdedhncaa.Pure
open Go.RowKit Go.Proofs.Ytpabehkdedhncaa.QCycleTexts Go.Proofs.YtpabehkdedhncaaW.PrintWords
def StmCycleTexts : Prop := ∀ (l0 : List (S42)) (a1 : Int) (l2 : List Int), (l0.length * 16 ≤ 140737488351232) → ((fun xs : List (S42) => xs.length ≤ maxLen ∧ ∀ x ∈ xs, (fun y : S42 => (fun a : Int => (Lit.int .i64 a).wf = true) y.f0 ∧ (fun a : Int => (Lit.int .u8 a).wf = true) y.f1) x) l0) → ((Lit.int .i64 a1).wf = true) → (l2.length * 1 ≤ 140737488351232) → ((fun xs : List Int => xs.length ≤ maxLen ∧ ∀ x ∈ xs, (fun a : Int => (Lit.int .u8 a).wf = true) x) l2) → ∃ k, incunablelaw10_CycleTexts.f k l0 a1 l2 = some true
end Go.Proofs.Ytpabehkdedhncaa.Pure
