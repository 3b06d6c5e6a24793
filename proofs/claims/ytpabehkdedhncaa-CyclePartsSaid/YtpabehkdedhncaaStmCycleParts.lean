/-
  The pure statement of the law CycleParts: what is to be proved of the printed functions.
-/
import Derived.Test.YtpabehkdedhncaaQCyclePartsx2
namespace Go.Proofs.Ytpabehkdedhncaa.Pure
open Go.RowKit Go.Proofs.Ytpabehkdedhncaa.QCycleParts Go.Proofs.YtpabehkdedhncaaW.PrintWords
def StmCycleParts : Prop := ∀ (l0 : List (S42)) (l1 : List (S42)), (l0.length * 16 ≤ 140737488351232) → ((fun xs : List (S42) => xs.length ≤ maxLen ∧ ∀ x ∈ xs, (fun y : S42 => (fun a : Int => (Lit.int .i64 a).wf = true) y.f0 ∧ (fun a : Int => (Lit.int .u8 a).wf = true) y.f1) x) l0) → (l1.length * 16 ≤ 140737488351232) → ((fun xs : List (S42) => xs.length ≤ maxLen ∧ ∀ x ∈ xs, (fun y : S42 => (fun a : Int => (Lit.int .i64 a).wf = true) y.f0 ∧ (fun a : Int => (Lit.int .u8 a).wf = true) y.f1) x) l1) → ∃ k, incunablelaw10_CycleParts.f k l0 l1 = some true
end Go.Proofs.Ytpabehkdedhncaa.Pure
