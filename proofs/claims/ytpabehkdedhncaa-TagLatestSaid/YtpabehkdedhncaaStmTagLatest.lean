/-
  The pure statement of the law TagLatest: what is to be proved of the printed functions.
-/
import Derived.Test.YtpabehkdedhncaaPTagLatestx3
namespace Go.Proofs.Ytpabehkdedhncaa.Pure
open Go.RowKit Go.Proofs.Ytpabehkdedhncaa.PTagLatest Go.Proofs.YtpabehkdedhncaaW.PrintWords
def StmTagLatest : Prop := ∀ (l0 : List (S31)), (l0.length * 32 ≤ 140737488351232) → ((fun xs : List (S31) => xs.length ≤ maxLen ∧ ∀ x ∈ xs, (fun y : S31 => (fun a : Int => (Lit.int .i64 a).wf = true) y.f0 ∧ (fun a : Int => (Lit.int .i64 a).wf = true) y.f1 ∧ (fun a : Int => (Lit.int .i64 a).wf = true) y.f2 ∧ (fun a : Int => (Lit.int .i64 a).wf = true) y.f3) x) l0) → ∃ k, incunablelaw07_TagLatest.f k l0 = some true
end Go.Proofs.Ytpabehkdedhncaa.Pure
