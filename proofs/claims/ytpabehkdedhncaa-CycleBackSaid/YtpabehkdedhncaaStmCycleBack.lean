/-
  The pure statement of the law CycleBack: what is to be proved of the printed functions.
-/
import Derived.Test.YtpabehkdedhncaaQCycleBackx2
namespace Go.Proofs.Ytpabehkdedhncaa.Pure
open Go.RowKit Go.Proofs.Ytpabehkdedhncaa.QCycleBack Go.Proofs.YtpabehkdedhncaaW.PrintWords
def StmCycleBack : Prop := ∀ (l0 : List (S42)) (a1 : ByteArray), (l0.length * 16 ≤ 140737488351232) → ((fun xs : List (S42) => xs.length ≤ maxLen ∧ ∀ x ∈ xs, (fun y : S42 => (fun a : Int => (Lit.int .i64 a).wf = true) y.f0 ∧ (fun a : Int => (Lit.int .u8 a).wf = true) y.f1) x) l0) → (a1.size ≤ 140737488351232) → ∃ k, incunablelaw10_CycleBack.f k l0 a1 = some true
end Go.Proofs.Ytpabehkdedhncaa.Pure
