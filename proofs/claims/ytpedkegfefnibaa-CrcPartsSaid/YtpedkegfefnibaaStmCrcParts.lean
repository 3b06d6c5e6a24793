/-
  The pure statement of the law CrcParts: what is to be proved of the printed functions.
-/
import Derived.Test.YtpedkegfefnibaaQCrcPartsx3
namespace Go.Proofs.Ytpedkegfefnibaa.QCrcParts
open Go.RowKit Go.Proofs.YtpedkegfefnibaaW.PrintWords
structure S33 where
  f0 : Int
  f1 : Int
def z33 : S33 := ⟨0, 0⟩
def k33 : Kd S33 := Kd.iso (Kd.pair (Kd.int .u16) (Kd.int .u16)) (fun x : S33 => (x.f0, x.f1))
theorem k33_open {w : World} {x : S33} {cs : List Value} (h : k33.K w x cs) : cs = [.int .u16 x.f0, .int .u16 x.f1] := by
  obtain ⟨_, _, rfl, rfl, rfl⟩ := h
  exact rfl
end Go.Proofs.Ytpedkegfefnibaa.QCrcParts
namespace Go.Proofs.Ytpedkegfefnibaa.Pure
open Go.RowKit Go.Proofs.Ytpedkegfefnibaa.QCrcParts Go.Proofs.YtpedkegfefnibaaW.PrintWords
def StmCrcParts : Prop := ∀ (l0 : List Int) (x1 : S33) (a2 : Int), (l0.length * 1 ≤ 140737488351232) → ((fun xs : List Int => xs.length ≤ maxLen ∧ ∀ x ∈ xs, (fun a : Int => (Lit.int .u8 a).wf = true) x) l0) → ((fun y : S33 => (fun a : Int => (Lit.int .u16 a).wf = true) y.f0 ∧ (fun a : Int => (Lit.int .u16 a).wf = true) y.f1) x1) → ((Lit.int .u8 a2).wf = true) → ∃ k, incunablelaw02_CrcParts.f k l0 x1.f0 x1.f1 a2 = some true
end Go.Proofs.Ytpedkegfefnibaa.Pure
