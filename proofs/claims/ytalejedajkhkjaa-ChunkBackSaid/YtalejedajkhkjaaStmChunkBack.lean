/-
  The pure statement of the law ChunkBack: what is to be proved of the printed functions.
-/
import Derived.Test.YtalejedajkhkjaaQChunkBackx5
namespace Go.Proofs.Ytalejedajkhkjaa.QChunkBack
open Go.RowKit Go.Proofs.YtalejedajkhkjaaW.PrintWords
structure S45 where
  f0 : Int
  f1 : Int
def z45 : S45 := ⟨0, 0⟩
def k45 : Kd S45 := Kd.iso (Kd.pair (Kd.int .u16) (Kd.int .u16)) (fun x : S45 => (x.f0, x.f1))
theorem k45_open {w : World} {x : S45} {cs : List Value} (h : k45.K w x cs) : cs = [.int .u16 x.f0, .int .u16 x.f1] := by
  obtain ⟨_, _, rfl, rfl, rfl⟩ := h
  exact rfl
end Go.Proofs.Ytalejedajkhkjaa.QChunkBack
namespace Go.Proofs.Ytalejedajkhkjaa.Pure
open Go.RowKit Go.Proofs.Ytalejedajkhkjaa.QChunkBack Go.Proofs.YtalejedajkhkjaaW.PrintWords
def StmChunkBack : Prop := ∀ (l0 : List Int) (x1 : S45), (l0.length * 1 ≤ 140737488351232) → ((fun xs : List Int => xs.length ≤ maxLen ∧ ∀ x ∈ xs, (fun a : Int => (Lit.int .u8 a).wf = true) x) l0) → ((fun y : S45 => (fun a : Int => (Lit.int .u16 a).wf = true) y.f0 ∧ (fun a : Int => (Lit.int .u16 a).wf = true) y.f1) x1) → ∃ k, incunablelaw06_ChunkBack.f k l0 x1.f0 x1.f1 = some true
end Go.Proofs.Ytalejedajkhkjaa.Pure
