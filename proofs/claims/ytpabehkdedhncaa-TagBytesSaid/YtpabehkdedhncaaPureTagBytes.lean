/-
  TagBytes: a tag has the document's bytes, if it may be; any bytes are the document's tag, or the document's error. Conditions: the law's own.
-/
import Derived.Test.YtpabehkdedhncaaStmTagBytes
import Derived.Test.YtpabehkdedhncaaRefTagTagBytes
import Derived.Test.YtpabehkdedhncaaSameTagBytes
namespace Go.Proofs.Ytpabehkdedhncaa.Pure
open Go.RowKit Go.Proofs.Ytpabehkdedhncaa.PTagBytes Go.Proofs.YtpabehkdedhncaaW.PrintWords Go.Proofs.YtpabehkdedhncaaW.PrintLast Go.Proofs.Ytpabehkdedhncaa.EvKit Go.Proofs.Ytpabehkdedhncaa.PureTagBytes Go.Proofs.Ytpabehkdedhncaa.PackMath Go.Proofs.Ytpabehkdedhncaa.TagMath
theorem bytes_j0 (b : List Int) (hb : ∀ x ∈ b, 0 ≤ x ∧ x < 256) (hl : b.length < 1000000) : Ev (fun k => incunablelaw07_TagBytes.j0 k b false) true := by
  refine Ev.step (fun k => incunablelaw07_TagBytes.j0.eq_2 ..) ?_
  refine Ev.neg (by decide) ?_
  refine Ev.bind (ttake_ev b hb) ?_
  refine Ev.bind (rttake_ev b hb hl) ?_
  refine Ev.pos (by simp) (Ev.ret ?_)
  simp
theorem bytes_j1 (b : List Int) (hb : ∀ x ∈ b, 0 ≤ x ∧ x < 256) (hl : b.length < 1000000) : Ev (fun k => incunablelaw07_TagBytes.j1 k b false) true := by
  refine Ev.step (fun k => incunablelaw07_TagBytes.j1.eq_2 ..) ?_
  refine Ev.neg (by decide) ?_
  refine Ev.bind (ttake_ev b hb) ?_
  refine Ev.bind (rttake_ev b hb hl) ?_
  refine Ev.pos (by simp) (Ev.ret ?_)
  simp
theorem put_fits {a b c d : Int} (h : mayTag a b c d = true) : (pkPut sizes [0, a, b, c, d, 0]).2 = 0 ∧ (pkPut sizes [0, a, b, c, d, 0]).1.length ≤ 512 := by
  simp only [mayTag, between, Bool.and_eq_true, decide_eq_true_eq] at h
  have hok : okSizes sizes = true := by decide
  have p2 : (256 : Int) ^ (2 : Int).toNat = 65536 := by decide
  have p1 : (256 : Int) ^ (1 : Int).toNat = 256 := by decide
  have p4 : (256 : Int) ^ (4 : Int).toNat = 4294967296 := by decide
  have p8 : (256 : Int) ^ (8 : Int).toNat = 18446744073709551616 := by decide
  have p5 : (256 : Int) ^ (5 : Int).toNat = 1099511627776 := by decide
  have f0 : pkFits 0 2 = true := by decide
  have f1 : pkFits a 1 = true := fits_iff.2 ⟨by decide, by decide, by omega, by omega, by rw [p1]; omega⟩
  have f2 : pkFits b 4 = true := fits_iff.2 ⟨by decide, by decide, by omega, by omega, by rw [p4]; omega⟩
  have f3 : pkFits c 8 = true := fits_iff.2 ⟨by decide, by decide, by omega, by omega, by rw [p8]; omega⟩
  have f4 : pkFits d 4 = true := fits_iff.2 ⟨by decide, by decide, by omega, by omega, by rw [p4]; omega⟩
  have f5 : pkFits 0 5 = true := by decide
  have e : ∃ x, putGo sizes [0, a, b, c, d, 0] = some x := by
    simp only [sizes, putGo, f0, f1, f2, f3, f4, f5, if_true]
    exact ⟨_, rfl⟩
  obtain ⟨x, hx⟩ := e
  have e2 : pkPut sizes [0, a, b, c, d, 0] = (x, 0) := by
    unfold pkPut
    rw [if_pos hok, hx]
    simp [endPut]
  rw [e2]
  exact ⟨rfl, (back_put e2).2.2.2.2⟩
theorem TagBytes : StmTagBytes := by
  intro t b _ _ hb0
  have hb : ∀ x ∈ b, 0 ≤ x ∧ x < 256 := fun x hx => wf_u8 (hb0.2 x hx)
  refine Ev.rounds (Ev.congr (fun k => by rw [incunablelaw07_TagBytes.f]) ?_)
  refine Ev.bind tag_awake_ev (Ev.pos rfl ?_)
  refine Ev.ite (fun _ => Ev.ret rfl) (fun h200 => ?_)
  have hl : b.length < 1000000 := by omega
  refine Ev.bind (tput_ev _ _ _ _) ?_
  refine Ev.bindv (may_eq _ _ _ _) ?_
  refine Ev.bindv (rmay_eq _ _ _ _) ?_
  refine Ev.neg (by simp) ?_
  refine Ev.bindv (rmay_eq _ _ _ _) ?_
  refine Ev.ite (fun hm => ?_) (fun hm => ?_)
  · obtain ⟨h2, h3⟩ := put_fits hm
    have e : putTag t.f0 t.f1 t.f2 t.f3 = pkPut sizes [0, t.f0, t.f1, t.f2, t.f3, 0] := by
      unfold putTag
      rw [if_pos hm]
    rw [e]
    refine Ev.pos h2 ?_
    refine Ev.bind (rtput_ev _ _ _ _) ?_
    refine Ev.bind (same_ev _ _ (by omega)) ?_
    simp only [decide_true, Bool.not_true]
    exact bytes_j0 b hb hl
  · have e : putTag t.f0 t.f1 t.f2 t.f3 = ([], 2) := by
      unfold putTag
      rw [if_neg hm]
    rw [e]
    refine Ev.pos rfl ?_
    exact bytes_j1 b hb hl
end Go.Proofs.Ytpabehkdedhncaa.Pure
