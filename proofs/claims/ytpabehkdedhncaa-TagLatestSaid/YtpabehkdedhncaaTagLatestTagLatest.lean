/-
  What tag.Latest comes to: the first of the tags that none is later than.
-/
import Derived.Test.YtpabehkdedhncaaTagPutTagLatest
namespace Go.Proofs.Ytpabehkdedhncaa.PureTagLatest
open Go.RowKit Go.Proofs.Ytpabehkdedhncaa.PTagLatest Go.Proofs.YtpabehkdedhncaaW.PrintWords Go.Proofs.YtpabehkdedhncaaW.PrintLast Go.Proofs.YtpabehkdedhncaaW.PrintMore Go.Proofs.Ytpabehkdedhncaa.EvKit

def sq (l : List S31) (j : Nat) : Int := (l.getD j z31).f2
theorem sq_rd (l : List S31) (j : Nat) : (rd_T31 l (j : Int)).f2 = sq l j := rfl
/-- r is the first of those that none is later than -/
def IsLatest (l : List S31) (n r : Nat) : Prop := ∀ j, j < n → sq l j ≤ sq l r ∧ (j < r → sq l j < sq l r)
theorem latest_l0 (l : List S31) (hl : l.length < 1000000000) (d : Nat) : ∀ i at_ : Nat, i + d = l.length → (at_ < l.length ∨ l.length = 0) → (at_ < i ∨ at_ = 0 ∧ i = 0) → IsLatest l i at_ →
    ∃ r : Nat, Ev (fun k => tag_Latest.l0 k l (at_ : Int) l (l.length : Int) (i : Int)) ((r : Int), decide ((l.length : Int) > 0)) ∧ IsLatest l l.length r ∧ (r < l.length ∨ l.length = 0 ∧ r = 0) := by
  induction d with
  | zero =>
    intro i at_ hi ha h1 h2
    refine ⟨at_, ?_, ?_, by omega⟩
    · refine Ev.step (fun k => tag_Latest.l0.eq_2 ..) ?_
      exact Ev.neg (by omega) (Ev.ret rfl)
    · rw [show l.length = i by omega]
      exact h2
  | succ d ih =>
    intro i at_ hi ha h1 h2
    have hstep : ∀ c : Nat, c < l.length → (c < i + 1 ∨ c = 0 ∧ i + 1 = 0) → IsLatest l (i + 1) c →
        ∃ r : Nat, Ev (fun k => tag_Latest.l0 k l (c : Int) l (l.length : Int) (wrap64 ((i : Int) + 1))) ((r : Int), decide ((l.length : Int) > 0)) ∧ IsLatest l l.length r ∧ (r < l.length ∨ l.length = 0 ∧ r = 0) := by
      intro c hc hc' hL
      rw [w64_succ (by omega)]
      exact ih (i + 1) c (by omega) (Or.inl hc) hc' hL
    by_cases hgt : (rd_T31 l (i : Int)).f2 > (rd_T31 l (at_ : Int)).f2
    · have hgt' : sq l at_ < sq l i := hgt
      obtain ⟨r, hr, h⟩ := hstep i (by omega) (Or.inl (by omega)) (by
        intro j hj
        by_cases hji : j = i
        · subst hji
          exact ⟨Int.le_refl _, fun h => absurd h (by omega)⟩
        · have := (h2 j (by omega)).1
          exact ⟨by omega, fun _ => by omega⟩)
      refine ⟨r, ?_, h⟩
      refine Ev.step (fun k => tag_Latest.l0.eq_2 ..) ?_
      refine Ev.pos (by omega) ?_
      refine Ev.pos (by omega) ?_
      refine Ev.pos (by omega) ?_
      refine Ev.pos (by omega) ?_
      refine Ev.pos (by omega) ?_
      exact Ev.pos hgt hr
    · have hgt' : ¬ sq l at_ < sq l i := hgt
      obtain ⟨r, hr, h⟩ := hstep at_ (by omega) (Or.inl (by omega)) (by
        intro j hj
        by_cases hji : j = i
        · subst hji
          exact ⟨by omega, fun h => absurd h (by omega)⟩
        · exact h2 j (by omega))
      refine ⟨r, ?_, h⟩
      refine Ev.step (fun k => tag_Latest.l0.eq_2 ..) ?_
      refine Ev.pos (by omega) ?_
      refine Ev.pos (by omega) ?_
      refine Ev.pos (by omega) ?_
      refine Ev.pos (by omega) ?_
      refine Ev.pos (by omega) ?_
      exact Ev.neg hgt hr
theorem latest_ev (l : List S31) (hl : l.length < 1000000000) : ∃ r : Nat, Ev (fun k => tag_Latest.f k l) ((r : Int), decide ((l.length : Int) > 0)) ∧ IsLatest l l.length r ∧ (r < l.length ∨ l.length = 0 ∧ r = 0) := by
  obtain ⟨r, h, h'⟩ := latest_l0 l hl l.length 0 0 (by omega) (by omega) (Or.inr ⟨rfl, rfl⟩) (fun j hj => absurd hj (Nat.not_lt_zero j))
  exact ⟨r, Ev.congr (fun k => by rw [tag_Latest.f]; rfl) h, h'⟩
theorem latest_unique {l : List S31} {r s : Nat} (hr : r < l.length) (hs : s < l.length) (h1 : IsLatest l l.length r) (h2 : IsLatest l l.length s) : r = s := by
  have a := h1 s hs
  have b := h2 r hr
  by_cases h : r < s
  · have := b.2 h
    omega
  · by_cases h' : s < r
    · have := a.2 h'
      omega
    · omega
end Go.Proofs.Ytpabehkdedhncaa.PureTagLatest
