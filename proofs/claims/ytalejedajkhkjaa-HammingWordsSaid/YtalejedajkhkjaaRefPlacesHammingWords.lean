/-
  The document's powers and places.
-/
import Derived.Test.YtalejedajkhkjaaPlaceHammingWords
namespace Go.Proofs.Ytalejedajkhkjaa.PureHammingWords
open Go.RowKit Go.Proofs.Ytalejedajkhkjaa.QHammingWords Go.Proofs.YtalejedajkhkjaaW.PrintWords Go.Proofs.YtalejedajkhkjaaW.PrintLast Go.Proofs.YtalejedajkhkjaaW.PrintMore Go.Proofs.Ytalejedajkhkjaa.EvKit Go.Proofs.Ytalejedajkhkjaa.BitsKit Go.Proofs.Ytalejedajkhkjaa.LenMath
theorem power_ev (n : Nat) : 0 < n → n < 4194304 → Ev (fun k => incunableref05_Power.f k (n : Int)) (isPow n) := by
  induction n using Nat.strongRecOn with
  | _ n ih =>
    intro h0 hn
    refine Ev.congr (fun k => by rw [incunableref05_Power.f]) ?_
    refine Ev.step (fun k => incunableref05_Power.l0.eq_2 ..) ?_
    refine Ev.ite (fun h1 => ?_) (fun h1 => Ev.ret ?_)
    · have hm : Int.tmod (n : Int) 2 = ((n % 2 : Nat) : Int) := rfl
      have hd : Int.tdiv (n : Int) 2 = ((n / 2 : Nat) : Int) := rfl
      rw [hm, hd, w64_id (by omega) (by omega)]
      refine Ev.ite (fun h2 => ?_) (fun h2 => Ev.ret ?_)
      · refine Ev.eq ?_ (isPow_half (by omega) (by omega))
        exact Ev.congr (fun k => by rw [incunableref05_Power.f]) (ih (n / 2) (by omega) (by omega) (by omega))
      · rw [isPow_odd (by omega) (by omega), beq_eq_false_iff_ne]
        omega
    · have : n = 1 := by omega
      subst this
      decide
def rowOk (out : List Int) : Prop := ∀ j : Nat, j < out.length → ∃ q : Nat, rd out (j : Int) = (q : Int) ∧ IsPlace j q
theorem places_l0 {n : Nat} (hn : n ≤ 5000) (d : Nat) : ∀ (p : Nat) (out : List Int), p + d = n + 30 → 3 ≤ p → out.length + len (p - 1) = p - 1 → out.length ≤ n → rowOk out →
    ∃ r : List Int, Ev (fun k => incunableref05_Places.l0 k (n : Int) out (p : Int)) r ∧ rowOk r ∧ r.length = n := by
  induction d with
  | zero =>
    intro p out hd h3 ho hle _
    have := len_le22 (p := p - 1) (by omega)
    omega
  | succ d ih =>
    intro p out hd h3 ho hle hok
    have hs := len_succ (p := p - 1) (by omega)
    rw [show p - 1 + 1 = p by omega] at hs
    have hl := len_le22 (p := p - 1) (by omega)
    by_cases he : out.length < n
    · by_cases hp : isPow p = true
      · rw [if_pos hp] at hs
        obtain ⟨r, hr, h⟩ := ih (p + 1) out (by omega) (by omega) (by rw [show p + 1 - 1 = p by omega]; omega) hle hok
        refine ⟨r, ?_, h⟩
        refine Ev.step (fun k => incunableref05_Places.l0.eq_2 ..) ?_
        refine Ev.pos (by omega) (Ev.bind (power_ev p (by omega) (by omega)) ?_)
        rw [w64_succ (by omega)]
        exact Ev.pos hp hr
      · rw [if_neg hp] at hs
        obtain ⟨r, hr, h⟩ := ih (p + 1) (out ++ [(p : Int)]) (by omega) (by omega) (by rw [show p + 1 - 1 = p by omega, List.length_append, List.length_singleton]; omega) (by rw [List.length_append, List.length_singleton]; omega) (by
          intro j hj
          rw [List.length_append, List.length_singleton] at hj
          by_cases hjl : j < out.length
          · obtain ⟨q, h1, h2⟩ := hok j hjl
            refine ⟨q, ?_, h2⟩
            rw [← h1, rd_nat hjl, rd_nat (by rw [List.length_append, List.length_singleton]; omega), List.getElem_append_left hjl]
          · have : j = out.length := by omega
            subst this
            refine ⟨p, ?_, by simpa using hp, by omega, h3⟩
            rw [rd_nat (by rw [List.length_append, List.length_singleton]; omega), List.getElem_append_right (Nat.le_refl _)]
            simp)
        refine ⟨r, ?_, h⟩
        refine Ev.step (fun k => incunableref05_Places.l0.eq_2 ..) ?_
        refine Ev.pos (by omega) (Ev.bind (power_ev p (by omega) (by omega)) ?_)
        rw [w64_succ (by omega)]
        exact Ev.neg hp (Ev.pos (by omega) hr)
    · refine ⟨out, ?_, hok, by omega⟩
      refine Ev.step (fun k => incunableref05_Places.l0.eq_2 ..) ?_
      exact Ev.neg (by omega) (Ev.ret rfl)
theorem places_ev {n : Nat} (hn : n ≤ 5000) : ∃ r : List Int, Ev (fun k => incunableref05_Places.f k (n : Int)) r ∧ rowOk r ∧ r.length = n := by
  obtain ⟨r, hr, h⟩ := places_l0 hn (n + 27) 3 [] (by omega) (by omega) (by decide) (by simp) (fun j hj => absurd hj (by simp))
  refine ⟨r, ?_, h⟩
  exact Ev.congr (fun k => by rw [incunableref05_Places.f]; rfl) hr
end Go.Proofs.Ytalejedajkhkjaa.PureHammingWords
