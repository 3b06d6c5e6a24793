/-
  HammingPlaces: places and bits are each other's, and are the document's. Conditions: the law's own.
-/
import Derived.Test.YtalejedajkhkjaaStmHammingPlaces
import Derived.Test.YtalejedajkhkjaaRefPlacesHammingPlaces
namespace Go.Proofs.Ytalejedajkhkjaa.Pure
open Go.RowKit Go.Proofs.Ytalejedajkhkjaa.QHammingPlaces Go.Proofs.YtalejedajkhkjaaW.PrintWords Go.Proofs.YtalejedajkhkjaaW.PrintLast Go.Proofs.YtalejedajkhkjaaW.PrintMore Go.Proofs.Ytalejedajkhkjaa.EvKit Go.Proofs.Ytalejedajkhkjaa.LenMath Go.Proofs.Ytalejedajkhkjaa.PureHammingPlaces
theorem hamming_awake_ev : Ev (fun k => incunablelaw05_awake.f k) true := by
  refine Ev.congr (fun k => by rw [incunablelaw05_awake.f]) ?_
  obtain ⟨r, hr, hp, _⟩ := place_ev (n := 0) (by omega)
  have e : r = 3 := place_same hp ⟨by decide, by decide, by decide⟩
  subst e
  refine Ev.bind hr (Ev.pos rfl ?_)
  obtain ⟨r, hr, hp, _⟩ := place_ev (n := 4) (by omega)
  have e : r = 9 := place_same hp ⟨by decide, by decide, by decide⟩
  subst e
  exact Ev.bind hr (Ev.ret rfl)
/-- the other half: a place, its bit, and the place of it -/
theorem hp_j3 {p : Int} {b : Int} {ok : Bool} (h : Ev (fun k => hamming_Bit.f k p) (b, ok)) : Ev (fun k => incunablelaw05_HammingPlaces.j3 k p b ok) true := by
  have uniq : ∀ {x y : Int × Bool}, Ev (fun k => hamming_Bit.f k p) x → Ev (fun k => hamming_Bit.f k p) y → x = y := by
    intro x y hx hy
    obtain ⟨k1, h1⟩ := hx
    obtain ⟨k2, h2⟩ := hy
    have e1 := h1 (max k1 k2) (by omega)
    have e2 := h2 (max k1 k2) (by omega)
    rw [e1] at e2
    exact Option.some.inj e2
  refine Ev.step (fun k => incunablelaw05_HammingPlaces.j3.eq_2 ..) ?_
  refine Ev.ite (fun h1 => ?_) (fun h1 => Ev.ite (fun h2 => ?_) (fun h2 => ?_))
  · have e := uniq h (bit_off (Or.inl h1))
    injection e with e1 e2
    subst e1 e2
    exact Ev.neg (by decide) (Ev.pos rfl (Ev.ret rfl))
  · have e := uniq h (bit_off (Or.inr h2))
    injection e with e1 e2
    subst e1 e2
    exact Ev.neg (by decide) (Ev.pos rfl (Ev.ret rfl))
  · obtain ⟨m, rfl⟩ := Int.eq_ofNat_of_zero_le (show 0 ≤ p by omega)
    refine Ev.bind (power_ev m (by omega) (by omega)) ?_
    by_cases hm : isPow m = true
    · have e := uniq h (bit_pow hm (by omega) (by omega))
      injection e with e1 e2
      subst e1 e2
      rw [hm]
      exact Ev.neg (by decide) (Ev.pos rfl (Ev.pos rfl (Ev.ret rfl)))
    · have hm' : isPow m = false := by simpa using hm
      obtain ⟨n, hn⟩ := place_of hm' (by omega)
      have e := uniq h (bit_place hn (by omega))
      injection e with e1 e2
      subst e1 e2
      rw [hm']
      refine Ev.neg (by decide) (Ev.neg (by decide) ?_)
      refine Ev.ite (fun _ => Ev.ret rfl) (fun h3 => ?_)
      obtain ⟨r, hr, hp, _⟩ := place_ev (n := n) (by omega)
      have e := place_same hp hn
      subst e
      exact Ev.bind hr (Ev.ret (by simp))
theorem HammingPlaces : StmHammingPlaces := by
  intro n p hn hp
  refine Ev.rounds (Ev.congr (fun k => by rw [incunablelaw05_HammingPlaces.f]) ?_)
  refine Ev.bind hamming_awake_ev (Ev.pos rfl ?_)
  have hbit : ∃ x : Int × Bool, Ev (fun k => hamming_Bit.f k p) x := by
    by_cases h1 : p < 3
    · exact ⟨_, bit_off (Or.inl h1)⟩
    · by_cases h2 : p > 2097152
      · exact ⟨_, bit_off (Or.inr h2)⟩
      · obtain ⟨m, rfl⟩ := Int.eq_ofNat_of_zero_le (show 0 ≤ p by omega)
        cases hm : isPow m
        · obtain ⟨n, hn⟩ := place_of hm (by omega)
          exact ⟨_, bit_place hn (by omega)⟩
        · exact ⟨_, bit_pow hm (by omega) (by omega)⟩
  obtain ⟨⟨b, ok⟩, hb⟩ := hbit
  have h3 := hp_j3 hb
  by_cases h0 : n < 0 ∨ n > 1048576
  · refine Ev.bind (place_off h0) ?_
    refine Ev.bind hb ?_
    have hj1 : Ev (fun k => incunablelaw05_HammingPlaces.j1 k n p 0 b ok) true := by
      have hj2 : Ev (fun k => incunablelaw05_HammingPlaces.j2 k n p 0 b ok false) true := Ev.step (fun k => incunablelaw05_HammingPlaces.j2.eq_2 ..) (Ev.neg (by decide) h3)
      refine Ev.step (fun k => incunablelaw05_HammingPlaces.j1.eq_2 ..) ?_
      refine Ev.ite (fun h => ?_) (fun h => hj2)
      rw [decide_eq_false (by omega)]
      exact hj2
    have hj0 : Ev (fun k => incunablelaw05_HammingPlaces.j0 k n p 0 b ok true) true := by
      refine Ev.step (fun k => incunablelaw05_HammingPlaces.j0.eq_2 ..) ?_
      exact Ev.pos rfl (Ev.pos rfl hj1)
    refine Ev.ite (fun _ => hj0) (fun h => ?_)
    rw [decide_eq_true (by omega)]
    exact hj0
  · obtain ⟨m, rfl⟩ := Int.eq_ofNat_of_zero_le (show 0 ≤ n by omega)
    obtain ⟨r, hr, hpl, hlt⟩ := place_ev (n := m) (by omega)
    refine Ev.bind hr ?_
    refine Ev.bind hb ?_
    refine Ev.neg (by omega) ?_
    rw [decide_eq_false (by omega)]
    have hrl := len_le22 hlt
    have hr2 : r ≤ 2097152 := by
      have := hpl.2.1
      omega
    refine Ev.step (fun k => incunablelaw05_HammingPlaces.j0.eq_2 ..) ?_
    refine Ev.neg (by decide) ?_
    refine Ev.bind (bit_place hpl hr2) ?_
    have h3' := hpl.2.2
    refine Ev.pos rfl (Ev.pos rfl (Ev.neg (by omega) ?_))
    refine Ev.bind (power_ev r (by omega) hlt) ?_
    rw [hpl.1]
    refine Ev.neg (by decide) ?_
    refine Ev.step (fun k => incunablelaw05_HammingPlaces.j1.eq_2 ..) ?_
    refine Ev.pos (by omega) ?_
    refine Ev.step (fun k => incunablelaw05_HammingPlaces.j2.eq_2 ..) ?_
    refine Ev.ite (fun h => ?_) (fun h => h3)
    have h300 : (m : Int) < 300 := of_decide_eq_true h
    rw [w64_succ (by omega)]
    obtain ⟨l, hl, hok, hlen⟩ := places_ev (n := m + 1) (by omega)
    refine Ev.bind hl ?_
    refine Ev.pos (by omega) (Ev.pos (by omega) ?_)
    obtain ⟨q, hq, hqp⟩ := hok m (by omega)
    have e := place_same hqp hpl
    subst e
    rw [hq]
    exact Ev.pos rfl h3
end Go.Proofs.Ytalejedajkhkjaa.Pure
