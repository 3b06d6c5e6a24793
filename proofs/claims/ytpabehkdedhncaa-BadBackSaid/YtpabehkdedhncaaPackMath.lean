/-
  Plain laws on numbers as fields: what the program's package pack and the document's answer both come to. No program in sight.
-/
import Derived.Test.YtpabehkdedhncaaEv
namespace Go.Proofs.Ytpabehkdedhncaa.PackMath

def okSizes (l : List Int) : Bool := decide (l.length ≤ 64) && l.all (fun s => decide (1 ≤ s) && decide (s ≤ 8))
def pkSize (l : List Int) : Int × Bool := if okSizes l then (l.sum, true) else (0, false)
def pkFits (n s : Int) : Bool := decide (1 ≤ s) && decide (s ≤ 8) && decide (0 ≤ n) && decide (n ≤ 4611686018427387904) && decide (n < 256 ^ s.toNat)
def le : Nat → Int → List Int
  | 0, _ => []
  | s + 1, n => n % 256 :: le s (n / 256)
def unle : List Int → Int
  | [] => 0
  | b :: l => b + 256 * unle l
def putGo : List Int → List Int → Option (List Int)
  | [], [] => some []
  | s :: ss, n :: ns => if pkFits n s then (putGo ss ns).map (le s.toNat n ++ ·) else none
  | _, _ => none
def endPut (out : List Int) : Option (List Int) → List Int × Int
  | some b => (out ++ b, 0)
  | none => ([], 2)
def pkPut (sizes ns : List Int) : List Int × Int := if okSizes sizes then endPut [] (putGo sizes ns) else ([], 2)
def takeGo : List Int → List Int → Option (List Int)
  | [], _ => some []
  | s :: ss, b => if unle (b.take s.toNat) ≤ 4611686018427387904 then (takeGo ss (b.drop s.toNat)).map (unle (b.take s.toNat) :: ·) else none
def endTake (out : List Int) : Option (List Int) → List Int × Int
  | some l => (out ++ l, 0)
  | none => ([], 11)
def pkTake (sizes b : List Int) : List Int × Int :=
  if okSizes sizes then (if (b.length : Int) < sizes.sum then ([], 10) else if (b.length : Int) > sizes.sum then ([], 13) else endTake [] (takeGo sizes b)) else ([], 2)

theorem okSizes_iff {l : List Int} : okSizes l = true ↔ l.length ≤ 64 ∧ ∀ s ∈ l, 1 ≤ s ∧ s ≤ 8 := by
  simp [okSizes]
theorem fits_iff {n s : Int} : pkFits n s = true ↔ 1 ≤ s ∧ s ≤ 8 ∧ 0 ≤ n ∧ n ≤ 4611686018427387904 ∧ n < 256 ^ s.toNat := by
  simp [pkFits, and_assoc]
theorem le_length : ∀ (s : Nat) (n : Int), (le s n).length = s
  | 0, _ => rfl
  | s + 1, n => by simp [le, le_length s]
theorem le_byte : ∀ (s : Nat) (n : Int), ∀ x ∈ le s n, 0 ≤ x ∧ x < 256
  | 0, _ => by simp [le]
  | s + 1, n => by
    intro x hx
    rcases List.mem_cons.1 hx with rfl | hx
    · omega
    · exact le_byte s _ x hx
theorem unle_le : ∀ (s : Nat) (n : Int), 0 ≤ n → n < 256 ^ s → unle (le s n) = n
  | 0, n, h0, h => by simp at h; simp [le, unle]; omega
  | s + 1, n, h0, h => by
    have h1 : n / 256 < 256 ^ s := by
      rw [Int.pow_succ] at h
      omega
    simp only [le, unle]
    rw [unle_le s (n / 256) (by omega) h1]
    omega
theorem unle_nonneg : ∀ (l : List Int), (∀ x ∈ l, 0 ≤ x ∧ x < 256) → 0 ≤ unle l
  | [], _ => by simp [unle]
  | b :: l, h => by
    have h1 := h b (by simp)
    have h2 := unle_nonneg l fun x hx => h x (by simp [hx])
    simp only [unle]
    omega
theorem unle_lt : ∀ (l : List Int), (∀ x ∈ l, 0 ≤ x ∧ x < 256) → unle l < 256 ^ l.length
  | [], _ => by simp [unle]
  | b :: l, h => by
    have h1 := h b (by simp)
    have h2 := unle_lt l fun x hx => h x (by simp [hx])
    simp only [unle, List.length_cons, Int.pow_succ]
    omega
theorem le_unle : ∀ (l : List Int), (∀ x ∈ l, 0 ≤ x ∧ x < 256) → le l.length (unle l) = l
  | [], _ => rfl
  | b :: l, h => by
    have h1 := h b (by simp)
    simp only [unle, List.length_cons, le]
    rw [show (b + 256 * unle l) % 256 = b by omega, show (b + 256 * unle l) / 256 = unle l by omega, le_unle l fun x hx => h x (by simp [hx])]
theorem unle_append : ∀ (a b : List Int), unle (a ++ b) = unle a + 256 ^ a.length * unle b
  | [], b => by simp [unle]
  | x :: a, b => by
    simp only [List.cons_append, unle, unle_append a b, List.length_cons, Int.pow_succ]
    rw [Int.mul_add, ← Int.mul_assoc, Int.mul_comm (256 ^ a.length) 256, Int.add_assoc]
theorem sum_nonneg : ∀ {l : List Int}, (∀ s ∈ l, 1 ≤ s ∧ s ≤ 8) → (l.length : Int) ≤ l.sum ∧ l.sum ≤ 8 * l.length
  | [], _ => by simp
  | s :: l, h => by
    have h1 := h s (by simp)
    have h2 := sum_nonneg (l := l) fun x hx => h x (by simp [hx])
    simp only [List.sum_cons, List.length_cons]
    omega
theorem putGo_len : ∀ {ss ns : List Int}, ss.length ≠ ns.length → putGo ss ns = none
  | [], [], h => absurd rfl h
  | [], _ :: _, _ => rfl
  | _ :: _, [], _ => rfl
  | s :: ss, n :: ns, h => by
    simp only [putGo]
    rw [putGo_len (ss := ss) (ns := ns) (by simpa using h)]
    split <;> rfl
theorem pow_le_62 {s : Nat} (h : s < 8) : (256 : Int) ^ s ≤ 4611686018427387904 := by
  have : s = 0 ∨ s = 1 ∨ s = 2 ∨ s = 3 ∨ s = 4 ∨ s = 5 ∨ s = 6 ∨ s = 7 := by omega
  rcases this with rfl | rfl | rfl | rfl | rfl | rfl | rfl | rfl <;> decide
theorem take_of_put : ∀ {ss ns b : List Int}, (∀ s ∈ ss, 1 ≤ s ∧ s ≤ 8) → putGo ss ns = some b → takeGo ss b = some ns ∧ (b.length : Int) = ss.sum ∧ ∀ x ∈ b, 0 ≤ x ∧ x < 256
  | [], [], b, _, h => by
    simp only [putGo, Option.some.injEq] at h
    subst h
    exact ⟨rfl, rfl, by simp⟩
  | [], _ :: _, _, _, h => by simp [putGo] at h
  | _ :: _, [], _, _, h => by simp [putGo] at h
  | s :: ss, n :: ns, b, hs, h => by
    simp only [putGo] at h
    split at h
    · rename_i hf
      obtain ⟨b', hb', rfl⟩ := Option.map_eq_some_iff.1 h
      obtain ⟨h1, h2, h3⟩ := take_of_put (fun x hx => hs x (by simp [hx])) hb'
      obtain ⟨f1, f2, f3, f4, f5⟩ := fits_iff.1 hf
      have hl : (le s.toNat n).length = s.toNat := le_length _ _
      refine ⟨?_, ?_, ?_⟩
      · simp only [takeGo]
        rw [List.take_left' hl, List.drop_left' hl, unle_le _ _ f3 f5, if_pos f4, h1]
        rfl
      · rw [List.length_append, hl, List.sum_cons]
        omega
      · intro x hx
        rcases List.mem_append.1 hx with hx | hx
        · exact le_byte _ _ x hx
        · exact h3 x hx
    · cases h
theorem put_of_take : ∀ {ss b l : List Int}, (∀ s ∈ ss, 1 ≤ s ∧ s ≤ 8) → (∀ x ∈ b, 0 ≤ x ∧ x < 256) → (b.length : Int) = ss.sum → takeGo ss b = some l → putGo ss l = some b
  | [], b, l, _, _, hl, h => by
    simp only [takeGo, Option.some.injEq] at h
    subst h
    simp only [List.sum_nil] at hl
    have : b = [] := List.length_eq_zero_iff.1 (by omega)
    subst this
    rfl
  | s :: ss, b, l, hs, hb, hl, h => by
    simp only [takeGo] at h
    split at h
    · rename_i hf
      obtain ⟨l', hl', rfl⟩ := Option.map_eq_some_iff.1 h
      have h1 := hs s (by simp)
      have hs' : ∀ x ∈ ss, 1 ≤ x ∧ x ≤ 8 := fun x hx => hs x (by simp [hx])
      have hsum := sum_nonneg hs'
      rw [List.sum_cons] at hl
      have hb1 : ∀ x ∈ b.take s.toNat, 0 ≤ x ∧ x < 256 := fun x hx => hb x (List.mem_of_mem_take hx)
      have hlen : (b.take s.toNat).length = s.toNat := by rw [List.length_take]; omega
      have e1 := unle_nonneg _ hb1
      have e2 := unle_lt _ hb1
      have e3 := le_unle _ hb1
      rw [hlen] at e2 e3
      have hf' : pkFits (unle (b.take s.toNat)) s = true := fits_iff.2 ⟨h1.1, h1.2, e1, hf, e2⟩
      simp only [putGo, hf', if_true]
      rw [put_of_take hs' (fun x hx => hb x (List.mem_of_mem_drop hx)) (by rw [List.length_drop]; omega) hl', e3]
      simp
    · cases h
theorem takeGo_length : ∀ {ss b r : List Int}, takeGo ss b = some r → r.length = ss.length
  | [], b, r, h => by simp [takeGo] at h; subst h; rfl
  | s :: ss, b, r, h => by
    simp only [takeGo] at h
    split at h
    · obtain ⟨r', hr', rfl⟩ := Option.map_eq_some_iff.1 h
      simp [takeGo_length hr']
    · cases h
theorem pkPut_ok {ss ns b : List Int} (h : pkPut ss ns = (b, 0)) : okSizes ss = true ∧ putGo ss ns = some b := by
  unfold pkPut at h
  split at h
  · rename_i hok
    cases e : putGo ss ns with
    | none => simp [e, endPut] at h
    | some b' => simp [e, endPut] at h; exact ⟨hok, by rw [h]⟩
  · simp at h
theorem pkTake_ok {ss b l : List Int} (h : pkTake ss b = (l, 0)) : okSizes ss = true ∧ (b.length : Int) = ss.sum ∧ takeGo ss b = some l := by
  unfold pkTake at h
  split at h
  · rename_i hok
    split at h
    · simp at h
    · split at h
      · simp at h
      · cases e : takeGo ss b with
        | none => simp [e, endTake] at h
        | some b' => simp [e, endTake] at h; exact ⟨hok, by omega, by rw [h]⟩
  · simp at h
theorem pkTake_err {ss b : List Int} (h : (pkTake ss b).2 ≠ 0) : (pkTake ss b).1 = [] := by
  unfold pkTake at h ⊢
  repeat' split
  all_goals try rfl
  rename_i h1 h2 h3
  rw [if_pos h1, if_neg h2, if_neg h3] at h
  cases e : takeGo ss b with
  | none => rfl
  | some b' => rw [e] at h; exact absurd rfl h
theorem pkPut_err {ss ns : List Int} (h : (pkPut ss ns).2 ≠ 0) : pkPut ss ns = ([], 2) := by
  unfold pkPut at h ⊢
  split
  · rename_i h1
    rw [if_pos h1] at h
    cases e : putGo ss ns with
    | none => rfl
    | some b' => rw [e] at h; exact absurd rfl h
  · rfl
theorem back_put {ss ns b : List Int} (h : pkPut ss ns = (b, 0)) : pkTake ss b = (ns, 0) ∧ pkTake ss (b ++ [0]) = ([], 13) ∧ (∀ x ∈ b, 0 ≤ x ∧ x < 256) ∧ (b.length : Int) = ss.sum ∧ b.length ≤ 512 := by
  obtain ⟨h1, h2⟩ := pkPut_ok h
  have hk := okSizes_iff.1 h1
  obtain ⟨h3, h4, h5⟩ := take_of_put hk.2 h2
  have hs := sum_nonneg hk.2
  refine ⟨?_, ?_, h5, h4, by omega⟩
  · unfold pkTake
    rw [if_pos h1, if_neg (by omega), if_neg (by omega), h3]
    simp [endTake]
  · unfold pkTake
    rw [if_pos h1, if_neg (by simp; omega), if_pos (by simp; omega)]
theorem back_take {ss b l : List Int} (hb : ∀ x ∈ b, 0 ≤ x ∧ x < 256) (h : pkTake ss b = (l, 0)) : pkPut ss l = (b, 0) := by
  obtain ⟨h1, h2, h3⟩ := pkTake_ok h
  unfold pkPut
  rw [if_pos h1, put_of_take (okSizes_iff.1 h1).2 hb h2 h3]
  simp [endPut]
end Go.Proofs.Ytpabehkdedhncaa.PackMath
