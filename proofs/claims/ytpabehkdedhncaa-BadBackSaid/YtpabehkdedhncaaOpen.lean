/-
  How an argument that can be read as data is laid open: its cells say a value of a kind (Kd), whatever the type: numbers, bools, strings, slices, structs, arrays, and these in each other.
-/
import Derived.Test.YtpabehkdedhncaaWWords
import Derived.Deep.Slices
import Derived.OpenShut
import Derived.SizedLaws
namespace Go.Proofs.Ytpabehkdedhncaa.OpenKit
open Go.RowKit Go.Proofs.YtpabehkdedhncaaW.PrintWords Go.ChangeShapes Go.WideShapes

/-- Cells of type t that can be read are a value of the kind d, of which wf holds. -/
def Opens {α : Type} (P : Program) (t : TypeId) (d : Kd α) (wf : α → Prop) : Prop :=
  ∀ {H : Type} (enc : TypeId × Value → H) (W : World) (spare : Nat → Bool) (held : Bool) (fuel : Nat) (cs : List Value) (x : DataW H × List MemPlace),
    DataW.trod enc P W 0 spare held fuel t cs = some x → ∃ a, d.K W a cs ∧ wf a
section
variable {P : Program} {t e : TypeId}
theorem opens_int {k : IntKind} (ht : P.underlying t = some (.int k)) : Opens P t (Kd.int k) (fun a => (Lit.int k a).wf = true) := by
  intro H enc W spare held fuel cs x h
  obtain ⟨n, rfl, _, hw⟩ := DataW.trod_int ht h
  exact ⟨n, rfl, hw⟩
theorem opens_bool (ht : P.underlying t = some .bool) : Opens P t Kd.bool (fun _ => True) := by
  intro H enc W spare held fuel cs x h
  obtain ⟨n, rfl, _⟩ := DataW.trod_bool ht h
  exact ⟨n, rfl, trivial⟩
theorem opens_string (ht : P.underlying t = some .string) : Opens P t Kd.string (fun s => s.size ≤ maxLen) := by
  intro H enc W spare held fuel cs x h
  obtain ⟨n, rfl, _, hs⟩ := DataW.trod_string ht h
  exact ⟨n, rfl, hs⟩
theorem cells_some {W : World} {a : Addr} {n : Nat} {cs : List Value} (h : W.cells? 0 a n = some cs) : cs.length = n ∧ ∀ i u, cs[i]? = some u → W.cell? (a.add i) = some u := by
  unfold World.cells? at h
  rw [if_pos (Nat.zero_le _)] at h
  have hl := mapM_some_length h
  rw [List.length_range] at hl
  refine ⟨hl, fun i u hu => ?_⟩
  have hi : i < n := by
    rw [← hl]
    exact (List.getElem?_eq_some_iff.1 hu).1
  have := mapM_some_get h i i (by simp [hi])
  rw [this, hu]
theorem opens_slice {α : Type} [Inhabited α] {d : Kd α} {wf : α → Prop} (ht : P.underlying t = some (.slice e)) (he : Opens P e d wf) (hsz : P.cellsOf e = d.sz) :
    Opens P t (Kd.slice e d) (fun xs => xs.length ≤ maxLen ∧ ∀ x ∈ xs, wf x) := by
  intro H enc W spare held fuel cs x h
  rcases Go.Deep.open_slice ht h with ⟨rfl, _⟩ | ⟨a, len, cap, m, n, D, Pl, rfl, _, hl, hm, hmm, _, hel⟩
  · exact ⟨[], ⟨none, 0, rfl, Nat.le_refl _, ⟨rfl, Nat.zero_le _, fun h => absurd h (Nat.lt_irrefl 0)⟩⟩, Nat.zero_le _, by simp⟩
  have hlm : len ≤ m := by rw [hmm]; split <;> omega
  have hx : ∀ i, i < len → ∃ y : α, ∃ c : List Value, c.length = d.sz ∧ d.K W y c ∧ wf y ∧ ∀ j u, c[j]? = some u → W.cell? ((a.add (i * d.sz)).add j) = some u := by
    intro i hi
    obtain ⟨c, hc, hr⟩ := hel i (by omega)
    obtain ⟨y, hy, hw⟩ := he enc W spare held n c _ hr
    rw [hsz] at hc
    obtain ⟨h1, h2⟩ := cells_some hc
    exact ⟨y, c, h1, hy, hw, h2⟩
  obtain ⟨f, hf⟩ := Go.Deep.choose_lt hx
  have hlen : ((List.range len).map f).length = len := by simp
  have hmax : len ≤ maxLen := Nat.le_trans hl hm
  refine ⟨(List.range len).map f, ⟨some a, cap, by rw [hlen], by rw [hlen]; exact hl, ?_⟩, by rw [hlen]; exact hmax, ?_⟩
  · refine ⟨rfl, by rw [hlen]; exact hmax, fun _ => ⟨a, rfl, fun j p hj => ?_⟩⟩
    have hj' : j < len := by
      have := (List.getElem?_eq_some_iff.1 hj).1
      rwa [hlen] at this
    have e1 : f j = p := by simpa [hj'] using hj
    subst e1
    obtain ⟨c, h1, h2, _, h3⟩ := hf j hj'
    exact ⟨c, h1, h2, fun i u hu => by rw [← Go.Deep.add_add]; exact h3 i u hu⟩
  · intro y hy
    obtain ⟨i, hi, rfl⟩ := List.mem_map.1 hy
    obtain ⟨_, _, _, hw, _⟩ := hf i (List.mem_range.1 hi)
    exact hw
/-- fields in line, from offset o on -/
def OpensF {α : Type} (P : Program) (o : Nat) (fs : List Field) (d : Kd α) (wf : α → Prop) : Prop :=
  ∀ {H : Type} (enc : TypeId × Value → H) (W : World) (spare : Nat → Bool) (held : Bool) (n : Nat) (cs : List Value),
    (∀ f, f ∈ fs → ∃ x, DataW.trod enc P W 0 spare held n f.type ((cs.drop f.offset).take (P.cellsOf f.type)) = some x) → ∃ a, d.K W a ((cs.drop o).take d.sz) ∧ wf a
theorem opensF_one {α : Type} {d : Kd α} {wf : α → Prop} {f : Field} {o : Nat} (ho : f.offset = o) (he : Opens P f.type d wf) (hsz : P.cellsOf f.type = d.sz) : OpensF P o [f] d wf := by
  intro H enc W spare held n cs h
  obtain ⟨x, hx⟩ := h f (by simp)
  rw [ho, hsz] at hx
  exact he enc W spare held n _ _ hx
theorem opensF_cons {α β : Type} {d : Kd α} {d' : Kd β} {wf : α → Prop} {wf' : β → Prop} {f : Field} {fs : List Field} {o : Nat} (ho : f.offset = o) (he : Opens P f.type d wf) (hsz : P.cellsOf f.type = d.sz)
    (hr : OpensF P (o + d.sz) fs d' wf') : OpensF P o (f :: fs) (Kd.pair d d') (fun x => wf x.1 ∧ wf' x.2) := by
  intro H enc W spare held n cs h
  obtain ⟨x, hx⟩ := h f (by simp)
  rw [ho, hsz] at hx
  obtain ⟨a, ha, hwa⟩ := he enc W spare held n _ _ hx
  obtain ⟨b, hb, hwb⟩ := hr enc W spare held n cs fun g hg => h g (by simp [hg])
  refine ⟨(a, b), ⟨_, _, ?_, ha, hb⟩, hwa, hwb⟩
  show (cs.drop o).take (d.sz + d'.sz) = _
  rw [List.take_add, List.drop_drop]
theorem opens_struct {α β : Type} {d : Kd α} {wf : α → Prop} {fs : Array Field} (ht : P.underlying t = some (.struct fs)) (hf : OpensF P 0 fs.toList d wf) (hsz : P.cellsOf t = d.sz) (g : β → α) (mk : α → β) (hg : ∀ x, g (mk x) = x) :
    Opens P t (Kd.iso d g) (fun y => wf (g y)) := by
  intro H enc W spare held fuel cs x h
  obtain ⟨xs, n, _, _, hl, hn, hfs⟩ := DataW.trod_struct ht h
  obtain ⟨a, ha, hw⟩ := hf enc W spare held n cs (by
    intro f hf
    obtain ⟨i, hi, e⟩ := List.getElem_of_mem hf
    have e' : fs[i]? = some f := by
      rw [← Array.getElem?_toList]
      rw [List.getElem?_eq_getElem hi, e]
    have hlt : i < xs.length := by rw [hn]; simpa using hi
    exact ⟨xs[i], by rw [hfs i f e', List.getElem?_eq_getElem hlt]⟩)
  refine ⟨mk a, ?_, ?_⟩
  · show d.K W (g (mk a)) cs
    rw [hg]
    rwa [List.drop_zero, List.take_of_length_le (by omega)] at ha
  · show wf (g (mk a))
    rw [hg]
    exact hw
theorem okWide_array {n : Nat} {w : World} {r : Reach} {base : Nat} {v : Value} (ht : P.underlying t = some (.array n e)) (h : Value.okWide P w r base t v) : ∃ cs, v = .agg cs ∧ cs.size = P.cellsOf t := by
  simp only [Value.okWide, ht] at h
  obtain ⟨cs, h1, h2, _⟩ := h
  exact ⟨cs, h1, h2⟩
/-- an array of elements of one cell each, as a struct of so many fields -/
theorem opens_array {α β : Type} {d : Kd α} {wf : α → Prop} {n : Nat} (ht : P.underlying t = some (.array n e)) (fs : List Field) (hc : P.cellsOf e = 1) (hfs : (fs.all fun f => f.type == e && decide (f.offset < n)) = true)
    (hf : OpensF P 0 fs d wf) (hsz : P.cellsOf t = d.sz) (g : β → α) (mk : α → β) (hg : ∀ x, g (mk x) = x) : Opens P t (Kd.iso d g) (fun y => wf (g y)) := by
  intro H enc W spare held fuel cs x h
  obtain ⟨xs, m, _, _, hl, hn, hel⟩ := DataW.trod_array ht h
  obtain ⟨a, ha, hw⟩ := hf enc W spare held m cs (by
    intro f hf
    have h2 := List.all_eq_true.1 hfs f hf
    simp only [Bool.and_eq_true, beq_iff_eq, decide_eq_true_eq] at h2
    obtain ⟨e1, e2⟩ := h2
    have h3 := hel f.offset e2
    rw [hc, Nat.mul_one, List.getElem?_eq_getElem (by omega)] at h3
    rw [e1, hc]
    exact ⟨_, h3⟩)
  refine ⟨mk a, ?_, ?_⟩
  · show d.K W (g (mk a)) cs
    rw [hg]
    rwa [List.drop_zero, List.take_of_length_le (by omega)] at ha
  · show wf (g (mk a))
    rw [hg]
    exact hw
/-- an array of n whole numbers: its cells -/
theorem open_array {H : Type} {enc : TypeId × Value → H} {W : World} {spare : Nat → Bool} {held : Bool} {fuel n : Nat} {k : IntKind} {cs : List Value} {x : DataW H × List MemPlace} (ht : P.underlying t = some (.array n e)) (he : P.underlying e = some (.int k)) (hc : P.cellsOf e = 1) (hn : P.cellsOf t = n)
    (h : DataW.trod enc P W 0 spare held fuel t cs = some x) : ∃ xs : List Int, xs.length = n ∧ cs = xs.map (Value.int k) ∧ ∀ a ∈ xs, (Lit.int k a).wf = true := by
  obtain ⟨ys, m, _, _, hl, hys, hel⟩ := DataW.trod_array ht h
  rw [hn] at hl
  have hx : ∀ i, i < n → ∃ a : Int, (cs.drop i).take 1 = [.int k a] ∧ (Lit.int k a).wf = true := by
    intro i hi
    have := hel i hi
    rw [hc, Nat.mul_one, List.getElem?_eq_getElem (by omega)] at this
    obtain ⟨a, e1, _, hw⟩ := DataW.trod_int he this
    exact ⟨a, e1, hw⟩
  obtain ⟨f, hf⟩ := Go.Deep.choose_lt hx
  refine ⟨(List.range n).map f, by simp, ?_, ?_⟩
  · apply List.ext_getElem?
    intro i
    by_cases hi : i < n
    · have h1 := (hf i hi).1
      have h2 : cs[i]? = some (.int k (f i)) := by
        have h3 : ((cs.drop i).take 1)[0]? = some (Value.int k (f i)) := by rw [h1]; rfl
        rw [List.getElem?_take_of_lt (by decide), List.getElem?_drop] at h3
        simpa using h3
      rw [h2]
      simp [hi]
    · rw [List.getElem?_eq_none (by omega), List.getElem?_eq_none (by simp; omega)]
  · intro a ha
    obtain ⟨i, hi, rfl⟩ := List.mem_map.1 ha
    exact (hf i (List.mem_range.1 hi)).2
/-- a slice that came in is no longer than its weight allows -/
theorem sized_any {H : Type} {enc : TypeId × Value → H} {W : World} {base : Nat} {spare : Nat → Bool} {held : Bool} {a : Option Addr} {len cap : Nat} {d : DataW H} {ps : List MemPlace} {ts : List TypeId} {ds : List (DataW H)} {j : Nat}
    (hsz : (DataW.weightsEach P ts ds).all (· ≤ reachBytes) = true) (ht : ts[j]? = some t) (hd : ds[j]? = some d) (hu : P.underlying t = some (.slice e)) {B : Nat} (hB : P.bytesOf e = B)
    (h : DataW.Trod enc P W base spare held t (.slice a len cap) d ps) : len * B ≤ 140737488351232 := by
  obtain ⟨fuel, hf⟩ := h
  rcases Go.Deep.open_slice hu hf with ⟨hcs, _⟩ | ⟨x, l, c, m, n, D, Pl, hcs, _, hl, _, _, hx, _⟩
  · simp [Value.cells] at hcs
    obtain ⟨rfl, rfl, rfl⟩ := hcs
    simp
  · simp [Value.cells] at hcs
    obtain ⟨rfl, rfl, rfl⟩ := hcs
    obtain ⟨hx, _⟩ := Prod.mk.inj hx
    subst hx
    have z := sized_slice hsz ht hd hu
    rw [hB] at z
    refine Nat.le_trans (Nat.mul_le_mul_right _ ?_) z
    simp
end
end Go.Proofs.Ytpabehkdedhncaa.OpenKit
