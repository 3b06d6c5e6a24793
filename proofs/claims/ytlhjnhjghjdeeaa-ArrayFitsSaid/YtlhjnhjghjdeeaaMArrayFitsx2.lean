import Derived.Test.YtlhjnhjghjdeeaaMArrayFitsx1
import Derived.Deep.MidRow
import Derived.Deep.Slices
import Derived.OpenShut
import Derived.SizedLaws
namespace Go.Proofs.Ytlhjnhjghjdeeaa.Mono
open Go.RowKit Go.Proofs.YtlhjnhjghjdeeaaW.PrintWords Go.Proofs.YtlhjnhjghjdeeaaW.PrintLast
set_option linter.unusedVariables false
def Ext (w w' : World) : Prop := Below w.heap.size w w'
theorem Ext.below {w w' : World} (h : Ext w w') : Below w.heap.size w w' := h
theorem Ext.refl (w : World) : Ext w w := Below.refl _ _
theorem Ext.trans {a b c : World} (h : Ext a b) (k : Ext b c) : Ext a c := below_step h k
theorem Ext.of {w w' : World} (h : Below w.heap.size w w') : Ext w w' := h
theorem Ext.drew (w : World) : Ext w w.drew := below_drew1 (Below.refl _ _)
def Stable (f : Value → World → Prop) : Prop := ∀ v w w', f v w → Ext w w' → f v w'
def Is (x : Value) : Value → World → Prop := fun v _ => v = x
theorem stable_is (x : Value) : Stable (Is x) := fun _ _ _ h _ => h
def dstAt (ops : Array Oper) (i : Nat) : Option Tmp := (ops[i]?).bind (·.dst)
def edges (ops : Array Oper) (i : Nat) : List Nat := match ops[i]? with
  | some o => (o.after.toList.filter (fun e => Region.binds .any e)).map (·.on)
  | none => []
def reach (ops : Array Oper) : Nat → Nat → Nat → Bool
  | 0, _, _ => false
  | n + 1, i, j => (edges ops i).any fun e => e == j || reach ops n e j
def okOps (ops : Array Oper) : Bool :=
  (List.range ops.size).all fun i => ((edges ops i).all fun e => decide (e < i)) && (List.range ops.size).all fun j => i == j || dstAt ops i == none || dstAt ops i != dstAt ops j
section
variable {P : Program} {ops : Array Oper} {Q : Exit → Act → World → Prop}
structure Fr (ops : Array Oper) (ts : List Tmp) (a0 a : Act) : Prop where
  size : a.tmps.size = a0.tmps.size
  defers : a.defers = a0.defers
  off : ∀ t, ts.contains t = false → a.tmps[t]? = a0.tmps[t]?
def Known (ops : Array Oper) (F : Nat → Value → World → Prop) (i : Nat) (a : Act) (w : World) : Prop :=
  ∀ j t, reach ops ops.size i j = true → dstAt ops j = some t → ∃ v, a.tmps[t]? = some v ∧ F j v w
def MStep (P : Program) (ops : Array Oper) (Q : Exit → Act → World → Prop) (ts : List Tmp) (a0 : Act) (w0 : World) (F : Nat → Value → World → Prop) (i : Nat) : Prop :=
  ∀ (a : Act) (w : World), Ext w0 w → Fr ops ts a0 a → Known ops F i a w →
    ∃ oi, ops[i]? = some oi ∧ ∀ K : Act → World → Prop, (∀ v w', F i v w' → Ext w w' → K (a.put oi.dst v) w') → if Region.wanted oi (yielded ops a.tmps) = true then Oper.wp P oi a w K Q else K (a.put oi.dst undef) w
theorem msteps_nil {ts : List Tmp} {a0 : Act} {w0 : World} {F : Nat → Value → World → Prop} : ∀ i ∈ ([] : List Nat), MStep P ops Q ts a0 w0 F i := fun _ h => by cases h
theorem msteps_cons {ts : List Tmp} {a0 : Act} {w0 : World} {F : Nat → Value → World → Prop} {i : Nat} {rs : List Nat} (h : MStep P ops Q ts a0 w0 F i) (hs : ∀ j ∈ rs, MStep P ops Q ts a0 w0 F j) : ∀ j ∈ i :: rs, MStep P ops Q ts a0 w0 F j := fun j hj => by
  rcases List.mem_cons.1 hj with rfl | hj
  · exact h
  · exact hs j hj
theorem edges_lt (h : okOps ops = true) {i j : Nat} (hj : j ∈ edges ops i) : j < i := by
  by_cases hi : i < ops.size
  · have h1 := List.all_eq_true.1 h i (List.mem_range.2 hi)
    rw [Bool.and_eq_true] at h1
    simpa using List.all_eq_true.1 h1.1 j hj
  · unfold edges at hj
    rw [Array.getElem?_eq_none (by omega)] at hj
    cases hj
theorem dst_ne (h : okOps ops = true) {i j : Nat} {t : Tmp} (hi : dstAt ops i = some t) (hj : dstAt ops j = some t) : i = j := by
  have lt : ∀ {i : Nat}, dstAt ops i = some t → i < ops.size := fun {i} hi => by
    by_cases hlt : i < ops.size
    · exact hlt
    · unfold dstAt at hi
      rw [Array.getElem?_eq_none (by omega)] at hi
      cases hi
  have h1 := List.all_eq_true.1 h i (List.mem_range.2 (lt hi))
  rw [Bool.and_eq_true] at h1
  have h2 := List.all_eq_true.1 h1.2 j (List.mem_range.2 (lt hj))
  rw [hi, hj] at h2
  simpa using h2
theorem ready_edges {listed : Array Bool} (hsz : listed.size = ops.size) {i : Nat} (hok : okOps ops = true) : i ∈ Region.ready .any ops listed ↔ i < ops.size ∧ listed.getD i true = false ∧ ∀ e ∈ edges ops i, listed.getD e true = true := by
  rw [mem_ready]
  constructor
  · rintro ⟨h1, o, ho, h2⟩
    have hi := (Array.getElem?_eq_some_iff.1 ho).1
    refine ⟨hi, h1, fun e he => ?_⟩
    have hlt := edges_lt hok he
    unfold edges at he
    rw [ho] at he
    obtain ⟨x, hx, rfl⟩ := List.mem_map.1 he
    obtain ⟨hx1, hx2⟩ := List.mem_filter.1 hx
    have := h2 x (by simpa using hx1) hx2
    rw [Array.getD_eq_getD_getElem?] at this ⊢
    rw [Array.getElem?_eq_getElem (by omega)] at this ⊢
    exact this
  · rintro ⟨hi, h1, h2⟩
    refine ⟨h1, ops[i], Array.getElem?_eq_getElem hi, fun e he hb => ?_⟩
    have hm : e.on ∈ edges ops i := by
      unfold edges
      rw [Array.getElem?_eq_getElem hi]
      exact List.mem_map.2 ⟨e, List.mem_filter.2 ⟨by simpa using he, hb⟩, rfl⟩
    have hlt := edges_lt hok hm
    have := h2 _ hm
    rw [Array.getD_eq_getD_getElem?] at this ⊢
    rw [Array.getElem?_eq_getElem (by omega)] at this ⊢
    exact this
def putT (a : Act) (ts : List Tmp) (val : Tmp → Value) : Act := ts.foldl (fun a t => a.put (some t) (val t)) a
theorem putT_spec (val : Tmp → Value) : ∀ (ts : List Tmp) (a : Act), (putT a ts val).tmps.size = a.tmps.size ∧ (putT a ts val).defers = a.defers ∧ (∀ t, t ∉ ts → (putT a ts val).tmps[t]? = a.tmps[t]?) ∧ (∀ t, t ∈ ts → t < a.tmps.size → (putT a ts val).tmps[t]? = some (val t))
  | [], a => ⟨rfl, rfl, fun _ _ => rfl, fun _ h => by cases h⟩
  | s :: r, a => by
    obtain ⟨h1, h2, h3, h4⟩ := putT_spec val r (a.put (some s) (val s))
    have hsz : (a.put (some s) (val s)).tmps.size = a.tmps.size := by simp [Act.put]
    refine ⟨h1.trans hsz, h2.trans rfl, fun t ht => ?_, fun t ht hlt => ?_⟩
    · rw [List.mem_cons, not_or] at ht
      refine (h3 t ht.2).trans ?_
      simp [Act.put, Array.getElem?_setIfInBounds_ne (Ne.symm ht.1)]
    · by_cases htr : t ∈ r
      · exact h4 t htr (by rw [hsz]; exact hlt)
      · rcases List.mem_cons.1 ht with rfl | h
        · refine (h3 t htr).trans ?_
          simp [Act.put, hlt]
        · exact absurd h htr
def chained (ops : Array Oper) (m : Nat) : Bool := (List.range ops.size).all fun i => decide (i < m) || (List.range i).all fun j => reach ops ops.size i j
theorem chained_spec {m i j : Nat} (h : chained ops m = true) (hi : i < ops.size) (hm : m ≤ i) (hj : j < i) : reach ops ops.size i j = true := by
  have h1 := List.all_eq_true.1 h i (List.mem_range.2 hi)
  rcases Bool.or_eq_true _ _ ▸ h1 with h1 | h1
  · have := of_decide_eq_true h1
    omega
  · exact List.all_eq_true.1 h1 j (List.mem_range.2 hj)
theorem reach_listed {listed : Array Bool} (hok : okOps ops = true) (shut : ∀ i j, i < ops.size → listed.getD i true = true → j ∈ edges ops i → listed.getD j true = true) : ∀ (n i j : Nat), i < ops.size → (∀ e ∈ edges ops i, listed.getD e true = true) → reach ops n i j = true → j < ops.size ∧ listed.getD j true = true := by
  intro n
  induction n with
  | zero => intro i j _ _ h; cases h
  | succ n ih =>
    intro i j hi he h
    unfold reach at h
    obtain ⟨e, hem, h⟩ := List.any_eq_true.1 h
    have hlt := edges_lt hok hem
    have hl := he e hem
    rw [Bool.or_eq_true] at h
    rcases h with h | h
    · obtain rfl := beq_iff_eq.1 h
      exact ⟨by omega, hl⟩
    · exact ih e j (by omega) (fun x hx => shut e x (by omega) hl hx) h
theorem tail_any {m : Nat} (hok : okOps ops = true) (hch : chained ops m = true) : ∀ (d k : Nat) (listed : Array Bool) (a : Act) (w : World), k + d = ops.size → m ≤ k → listed.size = ops.size → (∀ i, i < ops.size → listed.getD i true = decide (i < k)) →
    wpList P ops Q (ops.toList.drop k) a w → wpAny P .any ops Q d listed a w := by
  intro d
  induction d with
  | zero =>
    intro k listed a w hk hm hsz hl h
    rw [List.drop_of_length_le (by rw [Array.length_toList]; omega)] at h
    refine ⟨List.eq_nil_iff_forall_not_mem.2 (fun i hi => ?_), h⟩
    obtain ⟨h1, h2, _⟩ := (ready_edges hsz hok).1 hi
    rw [hl i h1, decide_eq_true (by omega)] at h2
    cases h2
  | succ d ih =>
    intro k listed a w hk hm hsz hl h
    have hkl : k < ops.toList.length := by rw [Array.length_toList]; omega
    rw [List.drop_eq_getElem_cons hkl] at h
    have ho : ops[k]? = some (ops.toList[k]'hkl) := by
      rw [Array.getElem?_eq_getElem (by omega)]
      simp
    have shut : ∀ i j, i < ops.size → listed.getD i true = true → j ∈ edges ops i → listed.getD j true = true := by
      intro i j hi h1 hj
      rw [hl i hi] at h1
      have := of_decide_eq_true h1
      have := edges_lt hok hj
      rw [hl j (by omega)]
      exact decide_eq_true (by omega)
    refine ⟨fun hr => ?_, fun i hi => ?_⟩
    · exfalso
      have : k ∈ Region.ready .any ops listed := (ready_edges hsz hok).2 ⟨by omega, by rw [hl k (by omega)]; exact decide_eq_false (by omega), fun e he => by
        have := edges_lt hok he
        rw [hl e (by omega)]
        exact decide_eq_true (by omega)⟩
      rw [hr] at this
      cases this
    · obtain ⟨hlt, hli, he⟩ := (ready_edges hsz hok).1 hi
      have hik : i = k := by
        rw [hl i hlt] at hli
        have h1 := of_decide_eq_false hli
        by_cases hne : i = k
        · exact hne
        · obtain ⟨h2, h3⟩ := reach_listed hok shut _ i k hlt he (chained_spec hch hlt (by omega) (by omega))
          rw [hl k h2] at h3
          have := of_decide_eq_true h3
          omega
      subst hik
      have key : wpOp P ops Q i (wpList P ops Q (ops.toList.drop (i + 1))) a w := by
        unfold wpOp
        rw [ho]
        exact h
      refine wpOp_mono (fun a' w' h' => ih (i + 1) _ a' w' (by omega) (by omega) (by rw [Array.size_setIfInBounds]; exact hsz) (fun j hj => ?_) h') key
      by_cases hji : i = j
      · subst hji
        rw [Array.getD_eq_getD_getElem?]
        simp [hsz, hj]
      · rw [getD_set_ne true hji, hl j hj]
        by_cases hlt2 : j < i
        · rw [decide_eq_true hlt2, decide_eq_true (by omega)]
        · rw [decide_eq_false hlt2, decide_eq_false (by omega)]
structure InvT (ops : Array Oper) (ts : List Tmp) (m : Nat) (a0 : Act) (w0 : World) (F : Nat → Value → World → Prop) (listed : Array Bool) (a : Act) (w : World) : Prop where
  sz : listed.size = ops.size
  ext : Ext w0 w
  fr : Fr ops ts a0 a
  val : ∀ i t, i < m → listed.getD i true = true → dstAt ops i = some t → ∃ v, a.tmps[t]? = some v ∧ F i v w
  shut : ∀ i j, i < ops.size → listed.getD i true = true → j ∈ edges ops i → listed.getD j true = true
  later : ∀ i, m ≤ i → i < ops.size → listed.getD i true = false
theorem monoT_all {ts : List Tmp} {m : Nat} (hmn : m ≤ ops.size) (hts : ∀ i t, i < m → dstAt ops i = some t → ts.contains t = true) {a0 : Act} {w0 : World} {F : Nat → Value → World → Prop} (hok : okOps ops = true) (hch : chained ops m = true) (hF : ∀ i, Stable (F i)) (hs : ∀ i ∈ List.range m, MStep P ops Q ts a0 w0 F i) (hdst : ∀ i t, i < m → dstAt ops i = some t → t < a0.tmps.size)
    (hend : ∀ a w, Ext w0 w → Fr ops ts a0 a → (∀ i t, i < m → dstAt ops i = some t → ∃ v, a.tmps[t]? = some v ∧ F i v w) → wpList P ops Q (ops.toList.drop m) a w) :
    ∀ (fuel : Nat) (listed : Array Bool) (a : Act) (w : World), listed.toList.count false = fuel → InvT ops ts m a0 w0 F listed a w → wpAny P .any ops Q fuel listed a w := by
  have none_ : ∀ (listed : Array Bool), listed.size = ops.size → Region.ready .any ops listed = [] → ∀ i, i < ops.size → listed.getD i true = true := by
    intro listed hsz hr i
    induction i using Nat.strongRecOn with
    | _ i ih =>
      intro hi
      cases hl : listed.getD i true with
      | true => rfl
      | false =>
        have : i ∈ Region.ready .any ops listed := (ready_edges hsz hok).2 ⟨hi, hl, fun e he => ih e (edges_lt hok he) (by have := edges_lt hok he; omega)⟩
        rw [hr] at this
        cases this
  have fin : ∀ (listed : Array Bool) (a : Act) (w : World), InvT ops ts m a0 w0 F listed a w → (∀ i, i < ops.size → listed.getD i true = true) → Q .normal a w := by
    intro listed a w hI hall
    have hm : m = ops.size := by
      rcases Nat.lt_or_ge m ops.size with h | h
      · have h1 := hI.later m (Nat.le_refl _) h
        rw [hall m h] at h1
        cases h1
      · omega
    have := hend a w hI.ext hI.fr (fun i t hi ht => hI.val i t hi (hall i (by omega)) ht)
    rw [hm, List.drop_of_length_le (by rw [Array.length_toList]; omega)] at this
    exact this
  intro fuel
  induction fuel with
  | zero =>
    intro listed a w hc hI
    have hall : ∀ i, i < ops.size → listed.getD i true = true := by
      intro i hi
      have hm := List.count_eq_zero.1 hc
      rw [Array.getD_eq_getD_getElem?, Array.getElem?_eq_getElem (by rw [hI.sz]; exact hi)]
      cases hb : listed[i]'(by rw [hI.sz]; exact hi) with
      | true => rfl
      | false => exact absurd (by rw [← hb]; exact Array.getElem_mem_toList _) hm
    refine ⟨?_, fin listed a w hI hall⟩
    refine List.eq_nil_iff_forall_not_mem.2 (fun i hi => ?_)
    obtain ⟨h1, h2, _⟩ := (ready_edges hI.sz hok).1 hi
    rw [hall i h1] at h2
    cases h2
  | succ fuel ih =>
    intro listed a w hc hI
    by_cases hmall : ∀ i, i < m → listed.getD i true = true
    · -- the tail
      have hl : ∀ i, i < ops.size → listed.getD i true = decide (i < m) := by
        intro i hi
        by_cases h : i < m
        · rw [hmall i h, decide_eq_true h]
        · rw [hI.later i (by omega) hi, decide_eq_false h]
      have hcount : m + (fuel + 1) = ops.size := by
        have hL : listed.toList = List.replicate m true ++ List.replicate (ops.size - m) false := by
          apply List.ext_getElem?
          intro i
          by_cases hi : i < ops.size
          · have h1 := hl i hi
            rw [Array.getD_eq_getD_getElem?, Array.getElem?_eq_getElem (by rw [hI.sz]; exact hi)] at h1
            rw [Array.getElem?_toList, Array.getElem?_eq_getElem (by rw [hI.sz]; exact hi)]
            simp only [Option.getD_some] at h1
            rw [h1]
            by_cases h : i < m
            · rw [List.getElem?_append_left (by simpa using h), List.getElem?_replicate, if_pos h, decide_eq_true h]
            · rw [List.getElem?_append_right (by simpa using h), List.getElem?_replicate, List.length_replicate, if_pos (by omega), decide_eq_false h]
          · rw [List.getElem?_eq_none (by rw [Array.length_toList, hI.sz]; omega), List.getElem?_eq_none (by simp; omega)]
        rw [hL, List.count_append, List.count_replicate, List.count_replicate] at hc
        simp at hc
        omega
      exact tail_any hok hch _ m listed a w hcount (Nat.le_refl _) hI.sz hl (hend a w hI.ext hI.fr (fun i t hi ht => hI.val i t hi (hmall i hi) ht))
    refine ⟨fun hr => fin listed a w hI (none_ listed hI.sz hr), fun i hi => ?_⟩
    obtain ⟨hlt, hl, he⟩ := (ready_edges hI.sz hok).1 hi
    have him : i < m := by
      rcases Nat.lt_or_ge i m with h | h
      · exact h
      · refine absurd (fun j hj => ?_) hmall
        exact (reach_listed hok hI.shut _ i j hlt he (chained_spec hch hlt h (by omega))).2
    obtain ⟨oi, hoi, hK⟩ := hs i (List.mem_range.2 him) a w hI.ext hI.fr (fun j t hr ht => by
      obtain ⟨h1, h2⟩ := reach_listed hok hI.shut _ i j hlt he hr
      have hjm : j < m := by
        rcases Nat.lt_or_ge j m with h | h
        · exact h
        · have := hI.later j h h1
          rw [h2] at this
          cases this
      exact hI.val j t hjm h2 ht)
    refine wpOp_step hoi (fun K' hK' => hK K' (fun v w' hv hx => hK' _ _ ?_))
    have hdi : dstAt ops i = oi.dst := by unfold dstAt; rw [hoi]; rfl
    have hli : listed[i]'(by rw [hI.sz]; exact hlt) = false := by
      rw [Array.getD_eq_getD_getElem?, Array.getElem?_eq_getElem (by rw [hI.sz]; exact hlt)] at hl
      exact hl
    refine ih _ _ _ ?_ ⟨by rw [Array.size_setIfInBounds]; exact hI.sz, hI.ext.trans hx, ⟨?_, ?_, ?_⟩, ?_, ?_, ?_⟩
    · rw [Array.toList_setIfInBounds, List.count_set (h := by rw [Array.length_toList, hI.sz]; exact hlt)]
      have : listed.toList[i]'(by rw [Array.length_toList, hI.sz]; exact hlt) = false := by rw [Array.getElem_toList]; exact hli
      rw [this, hc]
      simp
    · rw [← hI.fr.size]
      unfold Act.put
      split <;> simp
    · rw [← hI.fr.defers]
      unfold Act.put
      split <;> rfl
    · intro t ht
      rw [← hI.fr.off t ht]
      cases hd : oi.dst with
      | none => rfl
      | some d =>
        have hne : d ≠ t := fun e => by have := hts i t him (by rw [hdi, hd, e]); rw [ht] at this; cases this
        simp [Act.put, Array.getElem?_setIfInBounds_ne hne]
    · intro j t hj hlj htj
      by_cases hij : i = j
      · subst hij
        rw [hdi] at htj
        refine ⟨v, ?_, hv⟩
        have := hdst i t him (by rw [hdi]; exact htj)
        rw [htj]
        simp [Act.put, hI.fr.size, this]
      · have hlj' : listed.getD j true = true := by rw [getD_set_ne true hij] at hlj; exact hlj
        obtain ⟨u, hu, hfu⟩ := hI.val j t hj hlj' htj
        refine ⟨u, ?_, hF j u w w' hfu hx⟩
        cases hd : oi.dst with
        | none => exact hu
        | some d =>
          have hne : d ≠ t := fun e => hij (dst_ne hok (by rw [hdi, hd, e]) htj)
          simpa [Act.put, Array.getElem?_setIfInBounds_ne hne] using hu
    · intro j e hj hlj hem
      by_cases hej : i = e
      · subst hej
        rw [Array.getD_eq_getD_getElem?]
        simp [hI.sz, hlt]
      · rw [getD_set_ne true hej]
        by_cases hij : i = j
        · subst hij
          exact he e hem
        · rw [getD_set_ne true hij] at hlj
          exact hI.shut j e hj hlj hem
    · intro j hj hjl
      rw [getD_set_ne true (by omega)]
      exact hI.later j hj hjl
theorem mono_region_tail {id : Nat} {a0 : Act} {w0 : World} (F : Nat → Value → World → Prop) (m : Nat) (ts : List Tmp) (rest : List Oper) (hm : P.follows .mixedOrders = true) (hn : ops.toList.drop m = rest) (hmn : m ≤ ops.size) (hok : okOps ops = true) (hch : chained ops m = true)
    (hts : ((ops.toList.take m).filterMap (·.dst) == ts && ts.all fun t => decide (t < a0.tmps.size)) = true) (hF : ∀ i, Stable (F i)) (hs : ∀ i ∈ List.range m, MStep P ops Q ts a0 w0 F i)
    (hend : ∀ (val : Tmp → Value) (w : World), Ext w0 w → (∀ i t, i < m → dstAt ops i = some t → F i (val t) w) → wpList P ops Q rest (putT a0 ts val) w) : (Code.region id ops true).wp P Q a0 w0 := by
  subst hn
  rw [Bool.and_eq_true, beq_iff_eq] at hts
  obtain ⟨hts, hlt⟩ := hts
  have hdst : ∀ i t, i < m → dstAt ops i = some t → t ∈ ts := by
    intro i t him h
    rw [← hts]
    unfold dstAt at h
    cases ho : ops[i]? with
    | none => rw [ho] at h; cases h
    | some o =>
      rw [ho] at h
      refine List.mem_filterMap.2 ⟨o, ?_, h⟩
      have h1 : ops.toList[i]? = some o := by rw [Array.getElem?_toList]; exact ho
      exact List.mem_of_getElem? (l := ops.toList.take m) (i := i) (by rw [List.getElem?_take, if_pos him]; exact h1)
  have hdlt : ∀ i t, i < m → dstAt ops i = some t → t < a0.tmps.size := fun i t him h => by simpa using List.all_eq_true.1 hlt t (hdst i t him h)
  refine wp_region_any hm (monoT_all (ts := ts) hmn (fun i t him h => List.contains_iff_mem.2 (hdst i t him h)) (a0 := a0) (w0 := w0.drew) (F := F) hok hch hF (fun i hi a w hx => hs i hi a w ((Ext.drew w0).trans hx)) hdlt ?_ _ _ _ _ ?_ ⟨by simp, Ext.refl _, ⟨rfl, rfl, fun _ _ => rfl⟩, ?_, ?_, ?_⟩)
  · intro a w hx hfr hv
    have key : a = putT a0 ts (fun t => a.tmps.getD t undef) := by
      obtain ⟨h1, h2, h3, h4⟩ := putT_spec (fun t => a.tmps.getD t undef) ts a0
      have ht : a.tmps = (putT a0 ts (fun t => a.tmps.getD t undef)).tmps := by
        refine Array.ext_getElem? (fun t => ?_)
        by_cases hmem : t ∈ ts
        · have hl : t < a0.tmps.size := by simpa using List.all_eq_true.1 hlt t hmem
          rw [h4 t hmem hl, Array.getD_eq_getD_getElem?]
          rw [Array.getElem?_eq_getElem (by rw [hfr.size]; exact hl)]
          rfl
        · rw [h3 t hmem]
          refine hfr.off t (by cases h : ts.contains t with | false => rfl | true => exact absurd (List.contains_iff_mem.1 h) hmem)
      have hd : a.defers = (putT a0 ts (fun t => a.tmps.getD t undef)).defers := by rw [h2]; exact hfr.defers
      cases a
      cases hp : putT a0 ts _
      rw [hp] at ht hd
      simp only at ht hd
      rw [ht, hd]
    rw [key]
    refine hend _ w ((Ext.drew w0).trans hx) (fun i t him h => ?_)
    obtain ⟨v, h1, h2⟩ := hv i t him h
    rw [Array.getD_eq_getD_getElem?, h1]
    exact h2
  · simp
  · intro i t hi h
    rw [Array.getD_eq_getD_getElem?, Array.getElem?_replicate, if_pos (by omega)] at h
    cases h
  · intro i j hi h
    rw [Array.getD_eq_getD_getElem?, Array.getElem?_replicate, if_pos hi] at h
    cases h
  · intro i _ hi
    rw [Array.getD_eq_getD_getElem?, Array.getElem?_replicate, if_pos hi]
    rfl
end
end Go.Proofs.Ytlhjnhjghjdeeaa.Mono
namespace Go.Proofs.Ytlhjnhjghjdeeaa.Mono
open Go.RowKit Go.Proofs.YtlhjnhjghjdeeaaW.PrintWords Go.Proofs.YtlhjnhjghjdeeaaW.PrintLast
set_option linter.unusedVariables false
section
variable {P : Program} {ops : Array Oper} {Q : Exit → Act → World → Prop}
def PStep (P : Program) (ops : Array Oper) (Q : Exit → Act → World → Prop) (ts : List Tmp) (a0 : Act) (w0 : World) (F : Nat → Value → World → Prop) (i : Nat) : Prop :=
  ∀ (a : Act) (w wf : World), Ext w0 wf → Fr ops ts a0 a → Known ops F i a wf →
    ∃ oi, ops[i]? = some oi ∧ ∀ K : Act → World → Prop, (∀ v, F i v wf → K (a.put oi.dst v) w) → if Region.wanted oi (yielded ops a.tmps) = true then Oper.wp P oi a w K Q else K (a.put oi.dst undef) w
theorem PStep.m {ts : List Tmp} {a0 : Act} {w0 : World} {F : Nat → Value → World → Prop} {i : Nat} (h : PStep P ops Q ts a0 w0 F i) : MStep P ops Q ts a0 w0 F i := fun a w hx hfr hk => by
  obtain ⟨oi, h1, h2⟩ := h a w w hx hfr hk
  exact ⟨oi, h1, fun K hK => h2 K fun v hv => hK v w hv (Ext.refl _)⟩
end
end Go.Proofs.Ytlhjnhjghjdeeaa.Mono
namespace Go.Proofs.Ytlhjnhjghjdeeaa.Mono
open Go.RowKit Go.Proofs.YtlhjnhjghjdeeaaW.PrintWords Go.Proofs.YtlhjnhjghjdeeaaW.PrintLast
set_option linter.unusedVariables false
section
variable {P : Program} {ops : Array Oper} {Q : Exit → Act → World → Prop}
def LStep (P : Program) (ops : Array Oper) (Q : Exit → Act → World → Prop) (ts : List Tmp) (a0 : Act) (w0 : World) (F : Nat → Value → World → Prop) (ST : (Tmp → Value) → World → World → Prop) (i : Nat) : Prop :=
  ∀ (a : Act) (w wf : World), Ext w0 wf → (w = wf ∨ ∃ u, ST u wf w) → Fr ops ts a0 a → Known ops F i a wf →
    ∃ oi, ops[i]? = some oi ∧ ∀ K : Act → World → Prop, (∀ v, F i v wf → K (a.put oi.dst v) w) → if Region.wanted oi (yielded ops a.tmps) = true then Oper.wp P oi a w K Q else K (a.put oi.dst undef) w
theorem PStep.l {ts : List Tmp} {a0 : Act} {w0 : World} {F : Nat → Value → World → Prop} {ST : (Tmp → Value) → World → World → Prop} {i : Nat} (h : PStep P ops Q ts a0 w0 F i) : LStep P ops Q ts a0 w0 F ST i := fun a w wf hx _ hfr hk => h a w wf hx hfr hk
end
end Go.Proofs.Ytlhjnhjghjdeeaa.Mono
namespace Go.Proofs.Ytlhjnhjghjdeeaa.Read
open Go.RowKit Go.Proofs.YtlhjnhjghjdeeaaW.PrintWords
section
variable {P : Program}
end
end Go.Proofs.Ytlhjnhjghjdeeaa.Read
namespace Go.Proofs.Ytlhjnhjghjdeeaa.Box
open Go.RowKit Go.Proofs.YtlhjnhjghjdeeaaW.PrintWords Go.Proofs.YtlhjnhjghjdeeaaW.PrintLast Go.Proofs.Ytlhjnhjghjdeeaa.Mono
set_option linter.unusedVariables false
theorem blk_ext {W W2 : World} {g : Nat} {o : Obj} (h : W.heap[g]? = some o) (e : Ext W W2) : W2.heap[g]? = some o := blk_below h e
section
variable {P : Program} {ops : Array Oper} {rest : List Oper} {o : Oper} {a : Act} {Q : Exit → Act → World → Prop}
theorem load_box {W : World} (hgd : o.guard = none) {ty : TypeId} {p : Tmp} (ho : o.op = .load ty (.tmp p)) (g : Nat) (hx : a.eval (.tmp p) = .pointer (some ⟨g, 0, none⟩)) {T : TypeId} {cs : Array Value} (hb : W.heap[g]? = some (.cells cs T (0, 0)))
    {d : TypeDesc} (hu : P.underlying ty = some d) (hdd : (match d with | .struct _ | .array _ _ => true | _ => false) = true) (hi : (P.info? ty).map (·.size) = some cs.size) (h : wpList P ops Q rest (a.put o.dst (.agg cs)) W) : wpList P ops Q (o :: rest) a W :=
  wpList_load_row hgd ty _ ho g hx T cs (0, 0) d hb hu hdd hi h
end
section
variable {P : Program} {ops : Array Oper} {Q : Exit → Act → World → Prop}
def RowR {α : Type} (d : Kd α) (e : TypeId) (base : Nat) (xs : List α) (f : Value → Value) : Value → World → Prop := fun v w => ∃ u, v = f u ∧ d.R e w base (fun _ => True) u xs
theorem stable_rowR {α : Type} (d : Kd α) (e : TypeId) (base : Nat) (xs : List α) (f : Value → Value) : Stable (RowR d e base xs f) := fun _ _ _ ⟨u, h1, h2⟩ x => ⟨u, h1, Kd.R_below h2 x⟩
theorem load_out {ts : List Tmp} {a0 : Act} {w0 : World} {F : Nat → Value → World → Prop} {i : Nat} (g : Nat) {t : Tmp} {ty T : TypeId} {cs : Array Value} {oi : Oper} (hoi : ops[i]? = some oi) (hg : oi.guard = none) (ho : oi.op = .load ty (.tmp t)) (e : a0.tmps[t]? = some (.pointer (some ⟨g, 0, none⟩))) (ht : ts.contains t = false)
    (hb : w0.heap[g]? = some (.cells cs T (0, 0))) {d : TypeDesc} (hu : P.underlying ty = some d) (hdd : (match d with | .struct _ | .array _ _ => true | _ => false) = true) (hi : (P.info? ty).map (·.size) = some cs.size)
    (hF : ∀ w, F i (.agg cs) w) : MStep P ops Q ts a0 w0 F i := fun a w hx hfr hk => by
  have ev : a.eval (.tmp t) = .pointer (some ⟨g, 0, none⟩) := by simp [Act.eval, hfr.off t ht, e]
  refine ⟨oi, hoi, fun K hK => value_ (w1 := w) (by unfold Region.wanted; rw [hg]) rfl ?_ (hK _ _ (hF w) (Ext.refl _))⟩
  simp only [execOp, ho, ev, Instr.loadAt, Instr.sureAddr, Sem.run_bind, Sem.run_pure, Result.andThen_ok, run_loadVar_row w g T ty cs (0, 0) d (blk_ext hb hx) hu hdd hi]
end
section
variable {P : Program} {ops : Array Oper} {rest : List Oper} {a : Act} {Q : Exit → Act → World → Prop}
end
end Go.Proofs.Ytlhjnhjghjdeeaa.Box
namespace Go.Proofs.Ytlhjnhjghjdeeaa.QArrayFits
open Go.RowKit Go.Proofs.YtlhjnhjghjdeeaaW.PrintWords Go.Proofs.YtlhjnhjghjdeeaaW.PrintLast Go.Proofs.YtlhjnhjghjdeeaaW.PrintMore Go.Proofs.Ytlhjnhjghjdeeaa.Mono Go.Proofs.Ytlhjnhjghjdeeaa.Box Go.Proofs.Ytlhjnhjghjdeeaa.EvKit
set_option linter.unusedVariables false
set_option linter.unusedSimpArgs false
abbrev nil_ : Value := .slice none 0 0
abbrev BR (w : World) (B : Nat) (v : Value) (xs : List Int) : Prop := Kd.R (Kd.int .u8) 5 w B (fun _ => True) v xs
abbrev IR (w : World) (B : Nat) (v : Value) (xs : List Int) : Prop := Kd.R (Kd.int .i64) 3 w B (fun _ => True) v xs
abbrev Sl := Option Addr × Nat × Nat
def encS : Sl → Value := fun p => .slice p.1 p.2.1 p.2.2
def kS : Kd Sl := Kd.scalar encS (fun _ => rfl)
abbrev Ro := Sl × Int × Bool
def kRo : Kd Ro := Kd.pair kS (Kd.pair (Kd.int .i64) Kd.bool)
def z0 : Ro := ((none, 0, 0), 0, false)
abbrev RR (w : World) (B : Nat) (v : Value) (rs : List Ro) : Prop := kRo.R 65 w B (fun _ => True) v rs
abbrev Gm := S23
abbrev AC (g : Gm) (vr ve : Value) : Obj := .cells #[.int .i64 g.f0, .int .i64 g.f1, .int .i64 g.f2, .int .i64 g.f3, .int .i64 g.f4, .int .i64 g.f5, .int .i64 g.f6, vr, ve] 61 (0, 0)
def andL (xs ys : List Int) : List Int := Go.Proofs.Ytlhjnhjghjdeeaa.NatKit.ints (Go.Proofs.Ytlhjnhjghjdeeaa.BitsMath.andN (Go.Proofs.Ytlhjnhjghjdeeaa.NatKit.nats xs) (Go.Proofs.Ytlhjnhjghjdeeaa.NatKit.nats ys))
def Bytes (xs : List Int) : Prop := ∀ x ∈ xs, 0 ≤ x ∧ x < 256
section
variable {w w' : World} {B gr n cr : Nat} {rs : List Ro}
theorem ro_cells {q : Ro} {c : List Value} {b : Nat} {ok : Nat → Prop} (h : kRo.M w b ok q c) : c = [encS q.1, .int .i64 q.2.1, .bool q.2.2] := by
  obtain ⟨c0, c1, rfl, h0, c2, c3, rfl, h2, h3⟩ := h
  obtain rfl : c0 = [encS q.1] := h0
  obtain rfl : c2 = [.int .i64 q.2.1] := h2
  obtain rfl : c3 = [.bool q.2.2] := h3
  rfl
theorem ro_mk {q : Ro} {b : Nat} {ok : Nat → Prop} : kRo.M w b ok q [encS q.1, .int .i64 q.2.1, .bool q.2.2] :=
  ⟨[encS q.1], [.int .i64 q.2.1, .bool q.2.2], rfl, rfl, [.int .i64 q.2.1], [.bool q.2.2], rfl, rfl, rfl⟩
theorem RR.row (h : RR w B (.slice (some ⟨gr, 0, none⟩) n cr) rs) (i : Nat) (hi : i < n) : w.cell? ⟨gr, i * 3, none⟩ = some (encS (rs.getD i z0).1) ∧ w.cell? ⟨gr, i * 3 + 1, none⟩ = some (.int .i64 (rs.getD i z0).2.1) ∧ w.cell? ⟨gr, i * 3 + 2, none⟩ = some (.bool (rs.getD i z0).2.2) ∧ ∀ j, w.frozen? ⟨gr, i * 3 + j, none⟩ = false := by
  obtain ⟨c, hcl, hM, hcc, hf⟩ := Kd.R_elem h z0 (i : Int) (by omega) (by omega)
  rw [Int.toNat_natCast] at hM
  have hcc' : ∀ j u, c[j]? = some u → w.cell? ⟨gr, i * 3 + j, none⟩ = some u := by
    intro j u hu
    have := hcc j u hu
    rw [Int.toNat_natCast] at this
    exact this
  have hf' : ∀ j, w.frozen? ⟨gr, i * 3 + j, none⟩ = false := by
    intro j
    have := hf j
    rw [Int.toNat_natCast] at this
    exact this
  obtain rfl := ro_cells hM
  exact ⟨hcc' 0 _ rfl, hcc' 1 _ rfl, hcc' 2 _ rfl, hf'⟩
theorem RR.seg (h : RR w B (.slice (some ⟨gr, 0, none⟩) n cr) rs) (i : Nat) (hi : i < n) (j : Nat) (v : Value) (q : Ro) (hj : j < 3) (hq : [encS q.1, .int .i64 q.2.1, .bool q.2.2] = [encS (rs.getD i z0).1, .int .i64 (rs.getD i z0).2.1, .bool (rs.getD i z0).2.2].take j ++ [v] ++ [encS (rs.getD i z0).1, .int .i64 (rs.getD i z0).2.1, .bool (rs.getD i z0).2.2].drop (j + 1)) : RR (w.setCell ⟨gr, i * 3 + j, none⟩ v) B (.slice (some ⟨gr, 0, none⟩) n cr) (rs.set i q) ∧ w.grownBy (w.setCell ⟨gr, i * 3 + j, none⟩ v) (some gr) := by
  obtain ⟨c, hcl, hM, hcc, hf⟩ := Kd.R_elem h z0 (i : Int) (by omega) (by omega)
  rw [Int.toNat_natCast] at hM
  obtain rfl := ro_cells hM
  have h1 := Kd.R_seg h (i : Int) (by omega) (by omega) (seg := [v]) (j := j) (x' := q) (okp := fun _ => False) hcl hcc (show j + 1 ≤ 3 by omega) (by
    show kRo.M _ _ _ _ ([encS (rs.getD i z0).1, .int .i64 (rs.getD i z0).2.1, .bool (rs.getD i z0).2.2].take j ++ [v] ++ [encS (rs.getD i z0).1, .int .i64 (rs.getD i z0).2.1, .bool (rs.getD i z0).2.2].drop (j + 1))
    rw [← hq]
    exact ro_mk) (fun k hk => hk.elim)
  rw [Int.toNat_natCast] at h1
  exact h1
theorem RR.raw (h : RR w B (.slice (some ⟨gr, 0, none⟩) n cr) rs) (i : Nat) (hi : i < n) (p : Sl) : RR (w.setCell ⟨gr, i * 3, none⟩ (encS p)) B (.slice (some ⟨gr, 0, none⟩) n cr) (rs.set i (p, (rs.getD i z0).2)) ∧ w.grownBy (w.setCell ⟨gr, i * 3, none⟩ (encS p)) (some gr) := h.seg i hi 0 (encS p) _ (by decide) rfl
theorem RR.prog (h : RR w B (.slice (some ⟨gr, 0, none⟩) n cr) rs) (i : Nat) (hi : i < n) (q : Int) : RR (w.setCell ⟨gr, i * 3 + 1, none⟩ (.int .i64 q)) B (.slice (some ⟨gr, 0, none⟩) n cr) (rs.set i ((rs.getD i z0).1, q, (rs.getD i z0).2.2)) ∧ w.grownBy (w.setCell ⟨gr, i * 3 + 1, none⟩ (.int .i64 q)) (some gr) := h.seg i hi 1 (.int .i64 q) _ (by decide) rfl
end
set_option maxHeartbeats 1000000 in
theorem ar_is (ga gr n cr : Nat) (g : Gm) (ve : Value) (w : World) (h : w.heap[ga]? = some (AC g (.slice (some ⟨gr, 0, none⟩) n cr) ve)) (hn : 0 < n) : Calls Try.prog 49 #[.pointer (some ⟨ga, 0, none⟩)] w fun e w' => e = .returned (.bool true) ∧ Below w.heap.size w w' := by
  have z_ : w.cell? ⟨ga, 7, none⟩ = some (.slice (some ⟨gr, 0, none⟩) n cr) := (blk_cell h 7).trans rfl
  have d1_ : decide ((n : Int) > 0) = true := decide_eq_true (by omega)
  have d2_ : decide (0 < n) = true := decide_eq_true hn
  have d3_ : (0 < n) = True := eq_true hn
  clear h hn
  go_enter Try.func49, Try.ntmps49
  go_wp2
  go_ret
  exact ⟨rfl, Below.refl _ _⟩
theorem ar_is_nil (w : World) : Calls Try.prog 49 #[.pointer none] w fun e w' => e = .returned (.bool false) ∧ Below w.heap.size w w' := by
  go_enter Try.func49, Try.ntmps49
  go_wp2
  go_ret
  exact ⟨rfl, Below.refl _ _⟩
set_option maxHeartbeats 1000000 in
theorem ar_at (ga gr n cr i : Nat) (g : Gm) (ve : Value) (w : World) (h : w.heap[ga]? = some (AC g (.slice (some ⟨gr, 0, none⟩) n cr) ve)) (hi : i < n) : Calls Try.prog 39 #[.pointer (some ⟨ga, 0, none⟩), .int .i64 (i : Int)] w fun e w' => e = .returned (.tuple #[.pointer (some ⟨gr, i * 3, none⟩), .int .i64 0]) ∧ Below w.heap.size w w' := by
  have H := Aside0.mk h
  have HN : Aside0 (0 < n) := ⟨by omega⟩
  have d1_ : decide ((i : Int) < 0) = false := decide_eq_false (by omega)
  have d2_ : decide ((i : Int) ≥ (n : Int)) = false := decide_eq_false (by omega)
  have d3_ : decide (n ≤ i) = false := decide_eq_false (by omega)
  have d4_ : ((i : Int) < (n : Int)) = True := eq_true (by omega)
  have d5_ : (i < n) = True := eq_true hi
  clear h hi
  go_enter Try.func39, Try.ntmps39
  go_wp2_with (go_at_call 49; (with_reducible refine (ar_is ga gr n cr g ve _ H.out HN.out).mono ?_); rintro e w1 ⟨rfl, hb⟩; have HB := Aside0.mk hb; have z_ : w1.cell? ⟨ga, 7, none⟩ = some (.slice (some ⟨gr, 0, none⟩) n cr) := (blk_cell (blk_below H.out hb) 7).trans rfl; clear hb)
  refine bodyPost_ret (results_list (rs := [.tmp 4, .tmp 5]) rfl (by simp) (.tmp (.tmp .nil))) rfl ?_
  exact ⟨rfl, HB.out⟩
theorem ar_at_nil (i : Int) (w : World) : Calls Try.prog 39 #[.pointer none, .int .i64 i] w fun e w' => e = .returned (.tuple #[.pointer none, .int .i64 1]) ∧ Below w.heap.size w w' := by
  go_enter Try.func39, Try.ntmps39
  go_wp2_with (go_at_call 49; (with_reducible refine (ar_is_nil _).mono ?_); rintro e w1 ⟨rfl, hb⟩; have HB := Aside0.mk hb; clear hb)
  refine bodyPost_ret (results_list (rs := [.tmp 4, .tmp 5]) rfl (by simp) (.tmp (.tmp .nil))) rfl ?_
  exact ⟨rfl, HB.out⟩
theorem clone_calls (A : Option Addr) (c : Nat) (ys : List Int) (w : World) (hC : Kd.C (Kd.int .u8) w A ys.length ys) (hc : ys.length ≤ c) (hl : ys.length ≤ 1000000) : Calls Try.prog 40 #[.slice A ys.length c] w fun e w' => ∃ v, e = .returned v ∧ BR w' w.heap.size v ys ∧ Below w.heap.size w w' := by
  refine (slices_Clone_byte_byte.calls A c ys ys w hC hc ?_).mono ?_
  · unfold slices_Clone_byte_byte.f
    rw [if_pos (by omega)]
  · rintro e w1 ⟨v, rfl, h1, h2⟩
    exact ⟨v, rfl, h1, h2⟩
theorem and_calls (A1 A2 : Option Addr) (c1 c2 : Nat) (xs ys : List Int) (w : World) (h1 : Kd.C (Kd.int .u8) w A1 xs.length xs) (hc1 : xs.length ≤ c1) (h2 : Kd.C (Kd.int .u8) w A2 ys.length ys) (hc2 : ys.length ≤ c2) (hx : Bytes xs) (hy : Bytes ys) (hlx : xs.length < 1000000) (hly : ys.length < 1000000) : Calls Try.prog 26 #[.slice A1 xs.length c1, .slice A2 ys.length c2] w fun e w' => ∃ v, e = .returned v ∧ BR w' w.heap.size v (andL xs ys) ∧ Below w.heap.size w w' := by
  obtain ⟨k, hk⟩ := PureArrayFits.and_ev hx hy hlx hly
  refine (bits_And.calls k A1 c1 xs A2 c2 ys _ w h1 hc1 h2 hc2 (hk k (Nat.le_refl k))).mono ?_
  rintro e w1 ⟨v, rfl, h1, h2⟩
  exact ⟨v, rfl, h1, h2⟩
theorem same_calls (A1 A2 : Option Addr) (c1 c2 : Nat) (xs ys : List Int) (w : World) (h1 : Kd.C (Kd.int .u8) w A1 xs.length xs) (hc1 : xs.length ≤ c1) (h2 : Kd.C (Kd.int .u8) w A2 ys.length ys) (hc2 : ys.length ≤ c2) (hx : xs.length < 1000000) : Calls Try.prog 12 #[.slice A1 xs.length c1, .slice A2 ys.length c2] w fun e w' => e = .returned (.bool (decide (xs = ys))) ∧ Below w.heap.size w w' := by
  obtain ⟨k, hk⟩ := PureArrayFits.same_ev xs ys (by omega)
  exact (incunableref01_Same.calls k A1 c1 xs A2 c2 ys _ w h1 hc1 h2 hc2 (hk k (Nat.le_refl k))).mono (fun e w' h => ⟨h.1, h.2.below⟩)
end Go.Proofs.Ytlhjnhjghjdeeaa.QArrayFits
namespace Go.Proofs.Ytlhjnhjghjdeeaa.QArrayFits
open Go.RowKit Go.Proofs.YtlhjnhjghjdeeaaW.PrintWords Go.Proofs.YtlhjnhjghjdeeaaW.PrintLast Go.Proofs.YtlhjnhjghjdeeaaW.PrintMore Go.Proofs.Ytlhjnhjghjdeeaa.Mono Go.Proofs.Ytlhjnhjghjdeeaa.Box
set_option linter.unusedVariables false
set_option linter.unusedSimpArgs false
section
variable (ga gr n cr i : Nat) (g : Gm) (ve : Value) (w : World)
set_option maxHeartbeats 1000000 in
theorem ar_Raw (A : Option Addr) (c : Nat) (xs : List Int) (h : w.heap[ga]? = some (AC g (.slice (some ⟨gr, 0, none⟩) n cr) ve)) (hi : i < n) (hz : w.cell? ⟨gr, i * 3, none⟩ = some (.slice A xs.length c)) (hC : Kd.C (Kd.int .u8) w A xs.length xs) (hc : xs.length ≤ c) (hl : xs.length ≤ 1000000) :
    Calls Try.prog 13 #[.pointer (some ⟨ga, 0, none⟩), .int .i64 (i : Int)] w fun e w' => ∃ v, e = .returned v ∧ BR w' w.heap.size v xs ∧ Below w.heap.size w w' := by
  have H := Aside0.mk h
  have HI := Aside0.mk hi
  have HC := Aside0.mk hC
  have HCc := Aside0.mk hc
  have HL := Aside0.mk hl
  have HZ := Aside0.mk hz
  have HB0 := Aside0.mk (World.block_lt_of_cell? w _ hz)
  clear h hi hC hc hl hz
  go_enter Try.func13, Try.ntmps13
  go_wp2_with (first | (go_at_call 39; (with_reducible refine (ar_at ga gr n cr i g ve _ H.out HI.out).mono ?_); rintro e w1 ⟨rfl, hb⟩; have HB := Aside0.mk hb; have z_ : w1.cell? ⟨gr, i * 3, none⟩ = some (.slice A xs.length c) := (hb.cell HB0.out).trans HZ.out; clear hb) | (go_at_call 40; (with_reducible refine (clone_calls A c xs _ (Kd.C_below HC.out HB.out) HCc.out HL.out).mono ?_); rintro e w2 ⟨v, rfl, hR, hb⟩; have HR := Aside0.mk (Kd.R_lower hR HB.out.size); replace HB := Aside0.mk (below_step HB.out hb); clear hR hb z_))
  go_ret
  exact ⟨v, rfl, HR.out, HB.out⟩
set_option maxHeartbeats 1000000 in
theorem ar_Programs (q : Int) (h : w.heap[ga]? = some (AC g (.slice (some ⟨gr, 0, none⟩) n cr) ve)) (hi : i < n) (hz : w.cell? ⟨gr, i * 3 + 1, none⟩ = some (.int .i64 q)) :
    Calls Try.prog 14 #[.pointer (some ⟨ga, 0, none⟩), .int .i64 (i : Int)] w fun e w' => e = .returned (.int .i64 q) ∧ Below w.heap.size w w' := by
  have H := Aside0.mk h
  have HI := Aside0.mk hi
  have HZ := Aside0.mk hz
  have HB0 := Aside0.mk (World.block_lt_of_cell? w _ hz)
  clear h hi hz
  go_enter Try.func14, Try.ntmps14
  go_wp2_with (go_at_call 39; (with_reducible refine (ar_at ga gr n cr i g ve _ H.out HI.out).mono ?_); rintro e w1 ⟨rfl, hb⟩; have HB := Aside0.mk hb; have z_ : w1.cell? ⟨gr, i * 3 + 1, none⟩ = some (.int .i64 q) := (hb.cell HB0.out).trans HZ.out; clear hb)
  go_ret
  exact ⟨rfl, HB.out⟩
end
section
variable (gr o : Nat) (w : World)
set_option maxHeartbeats 1000000 in
theorem ar_take (A1 : Option Addr) (c1 : Nat) (v0 : Value) (ys : List Int) (hz : w.cell? ⟨gr, o, none⟩ = some v0) (hf : w.frozen? ⟨gr, o, none⟩ = false) (hy : Kd.C (Kd.int .u8) w A1 ys.length ys) (hc1 : ys.length ≤ c1) (hl : ys.length ≤ 1000000) :
    Calls Try.prog 35 #[.pointer (some ⟨gr, o, none⟩), .slice A1 ys.length c1] w fun e w' => e = .returned (.tuple #[]) ∧ ∃ v w1, Below w.heap.size w w1 ∧ BR w1 w.heap.size v ys ∧ w' = w1.setCell ⟨gr, o, none⟩ v := by
  have HZ := Aside0.mk hz
  have HF := Aside0.mk hf
  have HB0 := Aside0.mk (World.block_lt_of_cell? w _ hz)
  have HC := Aside0.mk hy
  have HC1 := Aside0.mk hc1
  have HL := Aside0.mk hl
  clear hz hf hy hc1 hl
  go_enter Try.func35, Try.ntmps35
  go_wp2_with (go_at_call 40; (with_reducible refine (clone_calls A1 c1 ys _ HC.out HC1.out HL.out).mono ?_); rintro e w1 ⟨v, rfl, hR, hb⟩; obtain ⟨Av, cv, rfl, hl_, hC_⟩ := Kd.R_reads hR; have HR := Aside0.mk hR; have HB := Aside0.mk hb; have z_ : w1.cell? ⟨gr, o, none⟩ = some v0 := (hb.cell HB0.out).trans HZ.out; have f_ : w1.frozen? ⟨gr, o, none⟩ = false := (hb.frozen HB0.out).trans HF.out; clear hR hb hl_ hC_)
  refine bodyPost_end (results_none rfl _ _ _) rfl ?_
  exact ⟨rfl, _, w1, HB.out, HR.out, rfl⟩
set_option maxHeartbeats 1000000 in
theorem ar_and (A0 A1 : Option Addr) (c0 c1 : Nat) (xs ys : List Int) (hz : w.cell? ⟨gr, o, none⟩ = some (.slice A0 xs.length c0)) (hf : w.frozen? ⟨gr, o, none⟩ = false) (hx : Kd.C (Kd.int .u8) w A0 xs.length xs) (hc0 : xs.length ≤ c0) (hy : Kd.C (Kd.int .u8) w A1 ys.length ys) (hc1 : ys.length ≤ c1) (bx : Bytes xs) (bY : Bytes ys) (lx : xs.length < 1000000) (ly : ys.length < 1000000) :
    Calls Try.prog 38 #[.pointer (some ⟨gr, o, none⟩), .slice A1 ys.length c1] w fun e w' => e = .returned (.tuple #[]) ∧ ∃ v w1, Below w.heap.size w w1 ∧ BR w1 w.heap.size v (andL xs ys) ∧ w' = w1.setCell ⟨gr, o, none⟩ v := by
  have HZ := Aside0.mk hz
  have HF := Aside0.mk hf
  have HB0 := Aside0.mk (World.block_lt_of_cell? w _ hz)
  have HX := Aside0.mk hx
  have HC0 := Aside0.mk hc0
  have HY := Aside0.mk hy
  have HC1 := Aside0.mk hc1
  have BX := Aside0.mk bx
  have BY := Aside0.mk bY
  have LX := Aside0.mk lx
  have LY := Aside0.mk ly
  clear hf hx hc0 hy hc1 bx bY lx ly
  go_enter Try.func38, Try.ntmps38
  go_wp2_with (go_at_call 26; (with_reducible refine (and_calls A0 A1 c0 c1 xs ys _ HX.out HC0.out HY.out HC1.out BX.out BY.out LX.out LY.out).mono ?_); rintro e w1 ⟨v, rfl, hR, hb⟩; obtain ⟨Av, cv, rfl, hl_, hC_⟩ := Kd.R_reads hR; have HR := Aside0.mk hR; have HB := Aside0.mk hb; clear hz; have z_ : w1.cell? ⟨gr, o, none⟩ = some (.slice A0 xs.length c0) := (hb.cell HB0.out).trans HZ.out; have f_ : w1.frozen? ⟨gr, o, none⟩ = false := (hb.frozen HB0.out).trans HF.out; clear hR hb hl_ hC_)
  refine bodyPost_end (results_none rfl _ _ _) rfl ?_
  exact ⟨rfl, _, w1, HB.out, HR.out, rfl⟩
end
end Go.Proofs.Ytlhjnhjghjdeeaa.QArrayFits
namespace Go.Proofs.Ytlhjnhjghjdeeaa.QArrayFits
open Go.RowKit Go.Proofs.YtlhjnhjghjdeeaaW.PrintWords Go.Proofs.YtlhjnhjghjdeeaaW.PrintLast Go.Proofs.YtlhjnhjghjdeeaaW.PrintMore Go.Proofs.Ytlhjnhjghjdeeaa.Mono Go.Proofs.Ytlhjnhjghjdeeaa.Box
set_option linter.unusedVariables false
set_option linter.unusedSimpArgs false
theorem with_cell {w w1 : World} {gr i : Nat} {v : Value} {q : Int} (hb : Below w.heap.size w w1) (hlt : gr < w.heap.size) (ht : w.cell? ⟨gr, i * 3 + 1, none⟩ = some (.int .i64 q)) (hf : w.frozen? ⟨gr, i * 3 + 1, none⟩ = false) : (w1.setCell ⟨gr, i * 3, none⟩ v).cell? ⟨gr, i * 3 + 1, none⟩ = some (.int .i64 q) ∧ (w1.setCell ⟨gr, i * 3, none⟩ v).frozen? ⟨gr, i * 3 + 1, none⟩ = false :=
  ⟨(World.cell?_setCell_other _ _ _ _ (fun e => by injection e with _ e _; omega)).trans ((hb.cell (p := ⟨gr, i * 3 + 1, none⟩) hlt).trans ht), (World.frozen?_setCell _ _ _ _).trans ((hb.frozen (p := ⟨gr, i * 3 + 1, none⟩) hlt).trans hf)⟩
set_option maxRecDepth 100000 in
set_option maxHeartbeats 1000000 in
theorem ar_prog1 (gr i gb : Nat) (w : World) (A0 A1 : Option Addr) (c0 c1 : Nat) (xs ys : List Int) (t0 : Bool) (hz : w.cell? ⟨gr, i * 3, none⟩ = some (.slice A0 xs.length c0)) (hf : ∀ j, w.frozen? ⟨gr, i * 3 + j, none⟩ = false) (ht : w.cell? ⟨gr, i * 3 + 2, none⟩ = some (.bool t0)) (hx : Kd.C (Kd.int .u8) w A0 xs.length xs) (hc0 : xs.length ≤ c0) (hb : w.heap[gb]? = some (.cells #[.slice A1 ys.length c1] 24 (0, 0))) (hy : Kd.C (Kd.int .u8) w A1 ys.length ys) (hc1 : ys.length ≤ c1) (bx : Bytes xs) (bY : Bytes ys) (lx : xs.length ≤ 100000) (ly : ys.length ≤ 100000) :
    Calls Try.prog 37 #[.pointer (some ⟨gr, i * 3, none⟩), .pointer (some ⟨gb, 0, none⟩)] w fun e w' => e = .returned (.tuple #[]) ∧ ∃ v w1, Below w.heap.size w w1 ∧ BR w1 w.heap.size v (andL xs ys) ∧ w' = w1.setCell ⟨gr, i * 3, none⟩ v := by
  have HZ := Aside0.mk hz
  have HF := Aside0.mk hf
  have HT := Aside0.mk ht
  have HX := Aside0.mk hx
  have HC0 := Aside0.mk hc0
  have HB_ := Aside0.mk hb
  have HY := Aside0.mk hy
  have HC1 := Aside0.mk hc1
  have BX := Aside0.mk bx
  have BY := Aside0.mk bY
  have LX := Aside0.mk lx
  have LY := Aside0.mk ly
  have HLT : Aside0 (gr < w.heap.size) := ⟨World.block_lt_of_cell? w _ hz⟩
  clear hz hf ht hx hc0 hb hy hc1 bx bY lx ly
  go_enter Try.func37, Try.ntmps37
  go_upto_region 0 with fail
  (try simp only [Act.put, List.setIfInBounds_toArray, List.set_cons_zero, List.set_cons_succ])
  refine Mono.mono_region_tail (fun j_ => ([(Is (.pointer (some ⟨gr, i * 3, none⟩))), (Is (.pointer (some ⟨gr, i * 3, none⟩))), (Is (.pointer (some ⟨gr, i * 3, none⟩))), (Is (.slice A1 ys.length c1))] : List (Value → World → Prop)).getD j_ (fun _ _ => True)) 4 [3, 4, 5, 6] _ (by kernel_rfl) rfl (Nat.le_of_ble_eq_true rfl) (by kernel_rfl) (by kernel_rfl) (by kernel_rfl) ?_ ?_ ?_
  · intro i_
    match i_ with
    | 0 => exact stable_is _
    | 1 => exact stable_is _
    | 2 => exact stable_is _
    | 3 => exact stable_is _
    | _ + 4 => exact fun _ _ _ _ _ => trivial
  · show ∀ i_ ∈ [0, 1, 2, 3], _
    refine msteps_cons ?_ ?_
    · intro a w' hx hfr hk
      have e0 : a.tmps[0]? = some (.pointer (some ⟨gr, i * 3, none⟩)) := (hfr.off 0 rfl).trans rfl
      clear hk hfr
      refine ⟨_, rfl, fun K hK => ?_⟩
      refine value_ (w1 := w') (v := .pointer (some ⟨gr, i * 3, none⟩)) (by rfl) rfl ?_ (hK _ _ (show _ = _ from rfl) (Ext.refl _))
      go_simp
      (try simp only [i64_w])
      try rfl
    refine msteps_cons ?_ ?_
    · intro a w' hx hfr hk
      obtain ⟨v_, e3, h_⟩ := hk 0 3 (by kernel_rfl) rfl
      replace h_ : v_ = .pointer (some ⟨gr, i * 3, none⟩) := h_
      subst h_
      clear hk hfr
      refine ⟨_, rfl, fun K hK => ?_⟩
      refine value_ (w1 := w') (v := .pointer (some ⟨gr, i * 3, none⟩)) (by rfl) rfl ?_ (hK _ _ (show _ = _ from rfl) (Ext.refl _))
      go_simp
      (try simp only [i64_w])
      try rfl
    refine msteps_cons ?_ ?_
    · intro a w' hx hfr hk
      obtain ⟨v_, e4, h_⟩ := hk 1 4 (by kernel_rfl) rfl
      replace h_ : v_ = .pointer (some ⟨gr, i * 3, none⟩) := h_
      subst h_
      clear hk hfr
      refine ⟨_, rfl, fun K hK => ?_⟩
      refine value_ (w1 := w') (v := .pointer (some ⟨gr, i * 3, none⟩)) (by rfl) rfl ?_ (hK _ _ (show _ = _ from rfl) (Ext.refl _))
      go_simp
      (try simp only [i64_w])
      try rfl
    refine msteps_cons ?_ ?_
    · intro a w' hx hfr hk
      have e1 : a.tmps[1]? = some (.pointer (some ⟨gb, 0, none⟩)) := (hfr.off 1 rfl).trans rfl
      clear hk hfr
      refine ⟨_, rfl, fun K hK => ?_⟩
      have hc_ : w'.cell? ⟨gb, 0, none⟩ = some (.slice A1 ys.length c1) := (blk_cell (blk_below HB_.out (Ext.below hx)) 0).trans rfl
      refine value_ (w1 := w') (v := .slice A1 ys.length c1) (by rfl) rfl ?_ (hK _ _ (show _ = _ from rfl) (Ext.refl _))
      go_simp
      (try simp only [i64_w])
      try rfl
    exact msteps_nil
  · intro val wf hx hF
    have e3 : val 3 = .pointer (some ⟨gr, i * 3, none⟩) := hF 0 3 (by decide) rfl
    have e4 : val 4 = .pointer (some ⟨gr, i * 3, none⟩) := hF 1 4 (by decide) rfl
    have e5 : val 5 = .pointer (some ⟨gr, i * 3, none⟩) := hF 2 5 (by decide) rfl
    have e6 : val 6 = .slice A1 ys.length c1 := hF 3 6 (by decide) rfl
    clear hF
    simp only [putT, List.foldl_cons, List.foldl_nil, Act.put, List.setIfInBounds_toArray, List.set_cons_zero, List.set_cons_succ, e3, e4, e5, e6]
    clear e3 e4 e5 e6
    have hz1_ : wf.cell? ⟨gr, i * 3, none⟩ = some (.slice A0 xs.length c0) := ((Ext.below hx).cell HLT.out).trans HZ.out
    have hf1_ : ∀ j, wf.frozen? ⟨gr, i * 3 + j, none⟩ = false := fun j => ((Ext.below hx).frozen HLT.out).trans (HF.out j)
    have hf0_ : wf.frozen? ⟨gr, i * 3, none⟩ = false := hf1_ 0
    go_wp2_with (go_at_call 38; (with_reducible refine (ar_and gr (i * 3) wf A0 A1 c0 c1 xs ys hz1_ hf0_ (Kd.C_below HX.out (Ext.below hx)) HC0.out (Kd.C_below HY.out (Ext.below hx)) HC1.out BX.out BY.out (by have := LX.out; omega) (by have := LY.out; omega)).mono ?_); rintro e w2 ⟨rfl, v, w1, hb1, hR, rfl⟩; have HB1 := Aside0.mk (below_step (Ext.below hx) hb1); have HR := Aside0.mk (Kd.R_lower hR hx.size); clear hz1_)
    refine bodyPost_end (results_none rfl _ _ _) rfl ?_
    exact ⟨rfl, v, w1, HB1.out, HR.out, rfl⟩
set_option maxRecDepth 100000 in
set_option maxHeartbeats 1000000 in
theorem ar_with_prog (ga gr n cr i gb : Nat) (g : Gm) (ve : Value) (w : World) (A0 A1 : Option Addr) (c0 c1 : Nat) (xs ys : List Int) (q : Int) (t0 : Bool) (h : w.heap[ga]? = some (AC g (.slice (some ⟨gr, 0, none⟩) n cr) ve)) (hi : i < n) (hz : w.cell? ⟨gr, i * 3, none⟩ = some (.slice A0 xs.length c0)) (hp : w.cell? ⟨gr, i * 3 + 1, none⟩ = some (.int .i64 q)) (hq : 0 ≤ q ∧ q ≤ 1000000) (hf : ∀ j, w.frozen? ⟨gr, i * 3 + j, none⟩ = false) (ht : w.cell? ⟨gr, i * 3 + 2, none⟩ = some (.bool t0)) (hx : Kd.C (Kd.int .u8) w A0 xs.length xs) (hc0 : xs.length ≤ c0) (hb : w.heap[gb]? = some (.cells #[.slice A1 ys.length c1] 24 (0, 0))) (hy : Kd.C (Kd.int .u8) w A1 ys.length ys) (hc1 : ys.length ≤ c1) (bx : Bytes xs) (bY : Bytes ys) (lx : xs.length ≤ 100000) (hl : ys.length = xs.length) :
    Calls Try.prog 36 #[.pointer (some ⟨ga, 0, none⟩), .int .i64 (i : Int), .slice A1 ys.length c1, .func (.func 37) #[] #[.pointer (some ⟨gb, 0, none⟩)]] w fun e w' => e = .returned (.int .i64 0) ∧ ∃ v w1, Below w.heap.size w w1 ∧ BR w1 w.heap.size v (andL xs ys) ∧ w' = (w1.setCell ⟨gr, i * 3, none⟩ v).setCell ⟨gr, i * 3 + 1, none⟩ (.int .i64 (q + 1)) := by
  have H := Aside0.mk h
  have HI := Aside0.mk hi
  have HZ := Aside0.mk hz
  have HP := Aside0.mk hp
  have HQ := Aside0.mk hq
  have HF := Aside0.mk hf
  have HT := Aside0.mk ht
  have HX := Aside0.mk hx
  have HC0 := Aside0.mk hc0
  have HB_ := Aside0.mk hb
  have HY := Aside0.mk hy
  have HC1 := Aside0.mk hc1
  have BX := Aside0.mk bx
  have BY := Aside0.mk bY
  have LX := Aside0.mk lx
  have HL := Aside0.mk hl
  have HLT : Aside0 (gr < w.heap.size) := ⟨World.block_lt_of_cell? w _ hz⟩
  have LY : Aside0 (ys.length ≤ 100000) := ⟨by omega⟩
  have d1_ : decide ((ys.length : Int) = (xs.length : Int)) = true := decide_eq_true (by omega)
  have d2_ : ((ys.length : Int) == (xs.length : Int)) = true := beq_iff_eq.2 (by omega)
  have d3_ : (ys.length == xs.length) = true := beq_iff_eq.2 hl
  have d4_ : decide (ys.length = xs.length) = true := decide_eq_true hl
  have hw_ : wrap64 (q + 1) = q + 1 := by unfold wrap64; omega
  clear h hi hz hp hq hf ht hx hc0 hb hy hc1 bx bY lx hl
  go_enter Try.func36, Try.ntmps36
  go_wp2_with (first | (go_at_call 39; (with_reducible refine (ar_at ga gr n cr i g ve _ H.out HI.out).mono ?_); rintro e w1 ⟨rfl, hb⟩; have HB := Aside0.mk hb; have z_ : w1.cell? ⟨gr, i * 3, none⟩ = some (.slice A0 xs.length c0) := (hb.cell HLT.out).trans HZ.out; clear hb) | (go_at_call 37; (with_reducible refine (ar_prog1 gr i gb w1 A0 A1 c0 c1 xs ys t0 ((HB.out.cell HLT.out).trans HZ.out) (fun j => (HB.out.frozen HLT.out).trans (HF.out j)) ((HB.out.cell HLT.out).trans HT.out) (Kd.C_below HX.out HB.out) HC0.out (blk_below HB_.out HB.out) (Kd.C_below HY.out HB.out) HC1.out BX.out BY.out LX.out LY.out).mono ?_); rintro e w2 ⟨rfl, v, w3, hb, hR, rfl⟩; have HB3 := Aside0.mk (below_step HB.out hb); have HR := Aside0.mk (Kd.R_lower hR HB.out.size); obtain ⟨y_, f_⟩ := with_cell (v := v) HB3.out HLT.out HP.out (HF.out 1); clear hb hR z_))
  go_ret
  refine ⟨rfl, v, w3, HB3.out, HR.out, ?_⟩
  first | rfl | (rw [hw_])
set_option maxRecDepth 100000 in
set_option maxHeartbeats 1000000 in
theorem ar_Program (ga gr n cr i : Nat) (g : Gm) (ve : Value) (w : World) (A0 A1 : Option Addr) (c0 c1 : Nat) (xs ys : List Int) (q : Int) (t0 : Bool) (h : w.heap[ga]? = some (AC g (.slice (some ⟨gr, 0, none⟩) n cr) ve)) (hi : i < n) (hz : w.cell? ⟨gr, i * 3, none⟩ = some (.slice A0 xs.length c0)) (hp : w.cell? ⟨gr, i * 3 + 1, none⟩ = some (.int .i64 q)) (hq : 0 ≤ q ∧ q ≤ 1000000) (hf : ∀ j, w.frozen? ⟨gr, i * 3 + j, none⟩ = false) (ht : w.cell? ⟨gr, i * 3 + 2, none⟩ = some (.bool t0)) (hx : Kd.C (Kd.int .u8) w A0 xs.length xs) (hc0 : xs.length ≤ c0) (hy : Kd.C (Kd.int .u8) w A1 ys.length ys) (hc1 : ys.length ≤ c1) (bx : Bytes xs) (bY : Bytes ys) (lx : xs.length ≤ 100000) (hl : ys.length = xs.length) :
    Calls Try.prog 11 #[.pointer (some ⟨ga, 0, none⟩), .int .i64 (i : Int), .slice A1 ys.length c1] w fun e w' => e = .returned (.int .i64 0) ∧ ∃ v w1, Below w.heap.size w w1 ∧ BR w1 w.heap.size v (andL xs ys) ∧ w' = (w1.setCell ⟨gr, i * 3, none⟩ v).setCell ⟨gr, i * 3 + 1, none⟩ (.int .i64 (q + 1)) := by
  have H := Aside0.mk h
  have HI := Aside0.mk hi
  have HZ := Aside0.mk hz
  have HP := Aside0.mk hp
  have HQ := Aside0.mk hq
  have HF := Aside0.mk hf
  have HT := Aside0.mk ht
  have HX := Aside0.mk hx
  have HC0 := Aside0.mk hc0
  have HY := Aside0.mk hy
  have HC1 := Aside0.mk hc1
  have BX := Aside0.mk bx
  have BY := Aside0.mk bY
  have LX := Aside0.mk lx
  have HL := Aside0.mk hl
  have HLT : Aside0 (gr < w.heap.size) := ⟨World.block_lt_of_cell? w _ hz⟩
  clear h hi hz hp hq hf ht hx hc0 hy hc1 bx bY lx hl
  go_enter Try.func11, Try.ntmps11
  go_wp2_with (first | ((with_reducible refine gate_dst (N := 5) rfl ?_); refine box_event ?hg (N := 5) ?hd (cs := #[.slice A1 ys.length c1]) (t := 24) ?hr ?_; (case hd => rfl); (case hg => rfl); (case hr => first | (go_simp; done) | (go_simp; rfl)); intro gb hg w1 hbox hb; have HB := Aside0.mk hb; have HX_ := Aside0.mk hbox; have z_ : w1.cell? ⟨gb, 0, none⟩ = some (.slice A1 ys.length c1) := (blk_cell hbox 0).trans rfl; clear hg hbox hb) | (go_at_call 36; (with_reducible refine (ar_with_prog ga gr n cr i gb g ve w1 A0 A1 c0 c1 xs ys q t0 (blk_below H.out HB.out) HI.out ((HB.out.cell HLT.out).trans HZ.out) ((HB.out.cell HLT.out).trans HP.out) HQ.out (fun j => (HB.out.frozen HLT.out).trans (HF.out j)) ((HB.out.cell HLT.out).trans HT.out) (Kd.C_below HX.out HB.out) HC0.out HX_.out (Kd.C_below HY.out HB.out) HC1.out BX.out BY.out LX.out HL.out).mono ?_); rintro e w2 ⟨rfl, v, w3, hb, hR, rfl⟩; have HB3 := Aside0.mk (below_step HB.out hb); have HR := Aside0.mk (Kd.R_lower hR HB.out.size); clear hb hR z_))
  go_ret
  exact ⟨rfl, v, w3, HB3.out, HR.out, rfl⟩
end Go.Proofs.Ytlhjnhjghjdeeaa.QArrayFits
namespace Go.Proofs.Ytlhjnhjghjdeeaa.QArrayFits
open Go.RowKit Go.Proofs.YtlhjnhjghjdeeaaW.PrintWords Go.Proofs.YtlhjnhjghjdeeaaW.PrintLast Go.Proofs.YtlhjnhjghjdeeaaW.PrintMore Go.Proofs.Ytlhjnhjghjdeeaa.Mono Go.Proofs.Ytlhjnhjghjdeeaa.Box
set_option linter.unusedVariables false
set_option linter.unusedSimpArgs false
abbrev GA (g : Gm) : Value := .agg #[.int .i64 g.f0, .int .i64 g.f1, .int .i64 g.f2, .int .i64 g.f3, .int .i64 g.f4, .int .i64 g.f5, .int .i64 g.f6]
abbrev VR (gr n cr : Nat) : Value := .slice (some ⟨gr, 0, none⟩) n cr
structure Ast (w0 w : World) (ga gr cr ge ce n nb : Nat) (g : Gm) (X : Nat → List Int) (Q : Nat → Int × Bool) (E : Nat → Int) : Prop where
  blk : w.heap[ga]? = some (AC g (VR gr n cr) (VR ge nb ce))
  rr : ∃ rs, RR w w0.heap.size (VR gr n cr) rs ∧ (∀ i, i < n → BR w w0.heap.size (encS (rs.getD i z0).1) (X i)) ∧ ∀ i, i < n → (rs.getD i z0).2 = Q i
  er : ∃ es, IR w w0.heap.size (VR ge nb ce) es ∧ ∀ i, i < nb → es.getD i 0 = E i
  bel : Below w0.heap.size w0 w
  hga : w0.heap.size ≤ ga
def updN {α : Type} (f : Nat → α) (i : Nat) (x : α) : Nat → α := fun j => if j = i then x else f j
theorem sc_move {α : Type} {enc : α → Value} {h1 : ∀ x, (enc x).oneCell' = true} {e B : Nat} {w w1 : World} {v : Value} {xs : List α} (h : (Kd.scalar enc h1).R e w B (fun _ => True) v xs) (hm : ∀ k, v.ownBlock = some k → w1.heap[k]? = w.heap[k]?) : (Kd.scalar enc h1).R e w1 B (fun _ => True) v xs := by
  have h2 := Kd.R_tight (d := Kd.scalar enc h1) rfl h
  exact Kd.R_mono (Kd.R_move h2 (fun k hk => hm k hk.symm)) (fun _ _ => trivial)
section
variable {w0 w w' w1 : World} {ga gr cr ge ce n nb : Nat} {g : Gm} {X : Nat → List Int} {Q : Nat → Int × Bool} {E : Nat → Int}
theorem Ast.below (h : Ast w0 w ga gr cr ge ce n nb g X Q E) (hb : Below w.heap.size w w') : Ast w0 w' ga gr cr ge ce n nb g X Q E := by
  obtain ⟨rs, h1, h2, h3⟩ := h.rr
  obtain ⟨es, h4, h5⟩ := h.er
  exact ⟨blk_below h.blk hb, ⟨rs, Kd.R_below h1 hb, fun i hi => Kd.R_below (h2 i hi) hb, h3⟩, ⟨es, Kd.R_below h4 hb, h5⟩, below_step h.bel hb, h.hga⟩
theorem Ast.lower {wb : World} (h : Ast w w' ga gr cr ge ce n nb g X Q E) (hb : Below wb.heap.size wb w) : Ast wb w' ga gr cr ge ce n nb g X Q E := by
  obtain ⟨rs, h1, h2, h3⟩ := h.rr
  obtain ⟨es, h4, h5⟩ := h.er
  exact ⟨h.blk, ⟨rs, Kd.R_lower h1 hb.size, fun i hi => Kd.R_lower (h2 i hi) hb.size, h3⟩, ⟨es, Kd.R_lower h4 hb.size, h5⟩, below_step hb h.bel, Nat.le_trans hb.size h.hga⟩
theorem Ast.row (h : Ast w0 w ga gr cr ge ce n nb g X Q E) (i : Nat) (hi : i < n) : ∃ A c, w.cell? ⟨gr, i * 3, none⟩ = some (.slice A (X i).length c) ∧ BR w w0.heap.size (.slice A (X i).length c) (X i) ∧ w.cell? ⟨gr, i * 3 + 1, none⟩ = some (.int .i64 (Q i).1) ∧ w.cell? ⟨gr, i * 3 + 2, none⟩ = some (.bool (Q i).2) ∧ ∀ j, w.frozen? ⟨gr, i * 3 + j, none⟩ = false := by
  obtain ⟨rs, h1, h2, h3⟩ := h.rr
  obtain ⟨c1, c2, c3, c4⟩ := RR.row h1 i hi
  have hb := h2 i hi
  obtain ⟨A, c, he, _, _⟩ := Kd.R_reads hb
  rw [he] at c1 hb
  rw [h3 i hi] at c2 c3
  exact ⟨A, c, c1, hb, c2, c3, c4⟩
theorem Ast.ne (h : Ast w0 w ga gr cr ge ce n nb g X Q E) (hn : 0 < n) (hnb : 0 < nb) : ga ≠ gr ∧ ge ≠ gr ∧ ga ≠ ge := by
  obtain ⟨rs, h1, _⟩ := h.rr
  obtain ⟨es, h4, _⟩ := h.er
  obtain ⟨c1, q1⟩ := Kd.R_typed h1 gr rfl
  obtain ⟨c2, q2⟩ := Kd.R_typed h4 ge rfl
  have q3 := h.blk
  refine ⟨fun e => ?_, fun e => ?_, fun e => ?_⟩
  · rw [e, q1] at q3
    injection q3 with q3
    injection q3 with _ q3
    exact absurd q3 (by decide)
  · rw [e, q1] at q2
    injection q2 with q2
    injection q2 with _ q2
    exact absurd q2 (by decide)
  · rw [e, q2] at q3
    injection q3 with q3
    injection q3 with _ q3
    exact absurd q3 (by decide)
theorem Ast.prog (h : Ast w0 w ga gr cr ge ce n nb g X Q E) (hnb : 0 < nb) (i : Nat) (hi : i < n) {v : Value} {y : List Int} {q : Int} (hb : Below w.heap.size w w1) (hv : BR w1 w.heap.size v y) : Ast w0 ((w1.setCell ⟨gr, i * 3, none⟩ v).setCell ⟨gr, i * 3 + 1, none⟩ (.int .i64 q)) ga gr cr ge ce n nb g (updN X i y) (updN Q i (q, (Q i).2)) E := by
  have h' := h.below hb
  obtain ⟨rs, h1, h2, h3⟩ := h'.rr
  obtain ⟨es, h4, h5⟩ := h'.er
  obtain ⟨n1, n2, n3⟩ := h'.ne (by omega) hnb
  obtain ⟨A, c, rfl, hl, hC⟩ := Kd.R_reads hv
  obtain ⟨k1, _⟩ := RR.raw h1 i hi (A, y.length, c)
  have hn := (Kd.R_reads' h1).1
  have e1 : ((rs.set i ((A, y.length, c), (rs.getD i z0).2)).getD i z0) = ((A, y.length, c), (rs.getD i z0).2) := by simp [← hn, hi]
  obtain ⟨k2, _⟩ := RR.prog k1 i hi q
  obtain ⟨c1, q1⟩ := Kd.R_typed h1 gr rfl
  obtain ⟨c2, q2⟩ := Kd.R_typed k1 gr rfl
  rw [e1, List.set_set] at k2
  have two : ∀ {B : Nat} {u : Value} {xs : List Int}, BR w1 B u xs → BR ((w1.setCell ⟨gr, i * 3, none⟩ (.slice A y.length c)).setCell ⟨gr, i * 3 + 1, none⟩ (.int .i64 q)) B u xs := fun z => Kd.R_set (Kd.R_set z q1 (by decide) _ _) q2 (by decide) _ _
  have hge : w0.heap.size ≤ gr := Kd.R_base h1 gr rfl
  refine ⟨(Below.heap_setCell _ _ _ ga n1).trans ((Below.heap_setCell _ _ _ ga n1).trans h'.blk), ⟨_, k2, fun j hj => ?_, fun j hj => ?_⟩, ⟨es, sc_move h4 (fun k hk => ?_), h5⟩, Below.setCell (Below.setCell h'.bel hge _) hge _, h'.hga⟩
  · unfold updN
    by_cases e : j = i
    · subst e
      rw [if_pos rfl, show (rs.set j ((A, y.length, c), q, (rs.getD j z0).2.2)).getD j z0 = ((A, y.length, c), q, (rs.getD j z0).2.2) by simp [← hn, hj]]
      exact two (Kd.R_lower hv h.bel.size)
    · rw [if_neg e, show (rs.set i ((A, y.length, c), q, (rs.getD i z0).2.2)).getD j z0 = rs.getD j z0 by simp [List.getElem?_set_ne (fun z => e z.symm)]]
      exact two (h2 j hj)
  · unfold updN
    by_cases e : j = i
    · subst e
      rw [if_pos rfl, show (rs.set j ((A, y.length, c), q, (rs.getD j z0).2.2)).getD j z0 = ((A, y.length, c), q, (rs.getD j z0).2.2) by simp [← hn, hj], ← h3 j hj]
    · rw [if_neg e, show (rs.set i ((A, y.length, c), q, (rs.getD i z0).2.2)).getD j z0 = rs.getD j z0 by simp [List.getElem?_set_ne (fun z => e z.symm)]]
      exact h3 j hj
  · obtain rfl : ge = k := Option.some.inj hk
    exact (Below.heap_setCell _ _ _ ge n2).trans (Below.heap_setCell _ _ _ ge n2)
theorem Ast.bytes (h : Ast w0 w ga gr cr ge ce n nb g X Q E) (hnb : 0 < nb) (i : Nat) (hi : i < n) {v : Value} {y : List Int} (hb : Below w.heap.size w w1) (hv : BR w1 w.heap.size v y) : Ast w0 (w1.setCell ⟨gr, i * 3, none⟩ v) ga gr cr ge ce n nb g (updN X i y) Q E := by
  have h' := h.below hb
  obtain ⟨rs, h1, h2, h3⟩ := h'.rr
  obtain ⟨es, h4, h5⟩ := h'.er
  obtain ⟨n1, n2, n3⟩ := h'.ne (by omega) hnb
  obtain ⟨A, c, rfl, hl, hC⟩ := Kd.R_reads hv
  obtain ⟨k1, _⟩ := RR.raw h1 i hi (A, y.length, c)
  have hn := (Kd.R_reads' h1).1
  obtain ⟨c1, q1⟩ := Kd.R_typed h1 gr rfl
  have hge : w0.heap.size ≤ gr := Kd.R_base h1 gr rfl
  refine ⟨(Below.heap_setCell _ _ _ ga n1).trans h'.blk, ⟨_, k1, fun j hj => ?_, fun j hj => ?_⟩, ⟨es, sc_move h4 (fun k hk => ?_), h5⟩, Below.setCell h'.bel hge _, h'.hga⟩
  · unfold updN
    by_cases e : j = i
    · subst e
      rw [if_pos rfl, show (rs.set j ((A, y.length, c), (rs.getD j z0).2)).getD j z0 = ((A, y.length, c), (rs.getD j z0).2) by simp [← hn, hj]]
      exact Kd.R_set (Kd.R_lower hv h.bel.size) q1 (by decide) _ _
    · rw [if_neg e, show (rs.set i ((A, y.length, c), (rs.getD i z0).2)).getD j z0 = rs.getD j z0 by simp [List.getElem?_set_ne (fun z => e z.symm)]]
      exact Kd.R_set (h2 j hj) q1 (by decide) _ _
  · by_cases e : j = i
    · subst e
      rw [show (rs.set j ((A, y.length, c), (rs.getD j z0).2)).getD j z0 = ((A, y.length, c), (rs.getD j z0).2) by simp [← hn, hj]]
      exact h3 j hj
    · rw [show (rs.set i ((A, y.length, c), (rs.getD i z0).2)).getD j z0 = rs.getD j z0 by simp [List.getElem?_set_ne (fun z => e z.symm)]]
      exact h3 j hj
  · obtain rfl : ge = k := Option.some.inj hk
    exact Below.heap_setCell _ _ _ ge n2
theorem Ast.congr {X' : Nat → List Int} {Q' : Nat → Int × Bool} {E' : Nat → Int} (h : Ast w0 w ga gr cr ge ce n nb g X Q E) (hX : ∀ i, i < n → X' i = X i) (hQ : ∀ i, i < n → Q' i = Q i) (hE : ∀ i, i < nb → E' i = E i) : Ast w0 w ga gr cr ge ce n nb g X' Q' E' := by
  obtain ⟨rs, h1, h2, h3⟩ := h.rr
  obtain ⟨es, h4, h5⟩ := h.er
  exact ⟨h.blk, ⟨rs, h1, fun i hi => by rw [hX i hi]; exact h2 i hi, fun i hi => by rw [hQ i hi]; exact h3 i hi⟩, ⟨es, h4, fun i hi => by rw [hE i hi]; exact h5 i hi⟩, h.bel, h.hga⟩
end
abbrev rawN (g : Gm) : Nat := PureArrayFits.rawN g.f0 g.f1 g.f2 g.f3 g.f4 g.f5 g.f6
abbrev okG (g : Gm) : Prop := PureArrayFits.okG g.f0 g.f1 g.f2 g.f3 g.f4 g.f5 g.f6
theorem check_calls (g : Gm) (w : World) : Calls Try.prog 32 #[GA g] w fun e w' => e = .returned (.int .i64 (if okG g then 0 else 2)) ∧ Below w.heap.size w w' := geom_Check.calls _ _ _ _ _ _ _ _ w PureArrayFits.check_eq
theorem erased_calls (g : Gm) (w : World) : Calls Try.prog 29 #[GA g] w fun e w' => ∃ v, e = .returned v ∧ BR w' w.heap.size v (List.replicate (rawN g) 255) ∧ Below w.heap.size w w' := by
  obtain ⟨k, hk⟩ := PureArrayFits.erased_ev g.f0 g.f1 g.f2 g.f3 g.f4 g.f5 g.f6
  refine (page_Erased.calls k _ _ _ _ _ _ _ _ w (hk k (Nat.le_refl k))).mono ?_
  rintro e w1 ⟨v, rfl, h1, h2⟩
  exact ⟨v, rfl, h1, h2⟩
end Go.Proofs.Ytlhjnhjghjdeeaa.QArrayFits
namespace Go.Proofs.Ytlhjnhjghjdeeaa.QArrayFits
open Go.RowKit Go.Proofs.YtlhjnhjghjdeeaaW.PrintWords Go.Proofs.YtlhjnhjghjdeeaaW.PrintLast Go.Proofs.YtlhjnhjghjdeeaaW.PrintMore Go.Proofs.Ytlhjnhjghjdeeaa.Mono Go.Proofs.Ytlhjnhjghjdeeaa.Box
set_option linter.unusedVariables false
set_option linter.unusedSimpArgs false
theorem intOf_int (k : IntKind) (q : Int) : RowKit.intOf (.int k q) = q := rfl
theorem meas_ {n i : Nat} (hi : i < n) (hb : i < 1000000) : n - (RowKit.intOf (.int .i64 (wrap64 ((i : Int) + 1)))).toNat < n - (RowKit.intOf (.int .i64 (i : Int))).toNat := by
  have hw : wrap64 ((i : Int) + 1) = ((i + 1 : Nat) : Int) := by unfold wrap64; omega
  rw [intOf_int, intOf_int, hw, Int.toNat_natCast, Int.toNat_natCast]
  exact Nat.sub_lt_sub_left hi (Nat.lt_succ_self i)
theorem meas2_ {n i : Nat} (hi : i < n) : n - (RowKit.intOf (.int .i64 ((i : Int) + 1))).toNat < n - (RowKit.intOf (.int .i64 (i : Int))).toNat := by
  rw [intOf_int, intOf_int, show (i : Int) + 1 = ((i + 1 : Nat) : Int) by omega, Int.toNat_natCast, Int.toNat_natCast]
  exact Nat.sub_lt_sub_left hi (Nat.lt_succ_self i)
theorem at_int {k : IntKind} {w : World} {A : Option Addr} {l : List Int} (h : Kd.C (Kd.int k) w A l.length l) (i : Nat) (hi : i < l.length) : ∃ ad, A = some ad ∧ w.cell? (ad.add i) = some (.int k l[i]) := by
  obtain ⟨ad, c, e, _, hK, hc0⟩ := Kd.C_get h 0 (i : Int) (by omega) (by omega)
  have hc : ∀ j u, c[j]? = some u → w.cell? (ad.add (((i : Int).toNat) * 1 + j)) = some u := hc0
  rw [Int.toNat_natCast] at hc hK
  have hg : l.getD i 0 = l[i] := by simp [hi]
  rw [hg] at hK
  obtain rfl : c = [.int k l[i]] := hK
  have := hc 0 _ rfl
  rw [Nat.mul_one, Nat.add_zero] at this
  exact ⟨ad, e, this⟩
def badB (g : Gm) (b : Int) : Bool := decide (b < 0 ∨ b ≥ g.f1)
set_option maxHeartbeats 1000000 in
theorem new_pred (g2 : Nat) (g : Gm) (b : Int) (w : World) (h : w.heap[g2]? = some (.cells #[.int .i64 g.f0, .int .i64 g.f1, .int .i64 g.f2, .int .i64 g.f3, .int .i64 g.f4, .int .i64 g.f5, .int .i64 g.f6] 23 (0, 0))) : Calls Try.prog 34 #[.int .i64 b, .pointer (some ⟨g2, 0, none⟩)] w fun e w' => e = .returned (.bool (badB g b)) ∧ Below w.heap.size w w' := by
  have z_ : w.cell? ⟨g2, 1, none⟩ = some (.int .i64 g.f1) := (blk_cell h 1).trans rfl
  clear h
  by_cases h1 : b < 0
  · have e1 : badB g b = true := decide_eq_true (.inl h1)
    have d1_ : decide (b < 0) = true := decide_eq_true h1
    rw [e1]
    clear h1 e1
    go_enter Try.func34, Try.ntmps34
    go_wp2
    go_ret
    exact ⟨rfl, Below.refl _ _⟩
  · have d1_ : decide (b < 0) = false := decide_eq_false h1
    by_cases h2 : b ≥ g.f1
    · have e1 : badB g b = true := decide_eq_true (.inr h2)
      have d2_ : decide (b ≥ g.f1) = true := decide_eq_true h2
      rw [e1]
      clear h1 h2 e1
      go_enter Try.func34, Try.ntmps34
      go_wp2
      go_ret
      exact ⟨rfl, Below.refl _ _⟩
    · have e1 : badB g b = false := decide_eq_false (fun e => e.elim h1 h2)
      have d2_ : decide (b ≥ g.f1) = false := decide_eq_false h2
      rw [e1]
      clear h1 h2 e1
      go_enter Try.func34, Try.ntmps34
      go_wp2
      go_ret
      exact ⟨rfl, Below.refl _ _⟩
def IdxR (g : Gm) (l : List Int) (w : World) (e : Ending) (w' : World) : Prop := ∃ r : Int, e = .returned (.int .i64 r) ∧ (if l.any (badB g) = true then 0 ≤ r else r = -1) ∧ Below w.heap.size w w'
set_option maxRecDepth 100000 in
set_option maxHeartbeats 1000000 in
theorem new_idx (g2 : Nat) (g : Gm) (A : Option Addr) (c : Nat) (l : List Int) (w : World) (h : w.heap[g2]? = some (.cells #[.int .i64 g.f0, .int .i64 g.f1, .int .i64 g.f2, .int .i64 g.f3, .int .i64 g.f4, .int .i64 g.f5, .int .i64 g.f6] 23 (0, 0))) (hC : Kd.C (Kd.int .i64) w A l.length l) (hl : l.length ≤ 100000) : Calls Try.prog 48 #[.slice A l.length c, .func (.func 34) #[] #[.pointer (some ⟨g2, 0, none⟩)]] w (IdxR g l w) := by
  have H := Aside0.mk h
  have HC := Aside0.mk hC
  have HL := Aside0.mk hl
  clear h hC hl
  go_enter Try.func48, Try.ntmps48
  go_wp2
  go_loopw [8] (fun v8 wr => ∃ i : Nat, v8 = .int .i64 (i : Int) ∧ i ≤ l.length ∧ Aside0 ((l.take i).any (badB g) = false) ∧ Aside0 (Below w.heap.size w wr)) (fun v8 _ => l.length - (RowKit.intOf v8).toNat)
  case atStart => exact ⟨0, rfl, Nat.zero_le _, ⟨rfl⟩, ⟨Below.refl _ _⟩⟩
  case round =>
    obtain ⟨i, rfl, hi, HT, HB⟩ := hrel
    by_cases hlt : i < l.length
    · obtain ⟨ad, rfl, hc_⟩ := at_int HC.out i hlt
      have hsn : l.take (i + 1) = l.take i ++ [l[i]] := List.take_succ_eq_append_getElem hlt
      have hmem := List.getElem_mem hlt
      obtain ⟨e, he⟩ : ∃ z_, l[i] = z_ := ⟨_, rfl⟩
      rw [he] at hc_ hsn hmem
      have hc2_ := (HB.out.cell (World.block_lt_of_cell? w _ hc_)).trans hc_
      have HSN := Aside0.mk hsn
      have HME := Aside0.mk hmem
      have HLT := Aside0.mk hlt
      have hw_ : wrap64 ((i : Int) + 1) = ((i + 1 : Nat) : Int) := by have := HL.out; unfold wrap64; omega
      have di1_ : decide ((i : Int) < (l.length : Int)) = true := decide_eq_true (by omega)
      have di2_ : decide (i < l.length) = true := decide_eq_true (by omega)
      have di3_ : ((i : Int) < (l.length : Int)) = True := eq_true (by omega)
      have di4_ : (i < l.length) = True := eq_true (by omega)
      clear he hsn hmem hi hlt hc_
      cases hbad_ : badB g e with
      | true =>
        go_wp2_with (go_at_call 34; (with_reducible refine (new_pred g2 g e _ (blk_below H.out HB.out)).mono ?_); rw [hbad_]; rintro e_ w2 ⟨rfl, hb⟩; replace HB := Aside0.mk (below_step HB.out hb); clear hb)
        go_ret
        refine ⟨(i : Int), rfl, ?_, HB.out⟩
        rw [if_pos (List.any_eq_true.2 ⟨e, HME.out, hbad_⟩)]
        omega
      | false =>
        have HT2 : Aside0 ((l.take (i + 1)).any (badB g) = false) := ⟨by rw [HSN.out, List.any_append, HT.out, List.any_cons, List.any_nil, hbad_]; rfl⟩
        go_wp2_with (go_at_call 34; (with_reducible refine (new_pred g2 g e _ (blk_below H.out HB.out)).mono ?_); rw [hbad_]; rintro e_ w2 ⟨rfl, hb⟩; replace HB := Aside0.mk (below_step HB.out hb); clear hb)
        go_roundw
        case rel => exact ⟨i + 1, (by first | rfl | rw [hw_] | simp [hw_]), HLT.out, HT2, HB⟩
        case measure => exact (by first | exact meas_ HLT.out (by have := HL.out; have := HLT.out; omega) | exact meas2_ HLT.out)
    · obtain rfl : i = l.length := by omega
      have di1_ : decide ((l.length : Int) < (l.length : Int)) = false := decide_eq_false (by omega)
      have di2_ : decide (l.length < l.length) = false := decide_eq_false (by omega)
      have ht_ := HT.out
      rw [List.take_length] at ht_
      have HT2 := Aside0.mk ht_
      clear HT ht_ hi hlt
      go_wp2
      go_ret
      refine ⟨-1, rfl, ?_, HB.out⟩
      rw [if_neg (by rw [HT2.out]; decide)]
set_option maxRecDepth 100000 in
set_option maxHeartbeats 1000000 in
theorem new_con (g2 : Nat) (g : Gm) (A : Option Addr) (c : Nat) (l : List Int) (w : World) (h : w.heap[g2]? = some (.cells #[.int .i64 g.f0, .int .i64 g.f1, .int .i64 g.f2, .int .i64 g.f3, .int .i64 g.f4, .int .i64 g.f5, .int .i64 g.f6] 23 (0, 0))) (hC : Kd.C (Kd.int .i64) w A l.length l) (hl : l.length ≤ 100000) : Calls Try.prog 33 #[.slice A l.length c, .func (.func 34) #[] #[.pointer (some ⟨g2, 0, none⟩)]] w fun e w' => e = .returned (.bool (l.any (badB g))) ∧ Below w.heap.size w w' := by
  have H := Aside0.mk h
  have HC := Aside0.mk hC
  have HL := Aside0.mk hl
  clear h hC hl
  cases hany : l.any (badB g) with
  | true =>
    go_enter Try.func33, Try.ntmps33
    go_wp2_with (go_at_call 48; (with_reducible refine (new_idx g2 g A c l _ H.out HC.out HL.out).mono ?_); rintro e w1 ⟨r, rfl, hr, hb⟩; have HB := Aside0.mk hb; rw [if_pos hany] at hr; have d1_ : decide (r ≥ 0) = true := decide_eq_true hr; clear hb)
    go_ret
    exact ⟨rfl, HB.out⟩
  | false =>
    go_enter Try.func33, Try.ntmps33
    go_wp2_with (go_at_call 48; (with_reducible refine (new_idx g2 g A c l _ H.out HC.out HL.out).mono ?_); rintro e w1 ⟨r, rfl, hr, hb⟩; have HB := Aside0.mk hb; rw [if_neg (by rw [hany]; decide)] at hr; subst hr; clear hb)
    go_ret
    exact ⟨rfl, HB.out⟩
def NewR (n nb : Nat) (g : Gm) (F : List Int) (w : World) (e : Ending) (w' : World) : Prop := ∃ ga gr cr ge ce, e = .returned (.tuple #[.pointer (some ⟨ga, 0, none⟩), .int .i64 0]) ∧ Ast w w' ga gr cr ge ce n nb g (fun _ => F) (fun _ => (0, false)) (fun _ => 0)
theorem new_con_nil (g2 : Nat) (g : Gm) (w : World) (h : w.heap[g2]? = some (.cells #[.int .i64 g.f0, .int .i64 g.f1, .int .i64 g.f2, .int .i64 g.f3, .int .i64 g.f4, .int .i64 g.f5, .int .i64 g.f6] 23 (0, 0))) : Calls Try.prog 33 #[nil_, .func (.func 34) #[] #[.pointer (some ⟨g2, 0, none⟩)]] w fun e w' => e = .returned (.bool false) ∧ Below w.heap.size w w' :=
  new_con g2 g none 0 [] w h (Kd.R_reads' (Kd.R_nil (Kd.int .i64) 3 w 0 (fun _ => True))).2.2 (by decide)
theorem infoR : (Try.prog.info? 65).map (fun i => (i.zero, i.size, i.bytes)) = some (some (.agg #[nil_, .int .i64 0, .bool false]), 3, 40) := by kernel_rfl
theorem infoI : (Try.prog.info? 3).map (fun i => (i.zero, i.size, i.bytes)) = some (some (.int .i64 0), 1, 8) := by kernel_rfl
def AggF (base : Nat) (g : Gm) (rs : List Ro) (es : List Int) : Value → World → Prop := fun v w => ∃ u1 u2, v = .agg #[.int .i64 g.f0, .int .i64 g.f1, .int .i64 g.f2, .int .i64 g.f3, .int .i64 g.f4, .int .i64 g.f5, .int .i64 g.f6, u1, u2] ∧ RR w base u1 rs ∧ IR w base u2 es
theorem stable_aggF (base : Nat) (g : Gm) (rs : List Ro) (es : List Int) : Stable (AggF base g rs es) := fun _ _ _ ⟨u1, u2, h1, h2, h3⟩ x => ⟨u1, u2, h1, Kd.R_below h2 x, Kd.R_below h3 x⟩
theorem Ast.start {w0 w w5 : World} {ga gr cr ge ce n nb : Nat} {g : Gm} {F : List Int} (hB : Below w0.heap.size w0 w) {w3s : Nat} (h3 : w3s ≤ w.heap.size) (hq1 : RR w w3s (VR gr n cr) (List.replicate n z0)) (hq2 : IR w w3s (VR ge nb ce) (List.replicate nb 0)) (hbox : w5.heap[ga]? = some (AC g (VR gr n cr) (VR ge nb ce))) (hga : ga = w.heap.size) (hb : Below w.heap.size w w5) (h0 : w0.heap.size ≤ w3s) : Ast w0 w5 ga gr cr ge ce n nb g (fun i_ => if i_ < 0 then F else []) (fun _ => (0, false)) (fun _ => 0) := by
  refine ⟨hbox, ⟨_, Kd.R_lower (Kd.R_below hq1 hb) h0, fun i hi => ?_, fun i hi => ?_⟩, ⟨_, Kd.R_lower (Kd.R_below hq2 hb) h0, fun i hi => ?_⟩, below_step hB hb, by rw [hga]; exact hB.size⟩
  · rw [if_neg (by omega), show (List.replicate n z0).getD i z0 = z0 by simp [hi]]
    exact Kd.R_nil _ _ _ _ _
  · simp [hi, z0]
  · simp [hi]
set_option maxRecDepth 100000 in
set_option maxHeartbeats 4000000 in
theorem ar_New (g : Gm) (w : World) (hg : okG g) (n nb : Nat) (hn : g.f1 * g.f2 = (n : Int)) (hnb : g.f1 = (nb : Int)) (hn0 : 0 < n ∧ n ≤ 100000) (hnb0 : 0 < nb ∧ nb ≤ 1000) :
    Calls Try.prog 10 #[GA g, nil_] w (NewR n nb g (List.replicate (rawN g) 255) w) := by
  have HOK := Aside0.mk (if_pos hg : (if okG g then (0 : Int) else 2) = 0)
  have HN0 := Aside0.mk hn0
  have HNB0 := Aside0.mk hnb0
  have HNB := Aside0.mk hnb
  have hm_ : wrap64 (n : Int) = (n : Int) := by unfold wrap64; omega
  have hm2_ := hn
  obtain ⟨FF, hFF⟩ : ∃ z_, List.replicate (rawN g) (255 : Int) = z_ := ⟨_, rfl⟩
  have lF : FF.length ≤ 10000 := by rw [← hFF, List.length_replicate]; exact PureArrayFits.rawN_le _ _ _ _ _ _ _
  have HFF := Aside0.mk hFF
  have LF := Aside0.mk lF
  rw [hFF]
  clear hg hn hnb hn0 hnb0 hFF lF
  go_enter Try.func10, Try.ntmps10
  go_upto_region 3 with (first | ((with_reducible refine gate_dst (N := 2) rfl ?_); refine box_event ?hg (N := 2) ?hd (cs := #[.int .i64 g.f0, .int .i64 g.f1, .int .i64 g.f2, .int .i64 g.f3, .int .i64 g.f4, .int .i64 g.f5, .int .i64 g.f6]) (t := 23) ?hr ?_; (case hd => rfl); (case hg => rfl); (case hr => first | (go_simp; done) | (go_simp; rfl)); intro g2 hg w1 hbox hb; have HB := Aside0.mk hb; have BK2 := Aside0.mk hbox; clear hg hbox hb) | ((with_reducible refine gate_dst (N := 11) rfl ?_); refine load_box rfl rfl g2 rfl BK2.out Try.underlying23 rfl (by kernel_rfl) ?_) | (go_at_call 32; (with_reducible refine (check_calls g _).mono ?_); rw [HOK.out]; rintro e w2 ⟨rfl, hb⟩; replace HB := Aside0.mk (below_step HB.out hb); replace BK2 := Aside0.mk (blk_below BK2.out hb); clear hb) | (go_at_call 33; (with_reducible refine (new_con_nil g2 g _ BK2.out).mono ?_); rintro e w3 ⟨rfl, hb⟩; replace HB := Aside0.mk (below_step HB.out hb); replace BK2 := Aside0.mk (blk_below BK2.out hb); clear hb))
  (try simp only [Act.put, List.setIfInBounds_toArray, List.set_cons_zero, List.set_cons_succ])
  have z1_ : w3.cell? ⟨g2, 1, none⟩ = some (.int .i64 g.f1) := (blk_cell BK2.out 1).trans rfl
  refine Mono.mono_region_tail (fun j_ => ([(Is (GA g)), (Is (.pointer (some ⟨g2, 1, none⟩))), (Is (.int .i64 g.f1)), (Is (.pointer (some ⟨g2, 2, none⟩))), (Is (.int .i64 g.f2)), (Is (.int .i64 (n : Int))), (RowR kRo 65 w3.heap.size (List.replicate n z0) (fun u => u)), (Is (.pointer (some ⟨g2, 1, none⟩))), (Is (.int .i64 g.f1)), (RowR (Kd.int .i64) 3 w3.heap.size (List.replicate nb (0 : Int)) (fun u => u)), (AggF w3.heap.size g (List.replicate n z0) (List.replicate nb 0))] : List (Value → World → Prop)).getD j_ (fun _ _ => True)) 11 [19, 20, 21, 22, 23, 24, 25, 26, 27, 28, 29] _ (by kernel_rfl) rfl (Nat.le_of_ble_eq_true rfl) (by kernel_rfl) (by kernel_rfl) (by kernel_rfl) ?_ ?_ ?_
  · intro i_
    match i_ with
    | 0 => exact stable_is _
    | 1 => exact stable_is _
    | 2 => exact stable_is _
    | 3 => exact stable_is _
    | 4 => exact stable_is _
    | 5 => exact stable_is _
    | 6 => exact stable_rowR _ _ _ _ _
    | 7 => exact stable_is _
    | 8 => exact stable_is _
    | 9 => exact stable_rowR _ _ _ _ _
    | 10 => exact stable_aggF _ _ _ _
    | _ + 11 => exact fun _ _ _ _ _ => trivial
  · show ∀ i_ ∈ [0, 1, 2, 3, 4, 5, 6, 7, 8, 9, 10], _
    refine msteps_cons ?_ ?_
    · exact load_out g2 rfl rfl rfl rfl rfl BK2.out Try.underlying23 rfl (by kernel_rfl) (fun _ => rfl)
    refine msteps_cons ?_ ?_
    · intro a w' hx hfr hk
      have e2 : a.tmps[2]? = some (.pointer (some ⟨g2, 0, none⟩)) := (hfr.off 2 rfl).trans rfl
      clear hk hfr
      refine ⟨_, rfl, fun K hK => ?_⟩
      refine value_ (w1 := w') (v := .pointer (some ⟨g2, 1, none⟩)) (by rfl) rfl ?_ (hK _ _ (show _ = _ from rfl) (Ext.refl _))
      go_simp
      (try simp only [i64_w])
      try rfl
    refine msteps_cons ?_ ?_
    · intro a w' hx hfr hk
      obtain ⟨v_, e20, h_⟩ := hk 1 20 (by kernel_rfl) rfl
      replace h_ : v_ = .pointer (some ⟨g2, 1, none⟩) := h_
      subst h_
      clear hk hfr
      refine ⟨_, rfl, fun K hK => ?_⟩
      have hc_ : w'.cell? ⟨g2, 1, none⟩ = some (.int .i64 g.f1) := (blk_cell (blk_below BK2.out (Ext.below hx)) 1).trans rfl
      refine value_ (w1 := w') (v := .int .i64 g.f1) (by rfl) rfl ?_ (hK _ _ (show _ = _ from rfl) (Ext.refl _))
      go_simp
      (try simp only [i64_w])
      try rfl
    refine msteps_cons ?_ ?_
    · intro a w' hx hfr hk
      have e2 : a.tmps[2]? = some (.pointer (some ⟨g2, 0, none⟩)) := (hfr.off 2 rfl).trans rfl
      clear hk hfr
      refine ⟨_, rfl, fun K hK => ?_⟩
      refine value_ (w1 := w') (v := .pointer (some ⟨g2, 2, none⟩)) (by rfl) rfl ?_ (hK _ _ (show _ = _ from rfl) (Ext.refl _))
      go_simp
      (try simp only [i64_w])
      try rfl
    refine msteps_cons ?_ ?_
    · intro a w' hx hfr hk
      obtain ⟨v_, e22, h_⟩ := hk 3 22 (by kernel_rfl) rfl
      replace h_ : v_ = .pointer (some ⟨g2, 2, none⟩) := h_
      subst h_
      clear hk hfr
      refine ⟨_, rfl, fun K hK => ?_⟩
      have hc_ : w'.cell? ⟨g2, 2, none⟩ = some (.int .i64 g.f2) := (blk_cell (blk_below BK2.out (Ext.below hx)) 2).trans rfl
      refine value_ (w1 := w') (v := .int .i64 g.f2) (by rfl) rfl ?_ (hK _ _ (show _ = _ from rfl) (Ext.refl _))
      go_simp
      (try simp only [i64_w])
      try rfl
    refine msteps_cons ?_ ?_
    · intro a w' hx hfr hk
      obtain ⟨v_, e21, h_⟩ := hk 2 21 (by kernel_rfl) rfl
      replace h_ : v_ = .int .i64 g.f1 := h_
      subst h_
      obtain ⟨v_, e23, h_⟩ := hk 4 23 (by kernel_rfl) rfl
      replace h_ : v_ = .int .i64 g.f2 := h_
      subst h_
      clear hk hfr
      refine ⟨_, rfl, fun K hK => ?_⟩
      refine value_ (w1 := w') (v := .int .i64 (n : Int)) (by rfl) rfl ?_ (hK _ _ (show _ = _ from rfl) (Ext.refl _))
      go_simp
      (try simp only [i64_w])
      try rfl
      try exact hm_
    refine msteps_cons ?_ ?_
    · intro a w' hx hfr hk
      obtain ⟨v_, e24, h_⟩ := hk 5 24 (by kernel_rfl) rfl
      replace h_ : v_ = .int .i64 ((n : Int)) := h_
      subst h_
      clear hk hfr
      refine ⟨_, rfl, fun K hK => ?_⟩
      refine Kd.R_make_step kRo w'.heap.size 65 (by rfl) (N := 25) rfl 59 _ _ rfl ((n : Int)) (by simp [Act.eval, e24]) (by simp [Act.eval, e24]) Try.underlying59 (.agg #[nil_, .int .i64 0, .bool false]) 40 infoR rfl (by decide) (by omega) z0 (ok := fun _ => True) (okp := fun _ => True) ro_mk (fun _ hk => hk) trivial (by omega) (by rw [Int.toNat_natCast]; have := HN0.out; omega) (w0 := w') (Below.refl _ _) (Nat.le_refl _) ?_
      intro v5 w5_ ho hb hg_ hnew_
      rw [Int.toNat_natCast] at ho
      exact hK _ _ ⟨v5, rfl, Kd.R_lower ho hx.size⟩ (Ext.of hb)
    refine msteps_cons ?_ ?_
    · intro a w' hx hfr hk
      have e2 : a.tmps[2]? = some (.pointer (some ⟨g2, 0, none⟩)) := (hfr.off 2 rfl).trans rfl
      clear hk hfr
      refine ⟨_, rfl, fun K hK => ?_⟩
      refine value_ (w1 := w') (v := .pointer (some ⟨g2, 1, none⟩)) (by rfl) rfl ?_ (hK _ _ (show _ = _ from rfl) (Ext.refl _))
      go_simp
      (try simp only [i64_w])
      try rfl
    refine msteps_cons ?_ ?_
    · intro a w' hx hfr hk
      obtain ⟨v_, e26, h_⟩ := hk 7 26 (by kernel_rfl) rfl
      replace h_ : v_ = .pointer (some ⟨g2, 1, none⟩) := h_
      subst h_
      clear hk hfr
      refine ⟨_, rfl, fun K hK => ?_⟩
      have hc_ : w'.cell? ⟨g2, 1, none⟩ = some (.int .i64 g.f1) := (blk_cell (blk_below BK2.out (Ext.below hx)) 1).trans rfl
      refine value_ (w1 := w') (v := .int .i64 g.f1) (by rfl) rfl ?_ (hK _ _ (show _ = _ from rfl) (Ext.refl _))
      go_simp
      (try simp only [i64_w])
      try rfl
    refine msteps_cons ?_ ?_
    · intro a w' hx hfr hk
      obtain ⟨v_, e27, h_⟩ := hk 8 27 (by kernel_rfl) rfl
      replace h_ : v_ = .int .i64 (g.f1) := h_
      subst h_
      clear hk hfr
      refine ⟨_, rfl, fun K hK => ?_⟩
      refine Kd.R_make_step (Kd.int .i64) w'.heap.size 3 (by rfl) (N := 28) rfl 40 _ _ rfl (g.f1) (by simp [Act.eval, e27]) (by simp [Act.eval, e27]) Try.underlying40 (.int .i64 0) 8 infoI rfl (by decide) (by omega) 0 (ok := fun _ => True) (okp := fun _ => True) rfl (fun _ hk => hk) trivial (by have := HNB.out; omega) (by have := HNB.out; have := HNB0.out; omega) (w0 := w') (Below.refl _ _) (Nat.le_refl _) ?_
      intro v5 w5_ ho hb hg_ hnew_
      rw [HNB.out, Int.toNat_natCast] at ho
      exact hK _ _ ⟨v5, rfl, Kd.R_lower ho hx.size⟩ (Ext.of hb)
    refine msteps_cons ?_ ?_
    · intro a w' hx hfr hk
      obtain ⟨v_, e19, h_⟩ := hk 0 19 (by kernel_rfl) rfl
      replace h_ : v_ = GA g := h_
      subst h_
      obtain ⟨v_, e25, u25, rfl, hr25⟩ := hk 6 25 (by kernel_rfl) rfl
      obtain ⟨v_, e28, u28, rfl, hr28⟩ := hk 9 28 (by kernel_rfl) rfl
      obtain ⟨A25, c25, rfl⟩ := Kd.R_slice hr25
      obtain ⟨A28, c28, rfl⟩ := Kd.R_slice hr28
      clear hk hfr
      refine ⟨_, rfl, fun K hK => ?_⟩
      refine value_ (w1 := w') (v := .agg #[.int .i64 g.f0, .int .i64 g.f1, .int .i64 g.f2, .int .i64 g.f3, .int .i64 g.f4, .int .i64 g.f5, .int .i64 g.f6, .slice A25 (List.replicate n z0).length c25, .slice A28 (List.replicate nb (0 : Int)).length c28]) (by rfl) rfl ?_ (hK _ _ ⟨_, _, rfl, hr25, hr28⟩ (Ext.refl _))
      go_simp
      (try simp only [i64_w])
      try rfl
    exact msteps_nil
  · intro val wf hx hF
    have e19 : val 19 = GA g := hF 0 19 (by decide) rfl
    have e20 : val 20 = .pointer (some ⟨g2, 1, none⟩) := hF 1 20 (by decide) rfl
    have e21 : val 21 = .int .i64 g.f1 := hF 2 21 (by decide) rfl
    have e22 : val 22 = .pointer (some ⟨g2, 2, none⟩) := hF 3 22 (by decide) rfl
    have e23 : val 23 = .int .i64 g.f2 := hF 4 23 (by decide) rfl
    have e24 : val 24 = .int .i64 (n : Int) := hF 5 24 (by decide) rfl
    obtain ⟨u25, e25, _⟩ := hF 6 25 (by decide) rfl
    have e26 : val 26 = .pointer (some ⟨g2, 1, none⟩) := hF 7 26 (by decide) rfl
    have e27 : val 27 = .int .i64 g.f1 := hF 8 27 (by decide) rfl
    obtain ⟨u28, e28, _⟩ := hF 9 28 (by decide) rfl
    obtain ⟨u1_, u2_, e29, hq1, hq2⟩ := hF 10 29 (by decide) rfl
    obtain ⟨gr, cr, hv1_, _, _, _⟩ := Kd.R_form hq1 (by rw [List.length_replicate]; exact HN0.out.1)
    obtain ⟨ge, ce, hv2_, _, _, _⟩ := Kd.R_form hq2 (by rw [List.length_replicate]; exact HNB0.out.1)
    rw [List.length_replicate] at hv1_ hv2_
    subst hv1_ hv2_
    have HQ1 := Aside0.mk hq1
    have HQ2 := Aside0.mk hq2
    clear hF hq1 hq2
    simp only [putT, List.foldl_cons, List.foldl_nil, Act.put, List.setIfInBounds_toArray, List.set_cons_zero, List.set_cons_succ, e19, e20, e21, e22, e23, e24, e25, e26, e27, e28, e29]
    clear e19 e20 e21 e22 e23 e24 e25 e26 e27 e28 e29
    have HS03 := Aside0.mk HB.out.size
    replace HB := Aside0.mk (below_step HB.out (Ext.below hx))
    replace BK2 := Aside0.mk (blk_below BK2.out (Ext.below hx))
    have HSZ3 := Aside0.mk hx.size
    clear hx z1_ hm_ hm2_
    (refine box_event ?hg (N := 30) ?hd (cs := #[.int .i64 g.f0, .int .i64 g.f1, .int .i64 g.f2, .int .i64 g.f3, .int .i64 g.f4, .int .i64 g.f5, .int .i64 g.f6, VR gr n cr, VR ge nb ce]) (t := 61) ?hr ?_; (case hd => rfl); (case hg => rfl); (case hr => first | (go_simp; done) | (go_simp; rfl)); intro ga hg w5 hbox hb; have HS := Aside0.mk (Ast.start (F := FF) HB.out HSZ3.out HQ1.out HQ2.out hbox hg hb HS03.out); replace BK2 := Aside0.mk (blk_below BK2.out hb); have z_ : w5.cell? ⟨ga, 7, none⟩ = some (VR gr n cr) := (blk_cell hbox 7).trans rfl; clear hg hbox hb HB HQ1 HQ2 HSZ3)
    go_wp2
    clear z_
    go_loopw [36] (fun v36 wr => ∃ j : Nat, v36 = .int .i64 (j : Int) ∧ j ≤ n ∧ Aside0 (wr.heap[g2]? = some (.cells #[.int .i64 g.f0, .int .i64 g.f1, .int .i64 g.f2, .int .i64 g.f3, .int .i64 g.f4, .int .i64 g.f5, .int .i64 g.f6] 23 (0, 0))) ∧ Aside0 (Ast w wr ga gr cr ge ce n nb g (fun i_ => if i_ < j then FF else []) (fun _ => (0, false)) (fun _ => 0))) (fun v36 _ => n - (RowKit.intOf v36).toNat)
    case atStart => exact ⟨0, rfl, Nat.zero_le _, BK2, HS⟩
    case round =>
      clear BK2 HS
      obtain ⟨j, rfl, hj, BK2, HS⟩ := hrel
      by_cases hlt : j < n
      · have HLT := Aside0.mk hlt
        have hw_ : wrap64 ((j : Int) + 1) = ((j + 1 : Nat) : Int) := by have := HN0.out; unfold wrap64; omega
        have dj1_ : decide ((j : Int) < (n : Int)) = true := decide_eq_true (by omega)
        have dj2_ : decide (j < n) = true := decide_eq_true (by omega)
        have dj3_ : ((j : Int) < (n : Int)) = True := eq_true (by omega)
        have dj4_ : (j < n) = True := eq_true (by omega)
        have z_ : wr.cell? ⟨ga, 7, none⟩ = some (.slice (some ⟨gr, 0, none⟩) n cr) := (blk_cell HS.out.blk 7).trans rfl
        clear hj hlt
        go_upto_region 7 with fail
        (try simp only [Act.put, List.setIfInBounds_toArray, List.set_cons_zero, List.set_cons_succ])
        refine Mono.mono_region_tail (fun j_ => ([(Is (.pointer (some ⟨ga, 0, none⟩))), (Is (.pointer (some ⟨ga, 0, none⟩))), (Is (.pointer (some ⟨ga, 7, none⟩))), (Is (.slice (some ⟨gr, 0, none⟩) n cr)), (Is (.int .i64 (j : Int))), (Is (.pointer (some ⟨gr, j * 3, none⟩))), (Is (.pointer (some ⟨gr, j * 3, none⟩))), (Is (GA g)), (RowR (Kd.int .u8) 5 wr.heap.size FF (fun u => u))] : List (Value → World → Prop)).getD j_ (fun _ _ => True)) 9 [39, 40, 41, 42, 43, 44, 45, 46, 47] _ (by kernel_rfl) rfl (Nat.le_of_ble_eq_true rfl) (by kernel_rfl) (by kernel_rfl) (by kernel_rfl) ?_ ?_ ?_
        · intro i_
          match i_ with
          | 0 => exact stable_is _
          | 1 => exact stable_is _
          | 2 => exact stable_is _
          | 3 => exact stable_is _
          | 4 => exact stable_is _
          | 5 => exact stable_is _
          | 6 => exact stable_is _
          | 7 => exact stable_is _
          | 8 => exact stable_rowR _ _ _ _ _
          | _ + 9 => exact fun _ _ _ _ _ => trivial
        · show ∀ i_ ∈ [0, 1, 2, 3, 4, 5, 6, 7, 8], _
          refine msteps_cons ?_ ?_
          · intro a w' hx hfr hk
            have e6 : a.tmps[6]? = some (.pointer (some ⟨ga, 0, none⟩)) := (hfr.off 6 rfl).trans rfl
            clear hk hfr
            refine ⟨_, rfl, fun K hK => ?_⟩
            refine value_ (w1 := w') (v := .pointer (some ⟨ga, 0, none⟩)) (by rfl) rfl ?_ (hK _ _ (show _ = _ from rfl) (Ext.refl _))
            go_simp
            (try simp only [i64_w])
            try rfl
          refine msteps_cons ?_ ?_
          · intro a w' hx hfr hk
            obtain ⟨v_, e39, h_⟩ := hk 0 39 (by kernel_rfl) rfl
            replace h_ : v_ = .pointer (some ⟨ga, 0, none⟩) := h_
            subst h_
            clear hk hfr
            refine ⟨_, rfl, fun K hK => ?_⟩
            refine value_ (w1 := w') (v := .pointer (some ⟨ga, 0, none⟩)) (by rfl) rfl ?_ (hK _ _ (show _ = _ from rfl) (Ext.refl _))
            go_simp
            (try simp only [i64_w])
            try rfl
          refine msteps_cons ?_ ?_
          · intro a w' hx hfr hk
            obtain ⟨v_, e40, h_⟩ := hk 1 40 (by kernel_rfl) rfl
            replace h_ : v_ = .pointer (some ⟨ga, 0, none⟩) := h_
            subst h_
            clear hk hfr
            refine ⟨_, rfl, fun K hK => ?_⟩
            refine value_ (w1 := w') (v := .pointer (some ⟨ga, 7, none⟩)) (by rfl) rfl ?_ (hK _ _ (show _ = _ from rfl) (Ext.refl _))
            go_simp
            (try simp only [i64_w])
            try rfl
          refine msteps_cons ?_ ?_
          · intro a w' hx hfr hk
            obtain ⟨v_, e41, h_⟩ := hk 2 41 (by kernel_rfl) rfl
            replace h_ : v_ = .pointer (some ⟨ga, 7, none⟩) := h_
            subst h_
            clear hk hfr
            refine ⟨_, rfl, fun K hK => ?_⟩
            have hc_ : w'.cell? ⟨ga, 7, none⟩ = some (.slice (some ⟨gr, 0, none⟩) n cr) := (blk_cell (blk_below HS.out.blk (Ext.below hx)) 7).trans rfl
            refine value_ (w1 := w') (v := .slice (some ⟨gr, 0, none⟩) n cr) (by rfl) rfl ?_ (hK _ _ (show _ = _ from rfl) (Ext.refl _))
            go_simp
            (try simp only [i64_w])
            try rfl
          refine msteps_cons ?_ ?_
          · intro a w' hx hfr hk
            have e7 : a.tmps[7]? = some (.int .i64 (j : Int)) := (hfr.off 7 rfl).trans rfl
            clear hk hfr
            refine ⟨_, rfl, fun K hK => ?_⟩
            refine value_ (w1 := w') (v := .int .i64 (j : Int)) (by rfl) rfl ?_ (hK _ _ (show _ = _ from rfl) (Ext.refl _))
            go_simp
            (try simp only [i64_w])
            try rfl
          refine msteps_cons ?_ ?_
          · intro a w' hx hfr hk
            obtain ⟨v_, e42, h_⟩ := hk 3 42 (by kernel_rfl) rfl
            replace h_ : v_ = .slice (some ⟨gr, 0, none⟩) n cr := h_
            subst h_
            obtain ⟨v_, e43, h_⟩ := hk 4 43 (by kernel_rfl) rfl
            replace h_ : v_ = .int .i64 (j : Int) := h_
            subst h_
            clear hk hfr
            refine ⟨_, rfl, fun K hK => ?_⟩
            refine value_ (w1 := w') (v := .pointer (some ⟨gr, j * 3, none⟩)) (by rfl) rfl ?_ (hK _ _ (show _ = _ from rfl) (Ext.refl _))
            go_simp
            (try simp only [i64_w])
            try rfl
          refine msteps_cons ?_ ?_
          · intro a w' hx hfr hk
            obtain ⟨v_, e44, h_⟩ := hk 5 44 (by kernel_rfl) rfl
            replace h_ : v_ = .pointer (some ⟨gr, j * 3, none⟩) := h_
            subst h_
            clear hk hfr
            refine ⟨_, rfl, fun K hK => ?_⟩
            refine value_ (w1 := w') (v := .pointer (some ⟨gr, j * 3, none⟩)) (by rfl) rfl ?_ (hK _ _ (show _ = _ from rfl) (Ext.refl _))
            go_simp
            (try simp only [i64_w])
            try rfl
          refine msteps_cons ?_ ?_
          · exact load_out g2 rfl rfl rfl rfl rfl BK2.out Try.underlying23 rfl (by kernel_rfl) (fun _ => rfl)
          refine msteps_cons ?_ ?_
          · intro a w' hx hfr hk
            obtain ⟨v_, e46, h_⟩ := hk 7 46 (by kernel_rfl) rfl
            replace h_ : v_ = GA g := h_
            subst h_
            clear hk hfr
            refine ⟨_, rfl, fun K hK => ?_⟩
            refine goes_ Try.func29 (by kernel_rfl) rfl #[GA g] (by rfl) rfl rfl (by simp only [List.map_toArray, List.map_cons, List.map_nil, Act.eval, Array.getD_eq_getD_getElem?, Option.getD_some, e46]; first | done | rfl) ?_
            (with_reducible refine (erased_calls g w').mono ?_)
            rintro e w1 ⟨v_, rfl, hR_, hb_⟩
            rw [HFF.out] at hR_
            exact ⟨_, rfl, hK _ _ ⟨v_, rfl, Kd.R_lower hR_ hx.size⟩ hb_⟩
          exact msteps_nil
        · intro val wf hx hF
          have e39 : val 39 = .pointer (some ⟨ga, 0, none⟩) := hF 0 39 (by decide) rfl
          have e40 : val 40 = .pointer (some ⟨ga, 0, none⟩) := hF 1 40 (by decide) rfl
          have e41 : val 41 = .pointer (some ⟨ga, 7, none⟩) := hF 2 41 (by decide) rfl
          have e42 : val 42 = .slice (some ⟨gr, 0, none⟩) n cr := hF 3 42 (by decide) rfl
          have e43 : val 43 = .int .i64 (j : Int) := hF 4 43 (by decide) rfl
          have e44 : val 44 = .pointer (some ⟨gr, j * 3, none⟩) := hF 5 44 (by decide) rfl
          have e45 : val 45 = .pointer (some ⟨gr, j * 3, none⟩) := hF 6 45 (by decide) rfl
          have e46 : val 46 = GA g := hF 7 46 (by decide) rfl
          obtain ⟨v47, e47, hr47⟩ := hF 8 47 (by decide) rfl
          clear hF
          simp only [putT, List.foldl_cons, List.foldl_nil, Act.put, List.setIfInBounds_toArray, List.set_cons_zero, List.set_cons_succ, e39, e40, e41, e42, e43, e44, e45, e46, e47]
          clear e39 e40 e41 e42 e43 e44 e45 e46 e47
          obtain ⟨Av, cv, rfl, hl_, hC_⟩ := Kd.R_reads hr47
          have HV := Aside0.mk hr47
          clear hr47 hl_ hC_
          replace HS := Aside0.mk (Ast.below HS.out (Ext.below hx))
          replace BK2 := Aside0.mk (blk_below BK2.out (Ext.below hx))
          obtain ⟨A0, c0, hz1_, _, _, _, hff_⟩ := HS.out.row j HLT.out
          have hf1_ : wf.frozen? ⟨gr, j * 3, none⟩ = false := hff_ 0
          clear hff_ hx
          have HNE : Aside0 (g2 ≠ gr) := ⟨fun e => by obtain ⟨rs_, h1_, _⟩ := HS.out.rr; obtain ⟨c1_, q1_⟩ := Kd.R_typed h1_ gr rfl; have h2_ := BK2.out; rw [e, q1_] at h2_; injection h2_ with h2_; injection h2_ with _ h2_; exact absurd h2_ (by decide)⟩
          go_wp2_with (go_at_call 35; (with_reducible refine (ar_take gr (j * 3) wf Av cv _ FF hz1_ hf1_ (Kd.R_reads' HV.out).2.2 (Kd.R_reads' HV.out).2.1 (Nat.le_trans LF.out (by decide))).mono ?_); rintro e w7 ⟨rfl, v, w6, hb, hR, rfl⟩; have HS2 := Aside0.mk (Ast.bytes HS.out HNB0.out.1 j HLT.out hb hR); have BK3 := Aside0.mk ((Below.heap_setCell w6 ⟨gr, j * 3, none⟩ v g2 HNE.out).trans (blk_below BK2.out hb)); clear hb hR hz1_ HS BK2)
          go_roundw
          case rel => exact ⟨j + 1, (by first | rfl | rw [hw_] | simp [hw_]), HLT.out, BK3, ⟨HS2.out.congr (fun i_ hi_ => by unfold updN; by_cases e_ : i_ = j; rw [if_pos e_, if_pos (by omega)]; rw [if_neg e_]; show _ = (if i_ < j then FF else []); by_cases e2_ : i_ < j; rw [if_pos e2_, if_pos (by omega)]; rw [if_neg e2_, if_neg (by omega)]) (fun _ _ => rfl) (fun _ _ => rfl)⟩⟩
          case measure => exact (by first | exact meas_ HLT.out (by have := HN0.out; have := HLT.out; omega) | exact meas2_ HLT.out)
      · obtain rfl : j = n := by omega
        have dj1_ : decide ((j : Int) < (j : Int)) = false := decide_eq_false (by omega)
        have dj2_ : decide (j < j) = false := decide_eq_false (by omega)
        clear hj hlt
        go_wp2
        clear dj1_ dj2_
        go_loop [52] (fun v52 => v52 = .int .i64 0) (fun _ => 0)
        case atStart => rfl
        case round =>
          subst hrel
          go_wp2
          refine bodyPost_ret (results_list (rs := [.tmp 4, .tmp 5]) rfl (by simp) (.tmp (.tmp .nil))) rfl ?_
          exact ⟨ga, gr, cr, ge, ce, rfl, HS.out.congr (fun i_ hi_ => by show FF = if i_ < j then FF else []; rw [if_pos hi_]) (fun _ _ => rfl) (fun _ _ => rfl)⟩
end Go.Proofs.Ytlhjnhjghjdeeaa.QArrayFits
namespace Go.Proofs.Ytlhjnhjghjdeeaa.BitsMath
open Go.RowKit Go.Proofs.Ytlhjnhjghjdeeaa.CrcMath
theorem bitAt_lt2 (l : List Nat) (i : Nat) : bitAt l i < 2 := Nat.mod_lt _ (by decide)
theorem bits_ext {a b : List Nat} (ha : ∀ x ∈ a, x < 256) (hb : ∀ x ∈ b, x < 256) (hl : a.length = b.length) (h : ∀ j, j < 8 * a.length → bitAt a j = bitAt b j) : a = b := by
  refine List.ext_getElem hl (fun i h1 h2 => ?_)
  have hai := ha _ (List.getElem_mem h1)
  have hbi := hb _ (List.getElem_mem h2)
  refine Nat.eq_of_testBit_eq (fun j => ?_)
  by_cases hj : j < 8
  · have := h (8 * i + j) (by omega)
    rw [bitAt_test, bitAt_test, show (8 * i + j) / 8 = i by omega, show (8 * i + j) % 8 = j by omega, List.getD_eq_getElem?_getD, List.getD_eq_getElem?_getD, List.getElem?_eq_getElem h1, List.getElem?_eq_getElem h2, Option.getD_some, Option.getD_some] at this
    revert this
    cases a[i].testBit j <;> cases b[i].testBit j <;> decide
  · have hp : 2 ^ 8 ≤ 2 ^ j := Nat.pow_le_pow_right (by decide) (by omega)
    rw [Nat.testBit_lt_two_pow (Nat.lt_of_lt_of_le hai hp), Nat.testBit_lt_two_pow (Nat.lt_of_lt_of_le hbi hp)]
theorem andN_assoc {a b c : List Nat} (ha : ∀ x ∈ a, x < 256) (hb : ∀ x ∈ b, x < 256) (hc : ∀ x ∈ c, x < 256) : andN (andN a b) c = andN a (andN b c) := by
  refine bits_ext (andN_lt (andN_lt ha hb) hc) (andN_lt ha (andN_lt hb hc)) (by rw [andN_length, andN_length, andN_length, andN_length]; omega) (fun j hj => ?_)
  rw [andN_length, andN_length] at hj
  rw [bitAt_andN (a := andN a b) (b := c) (by rw [andN_length]; exact hj), bitAt_andN (a := a) (b := andN b c) (by rw [andN_length]; omega), andN_length, andN_length]
  by_cases h1 : j < 8 * max a.length b.length
  · rw [bitAt_andN (a := a) (b := b) h1]
    by_cases h2 : j < 8 * max b.length c.length
    · rw [bitAt_andN (a := b) (b := c) h2]
      (repeat' split) <;> first | rfl | omega | exact Nat.mul_assoc _ _ _
    · (repeat' split) <;> first | rfl | omega
  · rw [if_pos (by omega)]
    by_cases h2 : j < 8 * max b.length c.length
    · rw [bitAt_andN (a := b) (b := c) h2]
      (repeat' split) <;> first | rfl | omega
    · omega
theorem andN_self {a : List Nat} (ha : ∀ x ∈ a, x < 256) : andN a a = a := by
  refine bits_ext (andN_lt ha ha) ha (by rw [andN_length]; omega) (fun j hj => ?_)
  rw [andN_length] at hj
  rw [bitAt_andN hj, if_neg (by omega), if_neg (by omega)]
  have h2 := bitAt_lt2 a j
  have h4 : bitAt a j = 0 ∨ bitAt a j = 1 := by omega
  rcases h4 with e | e <;> rw [e]
end Go.Proofs.Ytlhjnhjghjdeeaa.BitsMath
namespace Go.Proofs.Ytlhjnhjghjdeeaa.QArrayFits
open Go.RowKit Go.Proofs.YtlhjnhjghjdeeaaW.PrintWords Go.Proofs.YtlhjnhjghjdeeaaW.PrintLast Go.Proofs.YtlhjnhjghjdeeaaW.PrintMore Go.Proofs.Ytlhjnhjghjdeeaa.Mono Go.Proofs.Ytlhjnhjghjdeeaa.Box Go.Proofs.Ytlhjnhjghjdeeaa.NatKit Go.Proofs.Ytlhjnhjghjdeeaa.BitsMath
set_option linter.unusedVariables false
set_option linter.unusedSimpArgs false
structure Tou (gr : Nat → Prop) (w w' : World) : Prop where
  size : w.heap.size ≤ w'.heap.size
  block : ∀ k, k < w.heap.size → ¬ gr k → w'.heap[k]? = w.heap[k]?
theorem Tou.of_below {S : Nat → Prop} {w w' : World} (h : Below w.heap.size w w') : Tou S w w' := ⟨h.size, fun k hk _ => h.block k hk⟩
theorem Tou.set {S : Nat → Prop} {w w' : World} (h : Tou S w w') (g j : Nat) (v : Value) (hS : S g) : Tou S w (w'.setCell ⟨g, j, none⟩ v) := ⟨by rw [World.size_setCell]; exact h.size, fun k hk hn => (Below.heap_setCell _ _ _ k (fun e => hn (e ▸ hS))).trans (h.block k hk hn)⟩
theorem Tou.trans {S : Nat → Prop} {w w1 w2 : World} (h : Tou S w w1) (h2 : Tou S w1 w2) : Tou S w w2 := ⟨Nat.le_trans h.size h2.size, fun k hk hn => (h2.block k (Nat.lt_of_lt_of_le hk h.size) hn).trans (h.block k hk hn)⟩
theorem Tou.mono {S S2 : Nat → Prop} {w w1 : World} (h : Tou S w w1) (hs : ∀ k, S k → S2 k) : Tou S2 w w1 := ⟨h.size, fun k hk hn => h.block k hk (fun z => hn (hs k z))⟩
theorem Ast.grow {w0 w : World} {ga gr cr ge ce n nb : Nat} {g : Gm} {X : Nat → List Int} {Q : Nat → Int × Bool} {E : Nat → Int} (h : Ast w0 w ga gr cr ge ce n nb g X Q E) : ∃ c, w.heap[gr]? = some (.cells c 65 (0, 0)) := by
  obtain ⟨rs, h1, _⟩ := h.rr
  exact Kd.R_typed h1 gr rfl
theorem Ast.geint {w0 w : World} {ga gr cr ge ce n nb : Nat} {g : Gm} {X : Nat → List Int} {Q : Nat → Int × Bool} {E : Nat → Int} (h : Ast w0 w ga gr cr ge ce n nb g X Q E) : ∃ c, w.heap[ge]? = some (.cells c 3 (0, 0)) := by
  obtain ⟨rs, h1, _⟩ := h.er
  exact Kd.R_typed h1 ge rfl
theorem cells_ne {w : World} {g k : Nat} {T T2 : TypeId} {c c2 : Array Value} (h : w.heap[g]? = some (.cells c T (0, 0))) (h2 : w.heap[k]? = some (.cells c2 T2 (0, 0))) (hT : T ≠ T2) : k ≠ g := fun e => by
  rw [e, h] at h2
  injection h2 with h2
  injection h2 with _ h2
  exact hT h2
theorem br_tou {w w' : World} {B gr : Nat} {v : Value} {xs : List Int} {T : TypeId} {c : Array Value} (h : BR w B v xs) (hg : w.heap[gr]? = some (.cells c T (0, 0))) (hT : T ≠ 5) (ht : Tou (fun k => k = gr) w w') : BR w' B v xs := by
  refine sc_move (enc := Value.int .u8) h (fun k hk => ht.block k (Kd.R_lt h k hk) (fun e => ?_))
  obtain ⟨c2, h2⟩ := Kd.R_typed h k hk
  exact cells_ne hg h2 hT e
section
variable {w0 w : World} {ga gr cr ge ce n nb : Nat} {g : Gm} {X : Nat → List Int} {Q : Nat → Int × Bool} {E : Nat → Int}
theorem as_Program (h : Ast w0 w ga gr cr ge ce n nb g X Q E) (hnb : 0 < nb) (i : Nat) (hi : i < n) (j : Int) (hj : j = (i : Int)) (A1 : Option Addr) (c1 : Nat) (ys : List Int) (hy : Kd.C (Kd.int .u8) w A1 ys.length ys) (hc1 : ys.length ≤ c1) (bx : Bytes (X i)) (bY : Bytes ys) (lx : (X i).length ≤ 100000) (hl : ys.length = (X i).length) (hq : 0 ≤ (Q i).1 ∧ (Q i).1 ≤ 1000000) :
    Calls Try.prog 11 #[.pointer (some ⟨ga, 0, none⟩), .int .i64 j, .slice A1 ys.length c1] w fun e w' => e = .returned (.int .i64 0) ∧ Ast w0 w' ga gr cr ge ce n nb g (updN X i (andL (X i) ys)) (updN Q i ((Q i).1 + 1, (Q i).2)) E ∧ Tou (fun k => k = gr) w w' := by
  subst hj
  obtain ⟨A, c, z1, hb, z2, z3, hf⟩ := h.row i hi
  refine (ar_Program ga gr n cr i g _ w A A1 c c1 (X i) ys (Q i).1 (Q i).2 h.blk hi z1 z2 hq hf z3 (Kd.R_reads' hb).2.2 (Kd.R_reads' hb).2.1 hy hc1 bx bY lx hl).mono ?_
  rintro e w' ⟨rfl, v, w1, hb1, hv, rfl⟩
  exact ⟨rfl, h.prog hnb i hi hb1 hv, ((Tou.of_below (S := fun k => k = gr) hb1).set gr _ _ rfl).set gr _ _ rfl⟩
theorem as_Raw (h : Ast w0 w ga gr cr ge ce n nb g X Q E) (i : Nat) (hi : i < n) (j : Int) (hj : j = (i : Int)) (lx : (X i).length ≤ 100000) : Calls Try.prog 13 #[.pointer (some ⟨ga, 0, none⟩), .int .i64 j] w fun e w' => ∃ v, e = .returned v ∧ BR w' w.heap.size v (X i) ∧ Below w.heap.size w w' := by
  subst hj
  obtain ⟨A, c, z1, hb, z2, z3, hf⟩ := h.row i hi
  exact ar_Raw ga gr n cr i g _ w A c (X i) h.blk hi z1 (Kd.R_reads' hb).2.2 (Kd.R_reads' hb).2.1 (by omega)
theorem as_Programs (h : Ast w0 w ga gr cr ge ce n nb g X Q E) (i : Nat) (hi : i < n) (j : Int) (hj : j = (i : Int)) : Calls Try.prog 14 #[.pointer (some ⟨ga, 0, none⟩), .int .i64 j] w fun e w' => e = .returned (.int .i64 (Q i).1) ∧ Below w.heap.size w w' := by
  subst hj
  obtain ⟨A, c, z1, hb, z2, z3, hf⟩ := h.row i hi
  exact ar_Programs ga gr n cr i g _ w (Q i).1 h.blk hi z2
end
theorem same_refl (A1 A2 : Option Addr) (c1 c2 : Nat) (xs : List Int) (w : World) (h1 : Kd.C (Kd.int .u8) w A1 xs.length xs) (hc1 : xs.length ≤ c1) (h2 : Kd.C (Kd.int .u8) w A2 xs.length xs) (hc2 : xs.length ≤ c2) (hx : xs.length < 1000000) : Calls Try.prog 12 #[.slice A1 xs.length c1, .slice A2 xs.length c2] w fun e w' => e = .returned (.bool true) ∧ Below w.heap.size w w' :=
  (same_calls A1 A2 c1 c2 xs xs w h1 hc1 h2 hc2 hx).mono (fun e w' h => ⟨by rw [h.1, decide_eq_true rfl], h.2⟩)
theorem andL_length (xs ys : List Int) : (andL xs ys).length = max xs.length ys.length := by
  unfold andL
  rw [show (ints (andN (nats xs) (nats ys))).length = (andN (nats xs) (nats ys)).length from List.length_map _, andN_length, nats_length, nats_length]
theorem andL_bytes {xs ys : List Int} (hx : Bytes xs) (hy : Bytes ys) : Bytes (andL xs ys) := by
  intro x h
  obtain ⟨b, hb, rfl⟩ := List.mem_map.1 h
  have := andN_lt (nats_lt hx) (nats_lt hy) b hb
  exact ⟨Int.natCast_nonneg _, by show (b : Int) < 256; omega⟩
theorem andL_assoc {xs ys zs : List Int} (hx : Bytes xs) (hy : Bytes ys) (hz : Bytes zs) : andL (andL xs ys) zs = andL xs (andL ys zs) := by
  unfold andL
  rw [nats_ints, nats_ints, andN_assoc (nats_lt hx) (nats_lt hy) (nats_lt hz)]
theorem andL_self {xs : List Int} (hx : Bytes xs) : andL xs xs = xs := by
  unfold andL
  rw [andN_self (nats_lt hx), ints_nats (fun x h => (hx x h).1)]
theorem full_bytes (n : Nat) : Bytes (List.replicate n (255 : Int)) := fun x h => by
  rw [(List.mem_replicate.1 h).2]
  decide
def smB (g : Gm) : Bool := decide (((g.f3 ≤ 4 ∧ g.f4 ≤ 40) ∧ g.f3 ≥ 0 ∧ g.f4 ≥ 0) ∧ g.f1 ≤ 16 ∧ g.f2 ≤ 12)
theorem small_eq (g : Gm) : incunablelaw13_Small.f g.f0 g.f1 g.f2 g.f3 g.f4 g.f5 g.f6 = some (smB g) := by
  unfold incunablelaw13_Small.f incunablelaw08_Small.f smB
  by_cases h1 : g.f3 ≤ 4
  · by_cases h2 : g.f4 ≤ 40
    · by_cases h3 : g.f3 ≥ 0
      · by_cases h4 : g.f4 ≥ 0
        · by_cases h5 : g.f1 ≤ 16
          · simp [h1, h2, h3, h4, h5]
          · simp [h1, h2, h3, h4, h5]
        · simp [h1, h2, h3, h4]
      · simp [h1, h2, h3]
    · simp [h1, h2]
  · simp [h1]
theorem small_calls (g : Gm) (w : World) : Calls Try.prog 7 #[GA g] w fun e w' => e = .returned (.bool (smB g)) ∧ Below w.heap.size w w' := incunablelaw13_Small.calls _ _ _ _ _ _ _ _ w (small_eq g)
theorem right_calls (g : Gm) (w : World) : Calls Try.prog 8 #[GA g] w fun e w' => e = .returned (.bool (decide (okG g))) ∧ Below w.heap.size w w' := incunableref04_Right.calls _ _ _ _ _ _ _ _ w PureArrayFits.right_eq
theorem refraw_calls (g : Gm) (h : okG g) (w : World) : Calls Try.prog 9 #[GA g] w fun e w' => e = .returned (.int .i64 (rawN g : Int)) ∧ Below w.heap.size w w' := by
  refine incunableref04_Raw.calls _ _ _ _ _ _ _ _ w ?_
  obtain ⟨h3, h4⟩ := PureArrayFits.okG_bounds h
  have h5 := PureArrayFits.mul_bound h3 (y := g.f4 + 2) ⟨by omega, by omega⟩
  have h6 := PureArrayFits.mul_bound h3 (y := g.f4) ⟨by omega, by omega⟩
  have e1 : g.f3 * (g.f4 + 2) = g.f3 * g.f4 + 2 * g.f3 := by rw [Int.mul_add, Int.mul_comm g.f3 2]
  unfold incunableref04_Raw.f rawN PureArrayFits.rawN
  rw [if_pos h, e1]
  congr 1
  generalize g.f3 * g.f4 = q at h5 h6 e1
  unfold wrap64
  omega
theorem zeros_full (A : Option Addr) (c n : Nat) (xs : List Int) (w : World) (hx : xs = List.replicate n 255) (hn : n ≤ 10000) (hC : Kd.C (Kd.int .u8) w A xs.length xs) (hc : xs.length ≤ c) : Calls Try.prog 27 #[.slice A xs.length c] w fun e w' => e = .returned (.int .i64 0) ∧ Below w.heap.size w w' := by
  subst hx
  obtain ⟨k, hk⟩ := PureArrayFits.full_zeros n hn
  exact (bits_Zeros.calls k A c _ _ w hC hc (hk k (Nat.le_refl k))).mono (fun e w' h => ⟨h.1, h.2.below⟩)
def g1 : Gm := ⟨1, 2, 4, 1, 4, 1, 1⟩
theorem plain_calls (w : World) : Calls Try.prog 28 #[] w fun e w' => e = .returned (GA g1) ∧ Below w.heap.size w w' := incunablelaw13_plain.calls 1 2 4 1 4 1 1 w rfl
theorem okG1 : okG g1 := by decide
theorem rawN1 : rawN g1 = 37 := by decide
theorem rows_bounds {g : Gm} (h : okG g) (hs : smB g = true) : ∃ n nb : Nat, g.f1 * g.f2 = (n : Int) ∧ g.f1 = (nb : Int) ∧ 8 ≤ n ∧ n ≤ 192 ∧ 2 ≤ nb ∧ nb ≤ 16 := by
  obtain ⟨_, h1, h2, _⟩ := PureArrayFits.rows_iff.1 h.1
  have hs' := of_decide_eq_true hs
  have a1 := Int.mul_le_mul hs'.2.1 hs'.2.2 (by omega) (by decide)
  have a2 := Int.mul_le_mul h1.1 h2.1 (by decide) (by omega)
  refine ⟨(g.f1 * g.f2).toNat, g.f1.toNat, by omega, by omega, by omega, by omega, by omega, by omega⟩
end Go.Proofs.Ytlhjnhjghjdeeaa.QArrayFits
namespace Go.Proofs.Ytlhjnhjghjdeeaa.QArrayFits
open Go.RowKit Go.Proofs.YtlhjnhjghjdeeaaW.PrintWords Go.Proofs.YtlhjnhjghjdeeaaW.PrintLast Go.Proofs.YtlhjnhjghjdeeaaW.PrintMore Go.Proofs.Ytlhjnhjghjdeeaa.Mono Go.Proofs.Ytlhjnhjghjdeeaa.Box
set_option linter.unusedVariables false
set_option linter.unusedSimpArgs false
set_option maxRecDepth 100000 in
set_option maxHeartbeats 4000000 in
theorem ar_awake (w0 : World) : Calls Try.prog 6 #[] w0 fun e w' => e = .returned (.bool true) ∧ Below w0.heap.size w0 w' := by
  obtain ⟨FF, hF⟩ : ∃ z_, List.replicate (rawN g1) (255 : Int) = z_ := ⟨_, rfl⟩
  have lF : FF.length = 37 := by rw [← hF, List.length_replicate]; exact rawN1
  have hF2 : FF = List.replicate 37 255 := by rw [← hF, rawN1]
  have bF : Bytes FF := by rw [hF2]; exact full_bytes 37
  have hAF : andL FF FF = FF := andL_self bF
  have HFF := Aside0.mk hF
  have HF2 := Aside0.mk hF2
  have LF := Aside0.mk lF
  have BF := Aside0.mk bF
  have HAF := Aside0.mk hAF
  have LF2 : Aside0 (FF.length ≤ 100000) := ⟨by omega⟩
  have LQ : Aside0 (((fun _ => (0, false) : Nat → Int × Bool) 3).1 + 1 = 1) := ⟨rfl⟩
  have d1_ : decide ((FF.length : Int) = 37) = true := decide_eq_true (by omega)
  have d2_ : ((FF.length : Int) == 37) = true := beq_iff_eq.2 (by omega)
  have HB := Aside0.mk (Below.refl w0.heap.size w0)
  clear hF lF hF2 bF hAF
  go_enter Try.func6, Try.ntmps6
  have tok : True := trivial
  have tok2 : True := trivial
  go_wp2_with (first | (go_at_call 28; have _t := tok; (with_reducible refine (plain_calls _).mono ?_); rintro e w1 ⟨rfl, hb⟩; replace HB := Aside0.mk (below_step HB.out hb); clear hb tok) | (go_at_call 10; (with_reducible refine (ar_New g1 _ okG1 8 2 rfl rfl ⟨by decide, by decide⟩ ⟨by decide, by decide⟩).mono ?_); rintro e w2 ⟨ga, gr, cr, ge, ce, rfl, hA⟩; rw [HFF.out] at hA; have HS := Aside0.mk (Ast.lower hA HB.out); clear hA HB) | (go_at_call 28; (with_reducible refine (plain_calls _).mono ?_); rintro e w3 ⟨rfl, hb⟩; replace HS := Aside0.mk (Ast.below HS.out hb); clear hb) | (go_at_call 29; (with_reducible refine (erased_calls g1 _).mono ?_); rintro e w4 ⟨v_, rfl, hR, hb⟩; rw [HFF.out] at hR; obtain ⟨Ae, ce_, rfl, hl_, hC_⟩ := Kd.R_reads hR; have HE := Aside0.mk hR; replace HS := Aside0.mk (Ast.below HS.out hb); clear hR hb hl_ hC_) | (go_at_call 11; (with_reducible refine (as_Program HS.out (by decide) 3 (by decide) 3 rfl Ae ce_ FF (Kd.R_reads' HE.out).2.2 (Kd.R_reads' HE.out).2.1 BF.out BF.out LF2.out rfl ⟨by decide, by decide⟩).mono ?_); rintro e w5 ⟨rfl, hA, ht⟩; rw [HAF.out] at hA; have hA2 := hA.congr (X' := fun _ => FF) (Q' := updN (fun _ => (0, false)) 3 (1, false)) (fun i hi => by unfold updN; split <;> rfl) (fun i hi => rfl) (fun _ _ => rfl); clear HS HE; have HS := Aside0.mk hA2; clear hA hA2 ht) | (go_at_call 14; (with_reducible refine (as_Programs HS.out 3 (by decide) 3 rfl).mono ?_); rintro e w6 ⟨rfl, hb⟩; replace HS := Aside0.mk (Ast.below HS.out hb); clear hb) | (go_at_call 13; have _t := tok2; (with_reducible refine (as_Raw HS.out 3 (by decide) 3 rfl LF2.out).mono ?_); rintro e w7 ⟨v_, rfl, hR, hb⟩; skip; obtain ⟨Ar, cr_, rfl, hl_, hC_⟩ := Kd.R_reads hR; have HR1 := Aside0.mk (Kd.R_lower hR HS.out.bel.size); replace HS := Aside0.mk (Ast.below HS.out hb); clear tok2; clear hR hb hl_ hC_) | (go_at_call 27; (with_reducible refine (zeros_full Ar cr_ 37 FF _ HF2.out (by decide) (Kd.R_reads' HR1.out).2.2 (Kd.R_reads' HR1.out).2.1).mono ?_); rintro e w8 ⟨rfl, hb⟩; replace HS := Aside0.mk (Ast.below HS.out hb); clear hb) | (go_at_call 13; (with_reducible refine (as_Raw HS.out 3 (by decide) 3 rfl LF2.out).mono ?_); rintro e w9 ⟨v_, rfl, hR, hb⟩; skip; obtain ⟨As, cs_, rfl, hl_, hC_⟩ := Kd.R_reads hR; have HR2 := Aside0.mk (Kd.R_lower hR HS.out.bel.size); replace HS := Aside0.mk (Ast.below HS.out hb); clear hR hb hl_ hC_))
  go_ret
  exact ⟨rfl, HS.out.bel⟩
end Go.Proofs.Ytlhjnhjghjdeeaa.QArrayFits
namespace Go.Proofs.Ytlhjnhjghjdeeaa.QArrayFits
open Go.RowKit Go.Proofs.YtlhjnhjghjdeeaaW.PrintWords Go.Proofs.YtlhjnhjghjdeeaaW.PrintLast Go.Proofs.YtlhjnhjghjdeeaaW.PrintMore Go.Proofs.Ytlhjnhjghjdeeaa.Mono Go.Proofs.Ytlhjnhjghjdeeaa.Box
set_option linter.unusedVariables false
set_option linter.unusedSimpArgs false
set_option maxRecDepth 100000 in
set_option maxHeartbeats 1000000 in
theorem ar_block_nil (i : Int) (w : World) : Calls Try.prog 45 #[.pointer none, .int .i64 i] w fun e w' => e = .returned (.tuple #[nil_, .int .i64 1]) ∧ Below w.heap.size w w' := by
  go_enter Try.func45, Try.ntmps45
  go_wp2_with (first | (go_at_call 49; (with_reducible refine (ar_is_nil _).mono ?_); rintro e w1 ⟨rfl, hb⟩; have HB := Aside0.mk hb; clear hb))
  refine bodyPost_ret (results_list (rs := [.tmp 4, .tmp 5]) rfl (by simp) (.tmp (.tmp .nil))) rfl ?_
  exact ⟨rfl, HB.out⟩
set_option maxRecDepth 100000 in
set_option maxHeartbeats 1000000 in
theorem ar_Raw_nil (i : Int) (w : World) : Calls Try.prog 13 #[.pointer none, .int .i64 i] w fun e w' => e = .returned (nil_) ∧ Below w.heap.size w w' := by
  go_enter Try.func13, Try.ntmps13
  go_wp2_with (first | (go_at_call 39; (with_reducible refine (ar_at_nil i _).mono ?_); rintro e w1 ⟨rfl, hb⟩; have HB := Aside0.mk hb; clear hb))
  go_ret
  exact ⟨rfl, HB.out⟩
set_option maxRecDepth 100000 in
set_option maxHeartbeats 1000000 in
theorem ar_Programs_nil (i : Int) (w : World) : Calls Try.prog 14 #[.pointer none, .int .i64 i] w fun e w' => e = .returned (.int .i64 0) ∧ Below w.heap.size w w' := by
  go_enter Try.func14, Try.ntmps14
  go_wp2_with (first | (go_at_call 39; (with_reducible refine (ar_at_nil i _).mono ?_); rintro e w1 ⟨rfl, hb⟩; have HB := Aside0.mk hb; clear hb))
  go_ret
  exact ⟨rfl, HB.out⟩
set_option maxRecDepth 100000 in
set_option maxHeartbeats 1000000 in
theorem ar_Torn_nil (i : Int) (w : World) : Calls Try.prog 15 #[.pointer none, .int .i64 i] w fun e w' => e = .returned (.bool false) ∧ Below w.heap.size w w' := by
  go_enter Try.func15, Try.ntmps15
  go_wp2_with (first | (go_at_call 39; (with_reducible refine (ar_at_nil i _).mono ?_); rintro e w1 ⟨rfl, hb⟩; have HB := Aside0.mk hb; clear hb))
  go_ret
  exact ⟨rfl, HB.out⟩
set_option maxRecDepth 100000 in
set_option maxHeartbeats 1000000 in
theorem ar_Erases_nil (i : Int) (w : World) : Calls Try.prog 25 #[.pointer none, .int .i64 i] w fun e w' => e = .returned (.int .i64 0) ∧ Below w.heap.size w w' := by
  go_enter Try.func25, Try.ntmps25
  go_wp2_with (first | (go_at_call 45; (with_reducible refine (ar_block_nil i _).mono ?_); rintro e w1 ⟨rfl, hb⟩; have HB := Aside0.mk hb; clear hb))
  go_ret
  exact ⟨rfl, HB.out⟩
set_option maxRecDepth 100000 in
set_option maxHeartbeats 1000000 in
theorem ar_Erase_nil (i : Int) (w : World) : Calls Try.prog 21 #[.pointer none, .int .i64 i] w fun e w' => e = .returned (.int .i64 1) ∧ Below w.heap.size w w' := by
  go_enter Try.func21, Try.ntmps21
  go_wp2_with (first | (go_at_call 45; (with_reducible refine (ar_block_nil i _).mono ?_); rintro e w1 ⟨rfl, hb⟩; have HB := Aside0.mk hb; clear hb))
  go_ret
  exact ⟨rfl, HB.out⟩
set_option maxRecDepth 100000 in
set_option maxHeartbeats 1000000 in
theorem ar_TearBlock_nil (i : Int) (A1 : Option Addr) (m c1 : Nat) (w : World) : Calls Try.prog 23 #[.pointer none, .int .i64 i, .slice A1 m c1] w fun e w' => e = .returned (.int .i64 1) ∧ Below w.heap.size w w' := by
  go_enter Try.func23, Try.ntmps23
  go_wp2_with (first | (go_at_call 45; (with_reducible refine (ar_block_nil i _).mono ?_); rintro e w1 ⟨rfl, hb⟩; have HB := Aside0.mk hb; clear hb))
  go_ret
  exact ⟨rfl, HB.out⟩
set_option maxRecDepth 100000 in
set_option maxHeartbeats 1000000 in
theorem ar_with_nil_Program (i : Int) (A1 : Option Addr) (m c1 gb : Nat) (w : World) : Calls Try.prog 36 #[.pointer none, .int .i64 i, .slice A1 m c1, .func (.func 37) #[] #[.pointer (some ⟨gb, 0, none⟩)]] w fun e w' => e = .returned (.int .i64 1) ∧ Below w.heap.size w w' := by
  go_enter Try.func36, Try.ntmps36
  go_wp2_with (first | (go_at_call 39; (with_reducible refine (ar_at_nil i _).mono ?_); rintro e w1 ⟨rfl, hb⟩; have HB := Aside0.mk hb; clear hb))
  go_ret
  exact ⟨rfl, HB.out⟩
set_option maxRecDepth 100000 in
set_option maxHeartbeats 1000000 in
theorem ar_Program_nil (i : Int) (A1 : Option Addr) (m c1 : Nat) (w : World) : Calls Try.prog 11 #[.pointer none, .int .i64 i, .slice A1 m c1] w fun e w' => e = .returned (.int .i64 1) ∧ Below w.heap.size w w' := by
  go_enter Try.func11, Try.ntmps11
  go_wp2_with (first | ((with_reducible refine gate_dst (N := 5) rfl ?_); refine box_event ?hg (N := 5) ?hd (cs := #[.slice A1 m c1]) (t := 24) ?hr ?_; (case hd => rfl); (case hg => rfl); (case hr => first | (go_simp; done) | (go_simp; rfl)); intro gb hg w1 hbox hb; have HB := Aside0.mk hb; have z_ : w1.cell? ⟨gb, 0, none⟩ = some (.slice A1 m c1) := (blk_cell hbox 0).trans rfl; clear hg hbox hb) | (go_at_call 36; (with_reducible refine (ar_with_nil_Program i A1 m c1 gb _).mono ?_); rintro e w2 ⟨rfl, hb⟩; replace HB := Aside0.mk (below_step HB.out hb); clear hb z_))
  go_ret
  exact ⟨rfl, HB.out⟩
set_option maxRecDepth 100000 in
set_option maxHeartbeats 1000000 in
theorem ar_with_len_Program (ga gr n cr i : Nat) (g : Gm) (ve : Value) (A0 A1 : Option Addr) (l0 c0 m c1 gb : Nat) (w : World) (h : w.heap[ga]? = some (AC g (.slice (some ⟨gr, 0, none⟩) n cr) ve)) (hi : i < n) (hz : w.cell? ⟨gr, i * 3, none⟩ = some (.slice A0 l0 c0)) (hl : ¬ m = l0) : Calls Try.prog 36 #[.pointer (some ⟨ga, 0, none⟩), .int .i64 (i : Int), .slice A1 m c1, .func (.func 37) #[] #[.pointer (some ⟨gb, 0, none⟩)]] w fun e w' => e = .returned (.int .i64 2) ∧ Below w.heap.size w w' := by
  have H := Aside0.mk h
  have HI := Aside0.mk hi
  have HZ := Aside0.mk hz
  have HLT : Aside0 (gr < w.heap.size) := ⟨World.block_lt_of_cell? w _ hz⟩
  have d1_ : decide ((m : Int) = (l0 : Int)) = false := decide_eq_false (by omega)
  have d2_ : ((m : Int) == (l0 : Int)) = false := beq_eq_false_iff_ne.2 (by omega)
  have d3_ : ((m : Int) != (l0 : Int)) = true := bne_iff_ne.2 (by omega)
  have d4_ : decide (m = l0) = false := decide_eq_false hl
  have d5_ : (m == l0) = false := beq_eq_false_iff_ne.2 hl
  have d6_ : ((m : Int) = (l0 : Int)) = False := eq_false (by omega)
  have d7_ : (m = l0) = False := eq_false hl
  clear h hi hz hl
  go_enter Try.func36, Try.ntmps36
  go_wp2_with (first | (go_at_call 39; (with_reducible refine (ar_at ga gr n cr i g ve _ H.out HI.out).mono ?_); rintro e w1 ⟨rfl, hb⟩; have HB := Aside0.mk hb; have z_ : w1.cell? ⟨gr, i * 3, none⟩ = some (.slice A0 l0 c0) := (hb.cell (p := ⟨gr, i * 3, none⟩) HLT.out).trans HZ.out; clear hb))
  go_ret
  exact ⟨rfl, HB.out⟩
set_option maxRecDepth 100000 in
set_option maxHeartbeats 1000000 in
theorem ar_Program_len (ga gr n cr i : Nat) (g : Gm) (ve : Value) (A0 A1 : Option Addr) (l0 c0 m c1 : Nat) (w : World) (h : w.heap[ga]? = some (AC g (.slice (some ⟨gr, 0, none⟩) n cr) ve)) (hi : i < n) (hz : w.cell? ⟨gr, i * 3, none⟩ = some (.slice A0 l0 c0)) (hl : ¬ m = l0) : Calls Try.prog 11 #[.pointer (some ⟨ga, 0, none⟩), .int .i64 (i : Int), .slice A1 m c1] w fun e w' => e = .returned (.int .i64 2) ∧ Below w.heap.size w w' := by
  have H := Aside0.mk h
  have HI := Aside0.mk hi
  have HZ := Aside0.mk hz
  have HL := Aside0.mk hl
  have HLT : Aside0 (gr < w.heap.size) := ⟨World.block_lt_of_cell? w _ hz⟩
  clear h hi hz hl
  go_enter Try.func11, Try.ntmps11
  go_wp2_with (first | ((with_reducible refine gate_dst (N := 5) rfl ?_); refine box_event ?hg (N := 5) ?hd (cs := #[.slice A1 m c1]) (t := 24) ?hr ?_; (case hd => rfl); (case hg => rfl); (case hr => first | (go_simp; done) | (go_simp; rfl)); intro gb hg w1 hbox hb; have HB := Aside0.mk hb; have z_ : w1.cell? ⟨gb, 0, none⟩ = some (.slice A1 m c1) := (blk_cell hbox 0).trans rfl; clear hg hbox hb) | (go_at_call 36; (with_reducible refine (ar_with_len_Program ga gr n cr i g ve A0 A1 l0 c0 m c1 gb _ (blk_below H.out HB.out) HI.out ((HB.out.cell (p := ⟨gr, i * 3, none⟩) HLT.out).trans HZ.out) HL.out).mono ?_); rintro e w2 ⟨rfl, hb⟩; replace HB := Aside0.mk (below_step HB.out hb); clear hb z_))
  go_ret
  exact ⟨rfl, HB.out⟩
set_option maxRecDepth 100000 in
set_option maxHeartbeats 1000000 in
theorem ar_with_nil_Tear (i : Int) (A1 : Option Addr) (m c1 gb : Nat) (w : World) : Calls Try.prog 36 #[.pointer none, .int .i64 i, .slice A1 m c1, .func (.func 44) #[] #[.pointer (some ⟨gb, 0, none⟩)]] w fun e w' => e = .returned (.int .i64 1) ∧ Below w.heap.size w w' := by
  go_enter Try.func36, Try.ntmps36
  go_wp2_with (first | (go_at_call 39; (with_reducible refine (ar_at_nil i _).mono ?_); rintro e w1 ⟨rfl, hb⟩; have HB := Aside0.mk hb; clear hb))
  go_ret
  exact ⟨rfl, HB.out⟩
set_option maxRecDepth 100000 in
set_option maxHeartbeats 1000000 in
theorem ar_Tear_nil (i : Int) (A1 : Option Addr) (m c1 : Nat) (w : World) : Calls Try.prog 19 #[.pointer none, .int .i64 i, .slice A1 m c1] w fun e w' => e = .returned (.int .i64 1) ∧ Below w.heap.size w w' := by
  go_enter Try.func19, Try.ntmps19
  go_wp2_with (first | ((with_reducible refine gate_dst (N := 5) rfl ?_); refine box_event ?hg (N := 5) ?hd (cs := #[.slice A1 m c1]) (t := 24) ?hr ?_; (case hd => rfl); (case hg => rfl); (case hr => first | (go_simp; done) | (go_simp; rfl)); intro gb hg w1 hbox hb; have HB := Aside0.mk hb; have z_ : w1.cell? ⟨gb, 0, none⟩ = some (.slice A1 m c1) := (blk_cell hbox 0).trans rfl; clear hg hbox hb) | (go_at_call 36; (with_reducible refine (ar_with_nil_Tear i A1 m c1 gb _).mono ?_); rintro e w2 ⟨rfl, hb⟩; replace HB := Aside0.mk (below_step HB.out hb); clear hb z_))
  go_ret
  exact ⟨rfl, HB.out⟩
end Go.Proofs.Ytlhjnhjghjdeeaa.QArrayFits
namespace Go.Proofs.Ytlhjnhjghjdeeaa.QArrayFits
open Go.RowKit Go.Proofs.YtlhjnhjghjdeeaaW.PrintWords Go.Proofs.YtlhjnhjghjdeeaaW.PrintLast Go.Proofs.YtlhjnhjghjdeeaaW.PrintMore Go.Proofs.Ytlhjnhjghjdeeaa.Mono Go.Proofs.Ytlhjnhjghjdeeaa.Box
set_option linter.unusedVariables false
set_option linter.unusedSimpArgs false
theorem infoR2 : ∃ i, Try.prog.info? 65 = some i ∧ i.size = 3 := by
  cases h : Try.prog.info? 65 with
  | none => have h2 := infoR; rw [h] at h2; exact absurd h2 (by simp)
  | some i => have h2 := infoR; rw [h] at h2; injection h2 with h2; injection h2 with _ h2; injection h2 with h2 _; exact ⟨i, rfl, h2⟩
theorem cutB (gr n cr lo HI pg : Nat) (hh : HI = lo + pg) (hp : 0 < pg) (hn : HI ≤ n) (hc : n ≤ cr) (W : World) : (Instr.slice 59 (.slice (some ⟨gr, 0, none⟩) n cr) (some (.int .i64 (lo : Int))) (some (.int .i64 (HI : Int))) none).run Try.prog W = .ok (.slice (some ⟨gr, lo * 3, none⟩) pg (cr - lo)) W := by
  obtain ⟨i, h1, h2⟩ := infoR2
  rw [cut_mid 59 65 .i64 .i64 Try.underlying59 h1 3 h2 (some ⟨gr, 0, none⟩) n cr (lo : Int) (HI : Int) (by omega) (by omega) (by omega) hc W, Int.toNat_natCast, Int.toNat_natCast, if_neg (by omega), hh, Nat.add_sub_cancel_left]
  show Result.ok (Value.slice (some (Addr.add ⟨gr, 0, none⟩ (lo * 3))) pg (cr - lo)) W = _
  unfold Addr.add
  by_cases h : lo * 3 = 0
  · simp [h]
  · rw [if_neg h]
    simp
set_option maxRecDepth 100000 in
set_option maxHeartbeats 1000000 in
theorem ar_block (ga gr n cr b nb lo HI pg : Nat) (g : Gm) (ve : Value) (w : World) (h : w.heap[ga]? = some (AC g (.slice (some ⟨gr, 0, none⟩) n cr) ve)) (hn : 0 < n ∧ n ≤ 100000) (hnb : g.f1 = (nb : Int)) (hb : b < nb) (hb2 : b ≤ 100000) (hlo : (b : Int) * g.f2 = (lo : Int)) (hhi : ((b : Int) + 1) * g.f2 = (HI : Int)) (hh : HI = lo + pg) (hp : 0 < pg) (hHI : HI ≤ n) (hc : n ≤ cr) :
    Calls Try.prog 45 #[.pointer (some ⟨ga, 0, none⟩), .int .i64 (b : Int)] w fun e w' => e = .returned (.tuple #[.slice (some ⟨gr, lo * 3, none⟩) pg (cr - lo), .int .i64 0]) ∧ Below w.heap.size w w' := by
  have H := Aside0.mk h
  have HN : Aside0 (0 < n) := ⟨hn.1⟩
  have d1_ : decide ((b : Int) < 0) = false := decide_eq_false (by omega)
  have d2_ : decide ((b : Int) ≥ g.f1) = false := decide_eq_false (by omega)
  have d3_ : decide (g.f1 ≤ (b : Int)) = false := decide_eq_false (by omega)
  have m1_ := hlo
  have m2_ := hhi
  have w1_ : wrap64 (lo : Int) = (lo : Int) := by clear hlo hhi m1_ m2_; unfold wrap64; omega
  have w2_ : wrap64 (HI : Int) = (HI : Int) := by clear hlo hhi m1_ m2_; unfold wrap64; omega
  have w3_ : wrap64 ((b : Int) + 1) = (b : Int) + 1 := by clear hlo hhi m1_ m2_; unfold wrap64; omega
  have CB := Aside0.mk (cutB gr n cr lo HI pg hh hp hHI hc)
  clear h hn hnb hb hb2 hlo hhi hh hp hHI hc
  go_enter Try.func45, Try.ntmps45
  go_upto_region 5 with (go_at_call 49; (with_reducible refine (ar_is ga gr n cr g ve _ H.out HN.out).mono ?_); rintro e w1 ⟨rfl, hb⟩; have HB := Aside0.mk hb; have z_ : w1.cell? ⟨ga, 1, none⟩ = some (.int .i64 g.f1) := (blk_cell (blk_below H.out hb) 1).trans rfl; clear hb)
  (try simp only [Act.put, List.setIfInBounds_toArray, List.set_cons_zero, List.set_cons_succ])
  clear z_ d1_ d2_ d3_
  refine Mono.mono_region_tail (fun j_ => ([(Is (.pointer (some ⟨ga, 0, none⟩))), (Is (.pointer (some ⟨ga, 0, none⟩))), (Is (.pointer (some ⟨ga, 7, none⟩))), (Is (.slice (some ⟨gr, 0, none⟩) n cr)), (Is (.int .i64 (b : Int))), (Is (.pointer (some ⟨ga, 0, none⟩))), (Is (.pointer (some ⟨ga, 0, none⟩))), (Is (.pointer (some ⟨ga, 0, none⟩))), (Is (.pointer (some ⟨ga, 2, none⟩))), (Is (.int .i64 g.f2)), (Is (.int .i64 (lo : Int))), (Is (.int .i64 (b : Int))), (Is (.int .i64 ((b : Int) + 1))), (Is (.pointer (some ⟨ga, 0, none⟩))), (Is (.pointer (some ⟨ga, 0, none⟩))), (Is (.pointer (some ⟨ga, 0, none⟩))), (Is (.pointer (some ⟨ga, 2, none⟩))), (Is (.int .i64 g.f2)), (Is (.int .i64 (HI : Int))), (Is (.slice (some ⟨gr, lo * 3, none⟩) pg (cr - lo)))] : List (Value → World → Prop)).getD j_ (fun _ _ => True)) 20 [22, 23, 24, 25, 26, 27, 28, 29, 30, 31, 32, 33, 34, 35, 36, 37, 38, 39, 40, 41] _ (by kernel_rfl) rfl (Nat.le_of_ble_eq_true rfl) (by kernel_rfl) (by kernel_rfl) (by kernel_rfl) ?_ ?_ ?_
  · intro i_
    match i_ with
    | 0 => exact stable_is _
    | 1 => exact stable_is _
    | 2 => exact stable_is _
    | 3 => exact stable_is _
    | 4 => exact stable_is _
    | 5 => exact stable_is _
    | 6 => exact stable_is _
    | 7 => exact stable_is _
    | 8 => exact stable_is _
    | 9 => exact stable_is _
    | 10 => exact stable_is _
    | 11 => exact stable_is _
    | 12 => exact stable_is _
    | 13 => exact stable_is _
    | 14 => exact stable_is _
    | 15 => exact stable_is _
    | 16 => exact stable_is _
    | 17 => exact stable_is _
    | 18 => exact stable_is _
    | 19 => exact stable_is _
    | _ + 20 => exact fun _ _ _ _ _ => trivial
  · show ∀ i_ ∈ [0, 1, 2, 3, 4, 5, 6, 7, 8, 9, 10, 11, 12, 13, 14, 15, 16, 17, 18, 19], _
    refine msteps_cons ?_ ?_
    · intro a w' hx hfr hk
      have e0 : a.tmps[0]? = some (.pointer (some ⟨ga, 0, none⟩)) := (hfr.off 0 rfl).trans rfl
      clear hk hfr
      refine ⟨_, rfl, fun K hK => ?_⟩
      refine value_ (w1 := w') (v := .pointer (some ⟨ga, 0, none⟩)) (by rfl) rfl ?_ (hK _ _ (show _ = _ from rfl) (Ext.refl _))
      go_simp
      (try simp only [i64_w])
      try rfl
    refine msteps_cons ?_ ?_
    · intro a w' hx hfr hk
      obtain ⟨v_, e22, h_⟩ := hk 0 22 (by kernel_rfl) rfl
      replace h_ : v_ = .pointer (some ⟨ga, 0, none⟩) := h_
      subst h_
      clear hk hfr
      refine ⟨_, rfl, fun K hK => ?_⟩
      refine value_ (w1 := w') (v := .pointer (some ⟨ga, 0, none⟩)) (by rfl) rfl ?_ (hK _ _ (show _ = _ from rfl) (Ext.refl _))
      go_simp
      (try simp only [i64_w])
      try rfl
    refine msteps_cons ?_ ?_
    · intro a w' hx hfr hk
      obtain ⟨v_, e23, h_⟩ := hk 1 23 (by kernel_rfl) rfl
      replace h_ : v_ = .pointer (some ⟨ga, 0, none⟩) := h_
      subst h_
      clear hk hfr
      refine ⟨_, rfl, fun K hK => ?_⟩
      refine value_ (w1 := w') (v := .pointer (some ⟨ga, 7, none⟩)) (by rfl) rfl ?_ (hK _ _ (show _ = _ from rfl) (Ext.refl _))
      go_simp
      (try simp only [i64_w])
      try rfl
    refine msteps_cons ?_ ?_
    · intro a w' hx hfr hk
      obtain ⟨v_, e24, h_⟩ := hk 2 24 (by kernel_rfl) rfl
      replace h_ : v_ = .pointer (some ⟨ga, 7, none⟩) := h_
      subst h_
      clear hk hfr
      refine ⟨_, rfl, fun K hK => ?_⟩
      have hc_ : w'.cell? ⟨ga, 7, none⟩ = some (.slice (some ⟨gr, 0, none⟩) n cr) := (blk_cell (blk_below (blk_below H.out HB.out) (Ext.below hx)) 7).trans rfl
      refine value_ (w1 := w') (v := .slice (some ⟨gr, 0, none⟩) n cr) (by rfl) rfl ?_ (hK _ _ (show _ = _ from rfl) (Ext.refl _))
      go_simp
      (try simp only [i64_w])
      try rfl
    refine msteps_cons ?_ ?_
    · intro a w' hx hfr hk
      have e1 : a.tmps[1]? = some (.int .i64 (b : Int)) := (hfr.off 1 rfl).trans rfl
      clear hk hfr
      refine ⟨_, rfl, fun K hK => ?_⟩
      refine value_ (w1 := w') (v := .int .i64 (b : Int)) (by rfl) rfl ?_ (hK _ _ (show _ = _ from rfl) (Ext.refl _))
      go_simp
      (try simp only [i64_w])
      try rfl
    refine msteps_cons ?_ ?_
    · intro a w' hx hfr hk
      have e0 : a.tmps[0]? = some (.pointer (some ⟨ga, 0, none⟩)) := (hfr.off 0 rfl).trans rfl
      clear hk hfr
      refine ⟨_, rfl, fun K hK => ?_⟩
      refine value_ (w1 := w') (v := .pointer (some ⟨ga, 0, none⟩)) (by rfl) rfl ?_ (hK _ _ (show _ = _ from rfl) (Ext.refl _))
      go_simp
      (try simp only [i64_w])
      try rfl
    refine msteps_cons ?_ ?_
    · intro a w' hx hfr hk
      obtain ⟨v_, e27, h_⟩ := hk 5 27 (by kernel_rfl) rfl
      replace h_ : v_ = .pointer (some ⟨ga, 0, none⟩) := h_
      subst h_
      clear hk hfr
      refine ⟨_, rfl, fun K hK => ?_⟩
      refine value_ (w1 := w') (v := .pointer (some ⟨ga, 0, none⟩)) (by rfl) rfl ?_ (hK _ _ (show _ = _ from rfl) (Ext.refl _))
      go_simp
      (try simp only [i64_w])
      try rfl
    refine msteps_cons ?_ ?_
    · intro a w' hx hfr hk
      obtain ⟨v_, e28, h_⟩ := hk 6 28 (by kernel_rfl) rfl
      replace h_ : v_ = .pointer (some ⟨ga, 0, none⟩) := h_
      subst h_
      clear hk hfr
      refine ⟨_, rfl, fun K hK => ?_⟩
      refine value_ (w1 := w') (v := .pointer (some ⟨ga, 0, none⟩)) (by rfl) rfl ?_ (hK _ _ (show _ = _ from rfl) (Ext.refl _))
      go_simp
      (try simp only [i64_w])
      try rfl
    refine msteps_cons ?_ ?_
    · intro a w' hx hfr hk
      obtain ⟨v_, e29, h_⟩ := hk 7 29 (by kernel_rfl) rfl
      replace h_ : v_ = .pointer (some ⟨ga, 0, none⟩) := h_
      subst h_
      clear hk hfr
      refine ⟨_, rfl, fun K hK => ?_⟩
      refine value_ (w1 := w') (v := .pointer (some ⟨ga, 2, none⟩)) (by rfl) rfl ?_ (hK _ _ (show _ = _ from rfl) (Ext.refl _))
      go_simp
      (try simp only [i64_w])
      try rfl
    refine msteps_cons ?_ ?_
    · intro a w' hx hfr hk
      obtain ⟨v_, e30, h_⟩ := hk 8 30 (by kernel_rfl) rfl
      replace h_ : v_ = .pointer (some ⟨ga, 2, none⟩) := h_
      subst h_
      clear hk hfr
      refine ⟨_, rfl, fun K hK => ?_⟩
      have hc_ : w'.cell? ⟨ga, 2, none⟩ = some (.int .i64 g.f2) := (blk_cell (blk_below (blk_below H.out HB.out) (Ext.below hx)) 2).trans rfl
      refine value_ (w1 := w') (v := .int .i64 g.f2) (by rfl) rfl ?_ (hK _ _ (show _ = _ from rfl) (Ext.refl _))
      go_simp
      (try simp only [i64_w])
      try rfl
    refine msteps_cons ?_ ?_
    · intro a w' hx hfr hk
      obtain ⟨v_, e26, h_⟩ := hk 4 26 (by kernel_rfl) rfl
      replace h_ : v_ = .int .i64 (b : Int) := h_
      subst h_
      obtain ⟨v_, e31, h_⟩ := hk 9 31 (by kernel_rfl) rfl
      replace h_ : v_ = .int .i64 g.f2 := h_
      subst h_
      clear hk hfr
      refine ⟨_, rfl, fun K hK => ?_⟩
      refine value_ (w1 := w') (v := .int .i64 (lo : Int)) (by rfl) rfl ?_ (hK _ _ (show _ = _ from rfl) (Ext.refl _))
      go_simp
      (try simp only [i64_w])
      try rfl
      try exact w1_
    refine msteps_cons ?_ ?_
    · intro a w' hx hfr hk
      have e1 : a.tmps[1]? = some (.int .i64 (b : Int)) := (hfr.off 1 rfl).trans rfl
      clear hk hfr
      refine ⟨_, rfl, fun K hK => ?_⟩
      refine value_ (w1 := w') (v := .int .i64 (b : Int)) (by rfl) rfl ?_ (hK _ _ (show _ = _ from rfl) (Ext.refl _))
      go_simp
      (try simp only [i64_w])
      try rfl
    refine msteps_cons ?_ ?_
    · intro a w' hx hfr hk
      obtain ⟨v_, e33, h_⟩ := hk 11 33 (by kernel_rfl) rfl
      replace h_ : v_ = .int .i64 (b : Int) := h_
      subst h_
      clear hk hfr
      refine ⟨_, rfl, fun K hK => ?_⟩
      refine value_ (w1 := w') (v := .int .i64 ((b : Int) + 1)) (by rfl) rfl ?_ (hK _ _ (show _ = _ from rfl) (Ext.refl _))
      go_simp
      (try simp only [i64_w])
      try rfl
      try exact w3_
    refine msteps_cons ?_ ?_
    · intro a w' hx hfr hk
      have e0 : a.tmps[0]? = some (.pointer (some ⟨ga, 0, none⟩)) := (hfr.off 0 rfl).trans rfl
      clear hk hfr
      refine ⟨_, rfl, fun K hK => ?_⟩
      refine value_ (w1 := w') (v := .pointer (some ⟨ga, 0, none⟩)) (by rfl) rfl ?_ (hK _ _ (show _ = _ from rfl) (Ext.refl _))
      go_simp
      (try simp only [i64_w])
      try rfl
    refine msteps_cons ?_ ?_
    · intro a w' hx hfr hk
      obtain ⟨v_, e35, h_⟩ := hk 13 35 (by kernel_rfl) rfl
      replace h_ : v_ = .pointer (some ⟨ga, 0, none⟩) := h_
      subst h_
      clear hk hfr
      refine ⟨_, rfl, fun K hK => ?_⟩
      refine value_ (w1 := w') (v := .pointer (some ⟨ga, 0, none⟩)) (by rfl) rfl ?_ (hK _ _ (show _ = _ from rfl) (Ext.refl _))
      go_simp
      (try simp only [i64_w])
      try rfl
    refine msteps_cons ?_ ?_
    · intro a w' hx hfr hk
      obtain ⟨v_, e36, h_⟩ := hk 14 36 (by kernel_rfl) rfl
      replace h_ : v_ = .pointer (some ⟨ga, 0, none⟩) := h_
      subst h_
      clear hk hfr
      refine ⟨_, rfl, fun K hK => ?_⟩
      refine value_ (w1 := w') (v := .pointer (some ⟨ga, 0, none⟩)) (by rfl) rfl ?_ (hK _ _ (show _ = _ from rfl) (Ext.refl _))
      go_simp
      (try simp only [i64_w])
      try rfl
    refine msteps_cons ?_ ?_
    · intro a w' hx hfr hk
      obtain ⟨v_, e37, h_⟩ := hk 15 37 (by kernel_rfl) rfl
      replace h_ : v_ = .pointer (some ⟨ga, 0, none⟩) := h_
      subst h_
      clear hk hfr
      refine ⟨_, rfl, fun K hK => ?_⟩
      refine value_ (w1 := w') (v := .pointer (some ⟨ga, 2, none⟩)) (by rfl) rfl ?_ (hK _ _ (show _ = _ from rfl) (Ext.refl _))
      go_simp
      (try simp only [i64_w])
      try rfl
    refine msteps_cons ?_ ?_
    · intro a w' hx hfr hk
      obtain ⟨v_, e38, h_⟩ := hk 16 38 (by kernel_rfl) rfl
      replace h_ : v_ = .pointer (some ⟨ga, 2, none⟩) := h_
      subst h_
      clear hk hfr
      refine ⟨_, rfl, fun K hK => ?_⟩
      have hc_ : w'.cell? ⟨ga, 2, none⟩ = some (.int .i64 g.f2) := (blk_cell (blk_below (blk_below H.out HB.out) (Ext.below hx)) 2).trans rfl
      refine value_ (w1 := w') (v := .int .i64 g.f2) (by rfl) rfl ?_ (hK _ _ (show _ = _ from rfl) (Ext.refl _))
      go_simp
      (try simp only [i64_w])
      try rfl
    refine msteps_cons ?_ ?_
    · intro a w' hx hfr hk
      obtain ⟨v_, e34, h_⟩ := hk 12 34 (by kernel_rfl) rfl
      replace h_ : v_ = .int .i64 ((b : Int) + 1) := h_
      subst h_
      obtain ⟨v_, e39, h_⟩ := hk 17 39 (by kernel_rfl) rfl
      replace h_ : v_ = .int .i64 g.f2 := h_
      subst h_
      clear hk hfr
      refine ⟨_, rfl, fun K hK => ?_⟩
      refine value_ (w1 := w') (v := .int .i64 (HI : Int)) (by rfl) rfl ?_ (hK _ _ (show _ = _ from rfl) (Ext.refl _))
      go_simp
      (try simp only [i64_w])
      try rfl
      try exact w2_
    refine msteps_cons ?_ ?_
    · intro a w' hx hfr hk
      obtain ⟨v_, e25, h_⟩ := hk 3 25 (by kernel_rfl) rfl
      replace h_ : v_ = .slice (some ⟨gr, 0, none⟩) n cr := h_
      subst h_
      obtain ⟨v_, e32, h_⟩ := hk 10 32 (by kernel_rfl) rfl
      replace h_ : v_ = .int .i64 (lo : Int) := h_
      subst h_
      obtain ⟨v_, e40, h_⟩ := hk 18 40 (by kernel_rfl) rfl
      replace h_ : v_ = .int .i64 (HI : Int) := h_
      subst h_
      clear hk hfr
      refine ⟨_, rfl, fun K hK => ?_⟩
      have hcut_ := CB.out
      refine value_ (w1 := w') (v := .slice (some ⟨gr, lo * 3, none⟩) pg (cr - lo)) (by rfl) rfl ?_ (hK _ _ (show _ = _ from rfl) (Ext.refl _))
      go_simp
      (try simp only [i64_w])
      try rfl
    exact msteps_nil
  · intro val wf hx hF
    have e22 : val 22 = .pointer (some ⟨ga, 0, none⟩) := hF 0 22 (by decide) rfl
    have e23 : val 23 = .pointer (some ⟨ga, 0, none⟩) := hF 1 23 (by decide) rfl
    have e24 : val 24 = .pointer (some ⟨ga, 7, none⟩) := hF 2 24 (by decide) rfl
    have e25 : val 25 = .slice (some ⟨gr, 0, none⟩) n cr := hF 3 25 (by decide) rfl
    have e26 : val 26 = .int .i64 (b : Int) := hF 4 26 (by decide) rfl
    have e27 : val 27 = .pointer (some ⟨ga, 0, none⟩) := hF 5 27 (by decide) rfl
    have e28 : val 28 = .pointer (some ⟨ga, 0, none⟩) := hF 6 28 (by decide) rfl
    have e29 : val 29 = .pointer (some ⟨ga, 0, none⟩) := hF 7 29 (by decide) rfl
    have e30 : val 30 = .pointer (some ⟨ga, 2, none⟩) := hF 8 30 (by decide) rfl
    have e31 : val 31 = .int .i64 g.f2 := hF 9 31 (by decide) rfl
    have e32 : val 32 = .int .i64 (lo : Int) := hF 10 32 (by decide) rfl
    have e33 : val 33 = .int .i64 (b : Int) := hF 11 33 (by decide) rfl
    have e34 : val 34 = .int .i64 ((b : Int) + 1) := hF 12 34 (by decide) rfl
    have e35 : val 35 = .pointer (some ⟨ga, 0, none⟩) := hF 13 35 (by decide) rfl
    have e36 : val 36 = .pointer (some ⟨ga, 0, none⟩) := hF 14 36 (by decide) rfl
    have e37 : val 37 = .pointer (some ⟨ga, 0, none⟩) := hF 15 37 (by decide) rfl
    have e38 : val 38 = .pointer (some ⟨ga, 2, none⟩) := hF 16 38 (by decide) rfl
    have e39 : val 39 = .int .i64 g.f2 := hF 17 39 (by decide) rfl
    have e40 : val 40 = .int .i64 (HI : Int) := hF 18 40 (by decide) rfl
    have e41 : val 41 = .slice (some ⟨gr, lo * 3, none⟩) pg (cr - lo) := hF 19 41 (by decide) rfl
    clear hF
    simp only [putT, List.foldl_cons, List.foldl_nil, Act.put, List.setIfInBounds_toArray, List.set_cons_zero, List.set_cons_succ, e22, e23, e24, e25, e26, e27, e28, e29, e30, e31, e32, e33, e34, e35, e36, e37, e38, e39, e40, e41]
    clear e22 e23 e24 e25 e26 e27 e28 e29 e30 e31 e32 e33 e34 e35 e36 e37 e38 e39 e40 e41
    have HX_ := Aside0.mk hx; clear hx
    go_wp2
    refine bodyPost_ret (results_list (rs := [.tmp 4, .tmp 5]) rfl (by simp) (.tmp (.tmp .nil))) rfl ?_
    exact ⟨rfl, below_step HB.out (Ext.below HX_.out)⟩
theorem one3 : (#[nil_, Value.int IntKind.i64 0, Value.bool false] : Array Value).all (·.oneCell') = true := all_oneCell_toArray (cs := [nil_, .int .i64 0, .bool false]) (by decide)
theorem ro3 {w : World} {B gr n cr : Nat} {rs : List Ro} (h : RR w B (.slice (some ⟨gr, 0, none⟩) n cr) rs) (i : Nat) (hi : i < n) : RR (w.setCells gr (i * 3) (#[nil_, .int .i64 0, .bool false] : Array Value).toList) B (.slice (some ⟨gr, 0, none⟩) n cr) (rs.set i z0) := by
  obtain ⟨c, hcl, hM, hcc, hf⟩ := Kd.R_elem h z0 (i : Int) (by omega) (by omega)
  rw [Int.toNat_natCast] at hM
  obtain rfl := ro_cells hM
  have h1 := Kd.R_seg h (i : Int) (by omega) (by omega) (seg := [nil_, .int .i64 0, .bool false]) (j := 0) (x' := z0) (okp := fun _ => False) hcl hcc (show 0 + 3 ≤ 3 by omega) (by
    show kRo.M _ _ _ _ [nil_, .int .i64 0, .bool false]
    exact ro_mk (q := z0)) (fun k hk => hk.elim)
  rw [Int.toNat_natCast] at h1
  exact h1.1
theorem Ast.reset {w0 w : World} {ga gr cr ge ce n nb : Nat} {g : Gm} {X : Nat → List Int} {Q : Nat → Int × Bool} {E : Nat → Int} (h : Ast w0 w ga gr cr ge ce n nb g X Q E) (hnb : 0 < nb) (i : Nat) (hi : i < n) : ∃ w', w.setCells gr (i * 3) (#[nil_, .int .i64 0, .bool false] : Array Value).toList = w' ∧ Ast w0 w' ga gr cr ge ce n nb g (updN X i []) (updN Q i (0, false)) E ∧ Tou (fun k => k = gr) w w' := by
  refine ⟨_, rfl, ?_, (((Tou.of_below (S := fun k => k = gr) (Below.refl _ _)).set gr _ _ rfl).set gr _ _ rfl).set gr _ _ rfl⟩
  have ht : Tou (fun k => k = gr) w (w.setCells gr (i * 3) (#[nil_, .int .i64 0, .bool false] : Array Value).toList) := (((Tou.of_below (S := fun k => k = gr) (Below.refl _ _)).set gr _ _ rfl).set gr _ _ rfl).set gr _ _ rfl
  obtain ⟨rs, h1, h2, h3⟩ := h.rr
  obtain ⟨es, h4, h5⟩ := h.er
  obtain ⟨n1, n2, n3⟩ := h.ne (by omega) hnb
  have k1 := ro3 h1 i hi
  have hn := (Kd.R_reads' h1).1
  obtain ⟨c1, q1⟩ := Kd.R_typed h1 gr rfl
  have hge : w0.heap.size ≤ gr := Kd.R_base h1 gr rfl
  have hlt : ∀ {v : Value} {xs : List Int} {k : Nat}, BR w w0.heap.size v xs → v.ownBlock = some k → k ≠ gr := fun hb hk e => by
    obtain ⟨c2, q2⟩ := Kd.R_typed hb _ hk
    exact cells_ne q1 q2 (by decide) e
  refine ⟨(ht.block ga (blk_lt h.blk) n1).trans h.blk, ⟨_, k1, fun j hj => ?_, fun j hj => ?_⟩, ⟨es, sc_move h4 (fun k hk => ?_), h5⟩, Below.setCell (Below.setCell (Below.setCell h.bel hge _) hge _) hge _, h.hga⟩
  · unfold updN
    by_cases e : j = i
    · subst e
      rw [if_pos rfl, show (rs.set j z0).getD j z0 = z0 by simp [← hn, hj]]
      exact Kd.R_nil _ _ _ _ _
    · rw [if_neg e, show (rs.set i z0).getD j z0 = rs.getD j z0 by simp [List.getElem?_set_ne (fun z => e z.symm)]]
      exact br_tou (h2 j hj) q1 (by decide) ht
  · unfold updN
    by_cases e : j = i
    · subst e
      rw [if_pos rfl, show (rs.set j z0).getD j z0 = z0 by simp [← hn, hj]]
      rfl
    · rw [if_neg e, show (rs.set i z0).getD j z0 = rs.getD j z0 by simp [List.getElem?_set_ne (fun z => e z.symm)]]
      exact h3 j hj
  · obtain rfl : ge = k := Option.some.inj hk
    exact ht.block ge (Kd.R_lt h4 ge rfl) n2
theorem Ast.cnt {w0 w : World} {ga gr cr ge ce n nb : Nat} {g : Gm} {X : Nat → List Int} {Q : Nat → Int × Bool} {E : Nat → Int} (h : Ast w0 w ga gr cr ge ce n nb g X Q E) (b : Nat) (hb : b < nb) : w.cell? ⟨ge, b, none⟩ = some (.int .i64 (E b)) ∧ w.frozen? ⟨ge, b, none⟩ = false := by
  obtain ⟨es, h4, h5⟩ := h.er
  obtain ⟨c, hcl, hM, hcc, hf⟩ := Kd.R_elem h4 0 (b : Int) (by omega) (by omega)
  obtain rfl : c = [.int .i64 (es.getD (b : Int).toNat 0)] := hM
  have h1 := hcc 0 _ rfl
  have h2 := hf 0
  rw [Int.toNat_natCast] at h1 h2
  rw [h5 b hb] at h1
  have e : b * (Kd.int .i64).sz + 0 = b := Nat.mul_one b
  rw [e] at h1 h2
  exact ⟨h1, h2⟩
theorem Ast.bump {w0 w : World} {ga gr cr ge ce n nb : Nat} {g : Gm} {X : Nat → List Int} {Q : Nat → Int × Bool} {E : Nat → Int} (h : Ast w0 w ga gr cr ge ce n nb g X Q E) (hn0 : 0 < n) (b : Nat) (hb : b < nb) (q : Int) : Ast w0 (w.setCell ⟨ge, b, none⟩ (.int .i64 q)) ga gr cr ge ce n nb g X Q (updN E b q) := by
  obtain ⟨rs, h1, h2, h3⟩ := h.rr
  obtain ⟨es, h4, h5⟩ := h.er
  obtain ⟨n1, n2, n3⟩ := h.ne hn0 (by omega)
  have hn := (Kd.R_reads' h4).1
  obtain ⟨c1, q1⟩ := Kd.R_typed h4 ge rfl
  have hge : w0.heap.size ≤ ge := Kd.R_base h4 ge rfl
  obtain ⟨c, hcl, hM, hcc, hf⟩ := Kd.R_elem h4 0 (b : Int) (by omega) (by omega)
  obtain rfl : c = [.int .i64 (es.getD (b : Int).toNat 0)] := hM
  have k1 := (Kd.R_seg h4 (b : Int) (by omega) (by omega) (seg := [.int .i64 q]) (j := 0) (x' := q) (okp := fun _ => False) hcl hcc (show 0 + 1 ≤ 1 by omega) (show (Kd.int .i64).M _ _ _ _ [.int .i64 q] from rfl) (fun k hk => hk.elim)).1
  rw [Int.toNat_natCast, show b * (Kd.int .i64).sz + 0 = b from Nat.mul_one b] at k1
  refine ⟨(Below.heap_setCell _ _ _ ga n3).trans h.blk, ⟨rs, Kd.R_set h1 q1 (by decide) _ _, fun j hj => Kd.R_set (h2 j hj) q1 (by decide) _ _, h3⟩, ⟨_, k1, fun j hj => ?_⟩, Below.setCell h.bel hge _, h.hga⟩
  unfold updN
  by_cases e : j = b
  · subst e
    rw [if_pos rfl]
    simp [← hn, hj]
  · rw [if_neg e, show (es.set b q).getD j 0 = es.getD j 0 by simp [List.getElem?_set_ne (fun z => e z.symm)]]
    exact h5 j hj
structure GB (g : Gm) (n nb b lo HI pg : Nat) : Prop where
  hn : 0 < n ∧ n ≤ 100000
  hnb : g.f1 = (nb : Int)
  hb : b < nb
  hb2 : b ≤ 100000
  hlo : (b : Int) * g.f2 = (lo : Int)
  hhi : ((b : Int) + 1) * g.f2 = (HI : Int)
  hh : HI = lo + pg
  hp : 0 < pg
  hHI : HI ≤ n
theorem as_block {w0 w : World} {ga gr cr ge ce n nb b lo HI pg : Nat} {g : Gm} {X : Nat → List Int} {Q : Nat → Int × Bool} {E : Nat → Int} (h : Ast w0 w ga gr cr ge ce n nb g X Q E) (G : GB g n nb b lo HI pg) : Calls Try.prog 45 #[.pointer (some ⟨ga, 0, none⟩), .int .i64 (b : Int)] w fun e w' => e = .returned (.tuple #[.slice (some ⟨gr, lo * 3, none⟩) pg (cr - lo), .int .i64 0]) ∧ Below w.heap.size w w' := by
  obtain ⟨rs, h1, _⟩ := h.rr
  exact ar_block ga gr n cr b nb lo HI pg g _ w h.blk G.hn G.hnb G.hb G.hb2 G.hlo G.hhi G.hh G.hp G.hHI (Kd.R_reads' h1).2.1
theorem geo_load {w : World} {ga : Nat} {g : Gm} {vr ve : Value} (h : w.heap[ga]? = some (AC g vr ve)) : (Instr.loadAt 23 (.pointer (some ⟨ga, 0, none⟩))).run Try.prog w = .ok (GA g) w :=
  run_loadAt_mid w ga 0 23 _ _ (World.rangeAt_of_block h 0 7) Try.underlying23 rfl (by kernel_rfl)
theorem load_geo {ops : Array Oper} {Q : Exit → Act → World → Prop} {ts : List Tmp} {a0 : Act} {w0 : World} {F : Nat → Value → World → Prop} {i : Nat} (j ga : Nat) {g : Gm} {vr ve : Value} {t : Tmp} {oi : Oper} (hoi : ops[i]? = some oi) (hg : oi.guard = none) (ho : oi.op = .load 23 (.tmp t)) (hr : reach ops ops.size i j = true) (hd : dstAt ops j = some t) (hb : w0.heap[ga]? = some (AC g vr ve))
    (hF : ∀ v w, F j v w → v = .pointer (some ⟨ga, 0, none⟩)) (hF2 : ∀ w, F i (GA g) w) : MStep Try.prog ops Q ts a0 w0 F i := fun a w hx hfr hk => by
  obtain ⟨v, e1, f1⟩ := hk j t hr hd
  obtain rfl := hF v w f1
  refine ⟨oi, hoi, fun K hK => value_ (w1 := w) (by unfold Region.wanted; rw [hg]) rfl ?_ (hK _ _ (hF2 w) (Ext.refl _))⟩
  have ev : a.eval (.tmp t) = .pointer (some ⟨ga, 0, none⟩) := by simp [Act.eval, e1]
  have hl := geo_load (blk_below hb (Ext.below hx))
  simp only [execOp, ho, ev, Sem.run_bind, hl, Result.andThen_ok, Sem.run_pure]
def ersX (F : List Int) (X : Nat → List Int) (lo i : Nat) : Nat → List Int := fun j => if lo ≤ j ∧ j < lo + i then F else X j
def ersQ (Q : Nat → Int × Bool) (lo i : Nat) : Nat → Int × Bool := fun j => if lo ≤ j ∧ j < lo + i then (0, false) else Q j
theorem ersX_zero (F : List Int) (X : Nat → List Int) (lo j : Nat) : ersX F X lo 0 j = X j := if_neg (by omega)
theorem ersQ_zero (Q : Nat → Int × Bool) (lo j : Nat) : ersQ Q lo 0 j = Q j := if_neg (by omega)
theorem ersX_succ (F : List Int) (X : Nat → List Int) (lo i j : Nat) : ersX F X lo (i + 1) j = updN (updN (ersX F X lo i) (lo + i) []) (lo + i) F j := by
  unfold ersX updN
  by_cases e : j = lo + i
  · rw [if_pos (by omega), if_pos e]
  · rw [if_neg e, if_neg e]
    dsimp only
    by_cases e2 : lo ≤ j ∧ j < lo + i
    · rw [if_pos (by omega), if_pos e2]
    · rw [if_neg (by omega), if_neg e2]
theorem ersQ_succ (Q : Nat → Int × Bool) (lo i j : Nat) : ersQ Q lo (i + 1) j = updN (ersQ Q lo i) (lo + i) (0, false) j := by
  unfold ersQ updN
  by_cases e : j = lo + i
  · rw [if_pos (by omega), if_pos e]
  · rw [if_neg e]
    dsimp only
    by_cases e2 : lo ≤ j ∧ j < lo + i
    · rw [if_pos (by omega), if_pos e2]
    · rw [if_neg (by omega), if_neg e2]
set_option maxRecDepth 100000 in
set_option maxHeartbeats 1000000 in
theorem as_Erases {w0 w : World} {ga gr cr ge ce n nb b lo HI pg : Nat} {g : Gm} {X : Nat → List Int} {Q : Nat → Int × Bool} {E : Nat → Int} (h : Ast w0 w ga gr cr ge ce n nb g X Q E) (G : GB g n nb b lo HI pg) (j : Int) (hj : j = (b : Int)) : Calls Try.prog 25 #[.pointer (some ⟨ga, 0, none⟩), .int .i64 j] w fun e w' => e = .returned (.int .i64 (E b)) ∧ Below w.heap.size w w' := by
  subst hj
  have HS := Aside0.mk h
  have HG := Aside0.mk G
  have d4_ : ((b : Int) < (nb : Int)) = True := eq_true (by have := G.hb; omega)
  have d5_ : (b < nb) = True := eq_true G.hb
  clear h G
  go_enter Try.func25, Try.ntmps25
  go_wp2_with (go_at_call 45; (with_reducible refine (as_block HS.out HG.out).mono ?_); rintro e w1 ⟨rfl, hb⟩; have HB := Aside0.mk hb; replace HS := Aside0.mk (HS.out.below hb); have z_ : w1.cell? ⟨ga, 8, none⟩ = some (.slice (some ⟨ge, 0, none⟩) nb ce) := (blk_cell HS.out.blk 8).trans rfl; have hc_ := (HS.out.cnt b HG.out.hb).1; clear hb)
  go_ret
  exact ⟨rfl, HB.out⟩
set_option maxRecDepth 100000 in
set_option maxHeartbeats 4000000 in
theorem as_Erase {w0 w : World} {ga gr cr ge ce n nb b lo HI pg : Nat} {g : Gm} {X : Nat → List Int} {Q : Nat → Int × Bool} {E : Nat → Int} (h : Ast w0 w ga gr cr ge ce n nb g X Q E) (G : GB g n nb b lo HI pg) (j : Int) (hj : j = (b : Int)) (hE : 0 ≤ E b ∧ E b ≤ 1000000) : Calls Try.prog 21 #[.pointer (some ⟨ga, 0, none⟩), .int .i64 j] w fun e w' => e = .returned (.int .i64 0) ∧ Ast w0 w' ga gr cr ge ce n nb g (ersX (List.replicate (rawN g) 255) X lo pg) (ersQ Q lo pg) (updN E b (E b + 1)) ∧ Tou (fun k => k = gr ∨ k = ge) w w' := by
  subst hj
  obtain ⟨FF, hFF⟩ : ∃ z_, List.replicate (rawN g) (255 : Int) = z_ := ⟨_, rfl⟩
  have lF : FF.length ≤ 10000 := by rw [← hFF, List.length_replicate]; exact PureArrayFits.rawN_le _ _ _ _ _ _ _
  have HFF := Aside0.mk hFF
  have LF := Aside0.mk lF
  rw [hFF]
  obtain ⟨q, hq⟩ : ∃ z_, E b = z_ := ⟨_, rfl⟩
  rw [hq] at hE ⊢
  have HQ := Aside0.mk hq
  have HQB := Aside0.mk hE
  have HS := Aside0.mk h
  have HG := Aside0.mk G
  have HPG : Aside0 (0 < pg ∧ pg ≤ 100000) := ⟨⟨G.hp, by have := G.hh; have := G.hHI; have := G.hn; omega⟩⟩
  have HNB0 : Aside0 (0 < nb) := ⟨by have := G.hb; omega⟩
  have HT : Aside0 (Tou (fun k => k = gr) w w) := ⟨Tou.of_below (Below.refl _ _)⟩
  have d4_ : ((b : Int) < (nb : Int)) = True := eq_true (by have := G.hb; omega)
  have d5_ : (b < nb) = True := eq_true G.hb
  clear h G hFF lF hq hE
  go_enter Try.func21, Try.ntmps21
  go_wp2_with (go_at_call 45; (with_reducible refine (as_block HS.out HG.out).mono ?_); rintro e w1 ⟨rfl, hb⟩; have HB := Aside0.mk hb; replace HS := Aside0.mk (HS.out.below hb); replace HT := Aside0.mk (Tou.of_below (S := fun k => k = gr) HB.out); clear HB; clear hb)
  go_loopw [19] (fun v19 wr => ∃ i : Nat, v19 = .int .i64 (i : Int) ∧ i ≤ pg ∧ Aside0 (Ast w0 wr ga gr cr ge ce n nb g (ersX FF X lo i) (ersQ Q lo i) (E)) ∧ Aside0 (Tou (fun k => k = gr) w wr)) (fun v19 _ => pg - (RowKit.intOf v19).toNat)
  case atStart => exact ⟨0, rfl, Nat.zero_le _, ⟨HS.out.congr (fun _ _ => ersX_zero ..) (fun _ _ => ersQ_zero ..) (fun _ _ => rfl)⟩, HT⟩
  case round =>
    clear HS HT
    obtain ⟨i, rfl, hi, HS, HT⟩ := hrel
    by_cases hlt : i < pg
    · have HLT := Aside0.mk hlt
      have hw_ : wrap64 ((i : Int) + 1) = ((i + 1 : Nat) : Int) := by have := HPG.out; unfold wrap64; omega
      have di1_ : decide ((i : Int) < (pg : Int)) = true := decide_eq_true (by omega)
      have di2_ : decide (i < pg) = true := decide_eq_true (by omega)
      have di3_ : ((i : Int) < (pg : Int)) = True := eq_true (by omega)
      have di4_ : (i < pg) = True := eq_true (by omega)
      obtain ⟨J, hJ⟩ : ∃ z_, lo + i = z_ := ⟨_, rfl⟩
      have hoff_ : lo * 3 + i * 3 = J * 3 := by omega
      have HJ := Aside0.mk hJ
      have HJN : Aside0 (J < n) := ⟨by have := HG.out.hh; have := HG.out.hHI; omega⟩
      have ht_ : wr.there gr (J * 3) 3 := fun k hk => by obtain ⟨A_, c_, y1, _, y2, y3, y4⟩ := HS.out.row J HJN.out; refine ⟨?_, y4 k⟩; obtain rfl | rfl | rfl : k = 0 ∨ k = 1 ∨ k = 2 := (by omega); exact (congrArg Option.isSome y1).trans rfl; exact (congrArg Option.isSome y2).trans rfl; exact (congrArg Option.isSome y3).trans rfl
      obtain ⟨w7, hw7, hA7, hT7⟩ := Ast.reset HS.out HNB0.out J HJN.out
      clear hi hlt hJ
      go_upto_region 8 with ((with_reducible refine gate_store (t := 65) (p := 25) rfl ?_); refine wpList_store_mid rfl 65 _ _ rfl gr (J * 3) #[nil_, .int .i64 0, .bool false] (by rfl) (by rfl) ht_ (by kernel_rfl) one3 ?_; rw [hw7])
      (try simp only [Act.put, List.setIfInBounds_toArray, List.set_cons_zero, List.set_cons_succ])
      clear hw7 ht_
      have HT7 := Aside0.mk (HT.out.trans hT7)
      have HS7 := Aside0.mk hA7
      clear hA7 hT7 HS HT
      refine Mono.mono_region_tail (fun j_ => ([(Is (.slice (some ⟨gr, lo * 3, none⟩) pg (cr - lo))), (Is (.int .i64 (i : Int))), (Is (.pointer (some ⟨gr, J * 3, none⟩))), (Is (.pointer (some ⟨gr, J * 3, none⟩))), (Is (.pointer (some ⟨ga, 0, none⟩))), (Is (.pointer (some ⟨ga, 0, none⟩))), (Is (.pointer (some ⟨ga, 0, none⟩))), (Is (GA g)), (RowR (Kd.int .u8) 5 w7.heap.size FF (fun u => u))] : List (Value → World → Prop)).getD j_ (fun _ _ => True)) 9 [26, 27, 28, 29, 30, 31, 32, 33, 34] _ (by kernel_rfl) rfl (Nat.le_of_ble_eq_true rfl) (by kernel_rfl) (by kernel_rfl) (by kernel_rfl) ?_ ?_ ?_
      · intro i_
        match i_ with
        | 0 => exact stable_is _
        | 1 => exact stable_is _
        | 2 => exact stable_is _
        | 3 => exact stable_is _
        | 4 => exact stable_is _
        | 5 => exact stable_is _
        | 6 => exact stable_is _
        | 7 => exact stable_is _
        | 8 => exact stable_rowR _ _ _ _ _
        | _ + 9 => exact fun _ _ _ _ _ => trivial
      · show ∀ i_ ∈ [0, 1, 2, 3, 4, 5, 6, 7, 8], _
        refine msteps_cons ?_ ?_
        · intro a w' hx hfr hk
          have e5 : a.tmps[5]? = some (.slice (some ⟨gr, lo * 3, none⟩) pg (cr - lo)) := (hfr.off 5 rfl).trans rfl
          clear hk hfr
          refine ⟨_, rfl, fun K hK => ?_⟩
          refine value_ (w1 := w') (v := .slice (some ⟨gr, lo * 3, none⟩) pg (cr - lo)) (by rfl) rfl ?_ (hK _ _ (show _ = _ from rfl) (Ext.refl _))
          go_simp
          (try simp only [i64_w])
          try rfl
        refine msteps_cons ?_ ?_
        · intro a w' hx hfr hk
          have e7 : a.tmps[7]? = some (.int .i64 (i : Int)) := (hfr.off 7 rfl).trans rfl
          clear hk hfr
          refine ⟨_, rfl, fun K hK => ?_⟩
          refine value_ (w1 := w') (v := .int .i64 (i : Int)) (by rfl) rfl ?_ (hK _ _ (show _ = _ from rfl) (Ext.refl _))
          go_simp
          (try simp only [i64_w])
          try rfl
        refine msteps_cons ?_ ?_
        · intro a w' hx hfr hk
          obtain ⟨v_, e26, h_⟩ := hk 0 26 (by kernel_rfl) rfl
          replace h_ : v_ = .slice (some ⟨gr, lo * 3, none⟩) pg (cr - lo) := h_
          subst h_
          obtain ⟨v_, e27, h_⟩ := hk 1 27 (by kernel_rfl) rfl
          replace h_ : v_ = .int .i64 (i : Int) := h_
          subst h_
          clear hk hfr
          refine ⟨_, rfl, fun K hK => ?_⟩
          refine value_ (w1 := w') (v := .pointer (some ⟨gr, J * 3, none⟩)) (by rfl) rfl ?_ (hK _ _ (show _ = _ from rfl) (Ext.refl _))
          go_simp
          (try simp only [i64_w])
          try rfl
        refine msteps_cons ?_ ?_
        · intro a w' hx hfr hk
          obtain ⟨v_, e28, h_⟩ := hk 2 28 (by kernel_rfl) rfl
          replace h_ : v_ = .pointer (some ⟨gr, J * 3, none⟩) := h_
          subst h_
          clear hk hfr
          refine ⟨_, rfl, fun K hK => ?_⟩
          refine value_ (w1 := w') (v := .pointer (some ⟨gr, J * 3, none⟩)) (by rfl) rfl ?_ (hK _ _ (show _ = _ from rfl) (Ext.refl _))
          go_simp
          (try simp only [i64_w])
          try rfl
        refine msteps_cons ?_ ?_
        · intro a w' hx hfr hk
          have e0 : a.tmps[0]? = some (.pointer (some ⟨ga, 0, none⟩)) := (hfr.off 0 rfl).trans rfl
          clear hk hfr
          refine ⟨_, rfl, fun K hK => ?_⟩
          refine value_ (w1 := w') (v := .pointer (some ⟨ga, 0, none⟩)) (by rfl) rfl ?_ (hK _ _ (show _ = _ from rfl) (Ext.refl _))
          go_simp
          (try simp only [i64_w])
          try rfl
        refine msteps_cons ?_ ?_
        · intro a w' hx hfr hk
          obtain ⟨v_, e30, h_⟩ := hk 4 30 (by kernel_rfl) rfl
          replace h_ : v_ = .pointer (some ⟨ga, 0, none⟩) := h_
          subst h_
          clear hk hfr
          refine ⟨_, rfl, fun K hK => ?_⟩
          refine value_ (w1 := w') (v := .pointer (some ⟨ga, 0, none⟩)) (by rfl) rfl ?_ (hK _ _ (show _ = _ from rfl) (Ext.refl _))
          go_simp
          (try simp only [i64_w])
          try rfl
        refine msteps_cons ?_ ?_
        · intro a w' hx hfr hk
          obtain ⟨v_, e31, h_⟩ := hk 5 31 (by kernel_rfl) rfl
          replace h_ : v_ = .pointer (some ⟨ga, 0, none⟩) := h_
          subst h_
          clear hk hfr
          refine ⟨_, rfl, fun K hK => ?_⟩
          refine value_ (w1 := w') (v := .pointer (some ⟨ga, 0, none⟩)) (by rfl) rfl ?_ (hK _ _ (show _ = _ from rfl) (Ext.refl _))
          go_simp
          (try simp only [i64_w])
          try rfl
        refine msteps_cons ?_ ?_
        · exact load_geo 6 ga rfl rfl rfl (by kernel_rfl) rfl HS7.out.blk (fun _ _ h => h) (fun _ => rfl)
        refine msteps_cons ?_ ?_
        · intro a w' hx hfr hk
          obtain ⟨v_, e33, h_⟩ := hk 7 33 (by kernel_rfl) rfl
          replace h_ : v_ = GA g := h_
          subst h_
          clear hk hfr
          refine ⟨_, rfl, fun K hK => ?_⟩
          refine goes_ Try.func29 (by kernel_rfl) rfl #[GA g] (by rfl) rfl rfl (by simp only [List.map_toArray, List.map_cons, List.map_nil, Act.eval, Array.getD_eq_getD_getElem?, Option.getD_some, e33]; first | done | rfl) ?_
          (with_reducible refine (erased_calls g w').mono ?_)
          rintro e w1 ⟨v_, rfl, hR_, hb_⟩
          rw [HFF.out] at hR_
          exact ⟨_, rfl, hK _ _ ⟨v_, rfl, Kd.R_lower hR_ hx.size⟩ hb_⟩
        exact msteps_nil
      · intro val wf hx hF
        have e26 : val 26 = .slice (some ⟨gr, lo * 3, none⟩) pg (cr - lo) := hF 0 26 (by decide) rfl
        have e27 : val 27 = .int .i64 (i : Int) := hF 1 27 (by decide) rfl
        have e28 : val 28 = .pointer (some ⟨gr, J * 3, none⟩) := hF 2 28 (by decide) rfl
        have e29 : val 29 = .pointer (some ⟨gr, J * 3, none⟩) := hF 3 29 (by decide) rfl
        have e30 : val 30 = .pointer (some ⟨ga, 0, none⟩) := hF 4 30 (by decide) rfl
        have e31 : val 31 = .pointer (some ⟨ga, 0, none⟩) := hF 5 31 (by decide) rfl
        have e32 : val 32 = .pointer (some ⟨ga, 0, none⟩) := hF 6 32 (by decide) rfl
        have e33 : val 33 = GA g := hF 7 33 (by decide) rfl
        obtain ⟨v34, e34, hr34⟩ := hF 8 34 (by decide) rfl
        clear hF
        simp only [putT, List.foldl_cons, List.foldl_nil, Act.put, List.setIfInBounds_toArray, List.set_cons_zero, List.set_cons_succ, e26, e27, e28, e29, e30, e31, e32, e33, e34]
        clear e26 e27 e28 e29 e30 e31 e32 e33 e34
        obtain ⟨Av, cv, rfl, hl_, hC_⟩ := Kd.R_reads hr34
        have HV := Aside0.mk hr34
        clear hr34 hl_ hC_
        have HS := Aside0.mk (Ast.below HS7.out (Ext.below hx))
        have HT := Aside0.mk (HT7.out.trans (Tou.of_below (S := fun k => k = gr) (Ext.below hx)))
        obtain ⟨A0, c0, hz1_, _, _, _, hff_⟩ := HS.out.row J HJN.out
        have hf1_ : wf.frozen? ⟨gr, J * 3, none⟩ = false := hff_ 0
        clear hff_ hx HS7 HT7
        go_wp2_with (go_at_call 35; (with_reducible refine (ar_take gr (J * 3) wf Av cv _ FF hz1_ hf1_ (Kd.R_reads' HV.out).2.2 (Kd.R_reads' HV.out).2.1 (Nat.le_trans LF.out (by decide))).mono ?_); rintro e w8 ⟨rfl, v, w6, hb, hR, rfl⟩; have HS2 := Aside0.mk (Ast.bytes HS.out HNB0.out J HJN.out hb hR); have HT2 := Aside0.mk ((HT.out.trans (Tou.of_below (S := fun k => k = gr) hb)).set gr (J * 3) v rfl); clear hb hR hz1_ HS HT)
        go_roundw
        case rel => exact ⟨i + 1, (by first | rfl | rw [hw_] | simp [hw_]), HLT.out, ⟨HS2.out.congr (fun i_ hi_ => by rw [← HJ.out]; exact ersX_succ ..) (fun i_ hi_ => by rw [← HJ.out]; exact ersQ_succ ..) (fun _ _ => rfl)⟩, HT2⟩
        case measure => exact (by first | exact meas_ HLT.out (by have := HPG.out; have := HLT.out; omega) | exact meas2_ HLT.out)
    · obtain rfl : i = pg := by omega
      have di1_ : decide ((i : Int) < (i : Int)) = false := decide_eq_false (by omega)
      have di2_ : decide (i < i) = false := decide_eq_false (by omega)
      clear hi hlt
      have z_ : wr.cell? ⟨ga, 8, none⟩ = some (.slice (some ⟨ge, 0, none⟩) nb ce) := (blk_cell HS.out.blk 8).trans rfl
      obtain ⟨hc_, hf_⟩ := HS.out.cnt b HG.out.hb
      rw [HQ.out] at hc_
      have hw_ : wrap64 (q + 1) = q + 1 := by have := HQB.out; clear hc_ hf_ z_; unfold wrap64; omega
      go_wp2
      go_ret
      exact ⟨rfl, by first | exact HS.out.bump HG.out.hn.1 b HG.out.hb _ | (rw [hw_]; exact HS.out.bump HG.out.hn.1 b HG.out.hb _), (HT.out.mono (fun k hk => .inl hk)).set ge b _ (.inr rfl)⟩
end Go.Proofs.Ytlhjnhjghjdeeaa.QArrayFits
namespace Go.Proofs.Ytlhjnhjghjdeeaa.QArrayFits
open Go.RowKit Go.Proofs.YtlhjnhjghjdeeaaW.PrintWords Go.Proofs.YtlhjnhjghjdeeaaW.PrintLast Go.Proofs.YtlhjnhjghjdeeaaW.PrintMore Go.Proofs.Ytlhjnhjghjdeeaa.Mono Go.Proofs.Ytlhjnhjghjdeeaa.Box
set_option linter.unusedVariables false
set_option linter.unusedSimpArgs false
structure BB (g3 g5 : Nat) (g : Gm) (p0 p1 p2 : Int) (w : World) : Prop where
  b3 : w.heap[g3]? = some (.cells #[.int .i64 g.f0, .int .i64 g.f1, .int .i64 g.f2, .int .i64 g.f3, .int .i64 g.f4, .int .i64 g.f5, .int .i64 g.f6] 23 (0, 0))
  b5 : w.heap[g5]? = some (.cells #[.int .u8 p0, .int .u8 p1, .int .u8 p2] 50 (0, 0))
section
variable {g3 g5 : Nat} {g : Gm} {p0 p1 p2 : Int} {w w' w0 : World} {ga gr cr ge ce n nb : Nat} {X : Nat → List Int} {Q : Nat → Int × Bool} {E : Nat → Int}
theorem BB.below (h : BB g3 g5 g p0 p1 p2 w) (hb : Below w.heap.size w w') : BB g3 g5 g p0 p1 p2 w' := ⟨blk_below h.b3 hb, blk_below h.b5 hb⟩
theorem BB.f1 (h : BB g3 g5 g p0 p1 p2 w) : w.cell? ⟨g3, 1, none⟩ = some (.int .i64 g.f1) := (blk_cell h.b3 1).trans rfl
theorem BB.f2 (h : BB g3 g5 g p0 p1 p2 w) : w.cell? ⟨g3, 2, none⟩ = some (.int .i64 g.f2) := (blk_cell h.b3 2).trans rfl
theorem BB.a0 (h : BB g3 g5 g p0 p1 p2 w) : w.cell? ⟨g5, 0, none⟩ = some (.int .u8 p0) := (blk_cell h.b5 0).trans rfl
theorem BB.a1 (h : BB g3 g5 g p0 p1 p2 w) : w.cell? ⟨g5, 1, none⟩ = some (.int .u8 p1) := (blk_cell h.b5 1).trans rfl
theorem BB.a2 (h : BB g3 g5 g p0 p1 p2 w) : w.cell? ⟨g5, 2, none⟩ = some (.int .u8 p2) := (blk_cell h.b5 2).trans rfl
theorem BB.ers (h : BB g3 g5 g p0 p1 p2 w) (ha : Ast w0 w ga gr cr ge ce n nb g X Q E) (ht : Tou (fun k => k = gr ∨ k = ge) w w') : BB g3 g5 g p0 p1 p2 w' := by
  obtain ⟨c1, h1⟩ := ha.grow
  obtain ⟨c2, h2⟩ := ha.geint
  refine ⟨(ht.block g3 (blk_lt h.b3) (fun e => e.elim (cells_ne h1 h.b3 (by decide)) (cells_ne h2 h.b3 (by decide)))).trans h.b3, (ht.block g5 (blk_lt h.b5) (fun e => e.elim (cells_ne h1 h.b5 (by decide)) (cells_ne h2 h.b5 (by decide)))).trans h.b5⟩
theorem BB.prog (h : BB g3 g5 g p0 p1 p2 w) (ha : Ast w0 w ga gr cr ge ce n nb g X Q E) (ht : Tou (fun k => k = gr) w w') : BB g3 g5 g p0 p1 p2 w' := h.ers ha (ht.mono (fun k hk => .inl hk))
theorem Ast.keep2 (ha : Ast w0 w ga gr cr ge ce n nb g X Q E) {B : Nat} {v : Value} {xs : List Int} (hb : BR w B v xs) (ht : Tou (fun k => k = gr ∨ k = ge) w w') : BR w' B v xs := by
  obtain ⟨c1, h1⟩ := ha.grow
  obtain ⟨c2, h2⟩ := ha.geint
  refine sc_move (enc := Value.int .u8) hb (fun k hk => ht.block k (Kd.R_lt hb k hk) (fun e => ?_))
  obtain ⟨c3, h3⟩ := Kd.R_typed hb k hk
  exact e.elim (cells_ne h1 h3 (by decide)) (cells_ne h2 h3 (by decide))
theorem Ast.keep (ha : Ast w0 w ga gr cr ge ce n nb g X Q E) {B : Nat} {v : Value} {xs : List Int} (hb : BR w B v xs) (ht : Tou (fun k => k = gr) w w') : BR w' B v xs := ha.keep2 hb (ht.mono (fun k hk => .inl hk))
theorem as_Program_len (h : Ast w0 w ga gr cr ge ce n nb g X Q E) (i : Nat) (hi : i < n) (j : Int) (hj : j = (i : Int)) (A1 : Option Addr) (m c1 : Nat) (hl : ¬ m = (X i).length) : Calls Try.prog 11 #[.pointer (some ⟨ga, 0, none⟩), .int .i64 j, .slice A1 m c1] w fun e w' => e = .returned (.int .i64 2) ∧ Below w.heap.size w w' := by
  subst hj
  obtain ⟨A, c, z1, hb, z2, z3, hf⟩ := h.row i hi
  exact ar_Program_len ga gr n cr i g _ A A1 (X i).length c m c1 w h.blk hi z1 hl
end
theorem at_row {w : World} {A : Option Addr} {L : List (List Int)} (h : Kd.C (Kd.slice 5 (Kd.int .u8)) w A L.length L) (i : Nat) (hi : i < L.length) : ∃ ad A0 c0, A = some ad ∧ w.cell? (ad.add i) = some (.slice A0 (L[i]).length c0) ∧ (L[i]).length ≤ c0 ∧ Kd.C (Kd.int .u8) w A0 (L[i]).length (L[i]) := by
  obtain ⟨ad, A0, c0, h1, h2, h3, h4⟩ := at_L3 h (i : Int) (by omega) (by omega)
  have hg : rd_L3 L (i : Int) = L[i] := by unfold rd_L3; rw [Int.toNat_natCast]; simp [hi]
  rw [hg, Int.toNat_natCast] at h2
  rw [hg] at h3 h4
  exact ⟨ad, A0, c0, h1, h2, h3, h4⟩
theorem rows_bounds2 {g : Gm} (h : okG g) (hs : smB g = true) : ∃ n nb pg : Nat, g.f1 * g.f2 = (n : Int) ∧ g.f1 = (nb : Int) ∧ g.f2 = (pg : Int) ∧ n = nb * pg ∧ 8 ≤ n ∧ n ≤ 192 ∧ 2 ≤ nb ∧ nb ≤ 16 ∧ 0 < pg ∧ pg ≤ 12 := by
  obtain ⟨n, nb, h1, h2, h3, h4, h5, h6⟩ := rows_bounds h hs
  obtain ⟨_, _, h8, _⟩ := PureArrayFits.rows_iff.1 h.1
  have hs' := of_decide_eq_true hs
  refine ⟨n, nb, g.f2.toNat, h1, h2, by omega, ?_, h3, h4, h5, h6, by omega, by omega⟩
  have e : g.f2 = (g.f2.toNat : Int) := by omega
  rw [h2, e, ← Int.natCast_mul] at h1
  exact (Int.natCast_inj.1 h1).symm
theorem gb_mk {g : Gm} {n nb pg : Nat} (b : Nat) (h1 : g.f1 = (nb : Int)) (h2 : g.f2 = (pg : Int)) (hn : n = nb * pg) (hn2 : n ≤ 192) (hb : b < nb) (hnb : nb ≤ 16) (hp : 0 < pg) : GB g n nb b (b * pg) ((b + 1) * pg) pg := by
  have hm : (b + 1) * pg ≤ nb * pg := Nat.mul_le_mul_right pg hb
  have hs : (b + 1) * pg = b * pg + pg := Nat.succ_mul b pg
  refine ⟨⟨by omega, by omega⟩, h1, hb, by omega, ?_, ?_, hs, hp, by omega⟩
  · rw [h2, ← Int.natCast_mul]
  · rw [h2, show (b : Int) + 1 = ((b + 1 : Nat) : Int) by omega, ← Int.natCast_mul]
theorem rem_nat {p : Int} {m : Nat} (hp : 0 ≤ p) (hm : 0 < m) : ∃ k : Nat, p.tmod (m : Int) = (k : Int) ∧ k < m := by
  have h1 : p.tmod (m : Int) = p % (m : Int) := Int.tmod_eq_emod_of_nonneg hp
  have h2 := Int.emod_nonneg p (b := (m : Int)) (by omega)
  have h3 := Int.emod_lt_of_pos p (b := (m : Int)) (by omega)
  exact ⟨(p % (m : Int)).toNat, by rw [h1]; omega, by omega⟩
theorem quo_nat {o pg : Nat} : (o : Int).tdiv (pg : Int) = ((o / pg : Nat) : Int) := by
  rw [Int.tdiv_eq_ediv_of_nonneg (by omega)]
  rfl
theorem in_block {o pg b : Nat} (hp : 0 < pg) : (b * pg ≤ o ∧ o < b * pg + pg) ↔ o / pg = b := by
  constructor
  · intro h
    exact Nat.div_eq_of_lt_le h.1 (by rw [Nat.succ_mul]; exact h.2)
  · intro h
    subst h
    have h1 := Nat.div_add_mod o pg
    have h2 := Nat.mod_lt o hp
    rw [Nat.mul_comm] at h1
    omega
set_option maxRecDepth 100000 in
set_option maxHeartbeats 4000000 in
theorem af_law (g : Gm) (A1 : Option Addr) (c1 : Nat) (L : List (List Int)) (p0 p1 p2 : Int) (w0 : World) (h1 : Kd.C (Kd.slice 5 (Kd.int .u8)) w0 A1 L.length L) (hc1 : L.length ≤ c1) (bL : ∀ z ∈ L, Bytes z) (b0 : 0 ≤ p0 ∧ p0 < 256) (b1 : 0 ≤ p1 ∧ p1 < 256) (b2 : 0 ≤ p2 ∧ p2 < 256) :
    Calls Try.prog 5 #[GA g, .slice A1 L.length c1, .agg #[.int .u8 p0, .int .u8 p1, .int .u8 p2]] w0 fun e w' => e = .returned (.bool true) ∧ Below w0.heap.size w0 w' := by
  have HL := Aside0.mk h1
  have HLC := Aside0.mk hc1
  have BL := Aside0.mk bL
  have B0 := Aside0.mk b0
  have B1 := Aside0.mk b1
  have B2 := Aside0.mk b2
  clear h1 hc1 bL b0 b1 b2
  cases hsm : smB g with
  | false =>
    have HSM := Aside0.mk hsm
    clear hsm
    go_enter Try.func5, Try.ntmps5
    go_wp2_with (first | ((with_reducible refine gate_dst (N := 3) rfl ?_); refine box_event ?hg (N := 3) ?hd (cs := #[.int .i64 g.f0, .int .i64 g.f1, .int .i64 g.f2, .int .i64 g.f3, .int .i64 g.f4, .int .i64 g.f5, .int .i64 g.f6]) (t := 23) ?hr ?_; (case hd => rfl); (case hg => rfl); (case hr => first | (go_simp; done) | (go_simp; rfl)); intro g3 hg w1 hbox hb; have HB := Aside0.mk hb; have BK3 := Aside0.mk hbox; clear hg hbox hb) | ((with_reducible refine gate_dst (N := 5) rfl ?_); refine box_event ?hg (N := 5) ?hd (cs := #[.int .u8 p0, .int .u8 p1, .int .u8 p2]) (t := 50) ?hr ?_; (case hd => rfl); (case hg => rfl); (case hr => first | (go_simp; done) | (go_simp; rfl)); intro g5 hg w2 hbox hb; replace HB := Aside0.mk (below_step HB.out hb); have BK := Aside0.mk (BB.mk (g3 := g3) (g := g) (blk_below BK3.out hb) hbox); clear hg hbox hb BK3) | (go_at_call 6; (with_reducible refine (ar_awake _).mono ?_); rintro e w2 ⟨rfl, hb⟩; replace HB := Aside0.mk (below_step HB.out hb); replace BK := Aside0.mk (BK.out.below hb); clear hb) | (go_at_call 21; (with_reducible refine (ar_Erase_nil 0 _).mono ?_); rintro e w2 ⟨rfl, hb⟩; replace HB := Aside0.mk (below_step HB.out hb); replace BK := Aside0.mk (BK.out.below hb); clear hb) | (go_at_call 11; (with_reducible refine (ar_Program_nil 0 none 0 0 _).mono ?_); rintro e w2 ⟨rfl, hb⟩; replace HB := Aside0.mk (below_step HB.out hb); replace BK := Aside0.mk (BK.out.below hb); clear hb) | (go_at_call 19; (with_reducible refine (ar_Tear_nil 0 none 0 0 _).mono ?_); rintro e w2 ⟨rfl, hb⟩; replace HB := Aside0.mk (below_step HB.out hb); replace BK := Aside0.mk (BK.out.below hb); clear hb) | (go_at_call 23; (with_reducible refine (ar_TearBlock_nil 0 none 0 0 _).mono ?_); rintro e w2 ⟨rfl, hb⟩; replace HB := Aside0.mk (below_step HB.out hb); replace BK := Aside0.mk (BK.out.below hb); clear hb) | (go_at_call 13; (with_reducible refine (ar_Raw_nil 0 _).mono ?_); rintro e w2 ⟨rfl, hb⟩; replace HB := Aside0.mk (below_step HB.out hb); replace BK := Aside0.mk (BK.out.below hb); clear hb) | (go_at_call 15; (with_reducible refine (ar_Torn_nil 0 _).mono ?_); rintro e w2 ⟨rfl, hb⟩; replace HB := Aside0.mk (below_step HB.out hb); replace BK := Aside0.mk (BK.out.below hb); clear hb) | (go_at_call 14; (with_reducible refine (ar_Programs_nil 0 _).mono ?_); rintro e w2 ⟨rfl, hb⟩; replace HB := Aside0.mk (below_step HB.out hb); replace BK := Aside0.mk (BK.out.below hb); clear hb) | (go_at_call 25; (with_reducible refine (ar_Erases_nil 0 _).mono ?_); rintro e w2 ⟨rfl, hb⟩; replace HB := Aside0.mk (below_step HB.out hb); replace BK := Aside0.mk (BK.out.below hb); clear hb) | ((with_reducible refine gate_dst (N := 60) rfl ?_); refine load_box rfl rfl g3 rfl BK.out.b3 Try.underlying23 rfl (by kernel_rfl) ?_) | (go_at_call 7; (with_reducible refine (small_calls g _).mono ?_); rw [HSM.out]; rintro e w2 ⟨rfl, hb⟩; replace HB := Aside0.mk (below_step HB.out hb); replace BK := Aside0.mk (BK.out.below hb); clear hb) | ((with_reducible refine gate_dst (N := 69) rfl ?_); (refine gate_guard (by rfl) ?_; dsimp only); refine load_box rfl rfl g3 rfl BK.out.b3 Try.underlying23 rfl (by kernel_rfl) ?_) | (go_at_call 8; (with_reducible refine (right_calls g _).mono ?_); rw [HRT.out]; rintro e w2 ⟨rfl, hb⟩; replace HB := Aside0.mk (below_step HB.out hb); replace BK := Aside0.mk (BK.out.below hb); clear hb))
    go_ret
    exact ⟨rfl, HB.out⟩
  | true =>
    have HSM := Aside0.mk hsm
    by_cases hl : L.length > 12
    · have l0_ : decide ((L.length : Int) > 12) = true := decide_eq_true (by omega)
      have l1_ : decide (L.length > 12) = true := decide_eq_true (by omega)
      have l2_ : ((12 : Int) < (L.length : Int)) = True := eq_true (by omega)
      have l3_ : (12 < L.length) = True := eq_true (by omega)
      have l4_ : decide ((12 : Int) < (L.length : Int)) = true := decide_eq_true (by omega)
      clear hsm hl
      go_enter Try.func5, Try.ntmps5
      go_wp2_with (first | ((with_reducible refine gate_dst (N := 3) rfl ?_); refine box_event ?hg (N := 3) ?hd (cs := #[.int .i64 g.f0, .int .i64 g.f1, .int .i64 g.f2, .int .i64 g.f3, .int .i64 g.f4, .int .i64 g.f5, .int .i64 g.f6]) (t := 23) ?hr ?_; (case hd => rfl); (case hg => rfl); (case hr => first | (go_simp; done) | (go_simp; rfl)); intro g3 hg w1 hbox hb; have HB := Aside0.mk hb; have BK3 := Aside0.mk hbox; clear hg hbox hb) | ((with_reducible refine gate_dst (N := 5) rfl ?_); refine box_event ?hg (N := 5) ?hd (cs := #[.int .u8 p0, .int .u8 p1, .int .u8 p2]) (t := 50) ?hr ?_; (case hd => rfl); (case hg => rfl); (case hr => first | (go_simp; done) | (go_simp; rfl)); intro g5 hg w2 hbox hb; replace HB := Aside0.mk (below_step HB.out hb); have BK := Aside0.mk (BB.mk (g3 := g3) (g := g) (blk_below BK3.out hb) hbox); clear hg hbox hb BK3) | (go_at_call 6; (with_reducible refine (ar_awake _).mono ?_); rintro e w2 ⟨rfl, hb⟩; replace HB := Aside0.mk (below_step HB.out hb); replace BK := Aside0.mk (BK.out.below hb); clear hb) | (go_at_call 21; (with_reducible refine (ar_Erase_nil 0 _).mono ?_); rintro e w2 ⟨rfl, hb⟩; replace HB := Aside0.mk (below_step HB.out hb); replace BK := Aside0.mk (BK.out.below hb); clear hb) | (go_at_call 11; (with_reducible refine (ar_Program_nil 0 none 0 0 _).mono ?_); rintro e w2 ⟨rfl, hb⟩; replace HB := Aside0.mk (below_step HB.out hb); replace BK := Aside0.mk (BK.out.below hb); clear hb) | (go_at_call 19; (with_reducible refine (ar_Tear_nil 0 none 0 0 _).mono ?_); rintro e w2 ⟨rfl, hb⟩; replace HB := Aside0.mk (below_step HB.out hb); replace BK := Aside0.mk (BK.out.below hb); clear hb) | (go_at_call 23; (with_reducible refine (ar_TearBlock_nil 0 none 0 0 _).mono ?_); rintro e w2 ⟨rfl, hb⟩; replace HB := Aside0.mk (below_step HB.out hb); replace BK := Aside0.mk (BK.out.below hb); clear hb) | (go_at_call 13; (with_reducible refine (ar_Raw_nil 0 _).mono ?_); rintro e w2 ⟨rfl, hb⟩; replace HB := Aside0.mk (below_step HB.out hb); replace BK := Aside0.mk (BK.out.below hb); clear hb) | (go_at_call 15; (with_reducible refine (ar_Torn_nil 0 _).mono ?_); rintro e w2 ⟨rfl, hb⟩; replace HB := Aside0.mk (below_step HB.out hb); replace BK := Aside0.mk (BK.out.below hb); clear hb) | (go_at_call 14; (with_reducible refine (ar_Programs_nil 0 _).mono ?_); rintro e w2 ⟨rfl, hb⟩; replace HB := Aside0.mk (below_step HB.out hb); replace BK := Aside0.mk (BK.out.below hb); clear hb) | (go_at_call 25; (with_reducible refine (ar_Erases_nil 0 _).mono ?_); rintro e w2 ⟨rfl, hb⟩; replace HB := Aside0.mk (below_step HB.out hb); replace BK := Aside0.mk (BK.out.below hb); clear hb) | ((with_reducible refine gate_dst (N := 60) rfl ?_); refine load_box rfl rfl g3 rfl BK.out.b3 Try.underlying23 rfl (by kernel_rfl) ?_) | (go_at_call 7; (with_reducible refine (small_calls g _).mono ?_); rw [HSM.out]; rintro e w2 ⟨rfl, hb⟩; replace HB := Aside0.mk (below_step HB.out hb); replace BK := Aside0.mk (BK.out.below hb); clear hb) | ((with_reducible refine gate_dst (N := 69) rfl ?_); (refine gate_guard (by rfl) ?_; dsimp only); refine load_box rfl rfl g3 rfl BK.out.b3 Try.underlying23 rfl (by kernel_rfl) ?_) | (go_at_call 8; (with_reducible refine (right_calls g _).mono ?_); rw [HRT.out]; rintro e w2 ⟨rfl, hb⟩; replace HB := Aside0.mk (below_step HB.out hb); replace BK := Aside0.mk (BK.out.below hb); clear hb))
      go_ret
      exact ⟨rfl, HB.out⟩
    · have l0_ : decide ((L.length : Int) > 12) = false := decide_eq_false (by omega)
      have l1_ : decide (L.length > 12) = false := decide_eq_false (by omega)
      have l2_ : ((12 : Int) < (L.length : Int)) = False := eq_false (by omega)
      have l3_ : (12 < L.length) = False := eq_false (by omega)
      have l4_ : decide ((12 : Int) < (L.length : Int)) = false := decide_eq_false (by omega)
      have HLL : Aside0 (L.length ≤ 12) := ⟨by omega⟩
      clear hl
      by_cases hok : okG g
      · have HRT : Aside0 (decide (okG g) = true) := ⟨decide_eq_true hok⟩
        have HOK := Aside0.mk hok
        obtain ⟨n, nb, pg, hn1, hn2, hn3, hn4, hn5, hn6, hn7, hn8, hn9, hn10⟩ := rows_bounds2 hok hsm
        have HN1 := Aside0.mk hn1
        have HN2 := Aside0.mk hn2
        have HN3 := Aside0.mk hn3
        have HN4 := Aside0.mk hn4
        have HN5 := Aside0.mk hn5
        have HN6 := Aside0.mk hn6
        have HN7 := Aside0.mk hn7
        have HN8 := Aside0.mk hn8
        have HN9 := Aside0.mk hn9
        have HN10 := Aside0.mk hn10
        have HN0 : Aside0 (0 < n ∧ n ≤ 100000) := ⟨by omega⟩
        have HNB0 : Aside0 (0 < nb ∧ nb ≤ 1000) := ⟨by omega⟩
        have hm_ : wrap64 (n : Int) = (n : Int) := by clear hn1 hn4; unfold wrap64; omega
        have hm2_ := hn1
        obtain ⟨r, hr1, hr2⟩ := rem_nat B0.out.1 (show 0 < n by omega)
        obtain ⟨o, ho1, ho2⟩ := rem_nat B1.out.1 (show 0 < n by omega)
        obtain ⟨b, hb1, hb2⟩ := rem_nat B2.out.1 (show 0 < nb by omega)
        rw [← hn2] at hb1
        have HR2 := Aside0.mk hr2
        have HO2 := Aside0.mk ho2
        have HB2 := Aside0.mk hb2
        obtain ⟨FF, hF⟩ : ∃ z_, List.replicate (rawN g) (255 : Int) = z_ := ⟨_, rfl⟩
        have lF : FF.length = rawN g := by rw [← hF, List.length_replicate]
        have bF : Bytes FF := by rw [← hF]; exact full_bytes _
        have HFF := Aside0.mk hF
        have LF := Aside0.mk lF
        have BF := Aside0.mk bF
        have LRN : Aside0 (rawN g ≤ 10000) := ⟨PureArrayFits.rawN_le _ _ _ _ _ _ _⟩
        have HGB := Aside0.mk (gb_mk b hn2 hn3 hn4 hn6 hb2 hn8 hn9)
        have HOB : Aside0 (o / pg < nb) := ⟨Nat.div_lt_of_lt_mul (by rw [Nat.mul_comm, ← hn4]; exact ho2)⟩
        have HGO := Aside0.mk (gb_mk (o / pg) hn2 hn3 hn4 hn6 HOB.out hn8 hn9)
        have wr_ : wrap64 (r : Int) = (r : Int) := by clear hn1 hn4 hm2_ hr1 ho1 hb1 hF; unfold wrap64; omega
        have wo_ : wrap64 (o : Int) = (o : Int) := by clear hn1 hn4 hm2_ hr1 ho1 hb1 hF; unfold wrap64; omega
        have wb_ : wrap64 (b : Int) = (b : Int) := by clear hn1 hn4 hm2_ hr1 ho1 hb1 hF; unfold wrap64; omega
        have wp0_ : wrap64 p0 = p0 := by clear hn1 hn4 hm2_ hr1 ho1 hb1 hF; have := B0.out; unfold wrap64; omega
        have wp1_ : wrap64 p1 = p1 := by clear hn1 hn4 hm2_ hr1 ho1 hb1 hF; have := B1.out; unfold wrap64; omega
        have wp2_ : wrap64 p2 = p2 := by clear hn1 hn4 hm2_ hr1 ho1 hb1 hF; have := B2.out; unfold wrap64; omega
        have nz0_ : decide ((n : Int) = (0 : Int)) = false := decide_eq_false (by omega)
        have nz1_ : ((n : Int) == (0 : Int)) = false := beq_eq_false_iff_ne.2 (by omega)
        have nz2_ : ((n : Int) = (0 : Int)) = False := eq_false (by omega)
        have nz3_ : ((n : Int) != (0 : Int)) = true := bne_iff_ne.2 (by omega)
        have nz4_ : decide (n = 0) = false := decide_eq_false (by omega)
        have nz5_ : (n = 0) = False := eq_false (by omega)
        have nz6_ : (n == 0) = false := beq_eq_false_iff_ne.2 (by omega)
        have fz0_ : decide (g.f1 = 0) = false := decide_eq_false (by have := HN2.out; have := HNB0.out; omega)
        have fz1_ : (g.f1 == 0) = false := beq_eq_false_iff_ne.2 (by have := HN2.out; have := HNB0.out; omega)
        have fz2_ : (g.f1 = 0) = False := eq_false (by have := HN2.out; have := HNB0.out; omega)
        have fz3_ : (g.f1 != 0) = true := bne_iff_ne.2 (by have := HN2.out; have := HNB0.out; omega)
        have gz0_ : decide (g.f2 = 0) = false := decide_eq_false (by have := HN3.out; have := HN9.out; omega)
        have gz1_ : (g.f2 == 0) = false := beq_eq_false_iff_ne.2 (by have := HN3.out; have := HN9.out; omega)
        have gz2_ : (g.f2 = 0) = False := eq_false (by have := HN3.out; have := HN9.out; omega)
        have gz3_ : (g.f2 != 0) = true := bne_iff_ne.2 (by have := HN3.out; have := HN9.out; omega)
        have HRO := Aside0.mk hr1
        have HOO := Aside0.mk ho1
        have HBO := Aside0.mk hb1
        clear hsm hok hn1 hn2 hn3 hn4 hn5 hn6 hn7 hn8 hn9 hn10 hF lF bF hr2 ho2 hb2 hb1 wb_ wp2_ fz0_ gz0_ fz1_ gz1_ fz2_ gz2_ fz3_ gz3_
        go_enter Try.func5, Try.ntmps5
        go_upto_region 12 with (first | ((with_reducible refine gate_dst (N := 3) rfl ?_); refine box_event ?hg (N := 3) ?hd (cs := #[.int .i64 g.f0, .int .i64 g.f1, .int .i64 g.f2, .int .i64 g.f3, .int .i64 g.f4, .int .i64 g.f5, .int .i64 g.f6]) (t := 23) ?hr ?_; (case hd => rfl); (case hg => rfl); (case hr => first | (go_simp; done) | (go_simp; rfl)); intro g3 hg w1 hbox hb; have HB := Aside0.mk hb; have BK3 := Aside0.mk hbox; clear hg hbox hb) | ((with_reducible refine gate_dst (N := 5) rfl ?_); refine box_event ?hg (N := 5) ?hd (cs := #[.int .u8 p0, .int .u8 p1, .int .u8 p2]) (t := 50) ?hr ?_; (case hd => rfl); (case hg => rfl); (case hr => first | (go_simp; done) | (go_simp; rfl)); intro g5 hg w2 hbox hb; replace HB := Aside0.mk (below_step HB.out hb); have BK := Aside0.mk (BB.mk (g3 := g3) (g := g) (blk_below BK3.out hb) hbox); clear hg hbox hb BK3) | (go_at_call 6; (with_reducible refine (ar_awake _).mono ?_); rintro e w2 ⟨rfl, hb⟩; replace HB := Aside0.mk (below_step HB.out hb); replace BK := Aside0.mk (BK.out.below hb); clear hb) | (go_at_call 21; (with_reducible refine (ar_Erase_nil 0 _).mono ?_); rintro e w2 ⟨rfl, hb⟩; replace HB := Aside0.mk (below_step HB.out hb); replace BK := Aside0.mk (BK.out.below hb); clear hb) | (go_at_call 11; (with_reducible refine (ar_Program_nil 0 none 0 0 _).mono ?_); rintro e w2 ⟨rfl, hb⟩; replace HB := Aside0.mk (below_step HB.out hb); replace BK := Aside0.mk (BK.out.below hb); clear hb) | (go_at_call 19; (with_reducible refine (ar_Tear_nil 0 none 0 0 _).mono ?_); rintro e w2 ⟨rfl, hb⟩; replace HB := Aside0.mk (below_step HB.out hb); replace BK := Aside0.mk (BK.out.below hb); clear hb) | (go_at_call 23; (with_reducible refine (ar_TearBlock_nil 0 none 0 0 _).mono ?_); rintro e w2 ⟨rfl, hb⟩; replace HB := Aside0.mk (below_step HB.out hb); replace BK := Aside0.mk (BK.out.below hb); clear hb) | (go_at_call 13; (with_reducible refine (ar_Raw_nil 0 _).mono ?_); rintro e w2 ⟨rfl, hb⟩; replace HB := Aside0.mk (below_step HB.out hb); replace BK := Aside0.mk (BK.out.below hb); clear hb) | (go_at_call 15; (with_reducible refine (ar_Torn_nil 0 _).mono ?_); rintro e w2 ⟨rfl, hb⟩; replace HB := Aside0.mk (below_step HB.out hb); replace BK := Aside0.mk (BK.out.below hb); clear hb) | (go_at_call 14; (with_reducible refine (ar_Programs_nil 0 _).mono ?_); rintro e w2 ⟨rfl, hb⟩; replace HB := Aside0.mk (below_step HB.out hb); replace BK := Aside0.mk (BK.out.below hb); clear hb) | (go_at_call 25; (with_reducible refine (ar_Erases_nil 0 _).mono ?_); rintro e w2 ⟨rfl, hb⟩; replace HB := Aside0.mk (below_step HB.out hb); replace BK := Aside0.mk (BK.out.below hb); clear hb) | ((with_reducible refine gate_dst (N := 60) rfl ?_); refine load_box rfl rfl g3 rfl BK.out.b3 Try.underlying23 rfl (by kernel_rfl) ?_) | (go_at_call 7; (with_reducible refine (small_calls g _).mono ?_); rw [HSM.out]; rintro e w2 ⟨rfl, hb⟩; replace HB := Aside0.mk (below_step HB.out hb); replace BK := Aside0.mk (BK.out.below hb); clear hb) | ((with_reducible refine gate_dst (N := 69) rfl ?_); (refine gate_guard (by rfl) ?_; dsimp only); refine load_box rfl rfl g3 rfl BK.out.b3 Try.underlying23 rfl (by kernel_rfl) ?_) | (go_at_call 8; (with_reducible refine (right_calls g _).mono ?_); rw [HRT.out]; rintro e w2 ⟨rfl, hb⟩; replace HB := Aside0.mk (below_step HB.out hb); replace BK := Aside0.mk (BK.out.below hb); clear hb) | ((with_reducible refine gate_dst (N := 74) rfl ?_); refine load_box rfl rfl g3 rfl BK.out.b3 Try.underlying23 rfl (by kernel_rfl) ?_) | (go_at_call 10; (with_reducible refine (ar_New g _ HOK.out n nb HN1.out HN2.out HN0.out HNB0.out).mono ?_); rintro e w2 ⟨ga, gr, cr, ge, ce, rfl, hA⟩; rw [HFF.out] at hA; replace BK := Aside0.mk (BK.out.below hA.bel); have HS := Aside0.mk (Ast.lower hA HB.out); have z1_ := BK.out.f1; have z2_ := BK.out.f2; clear hA HB))
        (try simp only [Act.put, List.setIfInBounds_toArray, List.set_cons_zero, List.set_cons_succ])
        simp only [hm_]
        clear l0_ l1_ l2_ l3_ l4_ z1_ z2_ hm_ hm2_
        refine Mono.mono_region_tail (fun j_ => ([(Is (.pointer (some ⟨g5, 0, none⟩))), (Is (.int .u8 p0)), (Is (.int .i64 p0)), (Is (.int .i64 (n : Int))), (Is (.int .i64 (r : Int))), (Is (.pointer (some ⟨g5, 1, none⟩))), (Is (.int .u8 p1)), (Is (.int .i64 p1)), (Is (.int .i64 (n : Int))), (Is (.int .i64 (o : Int))), (Is (.int .i64 (r : Int))), (Is (.int .i64 (o : Int)))] : List (Value → World → Prop)).getD j_ (fun _ _ => True)) 12 [85, 86, 87, 88, 89, 90, 91, 92, 93, 94, 11, 12] _ (by kernel_rfl) rfl (Nat.le_of_ble_eq_true rfl) (by kernel_rfl) (by kernel_rfl) (by kernel_rfl) ?_ ?_ ?_
        · intro i_
          match i_ with
          | 0 => exact stable_is _
          | 1 => exact stable_is _
          | 2 => exact stable_is _
          | 3 => exact stable_is _
          | 4 => exact stable_is _
          | 5 => exact stable_is _
          | 6 => exact stable_is _
          | 7 => exact stable_is _
          | 8 => exact stable_is _
          | 9 => exact stable_is _
          | 10 => exact stable_is _
          | 11 => exact stable_is _
          | _ + 12 => exact fun _ _ _ _ _ => trivial
        · show ∀ i_ ∈ [0, 1, 2, 3, 4, 5, 6, 7, 8, 9, 10, 11], _
          refine msteps_cons ?_ ?_
          · intro a w' hx hfr hk
            have e5 : a.tmps[5]? = some (.pointer (some ⟨g5, 0, none⟩)) := (hfr.off 5 rfl).trans rfl
            clear hk hfr
            refine ⟨_, rfl, fun K hK => ?_⟩
            refine value_ (w1 := w') (v := .pointer (some ⟨g5, 0, none⟩)) (by rfl) rfl ?_ (hK _ _ (show _ = _ from rfl) (Ext.refl _))
            go_simp
            (try simp only [i64_w])
            try rfl
          refine msteps_cons ?_ ?_
          · intro a w' hx hfr hk
            obtain ⟨v_, e85, h_⟩ := hk 0 85 (by kernel_rfl) rfl
            replace h_ : v_ = .pointer (some ⟨g5, 0, none⟩) := h_
            subst h_
            clear hk hfr
            refine ⟨_, rfl, fun K hK => ?_⟩
            have hc_ := (BK.out.below (Ext.below hx)).a0
            refine value_ (w1 := w') (v := .int .u8 p0) (by rfl) rfl ?_ (hK _ _ (show _ = _ from rfl) (Ext.refl _))
            go_simp
            (try simp only [i64_w])
            try rfl
          refine msteps_cons ?_ ?_
          · intro a w' hx hfr hk
            obtain ⟨v_, e86, h_⟩ := hk 1 86 (by kernel_rfl) rfl
            replace h_ : v_ = .int .u8 p0 := h_
            subst h_
            clear hk hfr
            refine ⟨_, rfl, fun K hK => ?_⟩
            refine value_ (w1 := w') (v := .int .i64 p0) (by rfl) rfl ?_ (hK _ _ (show _ = _ from rfl) (Ext.refl _))
            go_simp
            (try simp only [i64_w])
            try rfl
            try exact wp0_
          refine msteps_cons ?_ ?_
          · intro a w' hx hfr hk
            have e10 : a.tmps[10]? = some (.int .i64 (n : Int)) := (hfr.off 10 rfl).trans rfl
            clear hk hfr
            refine ⟨_, rfl, fun K hK => ?_⟩
            refine value_ (w1 := w') (v := .int .i64 (n : Int)) (by rfl) rfl ?_ (hK _ _ (show _ = _ from rfl) (Ext.refl _))
            go_simp
            (try simp only [i64_w])
            try rfl
          refine msteps_cons ?_ ?_
          · intro a w' hx hfr hk
            obtain ⟨v_, e87, h_⟩ := hk 2 87 (by kernel_rfl) rfl
            replace h_ : v_ = .int .i64 p0 := h_
            subst h_
            obtain ⟨v_, e88, h_⟩ := hk 3 88 (by kernel_rfl) rfl
            replace h_ : v_ = .int .i64 (n : Int) := h_
            subst h_
            clear hk hfr
            refine ⟨_, rfl, fun K hK => ?_⟩
            refine value_ (w1 := w') (v := .int .i64 (r : Int)) (by rfl) rfl ?_ (hK _ _ (show _ = _ from rfl) (Ext.refl _))
            go_simp
            (try simp only [i64_w])
            try rfl
            try exact wr_
          refine msteps_cons ?_ ?_
          · intro a w' hx hfr hk
            have e5 : a.tmps[5]? = some (.pointer (some ⟨g5, 0, none⟩)) := (hfr.off 5 rfl).trans rfl
            clear hk hfr
            refine ⟨_, rfl, fun K hK => ?_⟩
            refine value_ (w1 := w') (v := .pointer (some ⟨g5, 1, none⟩)) (by rfl) rfl ?_ (hK _ _ (show _ = _ from rfl) (Ext.refl _))
            go_simp
            (try simp only [i64_w])
            try rfl
          refine msteps_cons ?_ ?_
          · intro a w' hx hfr hk
            obtain ⟨v_, e90, h_⟩ := hk 5 90 (by kernel_rfl) rfl
            replace h_ : v_ = .pointer (some ⟨g5, 1, none⟩) := h_
            subst h_
            clear hk hfr
            refine ⟨_, rfl, fun K hK => ?_⟩
            have hc_ := (BK.out.below (Ext.below hx)).a1
            refine value_ (w1 := w') (v := .int .u8 p1) (by rfl) rfl ?_ (hK _ _ (show _ = _ from rfl) (Ext.refl _))
            go_simp
            (try simp only [i64_w])
            try rfl
          refine msteps_cons ?_ ?_
          · intro a w' hx hfr hk
            obtain ⟨v_, e91, h_⟩ := hk 6 91 (by kernel_rfl) rfl
            replace h_ : v_ = .int .u8 p1 := h_
            subst h_
            clear hk hfr
            refine ⟨_, rfl, fun K hK => ?_⟩
            refine value_ (w1 := w') (v := .int .i64 p1) (by rfl) rfl ?_ (hK _ _ (show _ = _ from rfl) (Ext.refl _))
            go_simp
            (try simp only [i64_w])
            try rfl
            try exact wp1_
          refine msteps_cons ?_ ?_
          · intro a w' hx hfr hk
            have e10 : a.tmps[10]? = some (.int .i64 (n : Int)) := (hfr.off 10 rfl).trans rfl
            clear hk hfr
            refine ⟨_, rfl, fun K hK => ?_⟩
            refine value_ (w1 := w') (v := .int .i64 (n : Int)) (by rfl) rfl ?_ (hK _ _ (show _ = _ from rfl) (Ext.refl _))
            go_simp
            (try simp only [i64_w])
            try rfl
          refine msteps_cons ?_ ?_
          · intro a w' hx hfr hk
            obtain ⟨v_, e92, h_⟩ := hk 7 92 (by kernel_rfl) rfl
            replace h_ : v_ = .int .i64 p1 := h_
            subst h_
            obtain ⟨v_, e93, h_⟩ := hk 8 93 (by kernel_rfl) rfl
            replace h_ : v_ = .int .i64 (n : Int) := h_
            subst h_
            clear hk hfr
            refine ⟨_, rfl, fun K hK => ?_⟩
            refine value_ (w1 := w') (v := .int .i64 (o : Int)) (by rfl) rfl ?_ (hK _ _ (show _ = _ from rfl) (Ext.refl _))
            go_simp
            (try simp only [i64_w])
            try rfl
            try exact wo_
          refine msteps_cons ?_ ?_
          · intro a w' hx hfr hk
            obtain ⟨v_, e89, h_⟩ := hk 4 89 (by kernel_rfl) rfl
            replace h_ : v_ = .int .i64 (r : Int) := h_
            subst h_
            clear hk hfr
            refine ⟨_, rfl, fun K hK => ?_⟩
            refine value_ (w1 := w') (v := .int .i64 (r : Int)) (by rfl) rfl ?_ (hK _ _ (show _ = _ from rfl) (Ext.refl _))
            go_simp
            (try simp only [i64_w])
            try rfl
          refine msteps_cons ?_ ?_
          · intro a w' hx hfr hk
            obtain ⟨v_, e94, h_⟩ := hk 9 94 (by kernel_rfl) rfl
            replace h_ : v_ = .int .i64 (o : Int) := h_
            subst h_
            clear hk hfr
            refine ⟨_, rfl, fun K hK => ?_⟩
            refine value_ (w1 := w') (v := .int .i64 (o : Int)) (by rfl) rfl ?_ (hK _ _ (show _ = _ from rfl) (Ext.refl _))
            go_simp
            (try simp only [i64_w])
            try rfl
          exact msteps_nil
        · intro val wf hx hF
          have e85 : val 85 = .pointer (some ⟨g5, 0, none⟩) := hF 0 85 (by decide) rfl
          have e86 : val 86 = .int .u8 p0 := hF 1 86 (by decide) rfl
          have e87 : val 87 = .int .i64 p0 := hF 2 87 (by decide) rfl
          have e88 : val 88 = .int .i64 (n : Int) := hF 3 88 (by decide) rfl
          have e89 : val 89 = .int .i64 (r : Int) := hF 4 89 (by decide) rfl
          have e90 : val 90 = .pointer (some ⟨g5, 1, none⟩) := hF 5 90 (by decide) rfl
          have e91 : val 91 = .int .u8 p1 := hF 6 91 (by decide) rfl
          have e92 : val 92 = .int .i64 p1 := hF 7 92 (by decide) rfl
          have e93 : val 93 = .int .i64 (n : Int) := hF 8 93 (by decide) rfl
          have e94 : val 94 = .int .i64 (o : Int) := hF 9 94 (by decide) rfl
          have e11 : val 11 = .int .i64 (r : Int) := hF 10 11 (by decide) rfl
          have e12 : val 12 = .int .i64 (o : Int) := hF 11 12 (by decide) rfl
          clear hF
          simp only [putT, List.foldl_cons, List.foldl_nil, Act.put, List.setIfInBounds_toArray, List.set_cons_zero, List.set_cons_succ, e85, e86, e87, e88, e89, e90, e91, e92, e93, e94, e11, e12]
          clear e85 e86 e87 e88 e89 e90 e91 e92 e93 e94 e11 e12
          replace HS := Aside0.mk (HS.out.below (Ext.below hx))
          replace BK := Aside0.mk (BK.out.below (Ext.below hx))
          clear hx hr1 ho1 wr_ wo_ wp0_ wp1_ nz0_ nz1_ nz2_ nz3_ nz4_ nz5_ nz6_
          refine wpList_nil ?_
          go_wp2
          go_loopw [97] (fun v97 wr => ∃ i : Nat, v97 = .int .i64 (i : Int) ∧ i ≤ L.length ∧ (∃ X Q, Aside0 (Ast w0 wr ga gr cr ge ce n nb g (X) (Q) (fun _ => 0)) ∧ Aside0 (∀ j, j < n → Bytes (X j) ∧ (X j).length = rawN g) ∧ Aside0 (∀ j, j < n → 0 ≤ (Q j).1 ∧ (Q j).1 ≤ (i : Int))) ∧ Aside0 (BB g3 g5 g p0 p1 p2 wr)) (fun v97 _ => L.length - (RowKit.intOf v97).toNat)
          case atStart => exact ⟨0, rfl, Nat.zero_le _, ⟨_, _, HS, ⟨fun _ _ => ⟨BF.out, LF.out⟩⟩, ⟨fun _ _ => ⟨Int.le_refl 0, Int.le_refl 0⟩⟩⟩, BK⟩
          case round =>
            clear HS BK
            obtain ⟨i, rfl, hi, ⟨X, Q, HS, IX, IQ⟩, BK⟩ := hrel
            by_cases hlt : i < L.length
            · obtain ⟨ad, Az, cz, hA1, hc_, hcz, hCz⟩ := at_row HL.out i hlt
              subst hA1
              have hmem := List.getElem_mem hlt
              obtain ⟨zs, hz⟩ : ∃ z_, L[i] = z_ := ⟨_, rfl⟩
              rw [hz] at hc_ hcz hCz hmem
              have BZ := Aside0.mk (BL.out zs hmem)
              have hc2_ := (HS.out.bel.cell (World.block_lt_of_cell? w0 _ hc_)).trans hc_
              have HZC := Aside0.mk hCz
              have HZL := Aside0.mk hcz
              have HLT := Aside0.mk hlt
              obtain ⟨XR, hXR⟩ : ∃ z_, X r = z_ := ⟨_, rfl⟩
              obtain ⟨XO, hXO⟩ : ∃ z_, X o = z_ := ⟨_, rfl⟩
              obtain ⟨q, hq⟩ : ∃ z_, (Q r).1 = z_ := ⟨_, rfl⟩
              have HXR := Aside0.mk hXR
              have HXO := Aside0.mk hXO
              have HQR := Aside0.mk hq
              have hr3 := IX.out r HR2.out
              have ho3 := IX.out o HO2.out
              have hq4 := IQ.out r HR2.out
              have hlrn := LRN.out
              have BX_ := Aside0.mk hr3.1
              have LX_ : Aside0 ((X r).length ≤ 100000) := ⟨by omega⟩
              have LO_ : Aside0 ((X o).length ≤ 100000) := ⟨by omega⟩
              have HQ4 : Aside0 (0 ≤ (Q r).1 ∧ (Q r).1 ≤ 1000000) := ⟨by have := HLL.out; omega⟩
              rw [hXR] at hr3
              rw [hXO] at ho3
              rw [hq] at hq4
              have BXR := Aside0.mk hr3.1
              have BXO := Aside0.mk ho3.1
              have LXR : Aside0 (XR.length = rawN g) := ⟨hr3.2⟩
              have LXO : Aside0 (XO.length = rawN g) := ⟨ho3.2⟩
              have LR6 : Aside0 (XR.length < 1000000) := ⟨by omega⟩
              have LO6 : Aside0 (XO.length < 1000000) := ⟨by omega⟩
              have hwq_ : wrap64 (q + 1) = q + 1 := by have := HLL.out; clear hc_ hc2_ hCz hz; unfold wrap64; omega
              have t0 : True := trivial
              have t1 : True := trivial
              have t2 : True := trivial
              have t3 : True := trivial
              have t4 : True := trivial
              have t5 : True := trivial
              have t6 : True := trivial
              have t7 : True := trivial
              have di1_ : decide ((i : Int) < (L.length : Int)) = true := decide_eq_true (by omega)
              have di2_ : decide (i < L.length) = true := decide_eq_true (by omega)
              have di3_ : ((i : Int) < (L.length : Int)) = True := eq_true (by omega)
              have di4_ : (i < L.length) = True := eq_true (by omega)
              have hw_ : wrap64 ((i : Int) + 1) = ((i + 1 : Nat) : Int) := by have := HLL.out; clear hc_ hc2_ hCz hz hwq_; unfold wrap64; omega
              clear hXR hXO hq hr3 ho3 hq4 hlrn hz hmem hcz hCz hc_
              by_cases h4 : zs.length > 400
              · have k0_ : decide ((zs.length : Int) > 400) = true := decide_eq_true (by omega)
                have k1_ : decide (zs.length > 400) = true := decide_eq_true (by omega)
                have k2_ : ((400 : Int) < (zs.length : Int)) = True := eq_true (by omega)
                have k3_ : (400 < zs.length) = True := eq_true (by omega)
                have k4_ : decide ((400 : Int) < (zs.length : Int)) = true := decide_eq_true (by omega)
                clear h4 hi hlt
                go_wp2
                go_ret
                exact ⟨rfl, HS.out.bel⟩
              · have k0_ : decide ((zs.length : Int) > 400) = false := decide_eq_false (by omega)
                have k1_ : decide (zs.length > 400) = false := decide_eq_false (by omega)
                have k2_ : ((400 : Int) < (zs.length : Int)) = False := eq_false (by omega)
                have k3_ : (400 < zs.length) = False := eq_false (by omega)
                have k4_ : decide ((400 : Int) < (zs.length : Int)) = false := decide_eq_false (by omega)
                have LZ6 : Aside0 (zs.length < 1000000) := ⟨by omega⟩
                clear h4 hi hlt
                by_cases hx : zs.length = rawN g
                · have x0_ : decide ((zs.length : Int) = (rawN g : Int)) = true := decide_eq_true (by omega)
                  have x1_ : ((zs.length : Int) == (rawN g : Int)) = true := beq_iff_eq.2 (by omega)
                  have x2_ : ((zs.length : Int) = (rawN g : Int)) = True := eq_true (by omega)
                  have x3_ : ((zs.length : Int) != (rawN g : Int)) = false := bne_eq_false_iff_eq.2 (by omega)
                  have x4_ : decide (zs.length = rawN g) = true := decide_eq_true (by omega)
                  have x5_ : (zs.length = rawN g) = True := eq_true (by omega)
                  have x6_ : (zs.length == rawN g) = true := beq_iff_eq.2 (by omega)
                  have HLE : Aside0 (zs.length = (X r).length) := ⟨by rw [HXR.out, LXR.out, hx]⟩
                  obtain ⟨NW, hNW⟩ : ∃ z_, andL XR zs = z_ := ⟨_, rfl⟩
                  obtain ⟨X1, hX1⟩ : ∃ z_, updN X r NW = z_ := ⟨_, rfl⟩
                  obtain ⟨Q1, hQ1⟩ : ∃ z_, updN Q r (q + 1, (Q r).2) = z_ := ⟨_, rfl⟩
                  have HNW := Aside0.mk hNW
                  have HX1 := Aside0.mk hX1
                  have HQ1 := Aside0.mk hQ1
                  have hbn : Bytes NW := by rw [← hNW]; exact andL_bytes BXR.out BZ.out
                  have hln : NW.length = rawN g := by rw [← hNW, andL_length, LXR.out, hx, Nat.max_self]
                  have BN := Aside0.mk hbn
                  have LN6 : Aside0 (NW.length < 1000000) := ⟨by have := LRN.out; omega⟩
                  have AN1 : Aside0 (andL XR NW = NW) := ⟨by rw [← hNW, ← andL_assoc BXR.out BXR.out BZ.out, andL_self BXR.out]⟩
                  have AN2 : Aside0 (andL NW zs = NW) := ⟨by rw [← hNW, andL_assoc BXR.out BZ.out BZ.out, andL_self BZ.out]⟩
                  have X1R : Aside0 (X1 r = NW) := ⟨by rw [← hX1]; exact if_pos rfl⟩
                  have Q1R : Aside0 ((Q1 r).1 = q + 1) := ⟨by rw [← hQ1]; exact congrArg Prod.fst (if_pos rfl)⟩
                  have LX1 : Aside0 ((X1 r).length ≤ 100000) := ⟨by rw [X1R.out]; have := LRN.out; omega⟩
                  have IX1 : Aside0 (∀ j, j < n → Bytes (X1 j) ∧ (X1 j).length = rawN g) := ⟨fun j hj => by rw [← hX1]; unfold updN; by_cases e : j = r; rw [if_pos e]; exact ⟨hbn, hln⟩; rw [if_neg e]; exact IX.out j hj⟩
                  have IQ1 : Aside0 (∀ j, j < n → 0 ≤ (Q1 j).1 ∧ (Q1 j).1 ≤ ((i + 1 : Nat) : Int)) := ⟨fun j hj => by rw [← hQ1]; unfold updN; by_cases e : j = r; rw [if_pos e]; have := IQ.out r HR2.out; have := HQR.out; show 0 ≤ q + 1 ∧ q + 1 ≤ _; omega; rw [if_neg e]; have := IQ.out j hj; omega⟩
                  have d6_ : decide (q + 1 = q + 1) = true := decide_eq_true rfl
                  clear hNW hX1 hQ1 hbn hln hx
                  by_cases hro : r = o
                  · have ro0_ : decide ((r : Int) = (o : Int)) = true := decide_eq_true (by omega)
                    have ro1_ : ((r : Int) == (o : Int)) = true := beq_iff_eq.2 (by omega)
                    have ro2_ : ((r : Int) = (o : Int)) = True := eq_true (by omega)
                    have ro3_ : ((r : Int) != (o : Int)) = false := bne_eq_false_iff_eq.2 (by omega)
                    have ro4_ : decide (r = o) = true := decide_eq_true (by omega)
                    have ro5_ : (r = o) = True := eq_true (by omega)
                    have ro6_ : (r == o) = true := beq_iff_eq.2 (by omega)
                    clear hro
                    go_wp2_with (first | (go_at_call 13; have _t := t0; (with_reducible refine (as_Raw HS.out r HR2.out (r : Int) rfl LX_.out).mono ?_); rintro e w11 ⟨v_, rfl, hR, hb⟩; rw [HXR.out] at hR; obtain ⟨Aw, cw, rfl, hl_, hC_⟩ := Kd.R_reads (show BR _ _ _ XR from hR); have RW := Aside0.mk (show BR _ w0.heap.size _ XR from Kd.R_lower hR HS.out.bel.size); replace HS := Aside0.mk (Ast.below HS.out hb); replace BK := Aside0.mk (BK.out.below hb); clear hR hb hl_ hC_ t0 _t) | (go_at_call 13; have _t := t1; (with_reducible refine (as_Raw HS.out o HO2.out (o : Int) rfl LO_.out).mono ?_); rintro e w12 ⟨v_, rfl, hR, hb⟩; rw [HXO.out] at hR; obtain ⟨Ab, cb, rfl, hl_, hC_⟩ := Kd.R_reads (show BR _ _ _ XO from hR); have RB := Aside0.mk (show BR _ w0.heap.size _ XO from Kd.R_lower hR HS.out.bel.size); replace RW := Aside0.mk (Kd.R_below RW.out hb); replace HS := Aside0.mk (Ast.below HS.out hb); replace BK := Aside0.mk (BK.out.below hb); clear hR hb hl_ hC_ t1 _t) | (go_at_call 14; have _t := t2; (with_reducible refine (as_Programs HS.out r HR2.out (r : Int) rfl).mono ?_); rw [HQR.out]; rintro e w13 ⟨rfl, hb⟩; replace RW := Aside0.mk (Kd.R_below RW.out hb); replace RB := Aside0.mk (Kd.R_below RB.out hb); replace HS := Aside0.mk (Ast.below HS.out hb); replace BK := Aside0.mk (BK.out.below hb); clear hb t2 _t) | (go_at_call 11; (with_reducible refine (as_Program HS.out HNB0.out.1 r HR2.out (r : Int) rfl Az cz zs (Kd.C_below HZC.out HS.out.bel) HZL.out BX_.out BZ.out LX_.out HLE.out HQ4.out).mono ?_); rintro e w14 ⟨rfl, hA, ht⟩; rw [HXR.out, HQR.out] at hA; rw [HNW.out, HX1.out, HQ1.out] at hA; replace RW := Aside0.mk (HS.out.keep RW.out ht); replace RB := Aside0.mk (HS.out.keep RB.out ht); replace BK := Aside0.mk (BK.out.prog HS.out ht); replace HS := Aside0.mk hA; clear hA ht) | (go_at_call 13; have _t := t3; (with_reducible refine (as_Raw HS.out r HR2.out (r : Int) rfl LX1.out).mono ?_); rintro e w15 ⟨v_, rfl, hR, hb⟩; rw [X1R.out] at hR; obtain ⟨An, cn, rfl, hl_, hC_⟩ := Kd.R_reads (show BR _ _ _ NW from hR); have RN := Aside0.mk (show BR _ w0.heap.size _ NW from Kd.R_lower hR HS.out.bel.size); replace RW := Aside0.mk (Kd.R_below RW.out hb); replace RB := Aside0.mk (Kd.R_below RB.out hb); replace HS := Aside0.mk (Ast.below HS.out hb); replace BK := Aside0.mk (BK.out.below hb); clear hR hb hl_ hC_ t3 _t) | ((with_reducible refine gate_dst (N := 124) rfl ?_); refine load_box rfl rfl g3 rfl BK.out.b3 Try.underlying23 rfl (by kernel_rfl) ?_) | (go_at_call 9; (with_reducible refine (refraw_calls g HOK.out _).mono ?_); rintro e w16 ⟨rfl, hb⟩; replace RW := Aside0.mk (Kd.R_below RW.out hb); replace RB := Aside0.mk (Kd.R_below RB.out hb); replace RN := Aside0.mk (Kd.R_below RN.out hb); replace HS := Aside0.mk (Ast.below HS.out hb); replace BK := Aside0.mk (BK.out.below hb); clear hb) | (go_at_call 26; have _t := t4; (with_reducible refine (and_calls Aw An cw cn XR NW _ (Kd.R_reads' RW.out).2.2 (Kd.R_reads' RW.out).2.1 (Kd.R_reads' RN.out).2.2 (Kd.R_reads' RN.out).2.1 BXR.out BN.out LR6.out LN6.out).mono ?_); rintro e w17 ⟨v_, rfl, hR, hb⟩; rw [AN1.out] at hR; obtain ⟨Aa, ca, rfl, hl_, hC_⟩ := Kd.R_reads (show BR _ _ _ NW from hR); have RA := Aside0.mk (show BR _ w0.heap.size _ NW from Kd.R_lower hR HS.out.bel.size); replace RW := Aside0.mk (Kd.R_below RW.out hb); replace RB := Aside0.mk (Kd.R_below RB.out hb); replace RN := Aside0.mk (Kd.R_below RN.out hb); replace HS := Aside0.mk (Ast.below HS.out hb); replace BK := Aside0.mk (BK.out.below hb); clear hR hb hl_ hC_ t4 _t) | (go_at_call 12; have _t := t5; (with_reducible refine (same_refl Aa An ca cn NW _ (Kd.R_reads' RA.out).2.2 (Kd.R_reads' RA.out).2.1 (Kd.R_reads' RN.out).2.2 (Kd.R_reads' RN.out).2.1 LN6.out).mono ?_); rintro e w18 ⟨rfl, hb⟩; replace RW := Aside0.mk (Kd.R_below RW.out hb); replace RB := Aside0.mk (Kd.R_below RB.out hb); replace RN := Aside0.mk (Kd.R_below RN.out hb); replace HS := Aside0.mk (Ast.below HS.out hb); replace BK := Aside0.mk (BK.out.below hb); clear hb t5 _t) | (go_at_call 14; have _t := t7; (with_reducible refine (as_Programs HS.out r HR2.out (r : Int) rfl).mono ?_); rw [Q1R.out]; rintro e w21 ⟨rfl, hb⟩; replace RW := Aside0.mk (Kd.R_below RW.out hb); replace RB := Aside0.mk (Kd.R_below RB.out hb); replace RN := Aside0.mk (Kd.R_below RN.out hb); replace HS := Aside0.mk (Ast.below HS.out hb); replace BK := Aside0.mk (BK.out.below hb); clear hb t7 _t) | (go_at_call 26; (with_reducible refine (and_calls An Az cn cz NW zs _ (Kd.R_reads' RN.out).2.2 (Kd.R_reads' RN.out).2.1 (Kd.C_below HZC.out HS.out.bel) HZL.out BN.out BZ.out LN6.out LZ6.out).mono ?_); rintro e w22 ⟨v_, rfl, hR, hb⟩; rw [AN2.out] at hR; obtain ⟨Ac, cc, rfl, hl_, hC_⟩ := Kd.R_reads (show BR _ _ _ NW from hR); have RC := Aside0.mk (show BR _ w0.heap.size _ NW from Kd.R_lower hR HS.out.bel.size); replace RW := Aside0.mk (Kd.R_below RW.out hb); replace RB := Aside0.mk (Kd.R_below RB.out hb); replace RN := Aside0.mk (Kd.R_below RN.out hb); replace HS := Aside0.mk (Ast.below HS.out hb); replace BK := Aside0.mk (BK.out.below hb); clear hR hb hl_ hC_) | (go_at_call 12; (with_reducible refine (same_refl Ac An cc cn NW _ (Kd.R_reads' RC.out).2.2 (Kd.R_reads' RC.out).2.1 (Kd.R_reads' RN.out).2.2 (Kd.R_reads' RN.out).2.1 LN6.out).mono ?_); rintro e w23 ⟨rfl, hb⟩; replace RW := Aside0.mk (Kd.R_below RW.out hb); replace RB := Aside0.mk (Kd.R_below RB.out hb); replace RN := Aside0.mk (Kd.R_below RN.out hb); replace HS := Aside0.mk (Ast.below HS.out hb); replace BK := Aside0.mk (BK.out.below hb); clear hb))
                    go_roundw
                    case rel => exact ⟨i + 1, (by first | rfl | rw [hw_] | simp [hw_]), HLT.out, ⟨X1, Q1, HS, IX1, IQ1⟩, BK⟩
                    case measure => exact (by first | exact meas2_ HLT.out | exact meas_ HLT.out (by have := HLT.out; have := HLL.out; omega))
                  · have ro0_ : decide ((r : Int) = (o : Int)) = false := decide_eq_false (by omega)
                    have ro1_ : ((r : Int) == (o : Int)) = false := beq_eq_false_iff_ne.2 (by omega)
                    have ro2_ : ((r : Int) = (o : Int)) = False := eq_false (by omega)
                    have ro3_ : ((r : Int) != (o : Int)) = true := bne_iff_ne.2 (by omega)
                    have ro4_ : decide (r = o) = false := decide_eq_false (by omega)
                    have ro5_ : (r = o) = False := eq_false (by omega)
                    have ro6_ : (r == o) = false := beq_eq_false_iff_ne.2 (by omega)
                    have X1O : Aside0 (X1 o = XO) := ⟨by rw [← HX1.out, ← HXO.out]; exact if_neg (fun e => hro e.symm)⟩
                    have LO1 : Aside0 ((X1 o).length ≤ 100000) := ⟨by rw [X1O.out]; have := LO6.out; have := LXO.out; have := LRN.out; omega⟩
                    clear hro
                    go_wp2_with (first | (go_at_call 13; have _t := t0; (with_reducible refine (as_Raw HS.out r HR2.out (r : Int) rfl LX_.out).mono ?_); rintro e w11 ⟨v_, rfl, hR, hb⟩; rw [HXR.out] at hR; obtain ⟨Aw, cw, rfl, hl_, hC_⟩ := Kd.R_reads (show BR _ _ _ XR from hR); have RW := Aside0.mk (show BR _ w0.heap.size _ XR from Kd.R_lower hR HS.out.bel.size); replace HS := Aside0.mk (Ast.below HS.out hb); replace BK := Aside0.mk (BK.out.below hb); clear hR hb hl_ hC_ t0 _t) | (go_at_call 13; have _t := t1; (with_reducible refine (as_Raw HS.out o HO2.out (o : Int) rfl LO_.out).mono ?_); rintro e w12 ⟨v_, rfl, hR, hb⟩; rw [HXO.out] at hR; obtain ⟨Ab, cb, rfl, hl_, hC_⟩ := Kd.R_reads (show BR _ _ _ XO from hR); have RB := Aside0.mk (show BR _ w0.heap.size _ XO from Kd.R_lower hR HS.out.bel.size); replace RW := Aside0.mk (Kd.R_below RW.out hb); replace HS := Aside0.mk (Ast.below HS.out hb); replace BK := Aside0.mk (BK.out.below hb); clear hR hb hl_ hC_ t1 _t) | (go_at_call 14; have _t := t2; (with_reducible refine (as_Programs HS.out r HR2.out (r : Int) rfl).mono ?_); rw [HQR.out]; rintro e w13 ⟨rfl, hb⟩; replace RW := Aside0.mk (Kd.R_below RW.out hb); replace RB := Aside0.mk (Kd.R_below RB.out hb); replace HS := Aside0.mk (Ast.below HS.out hb); replace BK := Aside0.mk (BK.out.below hb); clear hb t2 _t) | (go_at_call 11; (with_reducible refine (as_Program HS.out HNB0.out.1 r HR2.out (r : Int) rfl Az cz zs (Kd.C_below HZC.out HS.out.bel) HZL.out BX_.out BZ.out LX_.out HLE.out HQ4.out).mono ?_); rintro e w14 ⟨rfl, hA, ht⟩; rw [HXR.out, HQR.out] at hA; rw [HNW.out, HX1.out, HQ1.out] at hA; replace RW := Aside0.mk (HS.out.keep RW.out ht); replace RB := Aside0.mk (HS.out.keep RB.out ht); replace BK := Aside0.mk (BK.out.prog HS.out ht); replace HS := Aside0.mk hA; clear hA ht) | (go_at_call 13; have _t := t3; (with_reducible refine (as_Raw HS.out r HR2.out (r : Int) rfl LX1.out).mono ?_); rintro e w15 ⟨v_, rfl, hR, hb⟩; rw [X1R.out] at hR; obtain ⟨An, cn, rfl, hl_, hC_⟩ := Kd.R_reads (show BR _ _ _ NW from hR); have RN := Aside0.mk (show BR _ w0.heap.size _ NW from Kd.R_lower hR HS.out.bel.size); replace RW := Aside0.mk (Kd.R_below RW.out hb); replace RB := Aside0.mk (Kd.R_below RB.out hb); replace HS := Aside0.mk (Ast.below HS.out hb); replace BK := Aside0.mk (BK.out.below hb); clear hR hb hl_ hC_ t3 _t) | ((with_reducible refine gate_dst (N := 124) rfl ?_); refine load_box rfl rfl g3 rfl BK.out.b3 Try.underlying23 rfl (by kernel_rfl) ?_) | (go_at_call 9; (with_reducible refine (refraw_calls g HOK.out _).mono ?_); rintro e w16 ⟨rfl, hb⟩; replace RW := Aside0.mk (Kd.R_below RW.out hb); replace RB := Aside0.mk (Kd.R_below RB.out hb); replace RN := Aside0.mk (Kd.R_below RN.out hb); replace HS := Aside0.mk (Ast.below HS.out hb); replace BK := Aside0.mk (BK.out.below hb); clear hb) | (go_at_call 26; have _t := t4; (with_reducible refine (and_calls Aw An cw cn XR NW _ (Kd.R_reads' RW.out).2.2 (Kd.R_reads' RW.out).2.1 (Kd.R_reads' RN.out).2.2 (Kd.R_reads' RN.out).2.1 BXR.out BN.out LR6.out LN6.out).mono ?_); rintro e w17 ⟨v_, rfl, hR, hb⟩; rw [AN1.out] at hR; obtain ⟨Aa, ca, rfl, hl_, hC_⟩ := Kd.R_reads (show BR _ _ _ NW from hR); have RA := Aside0.mk (show BR _ w0.heap.size _ NW from Kd.R_lower hR HS.out.bel.size); replace RW := Aside0.mk (Kd.R_below RW.out hb); replace RB := Aside0.mk (Kd.R_below RB.out hb); replace RN := Aside0.mk (Kd.R_below RN.out hb); replace HS := Aside0.mk (Ast.below HS.out hb); replace BK := Aside0.mk (BK.out.below hb); clear hR hb hl_ hC_ t4 _t) | (go_at_call 12; have _t := t5; (with_reducible refine (same_refl Aa An ca cn NW _ (Kd.R_reads' RA.out).2.2 (Kd.R_reads' RA.out).2.1 (Kd.R_reads' RN.out).2.2 (Kd.R_reads' RN.out).2.1 LN6.out).mono ?_); rintro e w18 ⟨rfl, hb⟩; replace RW := Aside0.mk (Kd.R_below RW.out hb); replace RB := Aside0.mk (Kd.R_below RB.out hb); replace RN := Aside0.mk (Kd.R_below RN.out hb); replace HS := Aside0.mk (Ast.below HS.out hb); replace BK := Aside0.mk (BK.out.below hb); clear hb t5 _t) | (go_at_call 13; have _t := t6; (with_reducible refine (as_Raw HS.out o HO2.out (o : Int) rfl LO1.out).mono ?_); rintro e w19 ⟨v_, rfl, hR, hb⟩; rw [X1O.out] at hR; obtain ⟨Ao, co, rfl, hl_, hC_⟩ := Kd.R_reads (show BR _ _ _ XO from hR); have RO := Aside0.mk (show BR _ w0.heap.size _ XO from Kd.R_lower hR HS.out.bel.size); replace RW := Aside0.mk (Kd.R_below RW.out hb); replace RB := Aside0.mk (Kd.R_below RB.out hb); replace RN := Aside0.mk (Kd.R_below RN.out hb); replace HS := Aside0.mk (Ast.below HS.out hb); replace BK := Aside0.mk (BK.out.below hb); clear hR hb hl_ hC_ t6 _t) | (go_at_call 12; (with_reducible refine (same_refl Ao Ab co cb XO _ (Kd.R_reads' RO.out).2.2 (Kd.R_reads' RO.out).2.1 (Kd.R_reads' RB.out).2.2 (Kd.R_reads' RB.out).2.1 LO6.out).mono ?_); rintro e w20 ⟨rfl, hb⟩; replace RW := Aside0.mk (Kd.R_below RW.out hb); replace RB := Aside0.mk (Kd.R_below RB.out hb); replace RN := Aside0.mk (Kd.R_below RN.out hb); replace HS := Aside0.mk (Ast.below HS.out hb); replace BK := Aside0.mk (BK.out.below hb); clear hb) | (go_at_call 14; have _t := t7; (with_reducible refine (as_Programs HS.out r HR2.out (r : Int) rfl).mono ?_); rw [Q1R.out]; rintro e w21 ⟨rfl, hb⟩; replace RW := Aside0.mk (Kd.R_below RW.out hb); replace RB := Aside0.mk (Kd.R_below RB.out hb); replace RN := Aside0.mk (Kd.R_below RN.out hb); replace HS := Aside0.mk (Ast.below HS.out hb); replace BK := Aside0.mk (BK.out.below hb); clear hb t7 _t) | (go_at_call 26; (with_reducible refine (and_calls An Az cn cz NW zs _ (Kd.R_reads' RN.out).2.2 (Kd.R_reads' RN.out).2.1 (Kd.C_below HZC.out HS.out.bel) HZL.out BN.out BZ.out LN6.out LZ6.out).mono ?_); rintro e w22 ⟨v_, rfl, hR, hb⟩; rw [AN2.out] at hR; obtain ⟨Ac, cc, rfl, hl_, hC_⟩ := Kd.R_reads (show BR _ _ _ NW from hR); have RC := Aside0.mk (show BR _ w0.heap.size _ NW from Kd.R_lower hR HS.out.bel.size); replace RW := Aside0.mk (Kd.R_below RW.out hb); replace RB := Aside0.mk (Kd.R_below RB.out hb); replace RN := Aside0.mk (Kd.R_below RN.out hb); replace HS := Aside0.mk (Ast.below HS.out hb); replace BK := Aside0.mk (BK.out.below hb); clear hR hb hl_ hC_) | (go_at_call 12; (with_reducible refine (same_refl Ac An cc cn NW _ (Kd.R_reads' RC.out).2.2 (Kd.R_reads' RC.out).2.1 (Kd.R_reads' RN.out).2.2 (Kd.R_reads' RN.out).2.1 LN6.out).mono ?_); rintro e w23 ⟨rfl, hb⟩; replace RW := Aside0.mk (Kd.R_below RW.out hb); replace RB := Aside0.mk (Kd.R_below RB.out hb); replace RN := Aside0.mk (Kd.R_below RN.out hb); replace HS := Aside0.mk (Ast.below HS.out hb); replace BK := Aside0.mk (BK.out.below hb); clear hb))
                    go_roundw
                    case rel => exact ⟨i + 1, (by first | rfl | rw [hw_] | simp [hw_]), HLT.out, ⟨X1, Q1, HS, IX1, IQ1⟩, BK⟩
                    case measure => exact (by first | exact meas2_ HLT.out | exact meas_ HLT.out (by have := HLT.out; have := HLL.out; omega))
                · have x0_ : decide ((zs.length : Int) = (rawN g : Int)) = false := decide_eq_false (by omega)
                  have x1_ : ((zs.length : Int) == (rawN g : Int)) = false := beq_eq_false_iff_ne.2 (by omega)
                  have x2_ : ((zs.length : Int) = (rawN g : Int)) = False := eq_false (by omega)
                  have x3_ : ((zs.length : Int) != (rawN g : Int)) = true := bne_iff_ne.2 (by omega)
                  have x4_ : decide (zs.length = rawN g) = false := decide_eq_false (by omega)
                  have x5_ : (zs.length = rawN g) = False := eq_false (by omega)
                  have x6_ : (zs.length == rawN g) = false := beq_eq_false_iff_ne.2 (by omega)
                  have HNL : Aside0 (¬ zs.length = (X r).length) := ⟨by rw [HXR.out, LXR.out]; exact hx⟩
                  have AN1 : Aside0 (andL XR XR = XR) := ⟨andL_self BXR.out⟩
                  have IQ1 : Aside0 (∀ j, j < n → 0 ≤ (Q j).1 ∧ (Q j).1 ≤ ((i + 1 : Nat) : Int)) := ⟨fun j hj => by have := IQ.out j hj; omega⟩
                  clear hx
                  by_cases hro : r = o
                  · have ro0_ : decide ((r : Int) = (o : Int)) = true := decide_eq_true (by omega)
                    have ro1_ : ((r : Int) == (o : Int)) = true := beq_iff_eq.2 (by omega)
                    have ro2_ : ((r : Int) = (o : Int)) = True := eq_true (by omega)
                    have ro3_ : ((r : Int) != (o : Int)) = false := bne_eq_false_iff_eq.2 (by omega)
                    have ro4_ : decide (r = o) = true := decide_eq_true (by omega)
                    have ro5_ : (r = o) = True := eq_true (by omega)
                    have ro6_ : (r == o) = true := beq_iff_eq.2 (by omega)
                    clear hro
                    go_wp2_with (first | (go_at_call 13; have _t := t0; (with_reducible refine (as_Raw HS.out r HR2.out (r : Int) rfl LX_.out).mono ?_); rintro e w11 ⟨v_, rfl, hR, hb⟩; rw [HXR.out] at hR; obtain ⟨Aw, cw, rfl, hl_, hC_⟩ := Kd.R_reads (show BR _ _ _ XR from hR); have RW := Aside0.mk (show BR _ w0.heap.size _ XR from Kd.R_lower hR HS.out.bel.size); replace HS := Aside0.mk (Ast.below HS.out hb); replace BK := Aside0.mk (BK.out.below hb); clear hR hb hl_ hC_ t0 _t) | (go_at_call 13; have _t := t1; (with_reducible refine (as_Raw HS.out o HO2.out (o : Int) rfl LO_.out).mono ?_); rintro e w12 ⟨v_, rfl, hR, hb⟩; rw [HXO.out] at hR; obtain ⟨Ab, cb, rfl, hl_, hC_⟩ := Kd.R_reads (show BR _ _ _ XO from hR); have RB := Aside0.mk (show BR _ w0.heap.size _ XO from Kd.R_lower hR HS.out.bel.size); replace RW := Aside0.mk (Kd.R_below RW.out hb); replace HS := Aside0.mk (Ast.below HS.out hb); replace BK := Aside0.mk (BK.out.below hb); clear hR hb hl_ hC_ t1 _t) | (go_at_call 14; have _t := t2; (with_reducible refine (as_Programs HS.out r HR2.out (r : Int) rfl).mono ?_); rw [HQR.out]; rintro e w13 ⟨rfl, hb⟩; replace RW := Aside0.mk (Kd.R_below RW.out hb); replace RB := Aside0.mk (Kd.R_below RB.out hb); replace HS := Aside0.mk (Ast.below HS.out hb); replace BK := Aside0.mk (BK.out.below hb); clear hb t2 _t) | (go_at_call 11; (with_reducible refine (as_Program_len HS.out r HR2.out (r : Int) rfl Az zs.length cz HNL.out).mono ?_); rintro e w14 ⟨rfl, hb⟩; replace RW := Aside0.mk (Kd.R_below RW.out hb); replace RB := Aside0.mk (Kd.R_below RB.out hb); replace HS := Aside0.mk (Ast.below HS.out hb); replace BK := Aside0.mk (BK.out.below hb); clear hb) | (go_at_call 13; have _t := t3; (with_reducible refine (as_Raw HS.out r HR2.out (r : Int) rfl LX_.out).mono ?_); rintro e w15 ⟨v_, rfl, hR, hb⟩; rw [HXR.out] at hR; obtain ⟨An, cn, rfl, hl_, hC_⟩ := Kd.R_reads (show BR _ _ _ XR from hR); have RN := Aside0.mk (show BR _ w0.heap.size _ XR from Kd.R_lower hR HS.out.bel.size); replace RW := Aside0.mk (Kd.R_below RW.out hb); replace RB := Aside0.mk (Kd.R_below RB.out hb); replace HS := Aside0.mk (Ast.below HS.out hb); replace BK := Aside0.mk (BK.out.below hb); clear hR hb hl_ hC_ t3 _t) | ((with_reducible refine gate_dst (N := 124) rfl ?_); refine load_box rfl rfl g3 rfl BK.out.b3 Try.underlying23 rfl (by kernel_rfl) ?_) | (go_at_call 9; (with_reducible refine (refraw_calls g HOK.out _).mono ?_); rintro e w16 ⟨rfl, hb⟩; replace RW := Aside0.mk (Kd.R_below RW.out hb); replace RB := Aside0.mk (Kd.R_below RB.out hb); replace RN := Aside0.mk (Kd.R_below RN.out hb); replace HS := Aside0.mk (Ast.below HS.out hb); replace BK := Aside0.mk (BK.out.below hb); clear hb) | (go_at_call 26; have _t := t4; (with_reducible refine (and_calls Aw An cw cn XR XR _ (Kd.R_reads' RW.out).2.2 (Kd.R_reads' RW.out).2.1 (Kd.R_reads' RN.out).2.2 (Kd.R_reads' RN.out).2.1 BXR.out BXR.out LR6.out LR6.out).mono ?_); rintro e w17 ⟨v_, rfl, hR, hb⟩; rw [AN1.out] at hR; obtain ⟨Aa, ca, rfl, hl_, hC_⟩ := Kd.R_reads (show BR _ _ _ XR from hR); have RA := Aside0.mk (show BR _ w0.heap.size _ XR from Kd.R_lower hR HS.out.bel.size); replace RW := Aside0.mk (Kd.R_below RW.out hb); replace RB := Aside0.mk (Kd.R_below RB.out hb); replace RN := Aside0.mk (Kd.R_below RN.out hb); replace HS := Aside0.mk (Ast.below HS.out hb); replace BK := Aside0.mk (BK.out.below hb); clear hR hb hl_ hC_ t4 _t) | (go_at_call 12; have _t := t5; (with_reducible refine (same_refl Aa An ca cn XR _ (Kd.R_reads' RA.out).2.2 (Kd.R_reads' RA.out).2.1 (Kd.R_reads' RN.out).2.2 (Kd.R_reads' RN.out).2.1 LR6.out).mono ?_); rintro e w18 ⟨rfl, hb⟩; replace RW := Aside0.mk (Kd.R_below RW.out hb); replace RB := Aside0.mk (Kd.R_below RB.out hb); replace RN := Aside0.mk (Kd.R_below RN.out hb); replace HS := Aside0.mk (Ast.below HS.out hb); replace BK := Aside0.mk (BK.out.below hb); clear hb t5 _t) | (go_at_call 12; (with_reducible refine (same_refl Aw An cw cn XR _ (Kd.R_reads' RW.out).2.2 (Kd.R_reads' RW.out).2.1 (Kd.R_reads' RN.out).2.2 (Kd.R_reads' RN.out).2.1 LR6.out).mono ?_); rintro e w23 ⟨rfl, hb⟩; replace RW := Aside0.mk (Kd.R_below RW.out hb); replace RB := Aside0.mk (Kd.R_below RB.out hb); replace RN := Aside0.mk (Kd.R_below RN.out hb); replace HS := Aside0.mk (Ast.below HS.out hb); replace BK := Aside0.mk (BK.out.below hb); clear hb))
                    go_roundw
                    case rel => exact ⟨i + 1, (by first | rfl | rw [hw_] | simp [hw_]), HLT.out, ⟨X, Q, HS, IX, IQ1⟩, BK⟩
                    case measure => exact (by first | exact meas2_ HLT.out | exact meas_ HLT.out (by have := HLT.out; have := HLL.out; omega))
                  · have ro0_ : decide ((r : Int) = (o : Int)) = false := decide_eq_false (by omega)
                    have ro1_ : ((r : Int) == (o : Int)) = false := beq_eq_false_iff_ne.2 (by omega)
                    have ro2_ : ((r : Int) = (o : Int)) = False := eq_false (by omega)
                    have ro3_ : ((r : Int) != (o : Int)) = true := bne_iff_ne.2 (by omega)
                    have ro4_ : decide (r = o) = false := decide_eq_false (by omega)
                    have ro5_ : (r = o) = False := eq_false (by omega)
                    have ro6_ : (r == o) = false := beq_eq_false_iff_ne.2 (by omega)
                    clear hro
                    go_wp2_with (first | (go_at_call 13; have _t := t0; (with_reducible refine (as_Raw HS.out r HR2.out (r : Int) rfl LX_.out).mono ?_); rintro e w11 ⟨v_, rfl, hR, hb⟩; rw [HXR.out] at hR; obtain ⟨Aw, cw, rfl, hl_, hC_⟩ := Kd.R_reads (show BR _ _ _ XR from hR); have RW := Aside0.mk (show BR _ w0.heap.size _ XR from Kd.R_lower hR HS.out.bel.size); replace HS := Aside0.mk (Ast.below HS.out hb); replace BK := Aside0.mk (BK.out.below hb); clear hR hb hl_ hC_ t0 _t) | (go_at_call 13; have _t := t1; (with_reducible refine (as_Raw HS.out o HO2.out (o : Int) rfl LO_.out).mono ?_); rintro e w12 ⟨v_, rfl, hR, hb⟩; rw [HXO.out] at hR; obtain ⟨Ab, cb, rfl, hl_, hC_⟩ := Kd.R_reads (show BR _ _ _ XO from hR); have RB := Aside0.mk (show BR _ w0.heap.size _ XO from Kd.R_lower hR HS.out.bel.size); replace RW := Aside0.mk (Kd.R_below RW.out hb); replace HS := Aside0.mk (Ast.below HS.out hb); replace BK := Aside0.mk (BK.out.below hb); clear hR hb hl_ hC_ t1 _t) | (go_at_call 14; have _t := t2; (with_reducible refine (as_Programs HS.out r HR2.out (r : Int) rfl).mono ?_); rw [HQR.out]; rintro e w13 ⟨rfl, hb⟩; replace RW := Aside0.mk (Kd.R_below RW.out hb); replace RB := Aside0.mk (Kd.R_below RB.out hb); replace HS := Aside0.mk (Ast.below HS.out hb); replace BK := Aside0.mk (BK.out.below hb); clear hb t2 _t) | (go_at_call 11; (with_reducible refine (as_Program_len HS.out r HR2.out (r : Int) rfl Az zs.length cz HNL.out).mono ?_); rintro e w14 ⟨rfl, hb⟩; replace RW := Aside0.mk (Kd.R_below RW.out hb); replace RB := Aside0.mk (Kd.R_below RB.out hb); replace HS := Aside0.mk (Ast.below HS.out hb); replace BK := Aside0.mk (BK.out.below hb); clear hb) | (go_at_call 13; have _t := t3; (with_reducible refine (as_Raw HS.out r HR2.out (r : Int) rfl LX_.out).mono ?_); rintro e w15 ⟨v_, rfl, hR, hb⟩; rw [HXR.out] at hR; obtain ⟨An, cn, rfl, hl_, hC_⟩ := Kd.R_reads (show BR _ _ _ XR from hR); have RN := Aside0.mk (show BR _ w0.heap.size _ XR from Kd.R_lower hR HS.out.bel.size); replace RW := Aside0.mk (Kd.R_below RW.out hb); replace RB := Aside0.mk (Kd.R_below RB.out hb); replace HS := Aside0.mk (Ast.below HS.out hb); replace BK := Aside0.mk (BK.out.below hb); clear hR hb hl_ hC_ t3 _t) | ((with_reducible refine gate_dst (N := 124) rfl ?_); refine load_box rfl rfl g3 rfl BK.out.b3 Try.underlying23 rfl (by kernel_rfl) ?_) | (go_at_call 9; (with_reducible refine (refraw_calls g HOK.out _).mono ?_); rintro e w16 ⟨rfl, hb⟩; replace RW := Aside0.mk (Kd.R_below RW.out hb); replace RB := Aside0.mk (Kd.R_below RB.out hb); replace RN := Aside0.mk (Kd.R_below RN.out hb); replace HS := Aside0.mk (Ast.below HS.out hb); replace BK := Aside0.mk (BK.out.below hb); clear hb) | (go_at_call 26; have _t := t4; (with_reducible refine (and_calls Aw An cw cn XR XR _ (Kd.R_reads' RW.out).2.2 (Kd.R_reads' RW.out).2.1 (Kd.R_reads' RN.out).2.2 (Kd.R_reads' RN.out).2.1 BXR.out BXR.out LR6.out LR6.out).mono ?_); rintro e w17 ⟨v_, rfl, hR, hb⟩; rw [AN1.out] at hR; obtain ⟨Aa, ca, rfl, hl_, hC_⟩ := Kd.R_reads (show BR _ _ _ XR from hR); have RA := Aside0.mk (show BR _ w0.heap.size _ XR from Kd.R_lower hR HS.out.bel.size); replace RW := Aside0.mk (Kd.R_below RW.out hb); replace RB := Aside0.mk (Kd.R_below RB.out hb); replace RN := Aside0.mk (Kd.R_below RN.out hb); replace HS := Aside0.mk (Ast.below HS.out hb); replace BK := Aside0.mk (BK.out.below hb); clear hR hb hl_ hC_ t4 _t) | (go_at_call 12; have _t := t5; (with_reducible refine (same_refl Aa An ca cn XR _ (Kd.R_reads' RA.out).2.2 (Kd.R_reads' RA.out).2.1 (Kd.R_reads' RN.out).2.2 (Kd.R_reads' RN.out).2.1 LR6.out).mono ?_); rintro e w18 ⟨rfl, hb⟩; replace RW := Aside0.mk (Kd.R_below RW.out hb); replace RB := Aside0.mk (Kd.R_below RB.out hb); replace RN := Aside0.mk (Kd.R_below RN.out hb); replace HS := Aside0.mk (Ast.below HS.out hb); replace BK := Aside0.mk (BK.out.below hb); clear hb t5 _t) | (go_at_call 13; have _t := t6; (with_reducible refine (as_Raw HS.out o HO2.out (o : Int) rfl LO_.out).mono ?_); rintro e w19 ⟨v_, rfl, hR, hb⟩; rw [HXO.out] at hR; obtain ⟨Ao, co, rfl, hl_, hC_⟩ := Kd.R_reads (show BR _ _ _ XO from hR); have RO := Aside0.mk (show BR _ w0.heap.size _ XO from Kd.R_lower hR HS.out.bel.size); replace RW := Aside0.mk (Kd.R_below RW.out hb); replace RB := Aside0.mk (Kd.R_below RB.out hb); replace RN := Aside0.mk (Kd.R_below RN.out hb); replace HS := Aside0.mk (Ast.below HS.out hb); replace BK := Aside0.mk (BK.out.below hb); clear hR hb hl_ hC_ t6 _t) | (go_at_call 12; (with_reducible refine (same_refl Ao Ab co cb XO _ (Kd.R_reads' RO.out).2.2 (Kd.R_reads' RO.out).2.1 (Kd.R_reads' RB.out).2.2 (Kd.R_reads' RB.out).2.1 LO6.out).mono ?_); rintro e w20 ⟨rfl, hb⟩; replace RW := Aside0.mk (Kd.R_below RW.out hb); replace RB := Aside0.mk (Kd.R_below RB.out hb); replace RN := Aside0.mk (Kd.R_below RN.out hb); replace HS := Aside0.mk (Ast.below HS.out hb); replace BK := Aside0.mk (BK.out.below hb); clear hb) | (go_at_call 12; (with_reducible refine (same_refl Aw An cw cn XR _ (Kd.R_reads' RW.out).2.2 (Kd.R_reads' RW.out).2.1 (Kd.R_reads' RN.out).2.2 (Kd.R_reads' RN.out).2.1 LR6.out).mono ?_); rintro e w23 ⟨rfl, hb⟩; replace RW := Aside0.mk (Kd.R_below RW.out hb); replace RB := Aside0.mk (Kd.R_below RB.out hb); replace RN := Aside0.mk (Kd.R_below RN.out hb); replace HS := Aside0.mk (Ast.below HS.out hb); replace BK := Aside0.mk (BK.out.below hb); clear hb))
                    go_roundw
                    case rel => exact ⟨i + 1, (by first | rfl | rw [hw_] | simp [hw_]), HLT.out, ⟨X, Q, HS, IX, IQ1⟩, BK⟩
                    case measure => exact (by first | exact meas2_ HLT.out | exact meas_ HLT.out (by have := HLT.out; have := HLL.out; omega))
            · obtain rfl : i = L.length := by omega
              have di1_ : decide ((L.length : Int) < (L.length : Int)) = false := decide_eq_false (by omega)
              have di2_ : decide (L.length < L.length) = false := decide_eq_false (by omega)
              have hn2 := HN2.out
              have hn3 := HN3.out
              have hn5 := HNB0.out
              have hn9 := HN9.out
              have hn10 := HN10.out
              have hb2 := HB2.out
              have ho2 := HO2.out
              have hn0 := HN0.out
              have hp2 := B2.out
              have fz0_ : decide (g.f1 = 0) = false := decide_eq_false (by omega)
              have fz1_ : (g.f1 == 0) = false := beq_eq_false_iff_ne.2 (by omega)
              have fz2_ : (g.f1 = 0) = False := eq_false (by omega)
              have fz3_ : (g.f1 != 0) = true := bne_iff_ne.2 (by omega)
              have gz0_ : decide (g.f2 = 0) = false := decide_eq_false (by omega)
              have gz1_ : (g.f2 == 0) = false := beq_eq_false_iff_ne.2 (by omega)
              have gz2_ : (g.f2 = 0) = False := eq_false (by omega)
              have gz3_ : (g.f2 != 0) = true := bne_iff_ne.2 (by omega)
              have wb_ : wrap64 (b : Int) = (b : Int) := by unfold wrap64; omega
              have wp2_ : wrap64 p2 = p2 := by unfold wrap64; omega
              obtain ⟨OB, hOB⟩ : ∃ z_, o / pg = z_ := ⟨_, rfl⟩
              have HOBB := Aside0.mk hOB
              have hob1 : OB < nb := by rw [← hOB]; exact HOB.out
              have wob_ : wrap64 (OB : Int) = (OB : Int) := by unfold wrap64; omega
              have qob_ : (o : Int).tdiv g.f2 = (OB : Int) := by rw [hn3, quo_nat, hOB]
              have rb_ := HBO.out
              obtain ⟨XO, hXO⟩ : ∃ z_, X o = z_ := ⟨_, rfl⟩
              have ho3 := IX.out o HO2.out
              rw [hXO] at ho3
              have HXO := Aside0.mk hXO
              have LO6 : Aside0 (XO.length < 1000000) := ⟨by have := LRN.out; omega⟩
              have LO_ : Aside0 ((X o).length ≤ 100000) := ⟨by rw [hXO]; have := LRN.out; omega⟩
              obtain ⟨XE, hXE⟩ : ∃ z_, ersX FF X (b * pg) pg = z_ := ⟨_, rfl⟩
              obtain ⟨QE, hQE⟩ : ∃ z_, ersQ Q (b * pg) pg = z_ := ⟨_, rfl⟩
              obtain ⟨EE, hEE⟩ : ∃ z_, updN (fun _ => (0 : Int)) b 1 = z_ := ⟨_, rfl⟩
              have HXE := Aside0.mk hXE
              have HQE := Aside0.mk hQE
              have HEE := Aside0.mk hEE
              have EB : Aside0 (EE b = 1) := ⟨by rw [← hEE]; exact if_pos rfl⟩
              have E0 : Aside0 (0 ≤ (fun _ => (0 : Int)) b ∧ (fun _ => (0 : Int)) b ≤ 1000000) := ⟨⟨Int.le_refl 0, (show (0 : Int) ≤ 1000000 by decide)⟩⟩
              have t0 : True := trivial
              have t1 : True := trivial
              have t2 : True := trivial
              have t3 : True := trivial
              clear hi hlt hn2 hn3 hn5 hn9 hn10 hb2 ho2 hn0 hp2 hOB hXO ho3 hXE hQE hEE
              by_cases hob : OB = b
              · have ob0_ : decide ((OB : Int) = (b : Int)) = true := decide_eq_true (by omega)
                have ob1_ : ((OB : Int) == (b : Int)) = true := beq_iff_eq.2 (by omega)
                have ob2_ : ((OB : Int) = (b : Int)) = True := eq_true (by omega)
                have ob3_ : ((OB : Int) != (b : Int)) = false := bne_eq_false_iff_eq.2 (by omega)
                have ob4_ : decide (OB = b) = true := decide_eq_true (by omega)
                have ob5_ : (OB = b) = True := eq_true (by omega)
                have ob6_ : (OB == b) = true := beq_iff_eq.2 (by omega)
                have XEO : Aside0 (XE o = FF) := ⟨by rw [← HXE.out]; exact if_pos ((in_block HN9.out).2 (HOBB.out.trans hob))⟩
                have QEO : Aside0 ((QE o).1 = 0) := ⟨by rw [← HQE.out]; exact congrArg Prod.fst (if_pos ((in_block HN9.out).2 (HOBB.out.trans hob)))⟩
                have LE_ : Aside0 ((XE o).length ≤ 100000) := ⟨by rw [XEO.out, LF.out]; have := LRN.out; omega⟩
                clear hob hob1
                go_wp2_with (first | (go_at_call 13; have _t := t0; (with_reducible refine (as_Raw HS.out o HO2.out (o : Int) rfl LO_.out).mono ?_); rintro e w30 ⟨v_, rfl, hR, hb⟩; rw [HXO.out] at hR; obtain ⟨Ab, cb, rfl, hl_, hC_⟩ := Kd.R_reads (show BR _ _ _ XO from hR); have RB := Aside0.mk (show BR _ w0.heap.size _ XO from Kd.R_lower hR HS.out.bel.size); replace HS := Aside0.mk (Ast.below HS.out hb); replace BK := Aside0.mk (BK.out.below hb); have z1_ := BK.out.f1; have z5_ := BK.out.a2; clear hR hb hl_ hC_ t0 _t) | (go_at_call 21; (with_reducible refine (as_Erase HS.out HGB.out (b : Int) rfl E0.out).mono ?_); rintro e w31 ⟨rfl, hA, ht⟩; rw [HFF.out] at hA; have hA2 : Aside0 (Ast w0 w31 ga gr cr ge ce n nb g (XE) (QE) (EE)) := ⟨by rw [← HXE.out, ← HQE.out, ← HEE.out]; exact hA⟩; replace RB := Aside0.mk (HS.out.keep2 RB.out ht); replace BK := Aside0.mk (BK.out.ers HS.out ht); clear HS; have HS := hA2; clear hA hA2 ht z1_ z5_) | (go_at_call 25; have _t := t1; (with_reducible refine (as_Erases HS.out HGB.out (b : Int) rfl).mono ?_); rw [EB.out]; rintro e w32 ⟨rfl, hb⟩; replace RB := Aside0.mk (Kd.R_below RB.out hb); replace HS := Aside0.mk (Ast.below HS.out hb); replace BK := Aside0.mk (BK.out.below hb); have z2_ := BK.out.f2; clear hb t1 _t) | (go_at_call 13; have _t := t2; (with_reducible refine (as_Raw HS.out o HO2.out (o : Int) rfl LE_.out).mono ?_); rintro e w33 ⟨v_, rfl, hR, hb⟩; rw [XEO.out] at hR; obtain ⟨Ar, ck, rfl, hl_, hC_⟩ := Kd.R_reads (show BR _ _ _ FF from hR); have RR_ := Aside0.mk (show BR _ w0.heap.size _ FF from Kd.R_lower hR HS.out.bel.size); replace RB := Aside0.mk (Kd.R_below RB.out hb); replace HS := Aside0.mk (Ast.below HS.out hb); replace BK := Aside0.mk (BK.out.below hb); clear hR hb hl_ hC_ t2 _t) | (go_at_call 27; (with_reducible refine (zeros_full Ar ck (rawN g) FF _ HFF.out.symm LRN.out (Kd.R_reads' RR_.out).2.2 (Kd.R_reads' RR_.out).2.1).mono ?_); rintro e w34 ⟨rfl, hb⟩; replace RB := Aside0.mk (Kd.R_below RB.out hb); replace HS := Aside0.mk (Ast.below HS.out hb); replace BK := Aside0.mk (BK.out.below hb); clear hb) | (go_at_call 14; (with_reducible refine (as_Programs HS.out o HO2.out (o : Int) rfl).mono ?_); rw [QEO.out]; rintro e w35 ⟨rfl, hb⟩; replace RB := Aside0.mk (Kd.R_below RB.out hb); replace HS := Aside0.mk (Ast.below HS.out hb); replace BK := Aside0.mk (BK.out.below hb); clear hb))
                go_ret
                exact ⟨rfl, HS.out.bel⟩
              · have ob0_ : decide ((OB : Int) = (b : Int)) = false := decide_eq_false (by omega)
                have ob1_ : ((OB : Int) == (b : Int)) = false := beq_eq_false_iff_ne.2 (by omega)
                have ob2_ : ((OB : Int) = (b : Int)) = False := eq_false (by omega)
                have ob3_ : ((OB : Int) != (b : Int)) = true := bne_iff_ne.2 (by omega)
                have ob4_ : decide (OB = b) = false := decide_eq_false (by omega)
                have ob5_ : (OB = b) = False := eq_false (by omega)
                have ob6_ : (OB == b) = false := beq_eq_false_iff_ne.2 (by omega)
                have XEO : Aside0 (XE o = XO) := ⟨by rw [← HXE.out, ← HXO.out]; exact if_neg (fun e => hob (HOBB.out.symm.trans ((in_block HN9.out).1 e)))⟩
                have EO : Aside0 (EE OB = 0) := ⟨by rw [← HEE.out]; exact if_neg hob⟩
                have LE_ : Aside0 ((XE o).length ≤ 100000) := ⟨by rw [XEO.out]; have := LO6.out; have := LO_.out; rw [HXO.out] at this; exact this⟩
                have HGO2 := HGO.out
                rw [HOBB.out] at HGO2
                have HG2 := Aside0.mk HGO2
                clear hob hob1 HGO2
                go_wp2_with (first | (go_at_call 13; have _t := t0; (with_reducible refine (as_Raw HS.out o HO2.out (o : Int) rfl LO_.out).mono ?_); rintro e w30 ⟨v_, rfl, hR, hb⟩; rw [HXO.out] at hR; obtain ⟨Ab, cb, rfl, hl_, hC_⟩ := Kd.R_reads (show BR _ _ _ XO from hR); have RB := Aside0.mk (show BR _ w0.heap.size _ XO from Kd.R_lower hR HS.out.bel.size); replace HS := Aside0.mk (Ast.below HS.out hb); replace BK := Aside0.mk (BK.out.below hb); have z1_ := BK.out.f1; have z5_ := BK.out.a2; clear hR hb hl_ hC_ t0 _t) | (go_at_call 21; (with_reducible refine (as_Erase HS.out HGB.out (b : Int) rfl E0.out).mono ?_); rintro e w31 ⟨rfl, hA, ht⟩; rw [HFF.out] at hA; have hA2 : Aside0 (Ast w0 w31 ga gr cr ge ce n nb g (XE) (QE) (EE)) := ⟨by rw [← HXE.out, ← HQE.out, ← HEE.out]; exact hA⟩; replace RB := Aside0.mk (HS.out.keep2 RB.out ht); replace BK := Aside0.mk (BK.out.ers HS.out ht); clear HS; have HS := hA2; clear hA hA2 ht z1_ z5_) | (go_at_call 25; have _t := t1; (with_reducible refine (as_Erases HS.out HGB.out (b : Int) rfl).mono ?_); rw [EB.out]; rintro e w32 ⟨rfl, hb⟩; replace RB := Aside0.mk (Kd.R_below RB.out hb); replace HS := Aside0.mk (Ast.below HS.out hb); replace BK := Aside0.mk (BK.out.below hb); have z2_ := BK.out.f2; clear hb t1 _t) | (go_at_call 13; have _t := t2; (with_reducible refine (as_Raw HS.out o HO2.out (o : Int) rfl LE_.out).mono ?_); rintro e w33 ⟨v_, rfl, hR, hb⟩; rw [XEO.out] at hR; obtain ⟨Ar, ck, rfl, hl_, hC_⟩ := Kd.R_reads (show BR _ _ _ XO from hR); have RR_ := Aside0.mk (show BR _ w0.heap.size _ XO from Kd.R_lower hR HS.out.bel.size); replace RB := Aside0.mk (Kd.R_below RB.out hb); replace HS := Aside0.mk (Ast.below HS.out hb); replace BK := Aside0.mk (BK.out.below hb); clear z2_; clear hR hb hl_ hC_ t2 _t) | (go_at_call 12; (with_reducible refine (same_refl Ar Ab ck cb XO _ (Kd.R_reads' RR_.out).2.2 (Kd.R_reads' RR_.out).2.1 (Kd.R_reads' RB.out).2.2 (Kd.R_reads' RB.out).2.1 LO6.out).mono ?_); rintro e w34 ⟨rfl, hb⟩; replace RB := Aside0.mk (Kd.R_below RB.out hb); replace HS := Aside0.mk (Ast.below HS.out hb); replace BK := Aside0.mk (BK.out.below hb); have z2_ := BK.out.f2; clear hb) | (go_at_call 25; have _t := t3; (with_reducible refine (as_Erases HS.out HG2.out (OB : Int) rfl).mono ?_); rw [EO.out]; rintro e w35 ⟨rfl, hb⟩; replace RB := Aside0.mk (Kd.R_below RB.out hb); replace HS := Aside0.mk (Ast.below HS.out hb); replace BK := Aside0.mk (BK.out.below hb); clear hb _t t3))
                go_ret
                exact ⟨rfl, HS.out.bel⟩
      · have HRT : Aside0 (decide (okG g) = false) := ⟨decide_eq_false hok⟩
        clear hsm hok
        go_enter Try.func5, Try.ntmps5
        go_wp2_with (first | ((with_reducible refine gate_dst (N := 3) rfl ?_); refine box_event ?hg (N := 3) ?hd (cs := #[.int .i64 g.f0, .int .i64 g.f1, .int .i64 g.f2, .int .i64 g.f3, .int .i64 g.f4, .int .i64 g.f5, .int .i64 g.f6]) (t := 23) ?hr ?_; (case hd => rfl); (case hg => rfl); (case hr => first | (go_simp; done) | (go_simp; rfl)); intro g3 hg w1 hbox hb; have HB := Aside0.mk hb; have BK3 := Aside0.mk hbox; clear hg hbox hb) | ((with_reducible refine gate_dst (N := 5) rfl ?_); refine box_event ?hg (N := 5) ?hd (cs := #[.int .u8 p0, .int .u8 p1, .int .u8 p2]) (t := 50) ?hr ?_; (case hd => rfl); (case hg => rfl); (case hr => first | (go_simp; done) | (go_simp; rfl)); intro g5 hg w2 hbox hb; replace HB := Aside0.mk (below_step HB.out hb); have BK := Aside0.mk (BB.mk (g3 := g3) (g := g) (blk_below BK3.out hb) hbox); clear hg hbox hb BK3) | (go_at_call 6; (with_reducible refine (ar_awake _).mono ?_); rintro e w2 ⟨rfl, hb⟩; replace HB := Aside0.mk (below_step HB.out hb); replace BK := Aside0.mk (BK.out.below hb); clear hb) | (go_at_call 21; (with_reducible refine (ar_Erase_nil 0 _).mono ?_); rintro e w2 ⟨rfl, hb⟩; replace HB := Aside0.mk (below_step HB.out hb); replace BK := Aside0.mk (BK.out.below hb); clear hb) | (go_at_call 11; (with_reducible refine (ar_Program_nil 0 none 0 0 _).mono ?_); rintro e w2 ⟨rfl, hb⟩; replace HB := Aside0.mk (below_step HB.out hb); replace BK := Aside0.mk (BK.out.below hb); clear hb) | (go_at_call 19; (with_reducible refine (ar_Tear_nil 0 none 0 0 _).mono ?_); rintro e w2 ⟨rfl, hb⟩; replace HB := Aside0.mk (below_step HB.out hb); replace BK := Aside0.mk (BK.out.below hb); clear hb) | (go_at_call 23; (with_reducible refine (ar_TearBlock_nil 0 none 0 0 _).mono ?_); rintro e w2 ⟨rfl, hb⟩; replace HB := Aside0.mk (below_step HB.out hb); replace BK := Aside0.mk (BK.out.below hb); clear hb) | (go_at_call 13; (with_reducible refine (ar_Raw_nil 0 _).mono ?_); rintro e w2 ⟨rfl, hb⟩; replace HB := Aside0.mk (below_step HB.out hb); replace BK := Aside0.mk (BK.out.below hb); clear hb) | (go_at_call 15; (with_reducible refine (ar_Torn_nil 0 _).mono ?_); rintro e w2 ⟨rfl, hb⟩; replace HB := Aside0.mk (below_step HB.out hb); replace BK := Aside0.mk (BK.out.below hb); clear hb) | (go_at_call 14; (with_reducible refine (ar_Programs_nil 0 _).mono ?_); rintro e w2 ⟨rfl, hb⟩; replace HB := Aside0.mk (below_step HB.out hb); replace BK := Aside0.mk (BK.out.below hb); clear hb) | (go_at_call 25; (with_reducible refine (ar_Erases_nil 0 _).mono ?_); rintro e w2 ⟨rfl, hb⟩; replace HB := Aside0.mk (below_step HB.out hb); replace BK := Aside0.mk (BK.out.below hb); clear hb) | ((with_reducible refine gate_dst (N := 60) rfl ?_); refine load_box rfl rfl g3 rfl BK.out.b3 Try.underlying23 rfl (by kernel_rfl) ?_) | (go_at_call 7; (with_reducible refine (small_calls g _).mono ?_); rw [HSM.out]; rintro e w2 ⟨rfl, hb⟩; replace HB := Aside0.mk (below_step HB.out hb); replace BK := Aside0.mk (BK.out.below hb); clear hb) | ((with_reducible refine gate_dst (N := 69) rfl ?_); (refine gate_guard (by rfl) ?_; dsimp only); refine load_box rfl rfl g3 rfl BK.out.b3 Try.underlying23 rfl (by kernel_rfl) ?_) | (go_at_call 8; (with_reducible refine (right_calls g _).mono ?_); rw [HRT.out]; rintro e w2 ⟨rfl, hb⟩; replace HB := Aside0.mk (below_step HB.out hb); replace BK := Aside0.mk (BK.out.below hb); clear hb))
        go_ret
        exact ⟨rfl, HB.out⟩
end Go.Proofs.Ytlhjnhjghjdeeaa.QArrayFits
namespace Go.Proofs.Ytlhjnhjghjdeeaa.QArrayFits
open Go.RowKit Go.Proofs.YtlhjnhjghjdeeaaW.PrintWords
set_option linter.unusedVariables false
def isB (x : Int) : Bool := decide (0 ≤ x ∧ x < 256)
def incunablelaw13_ArrayFits.f (a0_0 a0_1 a0_2 a0_3 a0_4 a0_5 a0_6 : Int) (l1 : List (List Int)) (a2_0 a2_1 a2_2 : Int) : Option Bool := if l1.all (fun l => l.all isB) = true ∧ isB a2_0 = true ∧ isB a2_1 = true ∧ isB a2_2 = true then some true else none
theorem incunablelaw13_ArrayFits.calls (a0_0 a0_1 a0_2 a0_3 a0_4 a0_5 a0_6 : Int) (A1 : Option Addr) (c1 : Nat) (l1 : List (List Int)) (a2_0 a2_1 a2_2 : Int) (r : Bool) (w : World) (hr1 : Kd.C (Kd.slice 5 (Kd.int .u8)) w A1 l1.length l1) (hc1 : l1.length ≤ c1) (h : incunablelaw13_ArrayFits.f a0_0 a0_1 a0_2 a0_3 a0_4 a0_5 a0_6 l1 a2_0 a2_1 a2_2 = some r) :
    Calls Try.prog 5 #[.agg #[.int .i64 a0_0, .int .i64 a0_1, .int .i64 a0_2, .int .i64 a0_3, .int .i64 a0_4, .int .i64 a0_5, .int .i64 a0_6], .slice A1 l1.length c1, .agg #[.int .u8 a2_0, .int .u8 a2_1, .int .u8 a2_2]] w fun e w' => e = .returned (.bool r) ∧ Below w.heap.size w w' := by
  unfold incunablelaw13_ArrayFits.f at h
  split at h
  · rename_i hn
    obtain rfl := Option.some.inj h
    exact af_law ⟨a0_0, a0_1, a0_2, a0_3, a0_4, a0_5, a0_6⟩ A1 c1 l1 a2_0 a2_1 a2_2 w hr1 hc1 (fun z hz x hx => of_decide_eq_true (List.all_eq_true.1 (List.all_eq_true.1 hn.1 z hz) x hx)) (of_decide_eq_true hn.2.1) (of_decide_eq_true hn.2.2.1) (of_decide_eq_true hn.2.2.2)
  · cases h
end Go.Proofs.Ytlhjnhjghjdeeaa.QArrayFits
namespace Go.Proofs.Ytlhjnhjghjdeeaa.OpenKit
open Go.RowKit Go.Proofs.YtlhjnhjghjdeeaaW.PrintWords Go.ChangeShapes Go.WideShapes
def Opens {α : Type} (P : Program) (t : TypeId) (d : Kd α) (wf : α → Prop) : Prop :=
  ∀ {H : Type} (enc : TypeId × Value → H) (W : World) (spare : Nat → Bool) (held : Bool) (fuel : Nat) (cs : List Value) (x : DataW H × List MemPlace),
    DataW.trod enc P W 0 spare held fuel t cs = some x → ∃ a, d.K W a cs ∧ wf a
section
variable {P : Program} {t e : TypeId}
theorem opens_int {k : IntKind} (ht : P.underlying t = some (.int k)) : Opens P t (Kd.int k) (fun a => (Lit.int k a).wf = true) := by
  intro H enc W spare held fuel cs x h
  obtain ⟨n, rfl, _, hw⟩ := DataW.trod_int ht h
  exact ⟨n, rfl, hw⟩
theorem cells_some {W : World} {a : Addr} {n : Nat} {cs : List Value} (h : W.cells? 0 a n = some cs) : cs.length = n ∧ ∀ i u, cs[i]? = some u → W.cell? (a.add i) = some u := by
  unfold World.cells? at h
  rw [if_pos (Nat.zero_le _)] at h
  have hl := mapM_some_length h
  rw [List.length_range] at hl
  refine ⟨hl, fun i u hu => ?_⟩
  have hi : i < n := by
    rw [← hl]
    exact (List.getElem?_eq_some_iff.1 hu).1
  have := mapM_some_get h i i (by simp [hi])
  rw [this, hu]
theorem opens_slice {α : Type} [Inhabited α] {d : Kd α} {wf : α → Prop} (ht : P.underlying t = some (.slice e)) (he : Opens P e d wf) (hsz : P.cellsOf e = d.sz) :
    Opens P t (Kd.slice e d) (fun xs => xs.length ≤ maxLen ∧ ∀ x ∈ xs, wf x) := by
  intro H enc W spare held fuel cs x h
  rcases Go.Deep.open_slice ht h with ⟨rfl, _⟩ | ⟨a, len, cap, m, n, D, Pl, rfl, _, hl, hm, hmm, _, hel⟩
  · exact ⟨[], ⟨none, 0, rfl, Nat.le_refl _, ⟨rfl, Nat.zero_le _, fun h => absurd h (Nat.lt_irrefl 0)⟩⟩, Nat.zero_le _, by simp⟩
  have hlm : len ≤ m := by rw [hmm]; split <;> omega
  have hx : ∀ i, i < len → ∃ y : α, ∃ c : List Value, c.length = d.sz ∧ d.K W y c ∧ wf y ∧ ∀ j u, c[j]? = some u → W.cell? ((a.add (i * d.sz)).add j) = some u := by
    intro i hi
    obtain ⟨c, hc, hr⟩ := hel i (by omega)
    obtain ⟨y, hy, hw⟩ := he enc W spare held n c _ hr
    rw [hsz] at hc
    obtain ⟨h1, h2⟩ := cells_some hc
    exact ⟨y, c, h1, hy, hw, h2⟩
  obtain ⟨f, hf⟩ := Go.Deep.choose_lt hx
  have hlen : ((List.range len).map f).length = len := by simp
  have hmax : len ≤ maxLen := Nat.le_trans hl hm
  refine ⟨(List.range len).map f, ⟨some a, cap, by rw [hlen], by rw [hlen]; exact hl, ?_⟩, by rw [hlen]; exact hmax, ?_⟩
  · refine ⟨rfl, by rw [hlen]; exact hmax, fun _ => ⟨a, rfl, fun j p hj => ?_⟩⟩
    have hj' : j < len := by
      have := (List.getElem?_eq_some_iff.1 hj).1
      rwa [hlen] at this
    have e1 : f j = p := by simpa [hj'] using hj
    subst e1
    obtain ⟨c, h1, h2, _, h3⟩ := hf j hj'
    exact ⟨c, h1, h2, fun i u hu => by rw [← Go.Deep.add_add]; exact h3 i u hu⟩
  · intro y hy
    obtain ⟨i, hi, rfl⟩ := List.mem_map.1 hy
    obtain ⟨_, _, _, hw, _⟩ := hf i (List.mem_range.1 hi)
    exact hw
def OpensF {α : Type} (P : Program) (o : Nat) (fs : List Field) (d : Kd α) (wf : α → Prop) : Prop :=
  ∀ {H : Type} (enc : TypeId × Value → H) (W : World) (spare : Nat → Bool) (held : Bool) (n : Nat) (cs : List Value),
    (∀ f, f ∈ fs → ∃ x, DataW.trod enc P W 0 spare held n f.type ((cs.drop f.offset).take (P.cellsOf f.type)) = some x) → ∃ a, d.K W a ((cs.drop o).take d.sz) ∧ wf a
theorem opensF_one {α : Type} {d : Kd α} {wf : α → Prop} {f : Field} {o : Nat} (ho : f.offset = o) (he : Opens P f.type d wf) (hsz : P.cellsOf f.type = d.sz) : OpensF P o [f] d wf := by
  intro H enc W spare held n cs h
  obtain ⟨x, hx⟩ := h f (by simp)
  rw [ho, hsz] at hx
  exact he enc W spare held n _ _ hx
theorem opensF_cons {α β : Type} {d : Kd α} {d' : Kd β} {wf : α → Prop} {wf' : β → Prop} {f : Field} {fs : List Field} {o : Nat} (ho : f.offset = o) (he : Opens P f.type d wf) (hsz : P.cellsOf f.type = d.sz)
    (hr : OpensF P (o + d.sz) fs d' wf') : OpensF P o (f :: fs) (Kd.pair d d') (fun x => wf x.1 ∧ wf' x.2) := by
  intro H enc W spare held n cs h
  obtain ⟨x, hx⟩ := h f (by simp)
  rw [ho, hsz] at hx
  obtain ⟨a, ha, hwa⟩ := he enc W spare held n _ _ hx
  obtain ⟨b, hb, hwb⟩ := hr enc W spare held n cs fun g hg => h g (by simp [hg])
  refine ⟨(a, b), ⟨_, _, ?_, ha, hb⟩, hwa, hwb⟩
  show (cs.drop o).take (d.sz + d'.sz) = _
  rw [List.take_add, List.drop_drop]
theorem opens_struct {α β : Type} {d : Kd α} {wf : α → Prop} {fs : Array Field} (ht : P.underlying t = some (.struct fs)) (hf : OpensF P 0 fs.toList d wf) (hsz : P.cellsOf t = d.sz) (g : β → α) (mk : α → β) (hg : ∀ x, g (mk x) = x) :
    Opens P t (Kd.iso d g) (fun y => wf (g y)) := by
  intro H enc W spare held fuel cs x h
  obtain ⟨xs, n, _, _, hl, hn, hfs⟩ := DataW.trod_struct ht h
  obtain ⟨a, ha, hw⟩ := hf enc W spare held n cs (by
    intro f hf
    obtain ⟨i, hi, e⟩ := List.getElem_of_mem hf
    have e' : fs[i]? = some f := by
      rw [← Array.getElem?_toList]
      rw [List.getElem?_eq_getElem hi, e]
    have hlt : i < xs.length := by rw [hn]; simpa using hi
    exact ⟨xs[i], by rw [hfs i f e', List.getElem?_eq_getElem hlt]⟩)
  refine ⟨mk a, ?_, ?_⟩
  · show d.K W (g (mk a)) cs
    rw [hg]
    rwa [List.drop_zero, List.take_of_length_le (by omega)] at ha
  · show wf (g (mk a))
    rw [hg]
    exact hw
theorem okWide_array {n : Nat} {w : World} {r : Reach} {base : Nat} {v : Value} (ht : P.underlying t = some (.array n e)) (h : Value.okWide P w r base t v) : ∃ cs, v = .agg cs ∧ cs.size = P.cellsOf t := by
  simp only [Value.okWide, ht] at h
  obtain ⟨cs, h1, h2, _⟩ := h
  exact ⟨cs, h1, h2⟩
theorem opens_array {α β : Type} {d : Kd α} {wf : α → Prop} {n : Nat} (ht : P.underlying t = some (.array n e)) (fs : List Field) (hc : P.cellsOf e = 1) (hfs : (fs.all fun f => f.type == e && decide (f.offset < n)) = true)
    (hf : OpensF P 0 fs d wf) (hsz : P.cellsOf t = d.sz) (g : β → α) (mk : α → β) (hg : ∀ x, g (mk x) = x) : Opens P t (Kd.iso d g) (fun y => wf (g y)) := by
  intro H enc W spare held fuel cs x h
  obtain ⟨xs, m, _, _, hl, hn, hel⟩ := DataW.trod_array ht h
  obtain ⟨a, ha, hw⟩ := hf enc W spare held m cs (by
    intro f hf
    have h2 := List.all_eq_true.1 hfs f hf
    simp only [Bool.and_eq_true, beq_iff_eq, decide_eq_true_eq] at h2
    obtain ⟨e1, e2⟩ := h2
    have h3 := hel f.offset e2
    rw [hc, Nat.mul_one, List.getElem?_eq_getElem (by omega)] at h3
    rw [e1, hc]
    exact ⟨_, h3⟩)
  refine ⟨mk a, ?_, ?_⟩
  · show d.K W (g (mk a)) cs
    rw [hg]
    rwa [List.drop_zero, List.take_of_length_le (by omega)] at ha
  · show wf (g (mk a))
    rw [hg]
    exact hw
theorem sized_any {H : Type} {enc : TypeId × Value → H} {W : World} {base : Nat} {spare : Nat → Bool} {held : Bool} {a : Option Addr} {len cap : Nat} {d : DataW H} {ps : List MemPlace} {ts : List TypeId} {ds : List (DataW H)} {j : Nat}
    (hsz : (DataW.weightsEach P ts ds).all (· ≤ reachBytes) = true) (ht : ts[j]? = some t) (hd : ds[j]? = some d) (hu : P.underlying t = some (.slice e)) {B : Nat} (hB : P.bytesOf e = B)
    (h : DataW.Trod enc P W base spare held t (.slice a len cap) d ps) : len * B ≤ 140737488351232 := by
  obtain ⟨fuel, hf⟩ := h
  rcases Go.Deep.open_slice hu hf with ⟨hcs, _⟩ | ⟨x, l, c, m, n, D, Pl, hcs, _, hl, _, _, hx, _⟩
  · simp [Value.cells] at hcs
    obtain ⟨rfl, rfl, rfl⟩ := hcs
    simp
  · simp [Value.cells] at hcs
    obtain ⟨rfl, rfl, rfl⟩ := hcs
    obtain ⟨hx, _⟩ := Prod.mk.inj hx
    subst hx
    have z := sized_slice hsz ht hd hu
    rw [hB] at z
    refine Nat.le_trans (Nat.mul_le_mul_right _ ?_) z
    simp
end
end Go.Proofs.Ytlhjnhjghjdeeaa.OpenKit
namespace Go.Proofs.Ytlhjnhjghjdeeaa.QArrayFits
open Go.RowKit Go.Proofs.YtlhjnhjghjdeeaaW.PrintWords
structure S50 where
  f0 : Int
  f1 : Int
  f2 : Int
def z50 : S50 := ⟨0, 0, 0⟩
def k50 : Kd S50 := Kd.iso (Kd.pair (Kd.int .u8) (Kd.pair (Kd.int .u8) (Kd.int .u8))) (fun x : S50 => (x.f0, x.f1, x.f2))
theorem k50_open {w : World} {x : S50} {cs : List Value} (h : k50.K w x cs) : cs = [.int .u8 x.f0, .int .u8 x.f1, .int .u8 x.f2] := by
  obtain ⟨_, _, rfl, rfl, ⟨_, _, rfl, rfl, rfl⟩⟩ := h
  exact rfl
end Go.Proofs.Ytlhjnhjghjdeeaa.QArrayFits
namespace Go.Proofs.Ytlhjnhjghjdeeaa.Pure
open Go.RowKit Go.Proofs.Ytlhjnhjghjdeeaa.QArrayFits Go.Proofs.YtlhjnhjghjdeeaaW.PrintWords
def StmArrayFits : Prop := ∀ (x0 : S23) (l1 : List (List Int)) (x2 : S50), ((fun y : S23 => (fun a : Int => (Lit.int .i64 a).wf = true) y.f0 ∧ (fun a : Int => (Lit.int .i64 a).wf = true) y.f1 ∧ (fun a : Int => (Lit.int .i64 a).wf = true) y.f2 ∧ (fun a : Int => (Lit.int .i64 a).wf = true) y.f3 ∧ (fun a : Int => (Lit.int .i64 a).wf = true) y.f4 ∧ (fun a : Int => (Lit.int .i64 a).wf = true) y.f5 ∧ (fun a : Int => (Lit.int .i64 a).wf = true) y.f6) x0) → (l1.length * 24 ≤ 140737488351232) → ((fun xs : List (List Int) => xs.length ≤ maxLen ∧ ∀ x ∈ xs, (fun xs : List Int => xs.length ≤ maxLen ∧ ∀ x ∈ xs, (fun a : Int => (Lit.int .u8 a).wf = true) x) x) l1) → ((fun y : S50 => (fun a : Int => (Lit.int .u8 a).wf = true) y.f0 ∧ (fun a : Int => (Lit.int .u8 a).wf = true) y.f1 ∧ (fun a : Int => (Lit.int .u8 a).wf = true) y.f2) x2) → incunablelaw13_ArrayFits.f x0.f0 x0.f1 x0.f2 x0.f3 x0.f4 x0.f5 x0.f6 l1 x2.f0 x2.f1 x2.f2 = some true
end Go.Proofs.Ytlhjnhjghjdeeaa.Pure
namespace Go.Proofs.Ytlhjnhjghjdeeaa.Pure
set_option linter.unusedVariables false
open Go.RowKit Go.Proofs.Ytlhjnhjghjdeeaa.QArrayFits Go.Proofs.YtlhjnhjghjdeeaaW.PrintWords
theorem isB_of {x : Int} (h : (Lit.int .u8 x).wf = true) : isB x = true := by
  have h1 : IntKind.u8.min = 0 := by decide
  have h2 : IntKind.u8.max = 255 := by decide
  simp only [Lit.wf, h1, h2, Bool.and_eq_true, decide_eq_true_eq] at h
  exact decide_eq_true (by omega)
theorem ArrayFits : StmArrayFits := by
  intro g l1 x2 _ _ h1 h2
  unfold incunablelaw13_ArrayFits.f
  exact if_pos ⟨List.all_eq_true.2 (fun l hl => List.all_eq_true.2 (fun x hx => isB_of ((h1.2 l hl).2 x hx))), isB_of h2.1, isB_of h2.2.1, isB_of h2.2.2⟩
end Go.Proofs.Ytlhjnhjghjdeeaa.Pure
