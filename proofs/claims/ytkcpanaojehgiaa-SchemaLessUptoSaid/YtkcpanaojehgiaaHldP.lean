/- Holds: the code's answer is the document's, in plain words. -/
import Derived.Test.YtkcpanaojehgiaaHldE
import Derived.Test.YtkcpanaojehgiaaHldS
namespace Go.Proofs.Ytkcpanaojehgiaa
set_option linter.unusedVariables false

theorem firstO_some {l : List Ft} {i : Nat} {a : Attr} (hi : i < l.length) (h : firstO l i = some a) : madeR l a.id = some a ∧ 10 ≤ a.id ∧ 1 ≤ a.type ∧ a.type ≤ 7 ∧ a.id = (l.getD i default).e := by
  unfold firstO at h
  split at h
  · cases h
  · have h2 := madeO_id h
    rw [h2.1]
    exact ⟨h, h2.2.1, h2.2.2.1, h2.2.2.2, rfl⟩
theorem builtin_mem {a : Attr} (h : a ∈ builtinL) : 1 ≤ a.id ∧ a.id < 10 ∧ 1 ≤ a.type ∧ a.type ≤ 7 := by
  simp only [builtinL, List.mem_cons, List.not_mem_nil, or_false] at h
  rcases h with rfl | rfl | rfl | rfl | rfl | rfl | rfl <;> decide
theorem builtin_one {a b : Attr} (ha : a ∈ builtinL) (hb : b ∈ builtinL) (h : a.id = b.id) : a = b := by
  simp only [builtinL, List.mem_cons, List.not_mem_nil, or_false] at ha hb
  rcases ha with rfl | rfl | rfl | rfl | rfl | rfl | rfl <;> rcases hb with rfl | rfl | rfl | rfl | rfl | rfl | rfl <;> first | rfl | exact absurd h (by decide)
theorem attrs_mem {l : List Ft} {a : Attr} (h : a ∈ attrsOf l) : a ∈ builtinL ∨ (madeR l a.id = some a ∧ 10 ≤ a.id ∧ 1 ≤ a.type ∧ a.type ≤ 7) := by
  rcases List.mem_append.1 h with h | h
  · exact .inl h
  · obtain ⟨i, hi, h2⟩ := List.mem_filterMap.1 h
    have h3 := firstO_some (List.mem_range.1 hi) h2
    exact .inr ⟨h3.1, h3.2.1, h3.2.2.1, h3.2.2.2.1⟩
theorem attrs_one {l : List Ft} {a b : Attr} (ha : a ∈ attrsOf l) (hb : b ∈ attrsOf l) (h : a.id = b.id) : a = b := by
  rcases attrs_mem ha with h1 | h1 <;> rcases attrs_mem hb with h2 | h2
  · exact builtin_one h1 h2 h
  · have := builtin_mem h1; omega
  · have := builtin_mem h2; omega
  · have h3 := h1.1
    rw [h, h2.1] at h3
    injection h3 with h3
    exact h3.symm
theorem attrs_type {l : List Ft} {a : Attr} (ha : a ∈ attrsOf l) : 1 ≤ a.id ∧ 1 ≤ a.type := by
  rcases attrs_mem ha with h | h
  · have := builtin_mem h; omega
  · omega
theorem mapOf_none : ∀ (xs : List Attr) (id : Int), (∀ a ∈ xs, a.id ≠ id) → ∀ f : Int → Attr, xs.foldl putA f id = f id := by
  intro xs
  induction xs with
  | nil => intro id _ f; rfl
  | cons a r ih =>
    intro id h f
    rw [List.foldl_cons, ih id (fun b hb => h b (List.mem_cons_of_mem _ hb))]
    unfold putA
    rw [if_neg (fun e => h a List.mem_cons_self e.symm)]
theorem mapOf_some : ∀ (xs : List Attr) (id : Int), (∃ a ∈ xs, a.id = id) → ∀ f : Int → Attr, xs.foldl putA f id ∈ xs ∧ (xs.foldl putA f id).id = id := by
  intro xs
  induction xs with
  | nil => intro id ⟨a, h, _⟩; cases h
  | cons a r ih =>
    intro id h f
    rw [List.foldl_cons]
    by_cases hr : ∃ b ∈ r, b.id = id
    · have := ih id hr (putA f a)
      exact ⟨List.mem_cons_of_mem _ this.1, this.2⟩
    · have hn : ∀ b ∈ r, b.id ≠ id := fun b hb e => hr ⟨b, hb, e⟩
      rw [mapOf_none r id hn]
      obtain ⟨b, hb, e⟩ := h
      rcases List.mem_cons.1 hb with rfl | hb
      · unfold putA
        rw [if_pos e.symm]
        exact ⟨List.mem_cons_self, e⟩
      · exact absurd e (hn b hb)
theorem isA_iff (A : List Attr) (id : Int) : isA A id = true ↔ ∃ a ∈ A, a.id = id := by
  unfold isA
  rw [List.findIdx?_isSome, List.any_eq_true]
  constructor
  · rintro ⟨a, ha, h⟩; exact ⟨a, ha, by simpa [byID] using h⟩
  · rintro ⟨a, ha, h⟩; exact ⟨a, ha, by simp [byID, h]⟩
theorem atA_some {A : List Attr} {id : Int} (h : isA A id = true) : atA A id ∈ A ∧ (atA A id).id = id := by
  unfold isA at h
  unfold atA
  cases hf : A.findIdx? (byID id) with
  | none => rw [hf] at h; cases h
  | some i =>
    obtain ⟨hi, hp, -⟩ := List.findIdx?_eq_some_iff_getElem.1 hf
    simp only [findA]
    rw [getD_at A _ i hi]
    exact ⟨List.getElem_mem hi, by simpa [byID] using hp⟩
theorem mapOf_at {l : List Ft} {id : Int} (h : isA (attrsOf l) id = true) : mapOf (attrsOf l) id = atA (attrsOf l) id := by
  have h1 := mapOf_some (attrsOf l) id ((isA_iff _ _).1 h) (fun _ => zeroA)
  have h2 := atA_some h
  exact attrs_one h1.1 h2.1 (h1.2.trans h2.2.symm)
theorem unknown_eq {l : List Ft} {x : Ft} : unknownB (mapOf (attrsOf l) x.a) x = !isA (attrsOf l) x.a := by
  cases h : isA (attrsOf l) x.a
  · have hn : ∀ a ∈ attrsOf l, a.id ≠ x.a := fun a ha e => by
      have := (isA_iff _ _).2 ⟨a, ha, e⟩
      rw [h] at this
      cases this
    unfold mapOf
    rw [mapOf_none _ _ hn]
    simp [unknownB, zeroA]
  · rw [mapOf_at h]
    have h2 := atA_some h
    have h3 := attrs_type h2.1
    unfold unknownB
    rw [h2.2]
    simp
    omega
theorem typed_eq {a : Attr} {x : Ft} (h : a.id = x.a) : (!typedB a x) = mistypedB a x := by
  unfold typedB mistypedB
  rw [h, show (x.v.kind != a.type) = (a.type != x.v.kind) by simp [bne_comm]]
  cases a.type != x.v.kind <;> cases (x.a == 2 && (decide (x.v.n < 1) || decide (7 < x.v.n))) <;> cases (x.a == 4 && (decide (x.v.n < 0) || decide (2 < x.v.n))) <;> rfl
/-- The first fact of an entity. -/
theorem first_of {l : List Ft} {e : Int} : ∀ (j : Nat), j < l.length → (l.getD j default).e = e → ∃ i, i < l.length ∧ (l.getD i default).e = e ∧ ¬ (0 < i ∧ (l.getD i default).e = (l.getD (i - 1) default).e) := by
  intro j
  induction j with
  | zero => intro hj h; exact ⟨0, hj, h, by omega⟩
  | succ j ih =>
    intro hj h
    by_cases hp : (l.getD (j + 1) default).e = (l.getD j default).e
    · exact ih (by omega) (hp.symm.trans h)
    · exact ⟨j + 1, hj, h, fun h2 => hp h2.2⟩
theorem made_is {l : List Ft} {x : Ft} (hx : x ∈ l) (he : 10 ≤ x.e) : isA (attrsOf l) x.e = (madeR l x.e).isSome := by
  rw [Bool.eq_iff_iff, isA_iff]
  constructor
  · rintro ⟨a, ha, e⟩
    rcases attrs_mem ha with h | h
    · have := builtin_mem h; omega
    · rw [← e, h.1]; rfl
  · intro h
    obtain ⟨a, ha⟩ := Option.isSome_iff_exists.1 h
    obtain ⟨j, hj, rfl⟩ := List.getElem_of_mem hx
    obtain ⟨i, hi, h1, h2⟩ := first_of (l := l) (e := l[j].e) j hj (by rw [getD_at l _ j hj])
    refine ⟨a, List.mem_append_right _ (List.mem_filterMap.2 ⟨i, List.mem_range.2 hi, ?_⟩), (madeO_id ha).1⟩
    unfold firstO
    rw [if_neg h2, h1]
    exact ha
theorem any_congr' {α : Type} {l : List α} {p q : α → Bool} (h : ∀ x ∈ l, p x = q x) : l.any p = l.any q := by
  induction l with
  | nil => rfl
  | cons x r ih => rw [List.any_cons, List.any_cons, h x List.mem_cons_self, ih (fun y hy => h y (List.mem_cons_of_mem _ hy))]
theorem any_or {α : Type} (l : List α) (p q : α → Bool) : (l.any fun x => p x || q x) = (l.any p || l.any q) := by
  induction l with
  | nil => rfl
  | cons x r ih =>
    rw [List.any_cons, List.any_cons, List.any_cons, ih]
    cases p x <;> cases q x <;> cases r.any p <;> cases r.any q <;> rfl
theorem named_any' (l : List Ft) (A : List Attr) : (!namedB l A) = l.any (fun x => !hasB A x) := by
  unfold namedB
  induction l with
  | nil => rfl
  | cons x r ih => rw [List.all_cons, List.any_cons, Bool.not_and, ih]
theorem has_eq {l : List Ft} {x : Ft} (hx : x ∈ l) (hi : isA (attrsOf l) x.a = true) : (!hasB (attrsOf l) x) = (decide (x.a ≤ 2) && decide (10 ≤ x.e) && !(madeR l x.e).isSome) := by
  have h1 := atA_some hi
  have h2 := attrs_type h1.1
  rw [h1.2] at h2
  unfold hasB
  have e1 : (x.a == 1 || x.a == 2) = decide (x.a ≤ 2) := by
    rw [Bool.eq_iff_iff]
    simp
    omega
  rw [e1]
  by_cases he : 10 ≤ x.e
  · rw [show (List.findIdx? (byID x.e) (attrsOf l)).isSome = isA (attrsOf l) x.e from rfl, made_is hx he]
    cases decide (x.a ≤ 2) <;> cases decide (10 ≤ x.e) <;> cases (madeR l x.e).isSome <;> rfl
  · rw [decide_eq_false he]
    cases decide (x.a ≤ 2) <;> rfl
theorem row72_eq {l : List Ft} (h71 : ∀ x ∈ l, isA (attrsOf l) x.a = true) : ((l.any fun x => !typedB (mapOf (attrsOf l) x.a) x) || !namedB l (attrsOf l)) = l.any (w72 l (attrsOf l)) := by
  rw [named_any', ← any_or]
  refine any_congr' (fun x hx => ?_)
  have h := h71 x hx
  rw [mapOf_at h, typed_eq (atA_some h).2, has_eq hx h]
  rfl
theorem meet_comm {a b : List Sp} : Meet a b ↔ Meet b a := ⟨fun ⟨t, h⟩ => ⟨t, h.2, h.1⟩, fun ⟨t, h⟩ => ⟨t, h.2, h.1⟩⟩
theorem meet_eq {x y : Ft} (hx : setB x.sp = true) (hy : setB y.sp = true) : (!(sharedL x.sp y.sp).isEmpty) = !(bothL y.sp x.sp).isEmpty := by
  have h1 := sharedL_meet ((setB_iff _).1 hx) ((setB_iff _).1 hy)
  have h2 := bothL_meet y.sp x.sp
  rw [Bool.eq_iff_iff]
  simp only [Bool.not_eq_true', ← Bool.not_eq_true, List.isEmpty_iff]
  exact h1.trans (meet_comm.trans h2.symm)
theorem clash_eq {l : List Ft} {p q : Ft → Ft → Bool} (hs : ∀ x ∈ l, setB x.sp = true) (h : ∀ x ∈ l, ∀ y ∈ l, (x.a == y.a && p x y) = q x y) : clashB l p = clashR l q := by
  unfold clashB clashR
  refine any_congr' (fun i hi => any_congr' (fun j hj => ?_))
  have hi := List.mem_range.1 hi
  have hj := List.mem_range.1 hj
  have hjl : j < l.length := by omega
  rw [getD_at l _ i hi, getD_at l _ j hjl]
  unfold pairB metR
  rw [meet_eq (hs _ (List.getElem_mem hi)) (hs _ (List.getElem_mem hjl)), h _ (List.getElem_mem hi) _ (List.getElem_mem hjl)]
theorem late_eq {a : Attr} {x : Ft} (ha : a.id = x.a) (hm : x.may = true) (h64 : ∀ s ∈ x.sp, -9223372036854775808 ≤ s.f ∧ s.f ≤ 9223372036854775807 ∧ -9223372036854775808 ≤ s.t ∧ s.t ≤ 9223372036854775807) : lateB a x = w75 x := by
  unfold lateB w75
  rw [ha]
  congr 2
  have h := covers_iff (may_ne hm) ((setB_iff _).1 (may_sp hm)) h64
  rw [Bool.eq_iff_iff]
  unfold wholeB
  rw [List.isEmpty_iff, h]
  unfold whole1
  constructor
  · intro e; rw [e]; rfl
  · intro e
    simp only [Bool.and_eq_true, beq_iff_eq] at e
    obtain ⟨s, hs⟩ := List.length_eq_one_iff.1 e.1.1
    rw [hs] at e ⊢
    simp only [List.getD_cons_zero] at e
    obtain ⟨f, t⟩ := s
    simp only at e
    rw [e.1.2, e.2]
theorem holds_eq {l : List Ft} (h64 : ∀ x ∈ l, ∀ s ∈ x.sp, -9223372036854775808 ≤ s.f ∧ s.f ≤ 9223372036854775807 ∧ -9223372036854775808 ≤ s.t ∧ s.t ≤ 9223372036854775807) : holdsC l = holdsR l := by
  unfold holdsC holdsR
  by_cases he : ofErr l = 0
  · rw [if_neg (by simp [he]), if_neg (by simp [he])]
    have hok : factsB l = true := by
      cases h : factsB l
      · rw [ofErr, h] at he; simp at he
      · rfl
    have hmay := factsB_may hok
    have e71 : (l.any fun x => unknownB (mapOf (attrsOf l) x.a) x) = rowB l (attrsOf l) 0 := any_congr' (fun x _ => unknown_eq)
    unfold rowC rowR
    rw [e71]
    cases h71 : rowB l (attrsOf l) 0
    · have hall : ∀ x ∈ l, isA (attrsOf l) x.a = true := fun x hx => by
        have h := h71
        unfold rowB at h
        rw [if_pos rfl, List.any_eq_false] at h
        simpa using h x hx
      have e72 := row72_eq hall
      have e73 : clashB l (oneB (mapOf (attrsOf l))) = clashR l (two73 (attrsOf l)) := clash_eq (fun x hx => may_sp (hmay x hx)) (fun x hx y hy => by
        unfold oneB two73
        rw [mapOf_at (hall x hx), show (y.e == x.e) = (x.e == y.e) from BEq.comm, show (y.a == x.a) = (x.a == y.a) from BEq.comm]
        cases x.e == y.e <;> cases x.a == y.a <;> rfl)
      have e74 : clashB l (uniqB (mapOf (attrsOf l))) = clashR l (one74 (attrsOf l)) := clash_eq (fun x hx => may_sp (hmay x hx)) (fun x hx y hy => by
        unfold uniqB one74
        rw [mapOf_at (hall x hx), show (y.e != x.e) = (x.e != y.e) by simp [bne_comm], show (y.a == x.a) = (x.a == y.a) from BEq.comm, show decide (y.v = x.v) = decide (x.v = y.v) by rw [decide_eq_decide]; exact eq_comm]
        cases x.e != y.e <;> cases x.a == y.a <;> cases decide (x.v = y.v) <;> rfl)
      have e75 : (l.any fun x => lateB (mapOf (attrsOf l) x.a) x) = l.any w75 := any_congr' (fun x hx => by
        rw [mapOf_at (hall x hx)]
        exact late_eq (atA_some (hall x hx)).2 (hmay x hx) (h64 x hx))
      rw [e72, e73, e74, e75]
      rfl
    · rfl
  · rw [if_pos he, if_pos he]
end Go.Proofs.Ytkcpanaojehgiaa
