/- What facts that hold are, in plain words. -/
import Derived.Test.YtkcpanaojehgiaaHldP
import Derived.Test.YtkcpanaojehgiaaSpnE
namespace Go.Proofs.Ytkcpanaojehgiaa
set_option linter.unusedVariables false

theorem veq_of' {v u : V} (h1 : v.kind = u.kind) (h2 : v.n = u.n) (h3 : v.s = u.s) : v = u := veq_of h1 h2 h3
theorem ofErr_cases (l : List Ft) : ofErr l = 0 ∨ ofErr l = 60 ∨ ofErr l = 70 := by
  unfold ofErr
  split <;> (try split) <;> simp
theorem holds_err {l : List Ft} (h : holdsC l = 0) : ofErr l = 0 := by
  unfold holdsC at h
  split at h
  · exact h
  · rename_i h2; simpa using h2
theorem holds_row {l : List Ft} (h : holdsC l = 0) : rowC l (attrsOf l) (mapOf (attrsOf l)) = 0 := by
  unfold holdsC at h
  rw [if_neg (by rw [holds_err h]; simp)] at h
  exact h
theorem holds_ok {l : List Ft} (h : holdsC l = 0) : factsB l = true := by
  have he := holds_err h
  cases h : factsB l
  · rw [ofErr, h] at he; simp at he
  · rfl
structure RowsOk (l : List Ft) : Prop where
  r71 : (l.any fun x => unknownB (mapOf (attrsOf l) x.a) x) = false
  r72 : (l.any fun x => !typedB (mapOf (attrsOf l) x.a) x) = false
  named : namedB l (attrsOf l) = true
  r73 : clashB l (oneB (mapOf (attrsOf l))) = false
  r74 : clashB l (uniqB (mapOf (attrsOf l))) = false
  r75 : (l.any fun x => lateB (mapOf (attrsOf l) x.a) x) = false
  r76 : (attrsOf l).any partB = false
theorem holds_rows {l : List Ft} (h : holdsC l = 0) : RowsOk l := by
  have h2 := holds_row h
  unfold rowC at h2
  split at h2
  · omega
  rename_i a1
  split at h2
  · omega
  rename_i a2
  split at h2
  · omega
  rename_i a3
  split at h2
  · omega
  rename_i a4
  split at h2
  · omega
  rename_i a5
  split at h2
  · omega
  rename_i a6
  simp only [Bool.not_eq_true] at a1 a2 a3 a4 a5 a6
  rw [Bool.or_eq_false_iff] at a2
  exact ⟨a1, a2.1, by simpa using a2.2, a3, a4, a5, a6⟩
theorem holds_known {l : List Ft} (h : holdsC l = 0) : ∀ x ∈ l, isA (attrsOf l) x.a = true := fun x hx => by
  have h1 := (holds_rows h).r71
  rw [List.any_eq_false] at h1
  have := h1 x hx
  rw [unknown_eq] at this
  simpa using this
theorem holds_type {l : List Ft} (h : holdsC l = 0) : ∀ x ∈ l, isA (attrsOf l) x.a = true ∧ (atA (attrsOf l) x.a).type = x.v.kind := fun x hx => by
  have hk := holds_known h x hx
  refine ⟨hk, ?_⟩
  have h1 := (holds_rows h).r72
  rw [List.any_eq_false] at h1
  have := h1 x hx
  rw [mapOf_at hk] at this
  unfold typedB at this
  simp only [Bool.not_not, Bool.not_eq_true', Bool.and_eq_true, bne_eq_false_iff_eq] at this
  simp at this
  exact this.1.symm
theorem clash_none {l : List Ft} {q : Ft → Ft → Bool} (h : clashB l q = false) {i j : Nat} (hi : i < l.length) (hj : j < i) : pairB q (l.getD i default) (l.getD j default) = false := by
  cases hp : pairB q (l.getD i default) (l.getD j default)
  · rfl
  · rw [clash_yes hi hj hp] at h; cases h
theorem holds_apart {l : List Ft} (h : holdsC l = 0) (t : Int) : ∀ i, i < l.length → ∀ j, j < i → (l.getD j default).a = (l.getD i default).a → inB (l.getD j default).sp t = true → inB (l.getD i default).sp t = true →
    ¬ ((l.getD j default).e = (l.getD i default).e ∧ (atA (attrsOf l) (l.getD i default).a).many = false) ∧
    ¬ ((l.getD j default).v = (l.getD i default).v ∧ (l.getD j default).e ≠ (l.getD i default).e ∧ 0 < (atA (attrsOf l) (l.getD i default).a).unique) := by
  intro i hi j hj ha hyj hyi
  have hjl : j < l.length := by omega
  have hr := holds_rows h
  have h3 := clash_none hr.r73 hi hj
  have h4 := clash_none hr.r74 hi hj
  have hmay := factsB_may (holds_ok h)
  rw [getD_at l _ i hi, getD_at l _ j hjl] at *
  have hk := mapOf_at (holds_known h _ (List.getElem_mem hi))
  have hm : (!(sharedL l[i].sp l[j].sp).isEmpty) = true := by
    have h1 := sharedL_meet ((setB_iff _).1 (may_sp (hmay _ (List.getElem_mem hi)))) ((setB_iff _).1 (may_sp (hmay _ (List.getElem_mem hjl))))
    have h2 : sharedL l[i].sp l[j].sp ≠ [] := h1.2 ⟨t, (inB_iff _ _).1 hyi, (inB_iff _ _).1 hyj⟩
    cases hs : sharedL l[i].sp l[j].sp with
    | nil => exact absurd hs h2
    | cons a r => rfl
  unfold pairB at h3 h4
  rw [hm, ha] at h3 h4
  unfold oneB at h3
  unfold uniqB at h4
  rw [hk] at h3 h4
  simp only [beq_self_eq_true, Bool.true_and, Bool.and_true] at h3 h4
  refine ⟨fun ⟨e1, e2⟩ => ?_, fun ⟨e1, e2, e3⟩ => ?_⟩
  · rw [e1, e2] at h3
    simp at h3
  · rw [e1, decide_eq_true e3] at h4
    simp only [bne, decide_true, Bool.and_true, Bool.not_eq_false'] at h4
    have h5 : l[i].e = l[j].e := by simpa using h4
    exact e2 h5.symm
end Go.Proofs.Ytkcpanaojehgiaa
