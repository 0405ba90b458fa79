/- Facts that hold, some of them gone and some cut down, hold: in plain words. -/
import Derived.Test.YtkcpanaojehgiaaInsP
import Derived.Test.YtkcpanaojehgiaaCmpP
namespace Go.Proofs.Ytkcpanaojehgiaa
set_option linter.unusedVariables false

/-- A fact as it was, or, if its attribute is not built in, cut down. -/
structure CutF (x y : Ft) : Prop where
  e : y.e = x.e
  a : y.a = x.a
  v : y.v = x.v
  sp : y.sp = x.sp ∨ (10 ≤ x.a ∧ SetP y.sp ∧ y.sp ≠ [])
  sub : ∀ t, inS y.sp t → inS x.sp t
theorem CutF.refl (x : Ft) : CutF x x := ⟨rfl, rfl, rfl, .inl rfl, fun _ h => h⟩
/-- Some facts gone, some cut down. -/
inductive Less : List Ft → List Ft → Prop
  | nil : Less [] []
  | take (x y : Ft) (l m : List Ft) : CutF x y → Less l m → Less (x :: l) (y :: m)
  | drop (x : Ft) (l m : List Ft) : 10 ≤ x.a → Less l m → Less (x :: l) m
theorem Less.snoc {l m : List Ft} (h : Less l m) {x y : Ft} (hc : CutF x y) : Less (l ++ [x]) (m ++ [y]) := by
  induction h with
  | nil => exact .take _ _ _ _ hc .nil
  | take a b l m h1 h2 ih => exact .take _ _ _ _ h1 ih
  | drop a l m h1 h2 ih => exact .drop _ _ _ h1 ih
theorem Less.skip {l m : List Ft} (h : Less l m) {x : Ft} (hx : 10 ≤ x.a) : Less (l ++ [x]) m := by
  induction h with
  | nil => exact .drop _ _ _ hx .nil
  | take a b l m h1 h2 ih => exact .take _ _ _ _ h1 ih
  | drop a l m h1 h2 ih => exact .drop _ _ _ h1 ih
theorem Less.len {l m : List Ft} (h : Less l m) : m.length ≤ l.length := by
  induction h with
  | nil => exact Nat.le_refl _
  | take a b l m h1 h2 ih => simp only [List.length_cons]; omega
  | drop a l m h1 h2 ih => simp only [List.length_cons]; omega
theorem Less.mem {l m : List Ft} (h : Less l m) : ∀ y ∈ m, ∃ x ∈ l, CutF x y := by
  induction h with
  | nil => intro y hy; cases hy
  | take a b l m h1 h2 ih =>
    intro y hy
    rcases List.mem_cons.1 hy with rfl | hy
    · exact ⟨a, List.mem_cons_self, h1⟩
    · obtain ⟨x, hx, hc⟩ := ih y hy
      exact ⟨x, List.mem_cons_of_mem _ hx, hc⟩
  | drop a l m h1 h2 ih =>
    intro y hy
    obtain ⟨x, hx, hc⟩ := ih y hy
    exact ⟨x, List.mem_cons_of_mem _ hx, hc⟩
theorem Less.pairwise {R Q : Ft → Ft → Prop} (hRQ : ∀ x y x' y', CutF x y → CutF x' y' → R x x' → Q y y') {l m : List Ft} (h : Less l m) (hl : l.Pairwise R) : m.Pairwise Q := by
  induction h with
  | nil => exact List.Pairwise.nil
  | take a b l m h1 h2 ih =>
    obtain ⟨k1, k2⟩ := List.pairwise_cons.1 hl
    refine List.pairwise_cons.2 ⟨fun y hy => ?_, ih k2⟩
    obtain ⟨x, hx, hc⟩ := h2.mem y hy
    exact hRQ _ _ _ _ h1 hc (k1 x hx)
  | drop a l m h1 h2 ih => exact ih (List.pairwise_cons.1 hl).2
/-- What of facts is of built-in attributes stays. -/
theorem Less.vals {l m : List Ft} (h : Less l m) (e a : Int) (ha : a < 10) : vals (ofE m e) a = vals (ofE l e) a := by
  induction h with
  | nil => rfl
  | take x y l m h1 h2 ih =>
    have h3 : (y.e == e) = (x.e == e) := by rw [h1.e]
    unfold ofE at *
    rw [List.filter_cons, List.filter_cons, h3]
    split
    · rw [vals_cons, vals_cons, ih, h1.a, h1.v]
    · exact ih
  | drop x l m h1 h2 ih =>
    unfold ofE at *
    rw [List.filter_cons]
    split
    · rw [vals_cons, if_neg (by omega), ih]; rfl
    · exact ih
theorem Less.made {l m : List Ft} (h : Less l m) (e : Int) : madeR m e = madeR l e := by
  unfold madeR madeO
  rw [h.vals e 1 (by decide), h.vals e 2 (by decide), h.vals e 3 (by decide), h.vals e 4 (by decide), h.vals e 5 (by decide), h.vals e 6 (by decide)]

/-! ### facts that may stand together, as pairs -/
theorem cmpF_e2 {x y : Ft} : cmpF x y = or3 (icmp x.e y.e) (icmp x.a y.a) (cmpV x.v y.v) := rfl
theorem or3_neg {a b c : Int} : or3 a b c < 0 ↔ a < 0 ∨ (a = 0 ∧ b < 0) ∨ (a = 0 ∧ b = 0 ∧ c < 0) := by
  unfold or3
  split
  · constructor
    · intro h; exact .inl h
    · rintro (h | h | h) <;> omega
  · split
    · constructor
      · intro h; exact .inr (.inl ⟨by omega, h⟩)
      · rintro (h | h | h) <;> omega
    · constructor
      · intro h; exact .inr (.inr ⟨by omega, by omega, h⟩)
      · rintro (h | h | h) <;> omega
theorem cmpF_trans {x y z : Ft} (h1 : cmpF x y < 0) (h2 : cmpF y z < 0) : cmpF x z < 0 := by
  unfold cmpF at *
  rw [or3_neg] at *
  rw [icmp_cmp.zero, icmp_cmp.zero] at *
  rcases h1 with h1 | ⟨e1, h1⟩ | ⟨e1, f1, h1⟩
  · rcases h2 with h2 | ⟨e2, h2⟩ | ⟨e2, f2, h2⟩
    · exact .inl (icmp_cmp.trans _ _ _ h1 h2)
    · rw [← e2]; exact .inl h1
    · rw [← e2]; exact .inl h1
  · rcases h2 with h2 | ⟨e2, h2⟩ | ⟨e2, f2, h2⟩
    · rw [e1]; exact .inl h2
    · exact .inr (.inl ⟨e1.trans e2, icmp_cmp.trans _ _ _ h1 h2⟩)
    · rw [← f2]; exact .inr (.inl ⟨e1.trans e2, h1⟩)
  · rcases h2 with h2 | ⟨e2, h2⟩ | ⟨e2, f2, h2⟩
    · rw [e1]; exact .inl h2
    · rw [f1]; exact .inr (.inl ⟨e1.trans e2, h2⟩)
    · exact .inr (.inr ⟨e1.trans e2, f1.trans f2, cmpV_cmp.trans _ _ _ h1 h2⟩)
theorem facts_up {l : List Ft} (h : factsB l = true) (i : Nat) : ∀ d, i + (d + 1) < l.length → cmpF (l.getD i default) (l.getD (i + (d + 1)) default) < 0
  | 0, hd => facts_step h i hd
  | d + 1, hd => cmpF_trans (facts_up h i d (by omega)) (facts_step h (i + (d + 1)) (by omega))
theorem facts_pair {l : List Ft} (h : factsB l = true) : l.Pairwise fun x y => cmpF x y < 0 := by
  rw [List.pairwise_iff_getElem]
  intro i j hi hj hij
  have := facts_up h i (j - i - 1) (by omega)
  rw [show i + (j - i - 1 + 1) = j by omega, getD_at l _ i hi, getD_at l _ j hj] at this
  exact this
theorem facts_of {l : List Ft} (hm : ∀ x ∈ l, x.may = true) (hp : l.Pairwise fun x y => cmpF x y < 0) : factsB l = true := by
  unfold factsB
  refine range_all fun i hi => ?_
  unfold ftOk
  rw [getD_at l _ i hi, hm _ (List.getElem_mem hi), Bool.true_and]
  cases i with
  | zero => rfl
  | succ i =>
    have := List.pairwise_iff_getElem.1 hp i (i + 1) (by omega) hi (by omega)
    rw [Nat.add_sub_cancel, getD_at l _ i (by omega), decide_eq_true this]
    simp
theorem CutF.may {x y : Ft} (h : CutF x y) (hx : x.may = true) : y.may = true := by
  unfold Ft.may at *
  rw [h.e, h.a, h.v]
  rcases h.sp with e | ⟨_, h1, h2⟩
  · rw [e]; exact hx
  · rw [Bool.and_eq_true, Bool.and_eq_true] at hx ⊢
    refine ⟨⟨hx.1.1, ?_⟩, (setB_iff _).2 h1⟩
    cases hy : y.sp with
    | nil => exact absurd hy h2
    | cons s r => rfl
theorem Less.facts {l m : List Ft} (h : Less l m) (hl : factsB l = true) : factsB m = true := by
  refine facts_of (fun y hy => ?_) (h.pairwise (fun x y x' y' h1 h2 hlt => ?_) (facts_pair hl))
  · obtain ⟨x, hx, hc⟩ := h.mem y hy
    exact hc.may (factsB_may hl x hx)
  · unfold cmpF at *
    rw [h1.e, h1.a, h1.v, h2.e, h2.a, h2.v]
    exact hlt

/-! ### attributes stay -/
theorem first_id {l : List Ft} {i : Nat} {a : Attr} (h : firstO l i = some a) : a.id = (l.getD i default).e ∧ madeR l (l.getD i default).e = some a ∧ ¬ (0 < i ∧ (l.getD i default).e = (l.getD (i - 1) default).e) := by
  unfold firstO at h
  split at h
  · cases h
  · rename_i hn
    exact ⟨(madeO_id h).1, h, hn⟩
theorem of_up {l : List Ft} (h : factsB l = true) : (ofTo l l.length).Pairwise fun a b => a.id < b.id := by
  unfold ofTo
  rw [List.pairwise_filterMap]
  refine List.pairwise_iff_getElem.2 fun i j hi hj hij => ?_
  rw [List.getElem_range, List.getElem_range]
  intro a ha b hb
  simp only [List.length_range] at hi hj
  obtain ⟨e1, -, -⟩ := first_id ha
  obtain ⟨e2, -, n2⟩ := first_id hb
  have h1 := facts_le h i (j - 1 - i) (by omega)
  have h2 := facts_le h (j - 1) 1 (by omega)
  rw [show i + (j - 1 - i) = j - 1 by omega] at h1
  rw [show j - 1 + 1 = j by omega] at h2
  rw [e1, e2]
  have h3 : (l.getD j default).e ≠ (l.getD (j - 1) default).e := fun e => n2 ⟨by omega, e⟩
  omega
theorem of_mem {l : List Ft} {a : Attr} : a ∈ ofTo l l.length ↔ madeR l a.id = some a := by
  unfold ofTo
  rw [List.mem_filterMap]
  constructor
  · rintro ⟨i, -, h⟩
    obtain ⟨e1, e2, -⟩ := first_id h
    rw [e1]; exact e2
  · intro h
    have hne : ofE l a.id ≠ [] := by
      intro e
      unfold madeR at h
      rw [e] at h
      cases h
    obtain ⟨x, hx⟩ := List.exists_mem_of_ne_nil _ hne
    obtain ⟨hx1, hx2⟩ := List.mem_filter.1 hx
    obtain ⟨j, hj, rfl⟩ := List.getElem_of_mem hx1
    obtain ⟨i, hi, he, hn⟩ := first_of (l := l) (e := a.id) j hj (by rw [getD_at l _ j hj]; simpa using hx2)
    refine ⟨i, List.mem_range.2 hi, ?_⟩
    unfold firstO
    rw [if_neg hn, he]
    exact h
theorem up_eq {a b : List Attr} (ha : a.Pairwise fun x y => x.id < y.id) (hb : b.Pairwise fun x y => x.id < y.id) (h : ∀ x, x ∈ a ↔ x ∈ b) : a = b := by
  classical
  have na : a.Nodup := ha.imp (fun h e => by rw [e] at h; exact absurd h (Int.lt_irrefl _))
  have nb : b.Nodup := hb.imp (fun h e => by rw [e] at h; exact absurd h (Int.lt_irrefl _))
  have hp : a.Perm b := by
    rw [List.perm_iff_count]
    intro x
    by_cases hx : x ∈ a
    · rw [na.count, nb.count, if_pos hx, if_pos ((h x).1 hx)]
    · rw [List.count_eq_zero_of_not_mem hx, List.count_eq_zero_of_not_mem (fun e => hx ((h x).2 e))]
  exact hp.eq_of_pairwise (fun x y _ _ h1 h2 => absurd (Int.lt_trans h1 h2) (Int.lt_irrefl _)) ha hb
theorem Less.attrs {l m : List Ft} (h : Less l m) (hl : factsB l = true) : attrsOf m = attrsOf l := by
  unfold attrsOf
  congr 1
  refine up_eq (of_up (h.facts hl)) (of_up hl) fun x => ?_
  rw [of_mem, of_mem, h.made]

/-! ### clashes -/
theorem clash_pair {l : List Ft} {q : Ft → Ft → Bool} : clashB l q = false ↔ l.Pairwise fun y x => pairB q x y = false := by
  rw [List.pairwise_iff_getElem]
  constructor
  · intro h i j hi hj hij
    have := clash_none h hj hij
    rw [getD_at l _ i hi, getD_at l _ j hj] at this
    exact this
  · intro h
    unfold clashB
    rw [List.any_eq_false]
    intro i hi
    rw [Bool.not_eq_true, List.any_eq_false]
    intro j hj
    have hi := List.mem_range.1 hi
    have hj := List.mem_range.1 hj
    have := h j i (by omega) hi hj
    rw [getD_at l _ i hi, getD_at l _ j (by omega), this]
    simp
theorem Less.clash {l m : List Ft} (h : Less l m) (hl : factsB l = true) {q : Ft → Ft → Bool} (hq : ∀ x y x' y', CutF x y → CutF x' y' → q y y' = q x x') (hn : clashB l q = false) : clashB m q = false := by
  rw [clash_pair] at *
  have hall : l.Pairwise fun y x => (y.may = true ∧ x.may = true) ∧ pairB q x y = false := by
    rw [List.pairwise_iff_getElem] at *
    exact fun i j hi hj hij => ⟨⟨factsB_may hl _ (List.getElem_mem hi), factsB_may hl _ (List.getElem_mem hj)⟩, hn i j hi hj hij⟩
  refine h.pairwise (fun x y x' y' h1 h2 hp => ?_) hall
  obtain ⟨⟨m1, m2⟩, hp⟩ := hp
  unfold pairB at *
  rw [h1.a, h2.a, hq _ _ _ _ h2 h1]
  cases hc : (x'.a == x.a && q x' x)
  · rw [Bool.false_and]
  · rw [hc, Bool.true_and, Bool.not_eq_false', List.isEmpty_iff] at hp
    rw [Bool.true_and, Bool.not_eq_false', List.isEmpty_iff]
    have s1 := (setB_iff _).1 (may_sp m1)
    have s2 := (setB_iff _).1 (may_sp m2)
    have s3 := (setB_iff _).1 (may_sp (h1.may m1))
    have s4 := (setB_iff _).1 (may_sp (h2.may m2))
    cases hs : sharedL y'.sp y.sp with
    | nil => rfl
    | cons u r =>
      obtain ⟨t, k1, k2⟩ := (sharedL_meet s4 s3).1 (by rw [hs]; simp)
      exact absurd hp ((sharedL_meet s2 s1).2 ⟨t, h2.sub t k1, h1.sub t k2⟩)

/-- Facts that hold, some gone and some cut down, hold. -/
theorem Less.holds {l m : List Ft} (h : Less l m) (hl : holdsC l = 0) : holdsC m = 0 := by
  have hok := holds_ok hl
  have hA := h.attrs hok
  have hr := holds_rows hl
  have he : ofErr m = 0 := by
    have := holds_err hl
    unfold ofErr at *
    rw [h.facts hok, hA, if_pos rfl]
    rw [hok, if_pos rfl] at this
    exact this
  unfold holdsC
  rw [he, if_neg (by simp), hA]
  have hkn := holds_known hl
  have r71 : (m.any fun x => unknownB (mapOf (attrsOf l) x.a) x) = false := by
    rw [List.any_eq_false]
    intro y hy
    obtain ⟨x, hx, hc⟩ := h.mem y hy
    have := List.any_eq_false.1 hr.r71 x hx
    unfold unknownB at *
    rw [hc.a]
    exact this
  have r72 : (m.any fun x => !typedB (mapOf (attrsOf l) x.a) x) = false := by
    rw [List.any_eq_false]
    intro y hy
    obtain ⟨x, hx, hc⟩ := h.mem y hy
    have := List.any_eq_false.1 hr.r72 x hx
    unfold typedB at *
    rw [hc.a, hc.v]
    exact this
  have named : namedB m (attrsOf l) = true := by
    unfold namedB
    rw [List.all_eq_true]
    intro y hy
    obtain ⟨x, hx, hc⟩ := h.mem y hy
    have := hr.named
    unfold namedB at this
    have := List.all_eq_true.1 this x hx
    unfold hasB at *
    rw [hc.a, hc.e]
    exact this
  have r73 := h.clash hok (q := oneB (mapOf (attrsOf l))) (fun x y x' y' h1 h2 => by unfold oneB; rw [h1.e, h2.e, h1.a]) hr.r73
  have r74 := h.clash hok (q := uniqB (mapOf (attrsOf l))) (fun x y x' y' h1 h2 => by unfold uniqB; rw [h1.e, h2.e, h1.a, h1.v, h2.v]) hr.r74
  have r75 : (m.any fun x => lateB (mapOf (attrsOf l) x.a) x) = false := by
    rw [List.any_eq_false]
    intro y hy
    obtain ⟨x, hx, hc⟩ := h.mem y hy
    have h2 := List.any_eq_false.1 hr.r75 x hx
    have hid : (mapOf (attrsOf l) x.a).id = x.a := by rw [mapOf_at (hkn x hx)]; exact (atA_some (hkn x hx)).2
    unfold lateB at *
    rw [hc.a]
    rcases hc.sp with e | ⟨h10, -, -⟩
    · rw [e]; exact h2
    · rw [hid, decide_eq_false (by omega)]
      simp
  unfold rowC
  simp [r71, r72, named, r73, r74, r75, hr.r76]
end Go.Proofs.Ytkcpanaojehgiaa
