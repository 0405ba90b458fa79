/- What an entity's facts make: the code's way and the document's, in plain words. -/
import Derived.Test.YtkcpanaojehgiaaSchE
namespace Go.Proofs.Ytkcpanaojehgiaa

def vals (g : List Ft) (a : Int) : List V := (g.filter fun x => x.a == a).map (·.v)
def ofE (l : List Ft) (e : Int) : List Ft := l.filter fun x => x.e == e
def yesL (vs : List V) : Bool := vs.any fun v => v.kind == 2 && v.n == 1
def uniqL (u : Int) (vs : List V) : Int := vs.foldl (fun u v => if v.kind = 1 ∧ 1 ≤ v.n ∧ v.n ≤ 2 then (if u < v.n then v.n else u) else u) u
/-- The attribute that an entity is, of the entity's facts. -/
def madeO (e : Int) (g : List Ft) : Option Attr :=
  match vals g 1, vals g 2 with
  | [n], [t] => if 10 ≤ e ∧ n.kind = 7 ∧ t.kind = 1 ∧ 1 ≤ t.n ∧ t.n ≤ 7 then some ⟨e, n.s, t.n, yesL (vals g 3), uniqL 0 (vals g 4), yesL (vals g 5), yesL (vals g 6)⟩ else none
  | _, _ => none
def madeR (l : List Ft) (e : Int) : Option Attr := madeO e (ofE l e)
def nameC (c : Nat) (vs : List V) : Nat := vs.foldl (fun c v => if v.kind = 7 then c + 1 else 2) c
def typeC (c : Nat) (vs : List V) : Nat := vs.foldl (fun c v => if v.kind = 1 ∧ 1 ≤ v.n ∧ v.n ≤ 7 then c + 1 else 2) c
def lastS (s : List UInt8) (vs : List V) : List UInt8 := vs.foldl (fun _ v => v.s) s
def lastN (n : Int) (vs : List V) : Int := vs.foldl (fun _ v => v.n) n
theorem vals_cons (x : Ft) (g : List Ft) (a : Int) : vals (x :: g) a = (if x.a = a then [x.v] else []) ++ vals g a := by
  unfold vals
  by_cases h : x.a = a
  · simp [h]
  · simp [h]
theorem fold_mk (g : List Ft) : ∀ s : Mk, g.foldl mkStep s =
    ⟨⟨s.a.id, lastS s.a.name (vals g 1), lastN s.a.type (vals g 2), s.a.many || yesL (vals g 3), uniqL s.a.unique (vals g 4), s.a.part || yesL (vals g 5), s.a.index || yesL (vals g 6)⟩, nameC s.names (vals g 1), typeC s.types (vals g 2)⟩ := by
  induction g with
  | nil => intro s; obtain ⟨⟨a, b, c, d, e, f, g⟩, n, t⟩ := s; simp [vals, lastS, lastN, yesL, uniqL, nameC, typeC]
  | cons x g ih =>
    intro s
    obtain ⟨⟨a, b, c, d, e, f, i⟩, n, t⟩ := s
    rw [List.foldl_cons, ih]
    simp only [vals_cons]
    by_cases h1 : x.a = 1
    · simp [mkStep, h1, lastS, lastN, yesL, uniqL, nameC, typeC]
    by_cases h2 : x.a = 2
    · simp [mkStep, h2, lastS, lastN, yesL, uniqL, nameC, typeC]
    by_cases h3 : x.a = 3
    · simp [mkStep, h3, lastS, lastN, yesL, uniqL, nameC, typeC, Ft.yes, Bool.or_assoc]
    by_cases h5 : x.a = 5
    · simp [mkStep, h5, lastS, lastN, yesL, uniqL, nameC, typeC, Ft.yes, Bool.or_assoc]
    by_cases h6 : x.a = 6
    · simp [mkStep, h6, lastS, lastN, yesL, uniqL, nameC, typeC, Ft.yes, Bool.or_assoc]
    by_cases h4 : x.a = 4
    · by_cases h7 : x.v.kind = 1 ∧ 1 ≤ x.v.n ∧ x.v.n ≤ 2
      · simp [mkStep, h4, h7, lastS, lastN, yesL, uniqL, nameC, typeC]
      · simp only [mkStep, h4, if_neg h7]
        simp [h4, h7, lastS, lastN, yesL, uniqL, nameC, typeC]
    · simp [mkStep, h1, h2, h3, h4, h5, h6, lastS, lastN, yesL, uniqL, nameC, typeC]
theorem nameC_ge (vs : List V) : ∀ c, 1 ≤ c → 1 ≤ nameC c vs ∧ (vs ≠ [] → 2 ≤ nameC c vs) := by
  induction vs with
  | nil => intro c h; exact ⟨h, fun e => absurd rfl e⟩
  | cons v vs ih =>
    intro c h
    have hs : 2 ≤ (if v.kind = 7 then c + 1 else 2) := by split <;> omega
    have e : nameC c (v :: vs) = nameC (if v.kind = 7 then c + 1 else 2) vs := rfl
    rw [e]
    have h2 : ∀ (vs : List V) (c : Nat), 2 ≤ c → 2 ≤ nameC c vs := by
      intro vs
      induction vs with
      | nil => intro c h; exact h
      | cons w vs ih =>
        intro c h
        show 2 ≤ nameC (if w.kind = 7 then c + 1 else 2) vs
        exact ih _ (by split <;> omega)
    exact ⟨by have := h2 vs _ hs; omega, fun _ => h2 vs _ hs⟩
theorem typeC_ge (vs : List V) : ∀ c, 1 ≤ c → 1 ≤ typeC c vs ∧ (vs ≠ [] → 2 ≤ typeC c vs) := by
  induction vs with
  | nil => intro c h; exact ⟨h, fun e => absurd rfl e⟩
  | cons v vs ih =>
    intro c h
    have hs : 2 ≤ (if v.kind = 1 ∧ 1 ≤ v.n ∧ v.n ≤ 7 then c + 1 else 2) := by split <;> omega
    have e : typeC c (v :: vs) = typeC (if v.kind = 1 ∧ 1 ≤ v.n ∧ v.n ≤ 7 then c + 1 else 2) vs := rfl
    rw [e]
    have h2 : ∀ (vs : List V) (c : Nat), 2 ≤ c → 2 ≤ typeC c vs := by
      intro vs
      induction vs with
      | nil => intro c h; exact h
      | cons w vs ih =>
        intro c h
        show 2 ≤ typeC (if w.kind = 1 ∧ 1 ≤ w.n ∧ w.n ≤ 7 then c + 1 else 2) vs
        exact ih _ (by split <;> omega)
    exact ⟨by have := h2 vs _ hs; omega, fun _ => h2 vs _ hs⟩
theorem nameC_one (vs : List V) : nameC 0 vs = 1 ↔ ∃ v, vs = [v] ∧ v.kind = 7 := by
  constructor
  · intro h
    match vs, h with
    | [v], h =>
      refine ⟨v, rfl, ?_⟩
      unfold nameC at h
      simp only [List.foldl_cons, List.foldl_nil] at h
      split at h
      · assumption
      · omega
    | v :: u :: vs, h =>
      have e : nameC 0 (v :: u :: vs) = nameC (if v.kind = 7 then 0 + 1 else 2) (u :: vs) := rfl
      rw [e] at h
      have := (nameC_ge (u :: vs) (if v.kind = 7 then 0 + 1 else 2) (by split <;> omega)).2 (by simp)
      omega
  · rintro ⟨v, rfl, h⟩
    simp [nameC, h]
theorem typeC_one (vs : List V) : typeC 0 vs = 1 ↔ ∃ v, vs = [v] ∧ v.kind = 1 ∧ 1 ≤ v.n ∧ v.n ≤ 7 := by
  constructor
  · intro h
    match vs, h with
    | [v], h =>
      refine ⟨v, rfl, ?_⟩
      unfold typeC at h
      simp only [List.foldl_cons, List.foldl_nil] at h
      split at h
      · assumption
      · omega
    | v :: u :: vs, h =>
      have e : typeC 0 (v :: u :: vs) = typeC (if v.kind = 1 ∧ 1 ≤ v.n ∧ v.n ≤ 7 then 0 + 1 else 2) (u :: vs) := rfl
      rw [e] at h
      have := (typeC_ge (u :: vs) (if v.kind = 1 ∧ 1 ≤ v.n ∧ v.n ≤ 7 then 0 + 1 else 2) (by split <;> omega)).2 (by simp)
      omega
  · rintro ⟨v, rfl, h⟩
    simp [typeC, h]
theorem made_eq (e : Int) (g : List Ft) : madeO e g = if (madeS e g).ok then some (madeS e g).a else none := by
  have hm : madeS e g = ⟨⟨e, lastS [] (vals g 1), lastN 0 (vals g 2), yesL (vals g 3), uniqL 0 (vals g 4), yesL (vals g 5), yesL (vals g 6)⟩, nameC 0 (vals g 1), typeC 0 (vals g 2)⟩ := by
    unfold madeS
    rw [fold_mk]
    simp [mkInit]
  by_cases hok : (madeS e g).ok = true
  · rw [if_pos hok]
    rw [hm] at hok ⊢
    simp only [Mk.ok, Bool.and_eq_true, decide_eq_true_eq, beq_iff_eq] at hok
    obtain ⟨⟨h1, h2⟩, h3⟩ := hok
    obtain ⟨n, hn, kn⟩ := (nameC_one _).1 h2
    obtain ⟨t, ht, kt⟩ := (typeC_one _).1 h3
    unfold madeO
    rw [hn, ht]
    simp only
    rw [if_pos ⟨h1, kn, kt⟩]
    simp [lastS, lastN]
  · rw [if_neg hok]
    unfold madeO
    rcases hn : vals g 1 with _ | ⟨n, _ | ⟨n2, ns⟩⟩
    · rfl
    · rcases ht : vals g 2 with _ | ⟨t, _ | ⟨t2, ts⟩⟩
      · rfl
      · simp only
        rw [if_neg]
        rintro ⟨h1, kn, kt⟩
        refine hok ?_
        rw [hm]
        simp only [Mk.ok, Bool.and_eq_true, decide_eq_true_eq, beq_iff_eq]
        exact ⟨⟨h1, (nameC_one _).2 ⟨n, hn, kn⟩⟩, (typeC_one _).2 ⟨t, ht, kt⟩⟩
      · rfl
    · rfl

/-! ### entity by entity -/
theorem cmpF_e {x y : Ft} (h : cmpF x y < 0) : x.e ≤ y.e := by
  by_cases hl : y.e < x.e
  · have : cmpF x y = 1 := by simp [cmpF, or3, icmp, hl]; omega
    omega
  · omega
theorem factsB_at {l : List Ft} (h : factsB l = true) (i : Nat) (hi : i < l.length) : ftOk l i = true := by
  unfold factsB at h
  exact (List.all_eq_true.1 h) i (List.mem_range.2 hi)
theorem facts_step {l : List Ft} (h : factsB l = true) (i : Nat) (hi : i + 1 < l.length) : cmpF (l.getD i default) (l.getD (i + 1) default) < 0 := by
  have := factsB_at h (i + 1) hi
  simp [ftOk] at this
  simpa using this.2
theorem facts_le {l : List Ft} (h : factsB l = true) (i d : Nat) (hj : i + d < l.length) : (l.getD i default).e ≤ (l.getD (i + d) default).e := by
  induction d with
  | zero => exact Int.le_refl _
  | succ d ih => exact Int.le_trans (ih (by omega)) (cmpF_e (facts_step h (i + d) (by omega)))
/-- An entity's facts begin here, or none do. -/
def Start (l : List Ft) (k : Nat) : Prop := 0 < k → k < l.length → (l.getD (k - 1) default).e ≠ (l.getD k default).e
theorem Grp.start {l : List Ft} {k n : Nat} (h : Grp l k n) : Start l (k + n) := fun _ hl => by
  have h1 := h.same (n - 1) (by have := h.pos; omega)
  rw [show k + (n - 1) = k + n - 1 by have := h.pos; omega] at h1
  rw [h1]
  exact fun e => h.more hl e.symm
theorem filter_none {α : Type} {p : α → Bool} {l : List α} (h : ∀ x ∈ l, p x = false) : l.filter p = [] := by
  rw [List.filter_eq_nil_iff]; intro x hx; simp [h x hx]
theorem filter_every {α : Type} {p : α → Bool} {l : List α} (h : ∀ x ∈ l, p x = true) : l.filter p = l := List.filter_eq_self.2 h
theorem Grp.facts {l : List Ft} {k n : Nat} (h : Grp l k n) (hok : factsB l = true) (hs : Start l k) : ofE l (l.getD k default).e = (l.drop k).take n := by
  have hn := h.pos
  have hle := h.le
  have e : l = l.take k ++ ((l.drop k).take n ++ l.drop (k + n)) := by rw [← List.drop_drop, List.take_append_drop, List.take_append_drop]
  unfold ofE
  generalize hE : (l.getD k default).e = E
  have h1 : (l.take k).filter (fun x => x.e == E) = [] := filter_none (fun x hx => by
    obtain ⟨i, hi, rfl⟩ := List.getElem_of_mem hx
    rw [List.length_take] at hi
    rw [List.getElem_take]
    have h2 := hs (by omega) (by omega)
    have h3 := facts_le hok i (k - 1 - i) (by omega)
    rw [show i + (k - 1 - i) = k - 1 by omega] at h3
    have h4 := facts_le hok (k - 1) 1 (by omega)
    rw [show k - 1 + 1 = k by omega] at h4
    rw [getD_at l _ i (by omega)] at h3
    simp only [beq_eq_false_iff_ne, ne_eq]
    omega)
  have h2 : ((l.drop k).take n).filter (fun x => x.e == E) = (l.drop k).take n := filter_every (fun x hx => by
    obtain ⟨i, hi, rfl⟩ := List.getElem_of_mem hx
    rw [List.length_take] at hi
    rw [List.getElem_take, List.getElem_drop]
    have h3 := h.same i (by omega)
    rw [getD_at l _ (k + i) (by omega)] at h3
    simp only [beq_iff_eq]
    omega)
  have h3 : (l.drop (k + n)).filter (fun x => x.e == E) = [] := filter_none (fun x hx => by
    obtain ⟨i, hi, rfl⟩ := List.getElem_of_mem hx
    rw [List.length_drop] at hi
    rw [List.getElem_drop]
    have h4 := h.more (by omega)
    have h5 := facts_le hok (k + n) i (by omega)
    have h6 := facts_le hok k n (by omega)
    rw [getD_at l _ (k + n + i) (by omega)] at h5
    simp only [beq_eq_false_iff_ne, ne_eq]
    omega)
  rw [e, List.filter_append, List.filter_append, h1, h2, h3, List.nil_append, List.append_nil]
  have e2 : (l.take k ++ ((l.drop k).take n ++ l.drop (k + n))) = l := e.symm
  rw [e2]
/-- What facts' entities make, up to a place. -/
def firstO (l : List Ft) (i : Nat) : Option Attr := if 0 < i ∧ (l.getD i default).e = (l.getD (i - 1) default).e then none else madeR l (l.getD i default).e
def ofTo (l : List Ft) (q : Nat) : List Attr := (List.range q).filterMap (firstO l)
theorem ofTo_succ (l : List Ft) (q : Nat) : ofTo l (q + 1) = ofTo l q ++ (firstO l q).toList := by
  unfold ofTo
  rw [List.range_succ, List.filterMap_append]
  cases h : firstO l q <;> simp [h]
theorem ofTo_len (l : List Ft) (q : Nat) : (ofTo l q).length ≤ q := by
  have := List.length_filterMap_le (firstO l) (List.range q)
  simpa [ofTo] using this
theorem Grp.to {l : List Ft} {k n : Nat} (h : Grp l k n) (hok : factsB l = true) (hs : Start l k) : ofTo l (k + n) = ofTo l k ++ (madeO (l.getD k default).e ((l.drop k).take n)).toList := by
  have hm : firstO l k = madeO (l.getD k default).e ((l.drop k).take n) := by
    unfold firstO
    rw [if_neg (fun hh => hs hh.1 (by have := h.le; have := h.pos; omega) hh.2.symm)]
    unfold madeR
    rw [h.facts hok hs]
  have : ∀ j, j < n → ofTo l (k + (j + 1)) = ofTo l k ++ (madeO (l.getD k default).e ((l.drop k).take n)).toList := by
    intro j
    induction j with
    | zero => intro _; rw [← hm]; exact ofTo_succ l k
    | succ j ih =>
      intro hj
      rw [show k + (j + 1 + 1) = k + (j + 1) + 1 by omega, ofTo_succ, ih (by omega)]
      have : firstO l (k + (j + 1)) = none := by
        unfold firstO
        rw [if_pos]
        refine ⟨by omega, ?_⟩
        rw [h.same (j + 1) hj, show k + (j + 1) - 1 = k + j by omega, h.same j (by omega)]
      rw [this]
      simp
  have h2 := this (n - 1) (by have := h.pos; omega)
  rwa [show n - 1 + 1 = n by have := h.pos; omega] at h2
def builtinL : List Attr := [⟨1, [100, 98, 47, 110, 97, 109, 101], 7, false, 2, false, false⟩, ⟨2, [100, 98, 47, 116, 121, 112, 101], 1, false, 0, false, false⟩, ⟨3, [100, 98, 47, 109, 97, 110, 121], 2, false, 0, false, false⟩,
  ⟨4, [100, 98, 47, 117, 110, 105, 113, 117, 101], 1, false, 0, false, false⟩, ⟨5, [100, 98, 47, 112, 97, 114, 116], 2, false, 0, false, false⟩, ⟨6, [100, 98, 47, 105, 110, 100, 101, 120], 2, false, 0, false, false⟩, ⟨7, [100, 98, 47, 100, 111, 99], 3, false, 0, false, false⟩]
def attrsOf (l : List Ft) : List Attr := builtinL ++ ofTo l l.length
end Go.Proofs.Ytkcpanaojehgiaa
