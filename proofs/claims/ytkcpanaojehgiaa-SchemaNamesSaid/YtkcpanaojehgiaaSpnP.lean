/- Sets of instants, in plain words: what two share, what one has not, and the document's way by ends. -/
import Derived.Test.YtkcpanaojehgiaaSchP
namespace Go.Proofs.Ytkcpanaojehgiaa

/-- An instant lies in one of some spans. -/
def inS (l : List Sp) (t : Int) : Prop := ∃ s ∈ l, s.f ≤ t ∧ t < s.t
/-- Spans that are a set. -/
structure SetP (l : List Sp) : Prop where
  ok : ∀ s ∈ l, s.f < s.t
  up : l.Pairwise fun s u => s.t < u.f
theorem SetP.nil : SetP [] := ⟨(fun _ h => by cases h), List.Pairwise.nil⟩
theorem SetP.tail {x : Sp} {l : List Sp} (h : SetP (x :: l)) : SetP l := ⟨fun s hs => h.ok s (List.mem_cons_of_mem _ hs), (List.pairwise_cons.1 h.up).2⟩
theorem SetP.head {x : Sp} {l : List Sp} (h : SetP (x :: l)) : x.f < x.t := h.ok x List.mem_cons_self
theorem SetP.after {x : Sp} {l : List Sp} (h : SetP (x :: l)) : ∀ s ∈ l, x.t < s.f := (List.pairwise_cons.1 h.up).1
theorem inS_cons (x : Sp) (l : List Sp) (t : Int) : inS (x :: l) t ↔ (x.f ≤ t ∧ t < x.t) ∨ inS l t := by
  unfold inS
  constructor
  · rintro ⟨s, hs, h⟩
    rcases List.mem_cons.1 hs with rfl | hs
    · exact .inl h
    · exact .inr ⟨s, hs, h⟩
  · rintro (h | ⟨s, hs, h⟩)
    · exact ⟨x, List.mem_cons_self, h⟩
    · exact ⟨s, List.mem_cons_of_mem _ hs, h⟩
theorem inS_nil (t : Int) : ¬ inS [] t := by rintro ⟨s, hs, -⟩; cases hs
theorem inS_append (a b : List Sp) (t : Int) : inS (a ++ b) t ↔ inS a t ∨ inS b t := by
  induction a with
  | nil => simp [inS_nil]
  | cons x a ih => rw [List.cons_append, inS_cons, inS_cons, ih, or_assoc]
def mx (a b : Int) : Int := if a < b then b else a
def mn (a b : Int) : Int := if b < a then b else a
theorem mx_le {a b c : Int} : mx a b ≤ c ↔ a ≤ c ∧ b ≤ c := by unfold mx; split <;> omega
theorem lt_mn {a b c : Int} : c < mn a b ↔ c < a ∧ c < b := by unfold mn; split <;> omega
def meet1 (x y : Sp) : List Sp := if mx x.f y.f < mn x.t y.t then [⟨mx x.f y.f, mn x.t y.t⟩] else []
/-- What two sets share. -/
def sharedL : List Sp → List Sp → List Sp
  | [], _ => []
  | _ :: _, [] => []
  | x :: a, y :: b => meet1 x y ++ if x.t < y.t then sharedL a (y :: b) else sharedL (x :: a) b
termination_by a b => a.length + b.length
theorem meet1_in (x y : Sp) (t : Int) : inS (meet1 x y) t ↔ (x.f ≤ t ∧ t < x.t) ∧ (y.f ≤ t ∧ t < y.t) := by
  unfold meet1
  split
  · rw [inS_cons]
    simp only [inS_nil, or_false, mx_le, lt_mn]
    constructor
    · rintro ⟨⟨a1, a2⟩, b1, b2⟩; exact ⟨⟨a1, b1⟩, a2, b2⟩
    · rintro ⟨⟨a1, a2⟩, b1, b2⟩; exact ⟨⟨a1, b1⟩, a2, b2⟩
  · rename_i h
    constructor
    · intro h; exact absurd h (inS_nil t)
    · rintro ⟨⟨a1, a2⟩, b1, b2⟩
      exact absurd (Int.lt_of_le_of_lt (mx_le.2 ⟨a1, b1⟩) (lt_mn.2 ⟨a2, b2⟩)) h
theorem meet1_ok (x y : Sp) : ∀ s ∈ meet1 x y, s.f < s.t := by
  intro s hs
  unfold meet1 at hs
  split at hs
  · rename_i h
    rw [List.mem_singleton] at hs
    subst hs
    exact h
  · cases hs
theorem sharedL_in (a b : List Sp) : SetP a → SetP b → ∀ t, inS (sharedL a b) t ↔ inS a t ∧ inS b t := by
  induction a, b using sharedL.induct with
  | case1 b => intro _ _ t; rw [sharedL]; simp [inS_nil]
  | case2 x a => intro _ _ t; rw [sharedL]; simp [inS_nil]
  | case3 x a y b ih1 ih2 =>
    intro ha hb t
    by_cases hlt : x.t < y.t
    · rw [sharedL, if_pos hlt, inS_append, meet1_in, ih1 ha.tail hb, inS_cons x a]
      constructor
      · rintro (⟨h1, h2⟩ | ⟨h1, h2⟩)
        · exact ⟨.inl h1, (inS_cons _ _ _).2 (.inl h2)⟩
        · exact ⟨.inr h1, h2⟩
      · rintro ⟨h1 | h1, h2⟩
        · rcases (inS_cons _ _ _).1 h2 with h2 | ⟨s, hs, h3⟩
          · exact .inl ⟨h1, h2⟩
          · have := hb.after s hs; omega
        · exact .inr ⟨h1, h2⟩
    · rw [sharedL, if_neg hlt, inS_append, meet1_in, ih2 ha hb.tail, inS_cons y b]
      constructor
      · rintro (⟨h1, h2⟩ | ⟨h1, h2⟩)
        · exact ⟨(inS_cons _ _ _).2 (.inl h1), .inl h2⟩
        · exact ⟨h1, .inr h2⟩
      · rintro ⟨h1, h2 | h2⟩
        · rcases (inS_cons _ _ _).1 h1 with h1 | ⟨s, hs, h3⟩
          · exact .inl ⟨h1, h2⟩
          · have := ha.after s hs; omega
        · exact .inr ⟨h1, h2⟩
theorem sharedL_ok (a b : List Sp) : ∀ s ∈ sharedL a b, s.f < s.t := by
  induction a, b using sharedL.induct with
  | case1 b => intro s hs; rw [sharedL] at hs; cases hs
  | case2 x a => intro s hs; rw [sharedL] at hs; cases hs
  | case3 x a y b ih1 ih2 =>
    intro s hs
    rw [sharedL] at hs
    rcases List.mem_append.1 hs with h | h
    · exact meet1_ok x y s h
    · split at h
      · exact ih1 s h
      · exact ih2 s h
theorem some_in {l : List Sp} (hok : ∀ s ∈ l, s.f < s.t) : l ≠ [] ↔ ∃ t, inS l t := by
  constructor
  · intro h
    cases l with
    | nil => exact absurd rfl h
    | cons x l => exact ⟨x.f, x, List.mem_cons_self, Int.le_refl _, hok x List.mem_cons_self⟩
  · rintro ⟨t, ht⟩ rfl
    exact inS_nil t ht
/-- Two sets meet. -/
def Meet (a b : List Sp) : Prop := ∃ t, inS a t ∧ inS b t
theorem sharedL_meet {a b : List Sp} (ha : SetP a) (hb : SetP b) : sharedL a b ≠ [] ↔ Meet a b := by
  rw [some_in (sharedL_ok a b)]
  unfold Meet
  constructor
  · rintro ⟨t, h⟩; exact ⟨t, (sharedL_in a b ha hb t).1 h⟩
  · rintro ⟨t, h⟩; exact ⟨t, (sharedL_in a b ha hb t).2 h⟩
/-- What a set has not. -/
def restL (at' : Int) : List Sp → List Sp
  | [] => if at' < 9223372036854775807 then [⟨at', 9223372036854775807⟩] else []
  | s :: r => (if at' < s.f then [⟨at', s.f⟩] else []) ++ restL s.t r
theorem restL_ok (l : List Sp) : ∀ at', -9223372036854775808 ≤ at' → at' ≤ 9223372036854775807 → (∀ s ∈ l, -9223372036854775808 ≤ s.f ∧ s.f ≤ 9223372036854775807 ∧ -9223372036854775808 ≤ s.t ∧ s.t ≤ 9223372036854775807) → ∀ s ∈ restL at' l, s.f < s.t ∧ -9223372036854775808 ≤ s.f ∧ s.t ≤ 9223372036854775807 := by
  induction l with
  | nil =>
    intro at' h1 h2 _ s hs
    simp only [restL] at hs
    split at hs
    · rw [List.mem_singleton] at hs; subst hs; simp only; omega
    · cases hs
  | cons x l ih =>
    intro at' h1 h2 h s hs
    have hx := h x List.mem_cons_self
    simp only [restL] at hs
    rcases List.mem_append.1 hs with hs | hs
    · split at hs
      · rw [List.mem_singleton] at hs; subst hs; simp only; omega
      · cases hs
    · exact ih x.t (by omega) (by omega) (fun s hs => h s (List.mem_cons_of_mem _ hs)) s hs
theorem restL_nil {l : List Sp} (hl : l ≠ []) (hs : SetP l) (h64 : ∀ s ∈ l, -9223372036854775808 ≤ s.f ∧ s.f ≤ 9223372036854775807 ∧ -9223372036854775808 ≤ s.t ∧ s.t ≤ 9223372036854775807) : restL (-9223372036854775808) l = [] ↔ l = [⟨-9223372036854775808, 9223372036854775807⟩] := by
  cases l with
  | nil => exact absurd rfl hl
  | cons x l =>
    have hx := h64 x List.mem_cons_self
    have hxx := hs.head
    constructor
    · intro h
      simp only [restL, List.append_eq_nil_iff] at h
      obtain ⟨h1, h2⟩ := h
      have e1 : x.f = -9223372036854775808 := by
        by_cases hlt : (-9223372036854775808 : Int) < x.f
        · rw [if_pos hlt] at h1; cases h1
        · omega
      cases l with
      | nil =>
        simp only [restL] at h2
        have e2 : x.t = 9223372036854775807 := by
          by_cases hlt : x.t < 9223372036854775807
          · rw [if_pos hlt] at h2; cases h2
          · omega
        obtain ⟨xf, xt⟩ := x
        simp only at e1 e2
        rw [e1, e2]
      | cons y l =>
        have := hs.after y List.mem_cons_self
        simp only [restL, List.append_eq_nil_iff] at h2
        rw [if_pos this] at h2
        cases h2.1
    · intro h
      rw [h]
      simp [restL]
theorem covers_iff {l : List Sp} (hl : l ≠ []) (hs : SetP l) (h64 : ∀ s ∈ l, -9223372036854775808 ≤ s.f ∧ s.f ≤ 9223372036854775807 ∧ -9223372036854775808 ≤ s.t ∧ s.t ≤ 9223372036854775807) :
    sharedL [⟨-9223372036854775808, 9223372036854775807⟩] (restL (-9223372036854775808) l) = [] ↔ l = [⟨-9223372036854775808, 9223372036854775807⟩] := by
  rw [← restL_nil hl hs h64]
  have hok := restL_ok l (-9223372036854775808) (by omega) (by omega) h64
  constructor
  · intro h
    cases hR : restL (-9223372036854775808) l with
    | nil => rfl
    | cons r R =>
      exfalso
      have h3 := hok r (by rw [hR]; exact List.mem_cons_self)
      rw [hR, sharedL] at h
      have h4 := (List.append_eq_nil_iff.1 h).1
      unfold meet1 at h4
      split at h4
      · exact absurd h4 (by simp)
      · rename_i h5
        simp only at h5
        unfold mx mn at h5
        split at h5 <;> split at h5 <;> omega
  · intro h
    rw [h, sharedL]

/-! ### the document's way: by ends -/
def insE (n : Int) : List Int → List Int
  | [] => [n]
  | x :: r => if x < n then x :: insE n r else if x = n then x :: r else n :: x :: r
theorem insE_mem (n : Int) (l : List Int) (x : Int) : x ∈ insE n l ↔ x = n ∨ x ∈ l := by
  induction l with
  | nil => simp [insE]
  | cons y l ih =>
    simp only [insE]
    split
    · rw [List.mem_cons, ih, List.mem_cons]
      constructor
      · rintro (h | h | h)
        · exact .inr (.inl h)
        · exact .inl h
        · exact .inr (.inr h)
      · rintro (h | h | h)
        · exact .inr (.inl h)
        · exact .inl h
        · exact .inr (.inr h)
    · split
      · rename_i e
        subst e
        rw [List.mem_cons]
        constructor
        · intro h; exact .inr h
        · rintro (h | h)
          · exact .inl h
          · exact h
      · simp [List.mem_cons]
theorem insE_up (n : Int) (l : List Int) (h : l.Pairwise (· < ·)) : (insE n l).Pairwise (· < ·) := by
  induction l with
  | nil => simp [insE]
  | cons y l ih =>
    obtain ⟨h1, h2⟩ := List.pairwise_cons.1 h
    simp only [insE]
    split
    · rename_i hlt
      rw [List.pairwise_cons]
      refine ⟨fun z hz => ?_, ih h2⟩
      rcases (insE_mem n l z).1 hz with rfl | hz
      · exact hlt
      · exact h1 z hz
    · split
      · exact h
      · rename_i h3 h4
        rw [List.pairwise_cons]
        refine ⟨fun z hz => ?_, h⟩
        rcases List.mem_cons.1 hz with rfl | hz
        · omega
        · have := h1 z hz; omega
def endsL (l : List Sp) : List Int := l.foldl (fun e s => insE s.t (insE s.f e)) []
theorem ends_fold (l : List Sp) : ∀ e : List Int, e.Pairwise (· < ·) → (l.foldl (fun e s => insE s.t (insE s.f e)) e).Pairwise (· < ·) ∧ ∀ x, x ∈ l.foldl (fun e s => insE s.t (insE s.f e)) e ↔ x ∈ e ∨ ∃ s ∈ l, x = s.f ∨ x = s.t := by
  induction l with
  | nil => intro e h; exact ⟨h, fun x => by simp⟩
  | cons s l ih =>
    intro e h
    rw [List.foldl_cons]
    obtain ⟨h1, h2⟩ := ih _ (insE_up s.t _ (insE_up s.f e h))
    refine ⟨h1, fun x => ?_⟩
    rw [h2, insE_mem, insE_mem]
    constructor
    · rintro ((h | h | h) | ⟨u, hu, h⟩)
      · exact .inr ⟨s, List.mem_cons_self, .inr h⟩
      · exact .inr ⟨s, List.mem_cons_self, .inl h⟩
      · exact .inl h
      · exact .inr ⟨u, List.mem_cons_of_mem _ hu, h⟩
    · rintro (h | ⟨u, hu, h⟩)
      · exact .inl (.inr (.inr h))
      · rcases List.mem_cons.1 hu with rfl | hu
        · rcases h with h | h
          · exact .inl (.inr (.inl h))
          · exact .inl (.inl h)
        · exact .inr ⟨u, hu, h⟩
theorem endsL_up (l : List Sp) : (endsL l).Pairwise (· < ·) := (ends_fold l [] List.Pairwise.nil).1
theorem endsL_mem (l : List Sp) (x : Int) : x ∈ endsL l ↔ ∃ s ∈ l, x = s.f ∨ x = s.t := by
  have := (ends_fold l [] List.Pairwise.nil).2 x
  simpa [endsL] using this
/-- Is an instant in one of some spans? -/
def inB (l : List Sp) (t : Int) : Bool := l.any fun s => decide (s.f ≤ t) && decide (t < s.t)
theorem inB_iff (l : List Sp) (t : Int) : inB l t = true ↔ inS l t := by
  unfold inB inS
  rw [List.any_eq_true]
  constructor
  · rintro ⟨s, hs, h⟩
    simp only [Bool.and_eq_true, decide_eq_true_eq] at h
    exact ⟨s, hs, h⟩
  · rintro ⟨s, hs, h⟩
    exact ⟨s, hs, by simp only [Bool.and_eq_true, decide_eq_true_eq]; exact h⟩
/-- A span more, joined to the last one where it touches it. -/
def addS (out : List Sp) (x y : Int) : List Sp :=
  match out.getLast? with
  | some s => if s.t = x then out.dropLast ++ [⟨s.f, y⟩] else out ++ [⟨x, y⟩]
  | none => [⟨x, y⟩]
def ofGo (p : Int → Bool) (out : List Sp) : List Int → List Sp
  | x :: y :: r => ofGo p (if p x then addS out x y else out) (y :: r)
  | _ => out
def bothL (a b : List Sp) : List Sp := ofGo (fun t => inB a t && inB b t) [] (endsL (a ++ b))
theorem addS_ne (out : List Sp) (x y : Int) : addS out x y ≠ [] := by
  unfold addS
  split
  · split <;> simp
  · simp
/-- What has been built so far is a set of instants up to x, of which p holds where they begin. -/
structure OfInv (A : Int → Prop) (out : List Sp) (x : Int) : Prop where
  set : SetP out
  up : ∀ s ∈ out, s.t ≤ x
  mem : ∀ t, inS out t → A t
theorem getLast_split {out : List Sp} {s : Sp} (h : out.getLast? = some s) : out = out.dropLast ++ [s] := by
  rw [List.getLast?_eq_some_iff] at h
  obtain ⟨l, rfl⟩ := h
  simp
theorem SetP.snoc {l : List Sp} {s : Sp} (h : SetP l) (hs : s.f < s.t) (ha : ∀ u ∈ l, u.t < s.f) : SetP (l ++ [s]) := by
  refine ⟨fun u hu => ?_, ?_⟩
  · rcases List.mem_append.1 hu with hu | hu
    · exact h.ok u hu
    · rw [List.mem_singleton] at hu; subst hu; exact hs
  · rw [List.pairwise_append]
    refine ⟨h.up, List.pairwise_singleton _ _, fun u hu v hv => ?_⟩
    rw [List.mem_singleton] at hv
    subst hv
    exact ha u hu
theorem addS_inv {A : Int → Prop} {out : List Sp} {x y : Int} (h : OfInv A out x) (hxy : x < y) (hA : ∀ t, x ≤ t → t < y → A t) : OfInv A (addS out x y) y := by
  unfold addS
  cases hl : out.getLast? with
  | none =>
    simp only
    exact ⟨SetP.nil.snoc hxy (fun u hu => by cases hu), fun s hs => by rw [List.mem_singleton] at hs; subst hs; exact Int.le_refl _, fun t ht => by
      rw [inS_cons] at ht
      rcases ht with ht | ht
      · exact hA t ht.1 ht.2
      · exact absurd ht (inS_nil t)⟩
  | some s =>
    have hsp := getLast_split hl
    simp only
    have hso : s ∈ out := List.mem_of_getLast? hl
    generalize out.dropLast = L at *
    subst hsp
    have hLs : ∀ u ∈ L, u.t < s.f := fun u hu => (List.pairwise_append.1 h.set.up).2.2 u hu s (by simp)
    have hs0 := h.set.ok s hso
    have hL : SetP L := ⟨fun u hu => h.set.ok u (List.mem_append_left _ hu), (List.pairwise_append.1 h.set.up).1⟩
    split
    · rename_i e
      refine ⟨hL.snoc (by simp only; omega) hLs, fun u hu => ?_, fun t ht => ?_⟩
      · rcases List.mem_append.1 hu with hu | hu
        · have := h.up u (List.mem_append_left _ hu); omega
        · rw [List.mem_singleton] at hu; subst hu; exact Int.le_refl _
      · rw [inS_append, inS_cons] at ht
        rcases ht with ht | ⟨h1, h2⟩ | ht
        · exact h.mem t ((inS_append _ _ _).2 (.inl ht))
        · simp only at h1 h2
          by_cases htx : t < x
          · exact h.mem t ((inS_append _ _ _).2 (.inr ((inS_cons _ _ _).2 (.inl ⟨h1, by omega⟩))))
          · exact hA t (by omega) h2
        · exact absurd ht (inS_nil t)
    · rename_i e
      have hsx := h.up s hso
      refine ⟨h.set.snoc hxy (fun u hu => ?_), fun u hu => ?_, fun t ht => ?_⟩
      · rcases List.mem_append.1 hu with hu | hu
        · have := hLs u hu; simp only; omega
        · rw [List.mem_singleton] at hu; subst hu; simp only; omega
      · rcases List.mem_append.1 hu with hu | hu
        · have := h.up u hu; omega
        · rw [List.mem_singleton] at hu; subst hu; exact Int.le_refl _
      · rw [inS_append, inS_cons] at ht
        rcases ht with ht | ht | ht
        · exact h.mem t ht
        · exact hA t ht.1 ht.2
        · exact absurd ht (inS_nil t)
theorem ofGo_inv {A : Int → Prop} {p : Int → Bool} : ∀ (e : List Int) (out : List Sp) (x : Int), (x :: e).Pairwise (· < ·) → OfInv A out x →
    (∀ (i : Nat) (u v : Int), (x :: e)[i]? = some u → (x :: e)[i + 1]? = some v → p u = true → ∀ t, u ≤ t → t < v → A t) → SetP (ofGo p out (x :: e)) ∧ ∀ t, inS (ofGo p out (x :: e)) t → A t := by
  intro e
  induction e with
  | nil => intro out x _ h _; rw [ofGo]; exact ⟨h.set, h.mem⟩; simp
  | cons y e ih =>
    intro out x hup h hA
    rw [ofGo]
    obtain ⟨h1, h2⟩ := List.pairwise_cons.1 hup
    have hxy := h1 y List.mem_cons_self
    refine ih _ y h2 ?_ (fun i u v hu hv => hA (i + 1) u v (by simpa using hu) (by simpa using hv))
    split
    · rename_i hp
      exact addS_inv h hxy (hA 0 x y rfl rfl hp)
    · exact ⟨h.set, fun s hs => by have := h.up s hs; omega, h.mem⟩
theorem ofGo_some {p : Int → Bool} : ∀ (e : List Int) (out : List Sp), out ≠ [] → ofGo p out e ≠ []
  | [], out, h => by rw [ofGo]; exact h; simp
  | [x], out, h => by rw [ofGo]; exact h; simp
  | x :: y :: r, out, h => by
    rw [ofGo]
    refine ofGo_some (y :: r) _ ?_
    split
    · exact addS_ne _ _ _
    · exact h
theorem ofGo_ne {p : Int → Bool} : ∀ (e : List Int) (out : List Sp), (∃ i u v, e[i]? = some u ∧ e[i + 1]? = some v ∧ p u = true) → ofGo p out e ≠ []
  | [], _, ⟨i, u, v, h, _⟩ => by simp at h
  | [x], _, ⟨i, u, v, _, h, _⟩ => by simp at h
  | x :: y :: r, out, ⟨i, u, v, hu, hv, hp⟩ => by
    rw [ofGo]
    cases i with
    | zero =>
      simp only [List.getElem?_cons_zero, Option.some.injEq] at hu
      subst hu
      rw [if_pos hp]
      exact ofGo_some _ _ (addS_ne _ _ _)
    | succ i => exact ofGo_ne (y :: r) _ ⟨i, u, v, by simpa using hu, by simpa using hv, hp⟩
theorem up_between {e : List Int} (h : e.Pairwise (· < ·)) {i : Nat} {u v z : Int} (hu : e[i]? = some u) (hv : e[i + 1]? = some v) (hz : z ∈ e) (h1 : u < z) : v ≤ z := by
  obtain ⟨j, hj, rfl⟩ := List.getElem_of_mem hz
  obtain ⟨hi, rfl⟩ := List.getElem?_eq_some_iff.1 hu
  obtain ⟨hi2, rfl⟩ := List.getElem?_eq_some_iff.1 hv
  have hp := List.pairwise_iff_getElem.1 h
  by_cases hij : i < j
  · by_cases e1 : j = i + 1
    · subst e1; exact Int.le_refl _
    · exact Int.le_of_lt (hp (i + 1) j hi2 hj (by omega))
  · exfalso
    by_cases e1 : j = i
    · subst e1; omega
    · have := hp j i hj hi (by omega); omega
theorem inS_stays {l L : List Sp} (hL : ∀ s ∈ l, s ∈ L) {i : Nat} {u v : Int} (hu : (endsL L)[i]? = some u) (hv : (endsL L)[i + 1]? = some v) (h : inS l u) : ∀ t, u ≤ t → t < v → inS l t := by
  obtain ⟨s, hs, h1, h2⟩ := h
  intro t h3 h4
  refine ⟨s, hs, by omega, ?_⟩
  have := up_between (endsL_up L) hu hv ((endsL_mem L s.t).2 ⟨s, hL s hs, .inr rfl⟩) h2
  omega
theorem bothL_set (a b : List Sp) : SetP (bothL a b) ∧ ∀ t, inS (bothL a b) t → inS a t ∧ inS b t := by
  unfold bothL
  cases he : endsL (a ++ b) with
  | nil => rw [ofGo]; exact ⟨SetP.nil, fun t h => absurd h (inS_nil t)⟩; simp
  | cons x e =>
    refine ofGo_inv e [] x (by rw [← he]; exact endsL_up _) ⟨SetP.nil, (fun s hs => by cases hs), fun t h => absurd h (inS_nil t)⟩ ?_
    rw [← he]
    intro i u v hu hv hp t h1 h2
    simp only [Bool.and_eq_true, inB_iff] at hp
    exact ⟨inS_stays (fun s hs => List.mem_append_left _ hs) hu hv hp.1 t h1 h2, inS_stays (fun s hs => List.mem_append_right _ hs) hu hv hp.2 t h1 h2⟩
theorem bothL_meet (a b : List Sp) : bothL a b ≠ [] ↔ Meet a b := by
  have hs := bothL_set a b
  constructor
  · intro h
    obtain ⟨t, ht⟩ := (some_in hs.1.ok).1 h
    exact ⟨t, hs.2 t ht⟩
  · rintro ⟨t, ⟨s, hs1, h1, h2⟩, ⟨u, hu1, h3, h4⟩⟩
    -- the later one of the two beginnings
    obtain ⟨m, hm⟩ : ∃ m, m = if s.f < u.f then u.f else s.f := ⟨_, rfl⟩
    have hmm : s.f ≤ m ∧ u.f ≤ m ∧ m ≤ t := by rw [hm]; split <;> omega
    have hme : m ∈ endsL (a ++ b) := (endsL_mem _ _).2 (by
      by_cases h : s.f < u.f
      · exact ⟨u, List.mem_append_right _ hu1, .inl (by rw [hm, if_pos h])⟩
      · exact ⟨s, List.mem_append_left _ hs1, .inl (by rw [hm, if_neg h])⟩)
    have hse : s.t ∈ endsL (a ++ b) := (endsL_mem _ _).2 ⟨s, List.mem_append_left _ hs1, .inr rfl⟩
    unfold bothL
    refine ofGo_ne _ _ ?_
    obtain ⟨i, hi, rfl⟩ := List.getElem_of_mem hme
    obtain ⟨j, hj, ej⟩ := List.getElem_of_mem hse
    have hij : i < j := by
      by_cases h : j ≤ i
      · exfalso
        by_cases e : j = i
        · subst e; omega
        · have := List.pairwise_iff_getElem.1 (endsL_up (a ++ b)) j i hj hi (by omega); omega
      · omega
    refine ⟨i, _, (endsL (a ++ b))[i + 1]'(by omega), List.getElem?_eq_getElem hi, List.getElem?_eq_getElem (by omega), ?_⟩
    simp only [Bool.and_eq_true, inB_iff]
    exact ⟨⟨s, hs1, hmm.1, by omega⟩, ⟨u, hu1, hmm.2.1, by omega⟩⟩
/-- The program's test for a set. -/
theorem setB_iff (l : List Sp) : setB l = true ↔ SetP l := by
  constructor
  · intro h
    have hat : ∀ i, i < l.length → spOk l i = true := fun i hi => by
      unfold setB at h
      exact (List.all_eq_true.1 h) i (List.mem_range.2 hi)
    have hok : ∀ i (hi : i < l.length), l[i].f < l[i].t := fun i hi => by
      have := hat i hi
      unfold spOk at this
      rw [Bool.and_eq_true] at this
      rw [getD_at l _ i hi] at this
      exact of_decide_eq_true this.1
    have hst : ∀ i (hi : i + 1 < l.length), (l[i]'(by omega)).t < l[i + 1].f := fun i hi => by
      have := hat (i + 1) hi
      unfold spOk at this
      rw [Bool.and_eq_true, Bool.or_eq_true] at this
      rw [getD_at l _ (i + 1) hi, show i + 1 - 1 = i by omega, getD_at l _ i (by omega)] at this
      rcases this.2 with h2 | h2
      · simp at h2
      · exact of_decide_eq_true h2
    refine ⟨fun s hs => ?_, ?_⟩
    · obtain ⟨i, hi, rfl⟩ := List.getElem_of_mem hs
      exact hok i hi
    · rw [List.pairwise_iff_getElem]
      intro i j hi hj hij
      have : ∀ d, ∀ (hd : i + (d + 1) < l.length), l[i].t < l[i + (d + 1)].f := by
        intro d
        induction d with
        | zero => intro hd; exact hst i hd
        | succ d ih =>
          intro hd
          have h1 := ih (by omega)
          have h2 := hok (i + (d + 1)) (by omega)
          have h3 := hst (i + (d + 1)) hd
          show l[i].t < l[i + (d + 1) + 1].f
          omega
      have h1 := this (j - i - 1) (by omega)
      have e : i + (j - i - 1 + 1) = j := by omega
      simp only [e] at h1
      exact h1
  · intro h
    refine setB_true (fun i hi => ?_)
    unfold spOk
    rw [Bool.and_eq_true, Bool.or_eq_true, getD_at l _ i hi]
    refine ⟨decide_eq_true (h.ok _ (List.getElem_mem hi)), ?_⟩
    by_cases h0 : i = 0
    · left; simp [h0]
    · right
      rw [getD_at l _ (i - 1) (by omega)]
      exact decide_eq_true (List.pairwise_iff_getElem.1 h.up (i - 1) i (by omega) hi (by omega))
end Go.Proofs.Ytkcpanaojehgiaa
