/- The order of rows, in plain words: a total order; what is sorted, each once, is one list. -/
import Derived.Test.YtpncblagjkbemaaRowA
import Derived.Test.YtpncblagjkbemaaCmpP
namespace Go.Proofs.Ytpncblagjkbemaa
set_option linter.unusedVariables false

theorem cmpR_cmp : Cmp cmpR where
  three a b := by
    induction a generalizing b with
    | nil => cases b <;> simp [cmpR]
    | cons x a ih =>
      cases b with
      | nil => simp [cmpR]
      | cons y b => rw [cmpR]; split; exact ih b; exact cmpV_cmp.three _ _
  zero a b := by
    induction a generalizing b with
    | nil => cases b <;> simp [cmpR]
    | cons x a ih =>
      cases b with
      | nil => simp [cmpR]
      | cons y b =>
        rw [cmpR, List.cons.injEq]
        split
        · rename_i h; rw [ih b, (cmpV_cmp.zero _ _).1 h]; simp
        · rename_i h
          constructor
          · intro h2; exact absurd h2 h
          · rintro ⟨rfl, -⟩; exact absurd ((cmpV_cmp.zero _ _).2 rfl) h
  anti a b := by
    induction a generalizing b with
    | nil => cases b <;> simp [cmpR]
    | cons x a ih =>
      cases b with
      | nil => simp [cmpR]
      | cons y b =>
        rw [cmpR, cmpR, cmpV_cmp.anti x y]
        by_cases h : cmpV x y = 0
        · rw [if_pos h, if_pos (by omega), ih b]
        · rw [if_neg h, if_neg (by omega)]
  trans a b d h1 h2 := by
    induction a generalizing b d with
    | nil =>
      cases b with
      | nil => simp [cmpR] at h1
      | cons y b =>
        cases d with
        | nil =>
          rw [cmpR] at h2; omega
        | cons z d => simp [cmpR]
    | cons x a ih =>
      cases b with
      | nil => rw [cmpR] at h1; omega
      | cons y b =>
        cases d with
        | nil => rw [cmpR] at h2; omega
        | cons z d =>
          rw [cmpR] at *
          by_cases g1 : cmpV x y = 0
          · rw [if_pos g1] at h1
            rw [(cmpV_cmp.zero _ _).1 g1]
            by_cases g2 : cmpV y z = 0
            · rw [if_pos g2] at h2 ⊢; exact ih b d h1 h2
            · rw [if_neg g2] at h2 ⊢; exact h2
          · rw [if_neg g1] at h1
            by_cases g2 : cmpV y z = 0
            · rw [(cmpV_cmp.zero _ _).1 g2] at h1 g1
              rw [if_neg g1]; exact h1
            · rw [if_neg g2] at h2
              have := cmpV_cmp.trans _ _ _ h1 h2
              rw [if_neg (by omega)]; exact this

/-! ### lists that rise -/
section
variable {α : Type} {c : α → α → Int}
theorem Cmp.self (h : Cmp c) (a : α) : c a a = 0 := (h.zero a a).2 rfl
def Up (c : α → α → Int) (l : List α) : Prop := l.Pairwise fun a b => c a b < 0
theorem up_one (h : Cmp c) : ∀ {l m : List α}, Up c l → Up c m → (∀ x, x ∈ l ↔ x ∈ m) → l = m := by
  intro l
  induction l with
  | nil =>
    intro m _ _ hm
    cases m with
    | nil => rfl
    | cons y m => exact absurd ((hm y).2 List.mem_cons_self) (by simp)
  | cons x l ih =>
    intro m hl hmu hm
    cases m with
    | nil => exact absurd ((hm x).1 List.mem_cons_self) (by simp)
    | cons y m =>
      have hl1 := List.pairwise_cons.1 hl
      have hm1 := List.pairwise_cons.1 hmu
      have hxy : x = y := by
        rcases List.mem_cons.1 ((hm x).1 List.mem_cons_self) with e | e
        · exact e
        · rcases List.mem_cons.1 ((hm y).2 List.mem_cons_self) with e2 | e2
          · exact e2.symm
          · have a1 := hm1.1 x e
            have a2 := hl1.1 y e2
            have := h.anti x y
            omega
      subst hxy
      congr 1
      refine ih hl1.2 hm1.2 (fun z => ?_)
      constructor
      · intro hz
        rcases List.mem_cons.1 ((hm z).1 (List.mem_cons_of_mem _ hz)) with e | e
        · subst e; have := hl1.1 z hz; have := h.self z; omega
        · exact e
      · intro hz
        rcases List.mem_cons.1 ((hm z).2 (List.mem_cons_of_mem _ hz)) with e | e
        · subst e; have := hm1.1 z hz; have := h.self z; omega
        · exact e
/-- One more, at its place, once. -/
def insR (c : α → α → Int) (x : α) : List α → List α
  | [] => [x]
  | y :: r => if c x y < 0 then x :: y :: r else if c x y = 0 then y :: r else y :: insR c x r
theorem insR_mem (h : Cmp c) (x : α) (l : List α) (z : α) : z ∈ insR c x l ↔ z = x ∨ z ∈ l := by
  induction l with
  | nil => simp [insR]
  | cons y r ih =>
    simp only [insR]
    split
    · simp
    · split
      · rename_i h0
        have := (h.zero _ _).1 h0
        subst this
        simp
      · rw [List.mem_cons, ih, List.mem_cons]
        constructor
        · rintro (a | a | a) <;> simp [a]
        · rintro (a | a | a) <;> simp [a]
theorem insR_up (h : Cmp c) (x : α) (l : List α) (hl : Up c l) : Up c (insR c x l) := by
  induction l with
  | nil => exact List.pairwise_singleton _ _
  | cons y r ih =>
    have h1 := List.pairwise_cons.1 hl
    simp only [insR]
    split
    · rename_i hxy
      refine List.pairwise_cons.2 ⟨fun z hz => ?_, hl⟩
      rcases List.mem_cons.1 hz with rfl | hz
      · exact hxy
      · exact h.trans _ _ _ hxy (h1.1 z hz)
    · split
      · exact hl
      · rename_i h2 h3
        refine List.pairwise_cons.2 ⟨fun z hz => ?_, ih h1.2⟩
        rcases (insR_mem h x r z).1 hz with rfl | hz
        · have := h.anti z y; have := h.three z y; omega
        · exact h1.1 z hz
def canonL (c : α → α → Int) (l : List α) : List α := l.foldl (fun o x => insR c x o) []
theorem canon_fold (h : Cmp c) (l : List α) : ∀ o, Up c o → Up c (l.foldl (fun o x => insR c x o) o) ∧ ∀ z, z ∈ l.foldl (fun o x => insR c x o) o ↔ z ∈ o ∨ z ∈ l := by
  induction l with
  | nil => intro o ho; exact ⟨ho, fun z => by simp⟩
  | cons x r ih =>
    intro o ho
    rw [List.foldl_cons]
    have := ih _ (insR_up h x o ho)
    refine ⟨this.1, fun z => ?_⟩
    rw [this.2 z, insR_mem h, List.mem_cons]
    constructor
    · rintro ((a | a) | a) <;> simp [a]
    · rintro (a | a | a) <;> simp [a]
theorem canon_up (h : Cmp c) (l : List α) : Up c (canonL c l) := (canon_fold h l [] List.Pairwise.nil).1
theorem canon_mem (h : Cmp c) (l : List α) (z : α) : z ∈ canonL c l ↔ z ∈ l := by
  rw [canonL, (canon_fold h l [] List.Pairwise.nil).2 z]; simp
theorem canon_self (h : Cmp c) {l : List α} (hl : Up c l) : canonL c l = l := up_one h (canon_up h l) hl (canon_mem h l)
theorem canon_one (h : Cmp c) {l m : List α} (hm : ∀ x, x ∈ l ↔ x ∈ m) : canonL c l = canonL c m := up_one h (canon_up h l) (canon_up h m) (fun x => by rw [canon_mem h, canon_mem h]; exact hm x)
/-- Each one of a run of equals once. -/
def compactL (c : α → α → Int) : List α → List α
  | [] => []
  | [x] => [x]
  | x :: y :: r => if c y x = 0 then compactL c (y :: r) else x :: compactL c (y :: r)
theorem compactL_mem (h : Cmp c) : ∀ (l : List α) (z : α), z ∈ compactL c l ↔ z ∈ l
  | [], z => by simp [compactL]
  | [x], z => by simp [compactL]
  | x :: y :: r, z => by
    rw [compactL]
    split
    · rename_i h0
      rw [compactL_mem h (y :: r) z, (h.zero _ _).1 h0]
      simp
    · rw [List.mem_cons, compactL_mem h (y :: r) z, List.mem_cons (a := z) (b := x)]
theorem compactL_up (h : Cmp c) : ∀ (l : List α), l.Pairwise (fun a b => ¬ c b a < 0) → Up c (compactL c l)
  | [], _ => by rw [compactL]; exact List.Pairwise.nil
  | [x], _ => by rw [compactL]; exact List.pairwise_singleton _ _
  | x :: y :: r, hl => by
    have h1 := List.pairwise_cons.1 hl
    rw [compactL]
    split
    · exact compactL_up h (y :: r) h1.2
    · rename_i hne
      refine List.pairwise_cons.2 ⟨fun z hz => ?_, compactL_up h (y :: r) h1.2⟩
      rw [compactL_mem h] at hz
      have hyx := h1.1 y List.mem_cons_self
      have a1 := h.three y x
      have a2 := h.anti y x
      rcases List.mem_cons.1 hz with rfl | hz
      · omega
      · have hzy := (List.pairwise_cons.1 h1.2).1 z hz
        have a3 := h.three z y
        have a4 := h.anti z y
        by_cases e : c z y = 0
        · rw [(h.zero _ _).1 e]; omega
        · exact h.trans _ y _ (by omega) (by omega)
theorem compact_canon (h : Cmp c) {l m : List α} (hl : l.Pairwise (fun a b => ¬ c b a < 0)) (hm : ∀ x, x ∈ l ↔ x ∈ m) : compactL c l = canonL c m :=
  up_one h (compactL_up h l hl) (canon_up h m) (fun x => by rw [compactL_mem h, canon_mem h]; exact hm x)
end
end Go.Proofs.Ytpncblagjkbemaa
