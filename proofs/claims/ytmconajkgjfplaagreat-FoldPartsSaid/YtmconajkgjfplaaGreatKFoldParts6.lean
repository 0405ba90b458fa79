/- Texts that the proofs of FoldParts stand on, part 6. -/
import Derived.Test.YtmconajkgjfplaaGreatKFoldParts5
/- A region that draws its order, walked by what each operation's value is like: in whatever order they come up, each value is as its predicate says, and stays so as memory grows. -/
section
set_option linter.unusedVariables false
set_option linter.unusedSimpArgs false
namespace Go.Proofs.YtmconajkgjfplaaGreat
open Go.RowKit
set_option linter.unusedVariables false
set_option linter.unusedSimpArgs false

def dstAt (ops : Array Oper) (k : Nat) : Option Tmp := (ops[k]?).bind (·.dst)
def waits (o : Oper) (k : Nat) : Bool := o.after.toList.any fun e => e.on == k && Region.binds .any e
/-- The operations whose values this one looks at. -/
def depsOf (ops : Array Oper) (o : Oper) : List Nat := (List.range ops.size).filter fun k => waits o k && (match dstAt ops k with | some t => (o.looksAt ops).contains t | none => false)
def tidyAt (ops : Array Oper) (n i : Nat) : Bool :=
  match ops[i]? with
  | none => false
  | some o => (match o.dst with
    | none => false
    | some d => decide (d < n) && (List.range ops.size).all (fun j => j == i || dstAt ops j != some d)) &&
      (o.looksAt ops).all (fun t => (List.range ops.size).all fun k => dstAt ops k != some t || waits o k || ((ops[k]?).map (waits · i)).getD false) &&
      o.after.toList.all (fun e => !Region.binds .any e || decide (e.on < i)) && (match o.op with | .select _ _ => false | _ => true)
/-- The first m operations are tidy, and each one behind them waits for all of them. -/
def tidy (ops : Array Oper) (n m : Nat) : Bool := (List.range m).all (tidyAt ops n) && (List.range ops.size).all (fun i => decide (i < m) || ((ops[i]?).map fun o => (List.range m).all (waits o)).getD false) && decide (m ≤ ops.size)
def listedM (m n : Nat) : Array Bool := Array.replicate m true ++ Array.replicate (n - m) false
def putAll (ops : Array Oper) (vals : Nat → Value) (L : List Nat) (a : Act) : Act := L.foldl (fun a k => a.put (dstAt ops k) (vals k)) a
def frameAt (ops : Array Oper) (a0 : Act) (o : Oper) (vals : Nat → Value) : Act := putAll ops vals (depsOf ops o) a0
/-- One operation does as R says. -/
def OpStep (P : Program) (ops : Array Oper) (o : Oper) (a : Act) (w : World) (R : Value → World → Prop) : Prop :=
  (Region.wanted o (yielded ops a.tmps) = true ∧ ((∃ v w', (execOp a.eval o).run P w = .ok (.value v) w' ∧ R v w') ∨ (∃ f args, (execOp a.eval o).run P w = .ok (.enter f args) w ∧ Calls P f args w fun e w' => ∃ v, e = .returned v ∧ R v w'))) ∨
  (Region.wanted o (yielded ops a.tmps) = false ∧ R undef w)
def StepAt (P : Program) (ops : Array Oper) (a0 : Act) (W : World) (Pi : Nat → Value → World → Prop) (i : Nat) : Prop :=
  ∀ o, ops[i]? = some o → ∀ (vals : Nat → Value) (w : World), Below W.heap.size W w → (∀ k ∈ depsOf ops o, Pi k (vals k) w) → OpStep P ops o (frameAt ops a0 o vals) w (fun v w' => Below w.heap.size w w' ∧ Pi i v w')
theorem listedM_at (m n k : Nat) (h : m ≤ n) : (listedM m n)[k]? = if k < m then some true else if k < n then some false else none := by
  unfold listedM
  rw [Array.getElem?_append]
  simp only [Array.size_replicate, Array.getElem?_replicate]
  by_cases hk : k < m
  · simp [hk]
  · rw [if_neg hk, if_neg hk]
    by_cases h2 : k < n
    · rw [if_pos h2, if_pos (by omega)]
    · rw [if_neg h2, if_neg (by omega)]
theorem putAll_defers (ops : Array Oper) (vals : Nat → Value) : ∀ (L : List Nat) (a : Act), (putAll ops vals L a).defers = a.defers
  | [], _ => rfl
  | k :: L, a => by
    show (putAll ops vals L (a.put (dstAt ops k) (vals k))).defers = _
    rw [putAll_defers ops vals L]
    cases dstAt ops k <;> simp [Act.put]
theorem put_other {a : Act} {d : Option Tmp} {t : Tmp} (h : d ≠ some t) (v : Value) : (a.put d v).tmps[t]? = a.tmps[t]? := by
  cases d with
  | none => rfl
  | some d =>
    have hne : d ≠ t := fun e => h (e ▸ rfl)
    simp [Act.put, Array.getElem?_setIfInBounds_ne hne]
theorem put_self {a : Act} {t : Tmp} (h : t < a.tmps.size) (v : Value) : (a.put (some t) v).tmps[t]? = some v := by
  simp [Act.put, Array.getElem?_setIfInBounds_self, h]
theorem putAll_other {ops : Array Oper} {vals : Nat → Value} {t : Tmp} : ∀ (L : List Nat) (a : Act), (∀ k ∈ L, dstAt ops k ≠ some t) → (putAll ops vals L a).tmps[t]? = a.tmps[t]?
  | [], _, _ => rfl
  | k :: L, a, h => by
    show (putAll ops vals L (a.put (dstAt ops k) (vals k))).tmps[t]? = _
    rw [putAll_other L _ (fun j hj => h j (List.mem_cons_of_mem _ hj)), put_other (h k List.mem_cons_self)]
theorem putAll_at {ops : Array Oper} {vals : Nat → Value} {t : Tmp} {k : Nat} (hk : dstAt ops k = some t) : ∀ (L : List Nat) (a : Act), k ∈ L → t < a.tmps.size → (∀ j ∈ L, dstAt ops j = some t → j = k) → (putAll ops vals L a).tmps[t]? = some (vals k)
  | [], _, h, _, _ => by cases h
  | j :: L, a, h, ht, hu => by
    show (putAll ops vals L (a.put (dstAt ops j) (vals j))).tmps[t]? = _
    by_cases hL : k ∈ L
    · exact putAll_at hk L _ hL (by cases dstAt ops j <;> simpa [Act.put] using ht) (fun i hi => hu i (List.mem_cons_of_mem _ hi))
    · have hjk : k = j := (List.mem_cons.1 h).resolve_right hL
      subst hjk
      rw [putAll_other L _ (fun i hi e => hL (by rw [← hu i (List.mem_cons_of_mem _ hi) e]; exact hi)), hk, put_self ht]
section
variable {P : Program} {ops : Array Oper} {a0 : Act} {W : World} {Pi : Nat → Value → World → Prop} {m : Nat}
structure Inv (ops : Array Oper) (m : Nat) (a0 : Act) (W : World) (Pi : Nat → Value → World → Prop) (listed : Array Bool) (vals : Nat → Value) (a : Act) (w : World) : Prop where
  below : Below W.heap.size W w
  upto : ∀ k, listed.getD k false = true → k < m
  lsize : listed.size = ops.size
  defers : a.defers = a0.defers
  size : a.tmps.size = a0.tmps.size
  base : ∀ t, (∀ k, dstAt ops k = some t → listed.getD k false = false) → a.tmps[t]? = a0.tmps[t]?
  val : ∀ k t, dstAt ops k = some t → listed.getD k false = true → a.tmps[t]? = some (vals k)
  post : ∀ k, listed.getD k false = true → Pi k (vals k) w
  closed : ∀ k ok, ops[k]? = some ok → listed.getD k false = true → ∀ e ∈ ok.after, Region.binds .any e = true → listed.getD e.on false = true
theorem tidy_at (h : tidy ops a0.tmps.size m = true) {i : Nat} (hm : i < m) {o : Oper} (ho : ops[i]? = some o) :
    (∃ d, o.dst = some d ∧ d < a0.tmps.size ∧ ∀ j, dstAt ops j = some d → j = i) ∧ (∀ t ∈ o.looksAt ops, ∀ k, dstAt ops k = some t → waits o k = true ∨ ∃ ok, ops[k]? = some ok ∧ waits ok i = true) ∧
      (∀ e ∈ o.after, Region.binds .any e = true → e.on < i) ∧ ∀ cs b, o.op ≠ .select cs b := by
  have hi : i < ops.size := (Array.getElem?_eq_some_iff.1 ho).1
  unfold tidy at h
  rw [Bool.and_eq_true, Bool.and_eq_true] at h
  have h1 := List.all_eq_true.1 h.1.1 i (List.mem_range.2 hm)
  unfold tidyAt at h1
  rw [ho] at h1
  simp only [Bool.and_eq_true] at h1
  obtain ⟨⟨⟨h1, h2⟩, h3⟩, h4⟩ := h1
  have hr : ∀ k t, dstAt ops k = some t → k < ops.size := fun k t hk => by
    unfold dstAt at hk
    cases hok : ops[k]? with
    | none => rw [hok] at hk; cases hk
    | some ok => exact (Array.getElem?_eq_some_iff.1 hok).1
  refine ⟨?_, ?_, ?_, ?_⟩
  · cases hd : o.dst with
    | none => rw [hd] at h1; cases h1
    | some d =>
      rw [hd] at h1
      simp only [Bool.and_eq_true, decide_eq_true_eq] at h1
      refine ⟨d, rfl, h1.1, fun j hj => ?_⟩
      have := List.all_eq_true.1 h1.2 j (List.mem_range.2 (hr j d hj))
      rw [hj] at this
      simpa using this
  · intro t ht k hk
    have := List.all_eq_true.1 (List.all_eq_true.1 h2 t ht) k (List.mem_range.2 (hr k t hk))
    rw [hk] at this
    simp only [bne_self_eq_false, Bool.false_or, Bool.or_eq_true] at this
    rcases this with h | h
    · exact .inl h
    · cases hok : ops[k]? with
      | none => rw [hok] at h; cases h
      | some ok => rw [hok] at h; exact .inr ⟨ok, rfl, h⟩
  · intro e he hb
    have := List.all_eq_true.1 h3 e (by simpa using he)
    rw [hb] at this
    simpa using this
  · intro cs b e
    rw [e] at h4
    cases h4
theorem waits_iff {o : Oper} {k : Nat} : waits o k = true ↔ ∃ e ∈ o.after, e.on = k ∧ Region.binds .any e = true := by
  unfold waits
  rw [List.any_eq_true]
  constructor
  · rintro ⟨e, he, h⟩
    rw [Bool.and_eq_true, beq_iff_eq] at h
    exact ⟨e, by simpa using he, h⟩
  · rintro ⟨e, he, h⟩
    exact ⟨e, by simpa using he, by rw [Bool.and_eq_true, beq_iff_eq]; exact h⟩
theorem deps_mem {o : Oper} {k : Nat} : k ∈ depsOf ops o ↔ k < ops.size ∧ waits o k = true ∧ ∃ t, dstAt ops k = some t ∧ t ∈ o.looksAt ops := by
  unfold depsOf
  rw [List.mem_filter, List.mem_range, Bool.and_eq_true]
  constructor
  · rintro ⟨h1, h2, h3⟩
    cases hd : dstAt ops k with
    | none => rw [hd] at h3; cases h3
    | some t => rw [hd] at h3; exact ⟨h1, h2, t, rfl, by simpa using h3⟩
  · rintro ⟨h1, h2, t, hd, h3⟩
    exact ⟨h1, h2, by rw [hd]; simpa using h3⟩
theorem frame_looks (ht : tidy ops a0.tmps.size m = true) {listed : Array Bool} {vals : Nat → Value} {a : Act} {w : World} (hI : Inv ops m a0 W Pi listed vals a w) {i : Nat} {o : Oper} (him : i < m) (ho : ops[i]? = some o) (hr : i ∈ Region.ready .any ops listed) :
    ∀ t ∈ o.looksAt ops, (frameAt ops a0 o vals).tmps[t]? = a.tmps[t]? := by
  obtain ⟨hun, o', ho', hall⟩ := mem_ready.1 hr
  obtain rfl : o = o' := by rw [ho] at ho'; injection ho'
  obtain ⟨-, hlook, -, -⟩ := tidy_at ht him ho
  intro t htl
  unfold frameAt
  by_cases hk : ∃ k ∈ depsOf ops o, dstAt ops k = some t
  · obtain ⟨k, hkd, hkt⟩ := hk
    obtain ⟨hks, hkw, -⟩ := deps_mem.1 hkd
    obtain ⟨e, he, rfl, hb⟩ := waits_iff.1 hkw
    obtain ⟨ok, hok⟩ : ∃ ok, ops[e.on]? = some ok := ⟨ops[e.on], by simp [hks]⟩
    have hem : e.on < m := hI.upto _ (hall e he hb)
    obtain ⟨⟨d, hd, hdn, hu⟩, -, -, -⟩ := tidy_at ht hem hok
    have hdt : d = t := by
      unfold dstAt at hkt
      rw [hok] at hkt
      simp only [Option.bind_some] at hkt
      rw [hd] at hkt
      injection hkt
    subst hdt
    rw [putAll_at hkt _ _ hkd hdn (fun j _ hj => hu j hj), hI.val _ _ hkt (hall e he hb)]
  · rw [putAll_other _ _ (fun k hkd hkt => hk ⟨k, hkd, hkt⟩), hI.base t (fun k hkt => ?_)]
    have hks : k < ops.size := by
      unfold dstAt at hkt
      cases hok : ops[k]? with
      | none => rw [hok] at hkt; cases hkt
      | some ok => exact (Array.getElem?_eq_some_iff.1 hok).1
    rcases hlook t htl k hkt with hw | ⟨ok, hok, hw⟩
    · exact absurd ⟨k, deps_mem.2 ⟨hks, hw, t, hkt, htl⟩, hkt⟩ hk
    · cases hl : listed.getD k false with
      | false => rfl
      | true =>
        obtain ⟨e, he, he2, hb⟩ := waits_iff.1 hw
        have h1 := hI.closed k ok hok hl e he hb
        rw [he2] at h1
        rcases Nat.lt_or_ge i listed.size with h' | h'
        · simp [h'] at hun h1
          rw [hun] at h1
          cases h1
        · simp [Array.getElem?_eq_none h'] at h1
theorem Inv.start (hB : Below W.heap.size W W) (vals : Nat → Value) : Inv ops m a0 W Pi (Array.replicate ops.size false) vals a0 W := by
  have hf : ∀ k, (Array.replicate ops.size false).getD k false = false := fun k => by
    rcases Nat.lt_or_ge k ops.size with h | h <;> simp [h]
  exact ⟨hB, fun k h => absurd h (by rw [hf]; decide), by simp, rfl, rfl, fun _ _ => rfl, fun k t _ h => absurd h (by rw [hf]; decide), fun k h => absurd h (by rw [hf]; decide), fun k ok _ h => absurd h (by rw [hf]; decide)⟩
/-- One more has come up. -/
theorem Inv.step (ht : tidy ops a0.tmps.size m = true) (hst : ∀ i v w w', Pi i v w → Below w.heap.size w w' → Pi i v w') {listed : Array Bool} {vals : Nat → Value} {a : Act} {w w' : World} (hI : Inv ops m a0 W Pi listed vals a w) {i : Nat} {o : Oper} (him : i < m) (ho : ops[i]? = some o)
    (hr : i ∈ Region.ready .any ops listed) {v : Value} (hB : Below w.heap.size w w') (hP : Pi i v w') : Inv ops m a0 W Pi (listed.setIfInBounds i true) (fun k => if k = i then v else vals k) (a.put o.dst v) w' := by
  obtain ⟨hun, o', ho', hall⟩ := mem_ready.1 hr
  obtain rfl : o = o' := by rw [ho] at ho'; injection ho'
  obtain ⟨⟨d, hd, hdn, hu⟩, -, hlt, -⟩ := tidy_at ht him ho
  have hi : i < listed.size := by rw [hI.lsize]; exact (Array.getElem?_eq_some_iff.1 ho).1
  have hset : ∀ k, (listed.setIfInBounds i true).getD k false = if k = i then true else listed.getD k false := fun k => by
    by_cases h : k = i
    · subst h; simp [hi]
    · rw [if_neg h, getD_set_ne false (Ne.symm h)]
  have hdi : dstAt ops i = some d := by unfold dstAt; rw [ho]; exact hd
  refine ⟨hI.below.trans (hB.mono hI.below.size), fun k hk => by
    rw [hset] at hk
    split at hk
    · rename_i e; subst e; exact him
    · exact hI.upto k hk, by simp [hI.lsize], by rw [← hI.defers]; cases o.dst <;> rfl, by rw [← hI.size]; cases o.dst <;> simp [Act.put], fun t hb => ?_, fun k t hk hl => ?_, fun k hl => ?_, fun k ok hok hl e he hb => ?_⟩
  · have hne : o.dst ≠ some t := fun e => by
      have := hb i (by unfold dstAt; rw [ho]; exact e)
      rw [hset, if_pos rfl] at this
      cases this
    rw [put_other hne, hI.base t (fun k hk => ?_)]
    have := hb k hk
    rw [hset] at this
    split at this
    · cases this
    · exact this
  · rw [hset] at hl
    by_cases h : k = i
    · subst h
      rw [hdi] at hk
      injection hk with hk
      subst hk
      rw [hd, put_self (by rw [hI.size]; exact hdn)]
      simp
    · rw [if_neg h] at hl
      have hne : o.dst ≠ some t := fun e => by
        rw [hd] at e
        injection e with e
        subst e
        exact h (hu k hk)
      rw [put_other hne, hI.val k t hk hl]
      simp [h]
  · rw [hset] at hl
    by_cases h : k = i
    · subst h; simpa using hP
    · rw [if_neg h] at hl
      simp only [h, if_false]
      exact hst _ _ _ _ (hI.post k hl) hB
  · rw [hset] at hl ⊢
    by_cases h : k = i
    · subst h
      obtain rfl : o = ok := by rw [ho] at hok; injection hok
      split
      · rfl
      · exact hall e he hb
    · rw [if_neg h] at hl
      split
      · rfl
      · exact hI.closed k ok hok hl e he hb
theorem wpAny_inv {Q : Exit → Act → World → Prop} (ht : tidy ops a0.tmps.size m = true) (hst : ∀ i v w w', Pi i v w → Below w.heap.size w w' → Pi i v w') (hstep : ∀ i, i < m → StepAt P ops a0 W Pi i)
    (hend : ∀ (vals : Nat → Value) (w : World), Below W.heap.size W w → (∀ k, k < m → Pi k (vals k) w) → wpAny P .any ops Q (ops.size - m) (listedM m ops.size) (putAll ops vals (List.range m) a0) w) :
    ∀ (c : Nat) (listed : Array Bool) (vals : Nat → Value) (a : Act) (w : World), Inv ops m a0 W Pi listed vals a w → (List.range m).countP (fun k => !listed.getD k false) = c → wpAny P .any ops Q (ops.size - m + c) listed a w := by
  have ht2 := ht
  unfold tidy at ht2
  rw [Bool.and_eq_true, Bool.and_eq_true, decide_eq_true_eq] at ht2
  obtain ⟨⟨-, hrest⟩, hms⟩ := ht2
  intro c
  induction c with
  | zero =>
    intro listed vals a w hI hc
    have hall : ∀ k, k < m → listed.getD k false = true := fun k hk => by
      have h0 := List.countP_eq_zero.1 hc k (List.mem_range.2 hk)
      simpa using h0
    have hl : listed = listedM m ops.size := by
      apply Array.ext_getElem?
      intro k
      rw [listedM_at m ops.size k hms]
      by_cases hk : k < m
      · rw [if_pos hk]
        have h3 := hall k hk
        have hks : k < listed.size := by rw [hI.lsize]; omega
        have e1 : listed[k] = true := by simpa [hks] using h3
        simp [hks, e1]
      · rw [if_neg hk]
        by_cases hks : k < ops.size
        · rw [if_pos hks]
          have hks' : k < listed.size := by rw [hI.lsize]; exact hks
          have e1 : listed[k] = false := by
            cases h4 : listed[k] with
            | false => rfl
            | true => exact absurd (hI.upto k (by simp [hks', h4])) hk
          simp [hks', e1]
        · rw [if_neg hks, Array.getElem?_eq_none]
          rw [hI.lsize]; omega
    have ha : a = putAll ops vals (List.range m) a0 := by
      have h1 : a.tmps = (putAll ops vals (List.range m) a0).tmps := by
        apply Array.ext_getElem?
        intro t
        by_cases hk : ∃ k, k < m ∧ dstAt ops k = some t
        · obtain ⟨k, hkm, hkt⟩ := hk
          have hks : k < ops.size := by omega
          have hok : ops[k]? = some ops[k] := by simp [hks]
          obtain ⟨⟨d, hd, hdn, hu⟩, -, -, -⟩ := tidy_at ht hkm hok
          have hdt : d = t := by
            unfold dstAt at hkt
            rw [hok] at hkt
            simp only [Option.bind_some] at hkt
            rw [hd] at hkt
            injection hkt
          subst hdt
          rw [hI.val k _ hkt (hall k hkm), putAll_at hkt _ _ (List.mem_range.2 hkm) hdn (fun j _ hj => hu j hj)]
        · rw [putAll_other _ _ (fun k hkL hkt => hk ⟨k, List.mem_range.1 hkL, hkt⟩), hI.base t (fun k hkt => by
            cases h4 : listed.getD k false with
            | false => rfl
            | true => exact absurd ⟨k, hI.upto k h4, hkt⟩ hk)]
      have h2 : a.defers = (putAll ops vals (List.range m) a0).defers := by rw [putAll_defers, hI.defers]
      cases a
      cases hp : putAll ops vals (List.range m) a0
      rw [hp] at h1 h2
      simp only at h1 h2
      rw [h1, h2]
    rw [hl, ha]
    exact hend vals w hI.below (fun k hk => hI.post k (hall k hk))
  | succ c ih =>
    intro listed vals a w hI hc
    have hex : ∃ k, k < m ∧ listed.getD k false = false := by
      refine Classical.byContradiction fun hn => ?_
      have h0 : (List.range m).countP (fun k => !listed.getD k false) = 0 := List.countP_eq_zero.2 (fun k hk => by
        cases h4 : listed.getD k false with
        | true => simp
        | false => exact absurd ⟨k, List.mem_range.1 hk, h4⟩ hn)
      omega
    have hready : Region.ready .any ops listed ≠ [] := by
      intro hr
      have hall : ∀ n k, k < n → k < m → listed.getD k false = true := by
        intro n
        induction n with
        | zero => intro k h; omega
        | succ n ihn =>
          intro k hk hkm
          cases hl : listed.getD k false with
          | true => rfl
          | false =>
            exfalso
            have hks : k < ops.size := by omega
            have hok : ops[k]? = some ops[k] := by simp [hks]
            have : k ∈ Region.ready .any ops listed := mem_ready.2 ⟨by
              have hkl : k < listed.size := by rw [hI.lsize]; exact hks
              simp [hkl] at hl ⊢
              exact hl, _, hok, fun e he hb => by
              have hlt := (tidy_at ht hkm hok).2.2.1 e he hb
              exact ihn e.on (by omega) (by omega)⟩
            rw [hr] at this
            cases this
      obtain ⟨k, hkm, hkf⟩ := hex
      rw [hall (k + 1) k (by omega) hkm] at hkf
      cases hkf
    refine ⟨fun hr => absurd hr hready, fun i hi => ?_⟩
    obtain ⟨hun, o, ho, hall⟩ := mem_ready.1 hi
    have his : i < ops.size := (Array.getElem?_eq_some_iff.1 ho).1
    have him : i < m := by
      refine Classical.byContradiction fun hn => ?_
      have h1 := List.all_eq_true.1 hrest i (List.mem_range.2 his)
      rw [ho, Bool.or_eq_true, decide_eq_true_eq] at h1
      rcases h1 with h1 | h1
      · exact hn h1
      · simp only [Option.map_some, Option.getD_some] at h1
        obtain ⟨k, hkm, hkf⟩ := hex
        obtain ⟨e, he, he2, hb⟩ := waits_iff.1 (List.all_eq_true.1 h1 k (List.mem_range.2 hkm))
        have := hall e he hb
        rw [he2, hkf] at this
        cases this
    have hil : i < listed.size := by rw [hI.lsize]; exact his
    have hlooks := frame_looks ht hI him ho hi
    have hS := hstep i him o ho vals w hI.below (fun k hk => by
      obtain ⟨hks, hkw, -⟩ := deps_mem.1 hk
      obtain ⟨e, he, rfl, hb⟩ := waits_iff.1 hkw
      exact hI.post _ (hall e he hb))
    have hcount : (List.range m).countP (fun k => !(listed.setIfInBounds i true).getD k false) = c := by
      have h1 : (List.range m).countP (fun k => !(listed.setIfInBounds i true).getD k false) + 1 = (List.range m).countP (fun k => !listed.getD k false) := by
        have key : ∀ L : List Nat, L.Nodup → i ∈ L → L.countP (fun k => !(listed.setIfInBounds i true).getD k false) + 1 = L.countP (fun k => !listed.getD k false) := by
          have heq : ∀ L : List Nat, i ∉ L → L.countP (fun k => !(listed.setIfInBounds i true).getD k false) = L.countP (fun k => !listed.getD k false) := fun L hL =>
            List.countP_congr (fun k hk => by
              have h : i ≠ k := by rintro rfl; exact hL hk
              rw [getD_set_ne false h])
          intro L
          induction L with
          | nil => intro _ h; cases h
          | cons k L ihL =>
            intro hnd h
            obtain ⟨hk1, hk2⟩ := List.nodup_cons.1 hnd
            rw [List.countP_cons, List.countP_cons]
            by_cases hki : i = k
            · subst hki
              have e1 : (!(listed.setIfInBounds i true).getD i false) = false := by simp [hil]
              have e2 : (!listed.getD i false) = true := by simp [hil] at hun ⊢; exact hun
              rw [e1, e2, if_neg (by decide), if_pos rfl, heq L hk1]
            · have := ihL hk2 ((List.mem_cons.1 h).resolve_left hki)
              rw [getD_set_ne false hki]
              omega
        exact key _ List.nodup_range (List.mem_range.2 him)
      omega
    have go : ∀ v w', Below w.heap.size w w' → Pi i v w' → wpAny P .any ops Q (ops.size - m + c) (listed.setIfInBounds i true) (a.put o.dst v) w' := fun v w' hB hP => ih _ _ _ _ (hI.step ht hst him ho hi hB hP) hcount
    have hwant : Region.wanted o (yielded ops a.tmps) = Region.wanted o (yielded ops (frameAt ops a0 o vals).tmps) := by
      unfold Region.wanted
      cases hg : o.guard with
      | none => rfl
      | some gw =>
        obtain ⟨g, want⟩ := gw
        have hy : yielded ops a.tmps g = yielded ops (frameAt ops a0 o vals).tmps g := by
          unfold yielded
          cases htg : (ops[g]?).bind (·.dst) with
          | none => rfl
          | some t =>
            have := hlooks t (by simp [Oper.looksAt, hg, htg])
            simp only [Option.bind_some, this]
        simp only [hy]
    have hex : execOp a.eval o = execOp (frameAt ops a0 o vals).eval o := by
      refine execOp_congr o (tidy_at ht him ho).2.2.2 (fun x hx => ?_)
      cases x with
      | tmp t =>
        have := hlooks t (List.mem_append_left _ (List.mem_filterMap.2 ⟨.tmp t, by simpa using hx, rfl⟩))
        simp only [Act.eval, Array.getD_eq_getD_getElem?, this]
      | _ => rfl
    unfold wpOp
    simp only [ho]
    rw [hwant]
    rcases hS with ⟨hw, hS⟩ | ⟨hw, hS⟩
    · rw [if_pos hw]
      refine .inl ?_
      unfold Oper.wp
      rw [hex]
      rcases hS with ⟨v, w', hrun, hB, hP⟩ | ⟨f, args, hrun, hc⟩
      · rw [hrun]
        exact go v w' hB hP
      · rw [hrun]
        refine Calls.mono hc ?_
        rintro e w' ⟨v, rfl, hB, hP⟩
        exact go v w' hB hP
    · rw [if_neg (by rw [hw]; decide)]
      exact go undef w hS.1 hS.2
/-- **A region that draws its order**, of which the first m operations are walked by what their values are like. -/
theorem wp_region_inv {Q : Exit → Act → World → Prop} {id : Nat} (w0 : World) (Pi : Nat → Value → World → Prop) (hm : P.follows .mixedOrders = true) (ht : tidy ops a0.tmps.size m = true) (hst : ∀ i v w w', Pi i v w → Below w.heap.size w w' → Pi i v w')
    (hstep : ∀ i, i < m → StepAt P ops a0 w0.drew Pi i)
    (hend : ∀ (vals : Nat → Value) (w : World), Below w0.heap.size w0.drew w → (∀ k, k < m → Pi k (vals k) w) → wpAny P .any ops Q (ops.size - m) (listedM m ops.size) (putAll ops vals (List.range m) a0) w) : (Code.region id ops true).wp P Q a0 w0 := by
  have h1 := wpAny_inv (W := w0.drew) ht hst hstep hend _ (Array.replicate ops.size false) (fun _ => undef) a0 w0.drew (Inv.start (Below.refl _ _) _) rfl
  have h2 : (List.range m).countP (fun k => !(Array.replicate ops.size false).getD k false) = m := by
    have : (List.range m).countP (fun k => !(Array.replicate ops.size false).getD k false) = (List.range m).length := List.countP_eq_length.2 (fun k _ => by
      rcases Nat.lt_or_ge k ops.size with h | h <;> simp [h])
    rw [this, List.length_range]
  rw [h2] at h1
  have hms : m ≤ ops.size := by
    unfold tidy at ht
    rw [Bool.and_eq_true, decide_eq_true_eq] at ht
    exact ht.2
  rw [Nat.sub_add_cancel hms] at h1
  exact wp_region_any hm h1
end
section
variable {P : Program} {ops : Array Oper} {a0 : Act} {W : World} {Pi : Nat → Value → World → Prop}
theorem StepAt.mk {i : Nat} {o : Oper} (ho : ops[i]? = some o) (ds : List (Nat × Tmp)) (hd : (depsOf ops o == ds.map (·.1)) = true) (hs : ds.all (fun p => dstAt ops p.1 == some p.2) = true)
    (h : ∀ (vals : Nat → Value) (w : World), Below W.heap.size W w → (∀ p ∈ ds, Pi p.1 (vals p.1) w) → OpStep P ops o (ds.foldl (fun a p => a.put (some p.2) (vals p.1)) a0) w (fun v w' => Below w.heap.size w w' ∧ Pi i v w')) : StepAt P ops a0 W Pi i := by
  intro o' ho' vals w hB hD
  rw [ho] at ho'
  injection ho' with ho'
  subst ho'
  have hd := eq_of_beq hd
  have e : frameAt ops a0 o vals = ds.foldl (fun a p => a.put (some p.2) (vals p.1)) a0 := by
    unfold frameAt putAll
    rw [hd]
    have key : ∀ (L : List (Nat × Tmp)) (a : Act), (∀ p ∈ L, dstAt ops p.1 = some p.2) → (L.map (·.1)).foldl (fun (a : Act) (k : Nat) => a.put (dstAt ops k) (vals k)) a = L.foldl (fun (a : Act) (p : Nat × Tmp) => a.put (some p.2) (vals p.1)) a := by
      intro L
      induction L with
      | nil => intro a _; rfl
      | cons p L ih =>
        intro a hp
        rw [List.map_cons, List.foldl_cons, List.foldl_cons, hp p List.mem_cons_self]
        exact ih _ (fun q hq => hp q (List.mem_cons_of_mem _ hq))
    exact key ds a0 (fun p hp => by have := List.all_eq_true.1 hs p hp; simpa using this)
  rw [e]
  exact h vals w hB (fun p hp => hD p.1 (by rw [hd]; exact List.mem_map.2 ⟨p, hp, rfl⟩))
theorem OpStep.val {o : Oper} {a : Act} {w w' : World} {v : Value} {R : Value → World → Prop} (hr : (execOp a.eval o).run P w = .ok (.value v) w') (hw : Region.wanted o (yielded ops a.tmps) = true) (h1 : Below w.heap.size w w') (h2 : R v w') : OpStep P ops o a w (fun v w' => Below w.heap.size w w' ∧ R v w') :=
  .inl ⟨hw, .inl ⟨v, w', hr, h1, h2⟩⟩
theorem OpStep.call {o : Oper} {a : Act} {w : World} {f : FuncId} {args : Array Value} {R : Value → World → Prop} (hr : (execOp a.eval o).run P w = .ok (.enter f args) w) (hw : Region.wanted o (yielded ops a.tmps) = true)
    (hc : Calls P f args w fun e w' => ∃ v, e = .returned v ∧ Below w.heap.size w w' ∧ R v w') : OpStep P ops o a w (fun v w' => Below w.heap.size w w' ∧ R v w') :=
  .inl ⟨hw, .inr ⟨f, args, hr, hc⟩⟩
theorem OpStep.no {o : Oper} {a : Act} {w : World} {R : Value → World → Prop} (hw : Region.wanted o (yielded ops a.tmps) = false) (h2 : R undef w) : OpStep P ops o a w (fun v w' => Below w.heap.size w w' ∧ R v w') :=
  .inr ⟨hw, Below.refl _ _, h2⟩
def Steps (P : Program) (ops : Array Oper) (a0 : Act) (W : World) (Pi : Nat → Value → World → Prop) : Nat → Nat → Prop
  | _, 0 => True
  | i, n + 1 => StepAt P ops a0 W Pi i ∧ Steps P ops a0 W Pi (i + 1) n
theorem Steps.at : ∀ (n i : Nat), Steps P ops a0 W Pi i n → ∀ k, i ≤ k → k < i + n → StepAt P ops a0 W Pi k
  | 0, i, _, k, h1, h2 => by omega
  | n + 1, i, h, k, h1, h2 => by
    by_cases hk : k = i
    · subst hk; exact h.1
    · exact Steps.at n (i + 1) h.2 k (by omega) (by omega)
theorem putAll_slots (ops : Array Oper) (vals : Nat → Value) (L : List (Nat × Tmp)) (a : Act) (hs : L.all (fun p => dstAt ops p.1 == some p.2) = true) : putAll ops vals (L.map (·.1)) a = L.foldl (fun a p => a.put (some p.2) (vals p.1)) a := by
  unfold putAll
  have key : ∀ (L : List (Nat × Tmp)) (a : Act), (∀ p ∈ L, dstAt ops p.1 = some p.2) → (L.map (·.1)).foldl (fun (a : Act) (k : Nat) => a.put (dstAt ops k) (vals k)) a = L.foldl (fun (a : Act) (p : Nat × Tmp) => a.put (some p.2) (vals p.1)) a := by
    intro L
    induction L with
    | nil => intro a _; rfl
    | cons p L ih =>
      intro a hp
      rw [List.map_cons, List.foldl_cons, List.foldl_cons, hp p List.mem_cons_self]
      exact ih _ (fun q hq => hp q (List.mem_cons_of_mem _ hq))
  exact key L a (fun p hp => by have := List.all_eq_true.1 hs p hp; simpa using this)
/-- **A region that draws its order**, its operations counted, the first m of n by what their values are like; ds: which slot each one writes. -/
theorem wp_region_steps_to {Q : Exit → Act → World → Prop} {id : Nat} (w0 : World) (Pi : Nat → Value → World → Prop) (n m : Nat) (S : World → Prop) (ds : List (Nat × Tmp)) (hn : (ops.size == n) = true) (hd : (ds.map (·.1) == List.range m) = true) (hs : ds.all (fun p => dstAt ops p.1 == some p.2) = true) (hm : P.follows .mixedOrders = true) (ht : tidy ops a0.tmps.size m = true)
    (hst : ∀ i v w w', Pi i v w → Below w.heap.size w w' → Pi i v w') (hstep : Steps P ops a0 w0 Pi 0 m)
    (hend : ∀ (vals : Nat → Value) (w : World), Below w0.heap.size w0 w → (∀ k, k < m → Pi k (vals k) w) → wpAnyH P .any ops Q S (n - m) (listedM m n) (ds.foldl (fun a p => a.put (some p.2) (vals p.1)) a0) w) : (Code.region id ops true).wp P Q a0 w0 := by
  have hn := eq_of_beq hn
  subst hn
  have hd := eq_of_beq hd
  exact wp_region_inv w0 Pi hm ht hst (fun i hi o ho vals w hB => Steps.at _ 0 hstep i (Nat.zero_le _) (by omega) o ho vals w ((Below.refl _ _).drew.trans hB)) (fun vals w hB hV => by
    rw [← hd, putAll_slots ops vals ds a0 hs]
    exact wpAny_of_held _ _ _ _ (hend vals w ((Below.refl _ _).drew.trans hB) hV))
theorem wp_region_steps {Q : Exit → Act → World → Prop} {id : Nat} (w0 : World) (Pi : Nat → Value → World → Prop) (n : Nat) (ds : List (Nat × Tmp)) (hn : (ops.size == n) = true) (hd : (ds.map (·.1) == List.range n) = true) (hs : ds.all (fun p => dstAt ops p.1 == some p.2) = true) (hm : P.follows .mixedOrders = true) (ht : tidy ops a0.tmps.size n = true)
    (hst : ∀ i v w w', Pi i v w → Below w.heap.size w w' → Pi i v w') (hstep : Steps P ops a0 w0 Pi 0 n)
    (hend : ∀ (vals : Nat → Value) (w : World), Below w0.heap.size w0 w → (∀ k, k < n → Pi k (vals k) w) → Q .normal (ds.foldl (fun a p => a.put (some p.2) (vals p.1)) a0) w) : (Code.region id ops true).wp P Q a0 w0 := by
  refine wp_region_steps_to w0 Pi n n (fun _ => True) ds hn hd hs hm ht hst hstep (fun vals w hB hV => ?_)
  have hn := eq_of_beq hn
  subst hn
  refine wpAnyH_done ?_ (hend vals w hB hV) _
  rw [List.eq_nil_iff_forall_not_mem]
  intro i hi
  obtain ⟨hun, o, ho, -⟩ := mem_ready.1 hi
  have his : i < ops.size := (Array.getElem?_eq_some_iff.1 ho).1
  simp [listedM, his] at hun
end
end Go.Proofs.YtmconajkgjfplaaGreat
end

/- What values of the closed laws are like, in words that stay as memory grows; what the chapter's small functions make of them. -/
section
set_option linter.unusedVariables false
set_option linter.unusedSimpArgs false
namespace Go.Proofs.YtmconajkgjfplaaGreat
open Go.RowKit
set_option linter.unusedVariables false
set_option linter.unusedSimpArgs false
attribute [local go_sem ↓] Go.wp_at_zero Go.wp_at_succ

inductive Pd where
  | const (v : Value)
  | any
  | ints (l : List Int)
  | strs (l : List S)
  | row (x : List V)
  | rows (l : List (List V))
  | rel (cols : List S) (l : List (List V))
  | relerr (cols : List S) (l : List (List V)) (e : Int)
  | box (lo : Nat)
instance : Inhabited Pd := ⟨.any⟩
def Pd.says : Pd → Value → World → Prop
  | .const c, v, _ => v = c
  | .any, _, _ => True
  | .ints l, v, w => Ints 0 w.heap.size w v l
  | .strs l, v, w => Strs 0 w.heap.size w v l
  | .row x, v, w => Row1 0 w.heap.size w v x
  | .rows l, v, w => Rws 0 w.heap.size w v l
  | .rel cols l, v, w => RelV w v cols l
  | .relerr cols l e, v, w => ∃ u, v = .tuple #[u, .int .i64 e] ∧ RelV w u cols l
  | .box lo, v, w => ∃ b, v = .pointer (some ⟨b, 0, none⟩) ∧ lo ≤ b ∧ Blk w b [.slice none 0 0, .slice none 0 0] 25
theorem Sl.grow {α : Type} {E : El α} {size : Nat} {w w' : World} {v : Value} {xs : List α} (h : Sl E size 0 w.heap.size w v xs) (hE : Loc E) (hB : Below w.heap.size w w') : Sl E size 0 w'.heap.size w' v xs :=
  (h.below hE hB (Nat.le_refl _)).mono hE (Nat.zero_le _) hB.size
theorem RelV.below {w w' : World} {v : Value} {cols : List S} {l : List (List V)} (h : RelV w v cols l) (hB : Below w.heap.size w w') : RelV w' v cols l := by
  obtain ⟨pc, qc, pl, ql, rfl, h⟩ := h
  exact ⟨pc, qc, pl, ql, rfl, h.below hB⟩
theorem Pd.step {p : Pd} {v : Value} {w w' : World} (h : p.says v w) (hB : Below w.heap.size w w') : p.says v w' := by
  cases p with
  | const c => exact h
  | any => trivial
  | ints l => exact Sl.grow h Ints.loc hB
  | strs l => exact Sl.grow h Strs.loc hB
  | row x => exact Sl.grow h Row1.loc hB
  | rows l => exact Sl.grow h rowE_loc hB
  | rel cols l => exact RelV.below h hB
  | relerr cols l e =>
    obtain ⟨u, rfl, h⟩ := h
    exact ⟨u, rfl, RelV.below h hB⟩
  | box lo =>
    obtain ⟨b, rfl, h1, h2⟩ := h
    exact ⟨b, rfl, h1, h2.below hB h2.lt⟩
/-- What each value of a region is like. -/
def Pds (ps : List Pd) (i : Nat) : Value → World → Prop := (ps.getD i .any).says
theorem Pds.step {ps : List Pd} : ∀ i v w w', Pds ps i v w → Below w.heap.size w w' → Pds ps i v w' := fun i v w w' h hB => Pd.step h hB
theorem Pd.form_ints {l : List Int} {v : Value} {w : World} (h : (Pd.ints l).says v w) : ∃ p c, v = .slice p l.length c := by obtain ⟨p, c, e, -⟩ := Sl.form h; exact ⟨p, c, e⟩
theorem Pd.form_strs {l : List S} {v : Value} {w : World} (h : (Pd.strs l).says v w) : ∃ p c, v = .slice p l.length c := by obtain ⟨p, c, e, -⟩ := Sl.form h; exact ⟨p, c, e⟩
theorem Pd.form_row {l : List V} {v : Value} {w : World} (h : (Pd.row l).says v w) : ∃ p c, v = .slice p l.length c := by obtain ⟨p, c, e, -⟩ := Sl.form h; exact ⟨p, c, e⟩
theorem Pd.form_rows {l : List (List V)} {v : Value} {w : World} (h : (Pd.rows l).says v w) : ∃ p c, v = .slice p l.length c := by obtain ⟨p, c, e, -⟩ := Sl.form h; exact ⟨p, c, e⟩

/-- What a function hands back, in memory from lo on. -/
def RelVL (lo : Nat) (w : World) (v : Value) (cols : List S) (l : List (List V)) : Prop := ∃ pc qc pl ql, v = .agg #[.slice pc cols.length qc, .slice pl l.length ql] ∧ Strs lo w.heap.size w (.slice pc cols.length qc) cols ∧ Rws lo w.heap.size w (.slice pl l.length ql) l
theorem RelVL.rel {lo : Nat} {w : World} {v : Value} {cols : List S} {l : List (List V)} (h : RelVL lo w v cols l) : RelV w v cols l := by
  obtain ⟨pc, qc, pl, ql, rfl, h1, h2⟩ := h
  exact ⟨pc, qc, pl, ql, rfl, ⟨h1.mono Strs.loc (Nat.zero_le _) (Nat.le_refl _), h2.mono rowE_loc (Nat.zero_le _) (Nat.le_refl _)⟩⟩
theorem RelVL.lower {lo lo' : Nat} {w : World} {v : Value} {cols : List S} {l : List (List V)} (h : RelVL lo w v cols l) (hl : lo' ≤ lo) : RelVL lo' w v cols l := by
  obtain ⟨pc, qc, pl, ql, rfl, h1, h2⟩ := h
  exact ⟨pc, qc, pl, ql, rfl, h1.mono Strs.loc hl (Nat.le_refl _), h2.mono rowE_loc hl (Nat.le_refl _)⟩
theorem RelVL.set {lo b : Nat} {w : World} {v v1 v2 : Value} {cols : List S} {l : List (List V)} (h : RelVL lo w v cols l) (hb : b < lo) : RelVL lo ((w.setCell ⟨b, 0, none⟩ v1).setCell ⟨b, 1, none⟩ v2) v cols l := by
  obtain ⟨pc, qc, pl, ql, rfl, h1, h2⟩ := h
  have hz : ((w.setCell ⟨b, 0, none⟩ v1).setCell ⟨b, 1, none⟩ v2).heap.size = w.heap.size := by simp
  refine ⟨pc, qc, pl, ql, rfl, ?_, ?_⟩
  · rw [hz]; exact (h1.agree Strs.loc (.setCell _ (.inl hb) _)).agree Strs.loc (.setCell _ (.inl hb) _)
  · rw [hz]; exact (h2.agree rowE_loc (.setCell _ (.inl hb) _)).agree rowE_loc (.setCell _ (.inl hb) _)

/-! ### slices that are written down -/
theorem Sl.lit {α : Type} {enc : α → List Value} {size : Nat} (hs : ∀ x, (enc x).length = size) (w : World) (xs : List α) (t : TypeId) {n : Nat} (hn : n = w.heap.size) (hl : xs.length ≤ 1000000) :
    Sl (flat enc) size 0 (w.alloc (.cells (xs.flatMap enc).toArray t)).heap.size (w.alloc (.cells (xs.flatMap enc).toArray t)) (.slice (some ⟨n, 0, none⟩) xs.length xs.length) xs := by
  refine ⟨_, _, rfl, Nat.le_refl _, by unfold maxLen; omega, (fun h => by cases h), fun _ => ⟨n, 0, rfl, Nat.zero_le _, by subst hn; simp, fun k hk => ⟨enc xs[k], hs _, ?_, rfl⟩⟩⟩
  have hc := CellsAt.newAt w (xs.flatMap enc) t hn
  intro j u hu
  have hj : j < size := by have := (List.getElem?_eq_some_iff.1 hu).1; rw [hs] at this; exact this
  have h2 : ∀ (l : List α) (k : Nat) (hk : k < l.length), (l.flatMap enc)[k * size + j]? = (enc l[k])[j]? := by
    intro l
    induction l with
    | nil => intro k hk; cases hk
    | cons a r ih =>
      intro k hk
      cases k with
      | zero =>
        rw [List.flatMap_cons, Nat.zero_mul, Nat.zero_add, List.getElem?_append_left (by rw [hs]; exact hj)]
        rfl
      | succ k =>
        rw [List.flatMap_cons, List.getElem?_append_right (by rw [hs, Nat.succ_mul]; omega), hs]
        have := ih k (by simpa using hk)
        rw [show (k + 1) * size + j - size = k * size + j by rw [Nat.succ_mul]; omega]
        exact this
  have := hc (k * size + j) u (by rw [h2 xs k hk]; exact hu)
  rw [← Nat.add_assoc] at this
  exact this
theorem Pd.intsLit (w : World) (l : List Int) (hl : l.length ≤ 1000000) {n : Nat} (hn : n = w.heap.size) : (Pd.ints l).says (.slice (some ⟨n, 0, none⟩) l.length l.length) (w.alloc (.cells (l.flatMap inE).toArray 2)) :=
  Sl.lit (α := Int) (enc := inE) (size := 1) (fun _ => rfl) w l _ hn hl
theorem Pd.strsLit (w : World) (l : List S) (hl : l.length ≤ 1000000) {n : Nat} (hn : n = w.heap.size) : (Pd.strs l).says (.slice (some ⟨n, 0, none⟩) l.length l.length) (w.alloc (.cells (l.flatMap strE).toArray 9)) :=
  Sl.lit (α := S) (enc := strE) (size := 1) (fun _ => rfl) w l _ hn hl
/-- Values that are rows. -/
def AllRows (w : World) : List Value → List (List V) → Prop
  | [], [] => True
  | v :: vs, x :: xs => (Pd.row x).says v w ∧ AllRows w vs xs
  | _, _ => False
theorem AllRows.len {w : World} : ∀ {vs : List Value} {xs : List (List V)}, AllRows w vs xs → vs.length = xs.length
  | [], [], _ => rfl
  | v :: vs, x :: xs, h => by rw [List.length_cons, List.length_cons, AllRows.len h.2]
  | [], _ :: _, h => h.elim
  | _ :: _, [], h => h.elim
theorem AllRows.at {w : World} : ∀ {vs : List Value} {xs : List (List V)}, AllRows w vs xs → ∀ k (h1 : k < vs.length) (h2 : k < xs.length), (Pd.row xs[k]).says vs[k] w
  | v :: vs, x :: xs, h, 0, _, _ => h.1
  | v :: vs, x :: xs, h, k + 1, h1, h2 => AllRows.at h.2 k (by simpa using h1) (by simpa using h2)
  | [], _ :: _, h, _, _, _ => h.elim
  | _ :: _, [], h, _, _, _ => h.elim
  | [], [], _, _, h1, _ => absurd h1 (Nat.not_lt_zero _)
theorem Pd.rowsLit (w : World) (vs : List Value) (xs : List (List V)) (h : AllRows w vs xs) (hl : xs.length ≤ 1000000) {n : Nat} (hn : n = w.heap.size) : (Pd.rows xs).says (.slice (some ⟨n, 0, none⟩) xs.length xs.length) (w.alloc (.cells vs.toArray 36)) := by
  refine ⟨_, _, rfl, Nat.le_refl _, by unfold maxLen; omega, (fun h => by cases h), fun _ => ⟨n, 0, rfl, Nat.zero_le _, by subst hn; simp, fun k hk => ?_⟩⟩
  have hkv : k < vs.length := by rw [h.len]; exact hk
  refine ⟨[vs[k]], rfl, ?_, vs[k], rfl, (Pd.step (AllRows.at h k hkv hk) (alloc_below w _))⟩
  have hc := CellsAt.newAt w vs 36 hn k vs[k] (List.getElem?_eq_getElem hkv)
  intro j u hu
  have hj : j = 0 := by have := (List.getElem?_eq_some_iff.1 hu).1; simpa using this
  subst hj
  simp only [List.getElem?_cons_zero, Option.some.injEq] at hu
  subst hu
  rw [Nat.mul_one, Nat.add_zero]
  exact hc

/-! ### the chapter's small functions -/
section
variable {w : World}
end
end Go.Proofs.YtmconajkgjfplaaGreat
end

/- The chapter's relations one and two. (Printed by outc.py.) -/
section
set_option linter.unusedVariables false
set_option linter.unusedSimpArgs false
namespace Go.Proofs.YtmconajkgjfplaaGreat
open Go.RowKit
set_option linter.unusedVariables false
set_option linter.unusedSimpArgs false
attribute [local go_sem ↓] Go.wp_at_zero Go.wp_at_succ

end Go.Proofs.YtmconajkgjfplaaGreat
end

/- The chapter's first example. (Printed by outd.py.) -/
section
set_option linter.unusedVariables false
set_option linter.unusedSimpArgs false
namespace Go.Proofs.YtmconajkgjfplaaGreat
open Go.RowKit
set_option linter.unusedVariables false
set_option linter.unusedSimpArgs false
attribute [local go_sem ↓] Go.wp_at_zero Go.wp_at_succ

/-- A relation that is written out, as two slices. -/
theorem relH {w : World} {pc pl : Option Addr} {nc nl qc ql : Nat} {cols : List S} {l : List (List V)} (h : (Pd.rel cols l).says (.agg #[.slice pc nc qc, .slice pl nl ql]) w) : RelH w pc qc pl ql cols l := by
  obtain ⟨p1, q1, p2, q2, e, h⟩ := h
  injection e with e
  injection e with e
  injection e with e1 e2
  injection e1 with e1 e3 e4
  injection e2 with e2 e5
  injection e2 with e6 e7 e8
  subst e1 e4 e6 e8
  exact h
end Go.Proofs.YtmconajkgjfplaaGreat
end

/- Layer 16's laws: number, row, some; Fold with a named answer; the chapter's first example. (Printed by outf.py.) -/
section
set_option linter.unusedVariables false
set_option linter.unusedSimpArgs false
namespace Go.Proofs.YtmconajkgjfplaaGreat
open Go.RowKit
set_option linter.unusedVariables false
set_option linter.unusedSimpArgs false
attribute [local go_sem ↓] Go.wp_at_zero Go.wp_at_succ

def num16 (n : Int) : V := ⟨1, n, []⟩
def r16 (s : S) (l : List Int) : List V := ⟨3, 0, s⟩ :: l.map num16
def someR : List (List V) := [r16 [97] [1], r16 [97] [5], r16 [98] [2]]
instance (v : V) : Decidable v.ok := by unfold V.ok; infer_instance
theorem agsLit (w : World) (l : List Ag) (hl : l.length ≤ 1000000) {n : Nat} (hn : n = w.heap.size) : Ags 0 (w.alloc (.cells (l.flatMap Ag.enc).toArray 41)).heap.size (w.alloc (.cells (l.flatMap Ag.enc).toArray 41)) (.slice (some ⟨n, 0, none⟩) l.length l.length) l :=
  Sl.lit (α := Ag) (enc := Ag.enc) (size := 3) (fun _ => rfl) w l _ hn hl
set_option maxRecDepth 100000 in
theorem number16_any (n : Int) (w : World) (R : Ending → World → Prop) (hR : ∀ w', Below w.heap.size w w' → R (.returned (.agg #[.int .i64 1, .int .i64 n, .string ⟨#[]⟩])) w') : Calls Tryz.prog 13 #[.int .i64 n] w R := by
  have HR := Lib.hid hR
  clear hR
  go_enter Tryz.func13, Tryz.ntmps13
  go_upto_region 1 with fail
  have hB := alloc_below w (.cells #[.int .i64 0, .int .i64 0, .string ⟨#[]⟩] 44)
  have hb := Blk.new w [.int .i64 0, .int .i64 0, .string ⟨#[]⟩] 44 rfl
  generalize w.alloc (.cells #[.int .i64 0, .int .i64 0, .string ⟨#[]⟩] 44) = wa at *
  have f0 := hb.free 0
  have f1 := hb.free 1
  have f2 := hb.free 2
  obtain ⟨d0, d1, d2⟩ := hb.cells.c3
  simp only [Nat.zero_add] at d1 d2
  go_wp2_with fail
  exact ret_cell rfl rfl ((((hb.set 0 (.int .i64 1)).set 1 (.int .i64 n)).set 2 (.string ⟨#[]⟩)).cells.runVar (fun _ => by kernel_rfl) (fun _ => by kernel_rfl)) rfl
    (HR.out _ (((hB.setCell (p := ⟨w.heap.size, 0, none⟩) (Nat.le_refl _) _).setCell (p := ⟨w.heap.size, 1, none⟩) (Nat.le_refl _) _).setCell (p := ⟨w.heap.size, 2, none⟩) (Nat.le_refl _) _))
/-- One value that is written down is a call's own. -/
theorem OwnV.lit1 (w : World) (x : V) {n : Nat} (hn : n = w.heap.size) : OwnV w.heap.size (w.alloc (.cells #[.int .i64 x.kind, .int .i64 x.n, .string ⟨x.s.toArray⟩] 44)) (.slice (some ⟨n, 0, none⟩) 1 1) [x] := by
  subst hn
  refine ⟨rfl, .inr ⟨w.heap.size, 1, #[.int .i64 x.kind, .int .i64 x.n, .string ⟨x.s.toArray⟩], rfl, Nat.le_refl _, World.alloc_heap_new w _, Nat.le_refl _, by unfold maxLen; omega, rfl, rfl⟩⟩
set_option maxRecDepth 100000 in
set_option maxHeartbeats 2000000 in
theorem row16_any (lo hi : Nat) (l : List Int) (v : Value) (s : S) (w : World) (hv : Ints lo hi w v l) (hhi : hi ≤ w.heap.size) (hlen : l.length ≤ 1000) (R : Ending → World → Prop)
    (hR : ∀ w' v', Below w.heap.size w w' → OwnV w.heap.size w' v' (r16 s l) → R (.returned v') w') : Calls Tryz.prog 20 #[.string ⟨s.toArray⟩, v] w R := by
  have HR := Lib.hid hR
  have Hv := Lib.hid hv
  obtain ⟨aa, ca, rfl, -, -, -, -⟩ := hv.form
  clear hR hv
  go_enter Tryz.func20, Tryz.ntmps20
  go_upto_region 2 with fail
  have hBa := alloc_below w (.cells #[.int .i64 3, .int .i64 0, .string ⟨s.toArray⟩] 44)
  have hoa := OwnV.lit1 w ⟨3, 0, s⟩ rfl
  simp only at hoa
  generalize w.alloc (.cells #[.int .i64 3, .int .i64 0, .string ⟨s.toArray⟩] 44) = wa at *
  have HBa := Lib.hid hBa
  have Hoa := Lib.hid hoa
  clear hBa hoa
  go_wp2_with fail
  go_loopw [5, 13] (fun t5 t13 wr => ∃ (k : Nat), k ≤ l.length ∧ t13 = .int .i64 k ∧ OwnV w.heap.size wr t5 (⟨3, 0, s⟩ :: (l.take k).map num16) ∧ Below w.heap.size w wr) (fun _ t13 _ => l.length - (intOf t13).toNat)
  case atStart => exact ⟨0, Nat.zero_le _, rfl, Hoa.out, HBa.out⟩
  case round =>
    obtain ⟨k, hk, rfl, hown, hB⟩ := hrel
    obtain ⟨wo, ewo⟩ : ∃ x, x = wr := ⟨_, rfl⟩
    subst ewo
    have Hown := Lib.hid hown
    have HB := Lib.hid hB
    have hz := hB.size
    have kk0 : (0 : Int) ≤ (k : Int) := by omega
    obtain ⟨po, cap, hpo⟩ := Own.slice hown
    clear hown hB
    have Hkl : Hid ((V.mk 3 0 s :: (l.take k).map num16).length = k + 1) := Lib.hid <| by rw [List.length_cons, List.length_map, List.length_take]; omega
    rw [Hkl.out] at hpo
    by_cases hlt : k < l.length
    · have kkl : (k : Int) < (l.length : Int) := by omega
      obtain ⟨b, o, rfl, hb, hat⟩ := Ints.at (Sl.below Hv.out Ints.loc HB.out hhi) (by omega) (by omega)
      have g0 := hat k hlt wo (Below.refl _ _)
      have Hst : Hid (V.mk 3 0 s :: (l.take (k + 1)).map num16 = (V.mk 3 0 s :: (l.take k).map num16) ++ [num16 l[k]]) := Lib.hid (by
        rw [List.take_succ_eq_append_getElem hlt, List.map_append]; rfl)
      clear hat
      generalize l[k] = n at *
      subst hpo
      go_wp2_with fail
      refine number16_any n wo _ (fun w2 hB2 => ?_)
      obtain ⟨v3, w3, hr3, ho3, ha3⟩ := appV1 (Own.kept Hown.out hB2) (num16 n) rfl (by rw [Hkl.out]; omega) (by have := hB2.size; omega)
      have HB3 := Lib.hid ((HB.out.trans (hB2.mono hz)).trans (ha3.below (B := w.heap.size) (by have := hB2.size; omega) (fun q e => (Own.lt Hown.out q e).1)))
      have Ho3 : Hid (OwnV w.heap.size w3 v3 (V.mk 3 0 s :: (l.take (k + 1)).map num16)) := Lib.hid (by rw [Hst.out]; exact ho3)
      obtain ⟨p3, c3, e3⟩ := Own.slice ho3
      subst e3
      clear ho3 ha3 hB2
      generalize ((V.mk 3 0 s :: (l.take k).map num16) ++ [num16 n]).length = n3 at *
      go_wp2_with (at_builtin; refine AtApp.of ?_)
      refine AtApp.go hr3 rfl rfl rfl rfl ?_
      go_wp2_with fail
      go_roundw
      case rel => exact ⟨k + 1, by omega, by go_num, Ho3.out, HB3.out⟩
      case measure => simp [intOf]; omega
    · obtain rfl : k = l.length := by omega
      have llt : ¬ ((l.length : Nat) : Int) < (l.length : Int) := by omega
      have ho := Hown.out
      rw [List.take_length] at ho
      have hr := HR.out wo _ HB.out ho
      clear ho
      subst hpo
      go_wp2_with fail
      first | exact hr | exact fin hr rfl
theorem row16_P {w : World} {l : List Int} {v : Value} (h : (Pd.ints l).says v w) (s : S) (hlen : l.length ≤ 1000) (R : Ending → World → Prop)
    (hR : ∀ w' v', Below w.heap.size w w' → (Pd.row (r16 s l)).says v' w' → R (.returned v') w') : Calls Tryz.prog 20 #[.string ⟨s.toArray⟩, v] w R :=
  row16_any 0 w.heap.size l v s w h (Nat.le_refl _) hlen R (fun w' v' hB ho => hR w' v' hB ((OwnV.sl ho).mono Row1.loc (Nat.zero_le _) (Nat.le_refl _)))
theorem OfL_P {w : World} {cols : List S} {cv lv : Value} {l : List (List V)} (hcols : (Pd.strs cols).says cv w) (hv : (Pd.rows l).says lv w) (hlen : l.length ≤ 1000000000000) (hrl : ∀ x ∈ l, x.length ≤ 4000000000000) {e : Int} {co : List S} {lo : List (List V)} (he : ofErr cols l = e) (hc : okL e cols = co) (hl : okL e (relCanon l) = lo) (R : Ending → World → Prop)
    (hR : ∀ w' v, Below w.heap.size w w' → RelVL w.heap.size w' v co lo → R (.returned (.tuple #[v, .int .i64 e])) w') : Calls Tryz.prog 23 #[cv, lv] w R := by
  subst he hc hl
  refine OfK_any 0 w.heap.size 0 w.heap.size cols l cv lv w hcols hv (Nat.le_refl _) (Nat.le_refl _) hlen hrl R (fun w' cv lv hs hB hT hO => hR w' _ hB ?_)
  obtain ⟨p, q, rfl, -, -, -, -⟩ := (OwnT.sl hT).form
  obtain ⟨p2, q2, rfl, -, -, -, -⟩ := hO.rws.form
  exact ⟨p, q, p2, q2, rfl, OwnT.sl hT, hO.rws⟩
theorem Fold_K {w : World} {pa qa : Option Addr} {na ma : Nat} {ac : List S} {l : List (List V)} {cols : List S} {cv lav : Value} {la : List Ag} (ha : RelH w pa na qa ma ac l) (hcols : Strs 0 w.heap.size w cv cols) (hags : Ags 0 w.heap.size w lav la) (hlen : cols.length ≤ 1000000000) (hll : la.length ≤ 1000000000) (hl1 : l.length ≤ 1000) (hok : ∀ x ∈ l, ∀ a ∈ x, a.ok) {e : Int} {co : List S} {lo : List (List V)} (he : foldErr ac cols la l = e) (hc : okL e (foldCols cols la) = co) (hl : okL e (relCanon (foldRows ac cols la l)) = lo) (R : Ending → World → Prop)
    (hR : ∀ w' v, Below w.heap.size w w' → RelV w' v co lo → R (.returned (.tuple #[v, .int .i64 e])) w') :
    Calls Tryz.prog 12 #[.agg #[.slice pa ac.length na, .slice qa l.length ma], cv, lav] w R := by
  subst he hc hl
  exact Fold_any 0 w.heap.size 0 w.heap.size 0 w.heap.size 0 w.heap.size ac _ _ l _ cols cv la lav w ha.strs (Nat.le_refl _) ha.rws (Nat.le_refl _) hcols (Nat.le_refl _) hags (Nat.le_refl _) hlen hll hl1 hok R (fun w' cv lv hs hB hT hO => hR w' _ hB (.of hT hO))
theorem Same16_K {w : World} {pa qa pb qb : Option Addr} {na ma nb mb : Nat} {ac bc : List S} {la lb : List (List V)} (ha : RelH w pa na qa ma ac la) (hb : RelH w pb nb qb mb bc lb) (hc : ac = bc) (hl : la = lb) (hrs : ∀ x ∈ la, ∀ a ∈ x, a.s.length ≤ 9223372036854775807) (R : Ending → World → Prop)
    (hR : ∀ w', Below w.heap.size w w' → R (.returned (.bool true)) w') :
    Calls Tryz.prog 11 #[.agg #[.slice pa ac.length na, .slice qa la.length ma], .agg #[.slice pb bc.length nb, .slice qb lb.length mb]] w R := by
  subst hc hl
  exact lawSame16_any 0 w.heap.size 0 w.heap.size 0 w.heap.size 0 w.heap.size ac la _ _ _ _ w ha.strs hb.strs ha.rws hb.rws (Nat.le_refl _) (Nat.le_refl _) (Nat.le_refl _) (Nat.le_refl _) hrs R hR
set_option maxRecDepth 100000 in
set_option maxHeartbeats 4000000 in
theorem some16_P (w : World) (R : Ending → World → Prop) (hR : ∀ w' v, Below w.heap.size w w' → (Pd.rel [[120], [110]] someR).says v w' → R (.returned v) w') : Calls Tryz.prog 19 #[] w R := by
  have HR := Lib.hid hR
  clear hR
  go_enter Tryz.func19, Tryz.ntmps19
  go_upto_region 1 with fail
  have hal := alloc_below w (.cells #[.slice none 0 0, .slice none 0 0] 25)
  have hb := Blk.new w [.slice none 0 0, .slice none 0 0] 25 rfl
  generalize w.alloc (.cells #[.slice none 0 0, .slice none 0 0] 25) = w1 at *
  obtain ⟨b0, eb0⟩ : ∃ b, b = w.heap.size := ⟨_, rfl⟩
  rw [← eb0] at hb ⊢
  have hwb : w.heap.size ≤ b0 := by omega
  clear eb0
  have HB := Lib.hid (hal)
  have Hb0 := Lib.hid (hb)
  clear hal hb
  obtain ⟨wl1, ewl1⟩ : ∃ x, x = w1.alloc (.cells #[.string ⟨#[120]⟩, .string ⟨#[110]⟩] 9) := ⟨_, rfl⟩
  have hB : Below w1.heap.size w1 wl1 := by rw [ewl1]; exact alloc_below _ _
  have hsz : w1.heap.size + 1 = wl1.heap.size := by rw [ewl1]; simp
  have hV : (Pd.strs [[120], [110]]).says (.slice (some ⟨w1.heap.size, 0, none⟩) 2 2) wl1 := by rw [ewl1]; exact Pd.strsLit w1 [[120], [110]] (by decide) rfl
  replace HB := Lib.hid (HB.out.trans (hB.mono HB.out.size))
  replace Hb0 := Lib.hid (Hb0.out.below hB Hb0.out.lt)
  have Hwl1 := Lib.hid (hV)
  have Hewl1 := Lib.hid ewl1
  have hswl1 := Lib.hid hsz
  clear hB hV hsz ewl1
  obtain ⟨wl2, ewl2⟩ : ∃ x, x = wl1.alloc (.cells #[.int .i64 1] 2) := ⟨_, rfl⟩
  have hB : Below wl1.heap.size wl1 wl2 := by rw [ewl2]; exact alloc_below _ _
  have hsz : w1.heap.size + 1 + 1 = wl2.heap.size := by rw [ewl2]; simp; exact hswl1.out
  have hV : (Pd.ints [1]).says (.slice (some ⟨w1.heap.size + 1, 0, none⟩) 1 1) wl2 := by rw [ewl2]; exact Pd.intsLit wl1 [1] (by decide) hswl1.out
  replace HB := Lib.hid (HB.out.trans (hB.mono HB.out.size))
  replace Hb0 := Lib.hid (Hb0.out.below hB Hb0.out.lt)
  replace Hwl1 := Lib.hid (Pd.step Hwl1.out hB)
  have Hwl2 := Lib.hid (hV)
  have Hewl2 := Lib.hid ewl2
  have hswl2 := Lib.hid hsz
  clear hB hV hsz ewl2
  go_wp2_with fail
  rw [← Hewl1.out, ← Hewl2.out]
  clear Hewl1 Hewl2
  refine row16_P Hwl2.out [97] (by decide) _ (fun wc3 v hB hV => ?_)
  obtain ⟨p4, q5, ev⟩ := Pd.form_row hV
  replace ev : v = .slice p4 2 q5 := ev
  subst ev
  change (Pd.row (r16 [97] [1])).says _ _ at hV
  replace HB := Lib.hid (HB.out.trans (hB.mono HB.out.size))
  replace Hb0 := Lib.hid (Hb0.out.below hB Hb0.out.lt)
  replace Hwl1 := Lib.hid (Pd.step Hwl1.out hB)
  replace Hwl2 := Lib.hid (Pd.step Hwl2.out hB)
  have Hr6 := Lib.hid (hV)
  clear hB hV
  clear Hwl2
  obtain ⟨wl7, ewl7⟩ : ∃ x, x = wc3.alloc (.cells #[.int .i64 5] 2) := ⟨_, rfl⟩
  have hB : Below wc3.heap.size wc3 wl7 := by rw [ewl7]; exact alloc_below _ _
  have hsz : wc3.heap.size + 1 = wl7.heap.size := by rw [ewl7]; simp
  have hV : (Pd.ints [5]).says (.slice (some ⟨wc3.heap.size, 0, none⟩) 1 1) wl7 := by rw [ewl7]; exact Pd.intsLit wc3 [5] (by decide) rfl
  replace HB := Lib.hid (HB.out.trans (hB.mono HB.out.size))
  replace Hb0 := Lib.hid (Hb0.out.below hB Hb0.out.lt)
  replace Hwl1 := Lib.hid (Pd.step Hwl1.out hB)
  replace Hr6 := Lib.hid (Pd.step Hr6.out hB)
  have Hwl7 := Lib.hid (hV)
  have Hewl7 := Lib.hid ewl7
  have hswl7 := Lib.hid hsz
  clear hB hV hsz ewl7
  go_wp2_with fail
  rw [← Hewl7.out]
  clear Hewl7
  refine row16_P Hwl7.out [97] (by decide) _ (fun wc8 v hB hV => ?_)
  obtain ⟨p9, q10, ev⟩ := Pd.form_row hV
  replace ev : v = .slice p9 2 q10 := ev
  subst ev
  change (Pd.row (r16 [97] [5])).says _ _ at hV
  replace HB := Lib.hid (HB.out.trans (hB.mono HB.out.size))
  replace Hb0 := Lib.hid (Hb0.out.below hB Hb0.out.lt)
  replace Hwl1 := Lib.hid (Pd.step Hwl1.out hB)
  replace Hr6 := Lib.hid (Pd.step Hr6.out hB)
  replace Hwl7 := Lib.hid (Pd.step Hwl7.out hB)
  have Hr11 := Lib.hid (hV)
  clear hB hV
  clear Hwl7
  obtain ⟨wl12, ewl12⟩ : ∃ x, x = wc8.alloc (.cells #[.int .i64 2] 2) := ⟨_, rfl⟩
  have hB : Below wc8.heap.size wc8 wl12 := by rw [ewl12]; exact alloc_below _ _
  have hsz : wc8.heap.size + 1 = wl12.heap.size := by rw [ewl12]; simp
  have hV : (Pd.ints [2]).says (.slice (some ⟨wc8.heap.size, 0, none⟩) 1 1) wl12 := by rw [ewl12]; exact Pd.intsLit wc8 [2] (by decide) rfl
  replace HB := Lib.hid (HB.out.trans (hB.mono HB.out.size))
  replace Hb0 := Lib.hid (Hb0.out.below hB Hb0.out.lt)
  replace Hwl1 := Lib.hid (Pd.step Hwl1.out hB)
  replace Hr6 := Lib.hid (Pd.step Hr6.out hB)
  replace Hr11 := Lib.hid (Pd.step Hr11.out hB)
  have Hwl12 := Lib.hid (hV)
  have Hewl12 := Lib.hid ewl12
  have hswl12 := Lib.hid hsz
  clear hB hV hsz ewl12
  go_wp2_with fail
  rw [← Hewl12.out]
  clear Hewl12
  refine row16_P Hwl12.out [98] (by decide) _ (fun wc13 v hB hV => ?_)
  obtain ⟨p14, q15, ev⟩ := Pd.form_row hV
  replace ev : v = .slice p14 2 q15 := ev
  subst ev
  change (Pd.row (r16 [98] [2])).says _ _ at hV
  replace HB := Lib.hid (HB.out.trans (hB.mono HB.out.size))
  replace Hb0 := Lib.hid (Hb0.out.below hB Hb0.out.lt)
  replace Hwl1 := Lib.hid (Pd.step Hwl1.out hB)
  replace Hr6 := Lib.hid (Pd.step Hr6.out hB)
  replace Hr11 := Lib.hid (Pd.step Hr11.out hB)
  replace Hwl12 := Lib.hid (Pd.step Hwl12.out hB)
  have Hr16 := Lib.hid (hV)
  clear hB hV
  clear Hwl12
  obtain ⟨wl17, ewl17⟩ : ∃ x, x = wc13.alloc (.cells #[.slice p4 2 q5, .slice p9 2 q10, .slice p14 2 q15] 36) := ⟨_, rfl⟩
  have hB : Below wc13.heap.size wc13 wl17 := by rw [ewl17]; exact alloc_below _ _
  have hsz : wc13.heap.size + 1 = wl17.heap.size := by rw [ewl17]; simp
  have hV : (Pd.rows [(r16 [97] [1]), (r16 [97] [5]), (r16 [98] [2])]).says (.slice (some ⟨wc13.heap.size, 0, none⟩) 3 3) wl17 := by rw [ewl17]; exact Pd.rowsLit wc13 [.slice p4 2 q5, .slice p9 2 q10, .slice p14 2 q15] [(r16 [97] [1]), (r16 [97] [5]), (r16 [98] [2])] ⟨Hr6.out, Hr11.out, Hr16.out, trivial⟩ (by decide) rfl
  replace HB := Lib.hid (HB.out.trans (hB.mono HB.out.size))
  replace Hb0 := Lib.hid (Hb0.out.below hB Hb0.out.lt)
  replace Hwl1 := Lib.hid (Pd.step Hwl1.out hB)
  replace Hr6 := Lib.hid (Pd.step Hr6.out hB)
  replace Hr11 := Lib.hid (Pd.step Hr11.out hB)
  replace Hr16 := Lib.hid (Pd.step Hr16.out hB)
  have Hwl17 := Lib.hid (hV)
  have Hewl17 := Lib.hid ewl17
  have hswl17 := Lib.hid hsz
  clear hB hV hsz ewl17
  have hlb := Hb0.out.lt
  go_wp2_with fail
  rw [← Hewl17.out]
  clear Hewl17
  refine OfL_P Hwl1.out Hwl17.out (by decide) (by decide) (e := 0) (co := [[120], [110]]) (lo := someR) (by decide +kernel) (by decide +kernel) (by decide +kernel) _ (fun wc18 v hB hV => ?_)
  clear Hwl1 Hr6 Hr11 Hr16 Hwl17
  obtain ⟨pc, qc, pl, ql, ev, h1, h2⟩ := hV
  replace ev : v = .agg #[.slice pc 2 qc, .slice pl 3 ql] := ev
  subst ev
  replace HB := Lib.hid (HB.out.trans (hB.mono HB.out.size))
  replace Hb0 := Lib.hid (Hb0.out.below hB Hb0.out.lt)
  go_upto_region 2 with fail
  have hBx := alloc_below wc18 (.cells #[.slice pc 2 qc, .slice pl 3 ql] 25)
  have hbx := Blk.new wc18 [.slice pc 2 qc, .slice pl 3 ql] 25 rfl
  have h1 := Sl.below h1 Strs.loc hBx (Nat.le_refl _)
  have h2 := Sl.below h2 rowE_loc hBx (Nat.le_refl _)
  generalize wc18.alloc (.cells #[.slice pc 2 qc, .slice pl 3 ql] 25) = wx at *
  replace HB := Lib.hid (HB.out.trans (hBx.mono HB.out.size))
  replace Hb0 := Lib.hid (Hb0.out.below hBx Hb0.out.lt)
  have hzx := hBx.size
  have hzb := hB.size
  have hlb := Hb0.out.lt
  have hr := HR.out ((wx.setCell ⟨b0, 0, none⟩ (.slice pc 2 qc)).setCell ⟨b0, 1, none⟩ (.slice pl 3 ql)) (.agg #[.slice pc 2 qc, .slice pl 3 ql]) ((HB.out.setCell (p := ⟨b0, 0, none⟩) hwb _).setCell (p := ⟨b0, 1, none⟩) hwb _) (RelVL.rel (RelVL.set ⟨_, _, _, _, rfl, h1.mono Strs.loc (Nat.le_refl _) hzx, h2.mono rowE_loc (Nat.le_refl _) hzx⟩ (by omega)))
  have ht : (loadVar 25 ⟨b0, 0, none⟩).run Tryz.prog ((wx.setCell ⟨b0, 0, none⟩ (.slice pc 2 qc)).setCell ⟨b0, 1, none⟩ (.slice pl 3 ql)) = .ok (.agg #[.slice pc 2 qc, .slice pl 3 ql]) ((wx.setCell ⟨b0, 0, none⟩ (.slice pc 2 qc)).setCell ⟨b0, 1, none⟩ (.slice pl 3 ql)) :=
    ((Hb0.out.set 0 (.slice pc 2 qc)).set 1 (.slice pl 3 ql)).cells.runVar (P := Tryz.prog) (fun _ => by kernel_rfl) (fun _ => by kernel_rfl)
  obtain ⟨e0, e1⟩ := Hb0.out.cells.c2
  simp only [Nat.zero_add] at e1
  obtain ⟨x0, x1⟩ := hbx.cells.c2
  simp only [Nat.zero_add] at x1
  have f0 := Hb0.out.free 0
  have f1 := Hb0.out.free 1
  have Hr := Lib.hid hr
  have Ht := Lib.hid ht
  clear hr ht h1 h2 hB hBx hbx
  go_wp2_with fail
  exact ret_cell rfl rfl Ht.out rfl Hr.out
set_option maxRecDepth 100000 in
set_option maxHeartbeats 4000000 in
theorem alive16_P (w : World) (R : Ending → World → Prop) (hR : ∀ w', Below w.heap.size w w' → R (.returned (.bool true)) w') : Calls Tryz.prog 5 #[] w R := by
  have HR := Lib.hid hR
  clear hR
  go_enter Tryz.func5, Tryz.ntmps5
  have hB0 : Below w.heap.size w w := Below.refl _ _
  have HB := Lib.hid (hB0)
  clear hB0
  go_wp2_with fail
  refine some16_P w _ (fun wc1 v hB hV => ?_)
  obtain ⟨p2, q3, p4, q5, rfl, hV⟩ := hV
  replace HB := Lib.hid (HB.out.trans (hB.mono HB.out.size))
  have Hrel6 := Lib.hid (show (Pd.rel _ _).says _ _ from ⟨_, _, _, _, rfl, hV⟩)
  clear hB hV
  obtain ⟨wl7, ewl7⟩ : ∃ x, x = wc1.alloc (.cells #[.string ⟨#[120]⟩] 9) := ⟨_, rfl⟩
  have hB : Below wc1.heap.size wc1 wl7 := by rw [ewl7]; exact alloc_below _ _
  have hsz : wc1.heap.size + 1 = wl7.heap.size := by rw [ewl7]; simp
  have hV : (Pd.strs [[120]]).says (.slice (some ⟨wc1.heap.size, 0, none⟩) 1 1) wl7 := by rw [ewl7]; exact Pd.strsLit wc1 [[120]] (by decide) rfl
  replace HB := Lib.hid (HB.out.trans (hB.mono HB.out.size))
  replace Hrel6 := Lib.hid (Pd.step Hrel6.out hB)
  have Hwl7 := Lib.hid (hV)
  have Hewl7 := Lib.hid ewl7
  have hswl7 := Lib.hid hsz
  clear hB hV hsz ewl7
  obtain ⟨wl8, ewl8⟩ : ∃ x, x = wl7.alloc (.cells #[.int .i64 1, .string ⟨#[]⟩, .string ⟨#[99]⟩, .int .i64 3, .string ⟨#[110]⟩, .string ⟨#[115]⟩, .int .i64 4, .string ⟨#[110]⟩, .string ⟨#[109]⟩] 41) := ⟨_, rfl⟩
  have hB : Below wl7.heap.size wl7 wl8 := by rw [ewl8]; exact alloc_below _ _
  have hsz : wc1.heap.size + 1 + 1 = wl8.heap.size := by rw [ewl8]; simp; exact hswl7.out
  have hV : Ags 0 wl8.heap.size wl8 (.slice (some ⟨wc1.heap.size + 1, 0, none⟩) 3 3) [⟨1, [], [99]⟩, ⟨3, [110], [115]⟩, ⟨4, [110], [109]⟩] := by rw [ewl8]; exact agsLit wl7 [⟨1, [], [99]⟩, ⟨3, [110], [115]⟩, ⟨4, [110], [109]⟩] (by decide) hswl7.out
  replace HB := Lib.hid (HB.out.trans (hB.mono HB.out.size))
  replace Hrel6 := Lib.hid (Pd.step Hrel6.out hB)
  replace Hwl7 := Lib.hid (Pd.step Hwl7.out hB)
  have Hwl8 := Lib.hid (hV)
  have Hewl8 := Lib.hid ewl8
  have hswl8 := Lib.hid hsz
  clear hB hV hsz ewl8
  go_wp2_with fail
  rw [← Hewl7.out, ← Hewl8.out]
  clear Hewl7 Hewl8
  refine Fold_K (relH Hrel6.out) Hwl7.out Hwl8.out (by decide) (by decide) (by decide) (by decide +kernel) (e := 0) (co := [[120], [99], [115], [109]]) (lo := [r16 [97] [2, 6, 1], r16 [98] [1, 2, 2]]) (by decide +kernel) (by decide +kernel) (by decide +kernel) _ (fun wc9 v hB hV => ?_)
  obtain ⟨p10, q11, p12, q13, rfl, hV⟩ := hV
  replace HB := Lib.hid (HB.out.trans (hB.mono HB.out.size))
  replace Hrel6 := Lib.hid (Pd.step Hrel6.out hB)
  replace Hwl7 := Lib.hid (Pd.step Hwl7.out hB)
  replace Hwl8 := Lib.hid (Sl.grow Hwl8.out Ags.loc hB)
  have Hrel14 := Lib.hid (show (Pd.rel _ _).says _ _ from ⟨_, _, _, _, rfl, hV⟩)
  clear hB hV
  go_upto_region 2 with fail
  have hb := RelH.box (n := wc9.heap.size) (relH Hrel14.out) rfl
  have hB := alloc_below wc9 (.cells #[.slice p10 4 q11, .slice p12 2 q13] 25)
  simp only [List.length_cons, List.length_nil, Nat.zero_add, Nat.reduceAdd] at hb
  generalize wc9.alloc (.cells #[.slice p10 4 q11, .slice p12 2 q13] 25) = w15 at *
  obtain ⟨b1, eb1⟩ : ∃ b, b = wc9.heap.size := ⟨_, rfl⟩
  rw [← eb1] at hb ⊢
  clear eb1
  replace HB := Lib.hid (HB.out.trans (hB.mono HB.out.size))
  replace Hrel6 := Lib.hid (Pd.step Hrel6.out hB)
  replace Hwl7 := Lib.hid (Pd.step Hwl7.out hB)
  replace Hrel14 := Lib.hid (Pd.step Hrel14.out hB)
  replace Hwl8 := Lib.hid (Sl.grow Hwl8.out Ags.loc hB)
  have Hv := Lib.hid (hb)
  clear hB hb
  clear Hrel6 Hwl7 Hwl8 Hrel14
  refine wp_region_steps w15 (Pds [.const (.int .i64 0), .const (.bool true), .const (.bool true), .rel [[120], [99], [115], [109]] [r16 [97] [2, 6, 1], r16 [98] [1, 2, 2]], .strs [[120], [99], [115], [109]], .ints [2, 6, 1], .row (r16 [97] [2, 6, 1]), .ints [1, 2, 2], .row (r16 [98] [1, 2, 2]), .rows [(r16 [97] [2, 6, 1]), (r16 [98] [1, 2, 2])], .rel [[120], [99], [115], [109]] [(r16 [97] [2, 6, 1]), (r16 [98] [1, 2, 2])], .const (.bool true), .const (.bool true), .const (.bool true)]) 14 [(0, 13), (1, 14), (2, 15), (3, 16), (4, 17), (5, 18), (6, 19), (7, 20), (8, 21), (9, 22), (10, 23), (11, 24), (12, 25), (13, 0)] (by kernel_rfl) (by kernel_rfl) (by kernel_rfl) (by kernel_rfl) (by kernel_rfl) Pds.step ⟨?_, ?_, ?_, ?_, ?_, ?_, ?_, ?_, ?_, ?_, ?_, ?_, ?_, ?_, trivial⟩ (fun vals wz hB hV => ?_)
  · refine StepAt.mk rfl [] (by kernel_rfl) (by kernel_rfl) (fun vals w5 hB hD => ?_)
    clear hD
    simp only [List.foldl_nil]
    try simp only [Act.put, List.getElem_toArray, List.getElem_cons_succ, List.getElem_cons_zero, List.setIfInBounds_toArray, List.set_cons_zero, List.set_cons_succ]
    exact OpStep.val (v := .int .i64 0) (w' := w5) (by go_simp) (by kernel_rfl) (Below.refl _ _) rfl
  · refine StepAt.mk rfl [(0, 13)] (by kernel_rfl) (by kernel_rfl) (fun vals w5 hB hD => ?_)
    have d0 := hD (0, 13) (by simp)
    clear hD
    simp only [List.foldl_cons] at *
    simp only [List.foldl_nil]
    generalize vals 0 = x0 at *
    change x0 = .int .i64 0 at d0
    subst d0
    try simp only [Act.put, List.getElem_toArray, List.getElem_cons_succ, List.getElem_cons_zero, List.setIfInBounds_toArray, List.set_cons_zero, List.set_cons_succ]
    exact OpStep.val (v := .bool true) (w' := w5) (by go_simp) (by kernel_rfl) (Below.refl _ _) rfl
  · refine StepAt.mk rfl [(1, 14)] (by kernel_rfl) (by kernel_rfl) (fun vals w5 hB hD => ?_)
    have d1 := hD (1, 14) (by simp)
    clear hD
    simp only [List.foldl_cons] at *
    simp only [List.foldl_nil]
    generalize vals 1 = x1 at *
    change x1 = .bool true at d1
    subst d1
    try simp only [Act.put, List.getElem_toArray, List.getElem_cons_succ, List.getElem_cons_zero, List.setIfInBounds_toArray, List.set_cons_zero, List.set_cons_succ]
    exact OpStep.val (v := .bool true) (w' := w5) (by go_simp) (by kernel_rfl) (Below.refl _ _) rfl
  · refine StepAt.mk rfl [(2, 15)] (by kernel_rfl) (by kernel_rfl) (fun vals w5 hB hD => ?_)
    have d2 := hD (2, 15) (by simp)
    clear hD
    simp only [List.foldl_cons] at *
    simp only [List.foldl_nil]
    generalize vals 2 = x2 at *
    change x2 = .bool true at d2
    subst d2
    try simp only [Act.put, List.getElem_toArray, List.getElem_cons_succ, List.getElem_cons_zero, List.setIfInBounds_toArray, List.set_cons_zero, List.set_cons_succ]
    obtain ⟨c0, c1⟩ := (Hv.out.blk.below hB Hv.out.blk.lt).cells.c2
    simp only [Nat.zero_add] at c1
    exact OpStep.val (v := .agg #[.slice p10 4 q11, .slice p12 2 q13]) (w' := w5) (by go_simp) (by kernel_rfl) (Below.refl _ _) (show (Pd.rel _ _).says _ _ from ⟨_, _, _, _, rfl, Hv.out.rel.below hB⟩)
  · refine StepAt.mk rfl [(2, 15)] (by kernel_rfl) (by kernel_rfl) (fun vals w5 hB hD => ?_)
    have d2 := hD (2, 15) (by simp)
    clear hD
    simp only [List.foldl_cons] at *
    simp only [List.foldl_nil]
    generalize vals 2 = x2 at *
    change x2 = .bool true at d2
    subst d2
    try simp only [Act.put, List.getElem_toArray, List.getElem_cons_succ, List.getElem_cons_zero, List.setIfInBounds_toArray, List.set_cons_zero, List.set_cons_succ]
    exact OpStep.val (v := .slice (some ⟨w5.heap.size, 0, none⟩) 4 4) (w' := w5.alloc (.cells #[.string ⟨#[120]⟩, .string ⟨#[99]⟩, .string ⟨#[115]⟩, .string ⟨#[109]⟩] 9)) (by go_simp) (by kernel_rfl) (alloc_below _ _) (Pd.strsLit w5 [[120], [99], [115], [109]] (by decide) rfl)
  · refine StepAt.mk rfl [(2, 15)] (by kernel_rfl) (by kernel_rfl) (fun vals w5 hB hD => ?_)
    have d2 := hD (2, 15) (by simp)
    clear hD
    simp only [List.foldl_cons] at *
    simp only [List.foldl_nil]
    generalize vals 2 = x2 at *
    change x2 = .bool true at d2
    subst d2
    try simp only [Act.put, List.getElem_toArray, List.getElem_cons_succ, List.getElem_cons_zero, List.setIfInBounds_toArray, List.set_cons_zero, List.set_cons_succ]
    exact OpStep.val (v := .slice (some ⟨w5.heap.size, 0, none⟩) 3 3) (w' := w5.alloc (.cells #[.int .i64 2, .int .i64 6, .int .i64 1] 2)) (by go_simp) (by kernel_rfl) (alloc_below _ _) (Pd.intsLit w5 [2, 6, 1] (by decide) rfl)
  · refine StepAt.mk rfl [(2, 15), (5, 18)] (by kernel_rfl) (by kernel_rfl) (fun vals w5 hB hD => ?_)
    have d2 := hD (2, 15) (by simp)
    have d5 := hD (5, 18) (by simp)
    clear hD
    simp only [List.foldl_cons] at *
    simp only [List.foldl_nil]
    generalize vals 2 = x2 at *
    change x2 = .bool true at d2
    subst d2
    generalize vals 5 = x5 at *
    change (Pd.ints [2, 6, 1]).says x5 w5 at d5
    obtain ⟨p5, q5, rfl⟩ := Pd.form_ints d5
    try simp only [Act.put, List.getElem_toArray, List.getElem_cons_succ, List.getElem_cons_zero, List.setIfInBounds_toArray, List.set_cons_zero, List.set_cons_succ]
    refine OpStep.call (f := 20) (args := #[.string ⟨#[97]⟩, .slice p5 3 q5]) (by kernel_rfl) (by kernel_rfl) ?_
    exact row16_P d5 [97] (by decide) _ (fun w6 v hB6 hV => ⟨v, rfl, hB6, hV⟩)
  · refine StepAt.mk rfl [(2, 15)] (by kernel_rfl) (by kernel_rfl) (fun vals w5 hB hD => ?_)
    have d2 := hD (2, 15) (by simp)
    clear hD
    simp only [List.foldl_cons] at *
    simp only [List.foldl_nil]
    generalize vals 2 = x2 at *
    change x2 = .bool true at d2
    subst d2
    try simp only [Act.put, List.getElem_toArray, List.getElem_cons_succ, List.getElem_cons_zero, List.setIfInBounds_toArray, List.set_cons_zero, List.set_cons_succ]
    exact OpStep.val (v := .slice (some ⟨w5.heap.size, 0, none⟩) 3 3) (w' := w5.alloc (.cells #[.int .i64 1, .int .i64 2, .int .i64 2] 2)) (by go_simp) (by kernel_rfl) (alloc_below _ _) (Pd.intsLit w5 [1, 2, 2] (by decide) rfl)
  · refine StepAt.mk rfl [(2, 15), (7, 20)] (by kernel_rfl) (by kernel_rfl) (fun vals w5 hB hD => ?_)
    have d2 := hD (2, 15) (by simp)
    have d7 := hD (7, 20) (by simp)
    clear hD
    simp only [List.foldl_cons] at *
    simp only [List.foldl_nil]
    generalize vals 2 = x2 at *
    change x2 = .bool true at d2
    subst d2
    generalize vals 7 = x7 at *
    change (Pd.ints [1, 2, 2]).says x7 w5 at d7
    obtain ⟨p7, q7, rfl⟩ := Pd.form_ints d7
    try simp only [Act.put, List.getElem_toArray, List.getElem_cons_succ, List.getElem_cons_zero, List.setIfInBounds_toArray, List.set_cons_zero, List.set_cons_succ]
    refine OpStep.call (f := 20) (args := #[.string ⟨#[98]⟩, .slice p7 3 q7]) (by kernel_rfl) (by kernel_rfl) ?_
    exact row16_P d7 [98] (by decide) _ (fun w6 v hB6 hV => ⟨v, rfl, hB6, hV⟩)
  · refine StepAt.mk rfl [(2, 15), (6, 19), (8, 21)] (by kernel_rfl) (by kernel_rfl) (fun vals w5 hB hD => ?_)
    have d2 := hD (2, 15) (by simp)
    have d6 := hD (6, 19) (by simp)
    have d8 := hD (8, 21) (by simp)
    clear hD
    simp only [List.foldl_cons] at *
    simp only [List.foldl_nil]
    generalize vals 2 = x2 at *
    change x2 = .bool true at d2
    subst d2
    generalize vals 6 = x6 at *
    change (Pd.row (r16 [97] [2, 6, 1])).says x6 w5 at d6
    obtain ⟨p6, q6, ev6⟩ := Pd.form_row d6
    replace ev6 : x6 = .slice p6 4 q6 := ev6
    subst ev6
    generalize vals 8 = x8 at *
    change (Pd.row (r16 [98] [1, 2, 2])).says x8 w5 at d8
    obtain ⟨p8, q8, ev8⟩ := Pd.form_row d8
    replace ev8 : x8 = .slice p8 4 q8 := ev8
    subst ev8
    try simp only [Act.put, List.getElem_toArray, List.getElem_cons_succ, List.getElem_cons_zero, List.setIfInBounds_toArray, List.set_cons_zero, List.set_cons_succ]
    exact OpStep.val (v := .slice (some ⟨w5.heap.size, 0, none⟩) 2 2) (w' := w5.alloc (.cells #[.slice p6 4 q6, .slice p8 4 q8] 36)) (by go_simp) (by kernel_rfl) (alloc_below _ _) (Pd.rowsLit w5 [.slice p6 4 q6, .slice p8 4 q8] [(r16 [97] [2, 6, 1]), (r16 [98] [1, 2, 2])] ⟨d6, d8, trivial⟩ (by decide) rfl)
  · refine StepAt.mk rfl [(2, 15), (4, 17), (9, 22)] (by kernel_rfl) (by kernel_rfl) (fun vals w5 hB hD => ?_)
    have d2 := hD (2, 15) (by simp)
    have d4 := hD (4, 17) (by simp)
    have d9 := hD (9, 22) (by simp)
    clear hD
    simp only [List.foldl_cons] at *
    simp only [List.foldl_nil]
    generalize vals 2 = x2 at *
    change x2 = .bool true at d2
    subst d2
    generalize vals 4 = x4 at *
    change (Pd.strs [[120], [99], [115], [109]]).says x4 w5 at d4
    obtain ⟨p4, q4, rfl⟩ := Pd.form_strs d4
    generalize vals 9 = x9 at *
    change (Pd.rows [(r16 [97] [2, 6, 1]), (r16 [98] [1, 2, 2])]).says x9 w5 at d9
    obtain ⟨p9, q9, rfl⟩ := Pd.form_rows d9
    try simp only [Act.put, List.getElem_toArray, List.getElem_cons_succ, List.getElem_cons_zero, List.setIfInBounds_toArray, List.set_cons_zero, List.set_cons_succ]
    exact OpStep.val (v := .agg #[.slice p4 4 q4, .slice p9 2 q9]) (w' := w5) (by go_simp) (by kernel_rfl) (Below.refl _ _) (show (Pd.rel _ _).says _ _ from ⟨_, _, _, _, rfl, ⟨d4, d9⟩⟩)
  · refine StepAt.mk rfl [(2, 15), (3, 16), (10, 23)] (by kernel_rfl) (by kernel_rfl) (fun vals w5 hB hD => ?_)
    have d2 := hD (2, 15) (by simp)
    have d3 := hD (3, 16) (by simp)
    have d10 := hD (10, 23) (by simp)
    clear hD
    simp only [List.foldl_cons] at *
    simp only [List.foldl_nil]
    generalize vals 2 = x2 at *
    change x2 = .bool true at d2
    subst d2
    generalize vals 3 = x3 at *
    change (Pd.rel [[120], [99], [115], [109]] [r16 [97] [2, 6, 1], r16 [98] [1, 2, 2]]).says x3 w5 at d3
    obtain ⟨pa3, qa3, pb3, qb3, rfl, d3⟩ := d3
    generalize vals 10 = x10 at *
    change (Pd.rel [[120], [99], [115], [109]] [(r16 [97] [2, 6, 1]), (r16 [98] [1, 2, 2])]).says x10 w5 at d10
    obtain ⟨pa10, qa10, pb10, qb10, rfl, d10⟩ := d10
    try simp only [Act.put, List.getElem_toArray, List.getElem_cons_succ, List.getElem_cons_zero, List.setIfInBounds_toArray, List.set_cons_zero, List.set_cons_succ]
    refine OpStep.call (f := 11) (args := #[.agg #[.slice pa3 ([[120], [99], [115], [109]] : List S).length qa3, .slice pb3 ([r16 [97] [2, 6, 1], r16 [98] [1, 2, 2]] : List (List V)).length qb3], .agg #[.slice pa10 ([[120], [99], [115], [109]] : List S).length qa10, .slice pb10 ([(r16 [97] [2, 6, 1]), (r16 [98] [1, 2, 2])] : List (List V)).length qb10]]) (by kernel_rfl) (by kernel_rfl) ?_
    exact Same16_K d3 d10 (by decide +kernel) (by decide +kernel) (by decide +kernel) _ (fun w6 hB6 => ⟨_, rfl, hB6, rfl⟩)
  · refine StepAt.mk rfl [(2, 15), (11, 24)] (by kernel_rfl) (by kernel_rfl) (fun vals w5 hB hD => ?_)
    have d2 := hD (2, 15) (by simp)
    have d11 := hD (11, 24) (by simp)
    clear hD
    simp only [List.foldl_cons] at *
    simp only [List.foldl_nil]
    generalize vals 2 = x2 at *
    change x2 = .bool true at d2
    subst d2
    generalize vals 11 = x11 at *
    change x11 = .bool true at d11
    subst d11
    try simp only [Act.put, List.getElem_toArray, List.getElem_cons_succ, List.getElem_cons_zero, List.setIfInBounds_toArray, List.set_cons_zero, List.set_cons_succ]
    exact OpStep.val (v := .bool true) (w' := w5) (by go_simp) (by kernel_rfl) (Below.refl _ _) rfl
  · refine StepAt.mk rfl [(12, 25)] (by kernel_rfl) (by kernel_rfl) (fun vals w5 hB hD => ?_)
    have d12 := hD (12, 25) (by simp)
    clear hD
    simp only [List.foldl_cons] at *
    simp only [List.foldl_nil]
    generalize vals 12 = x12 at *
    change x12 = .bool true at d12
    subst d12
    try simp only [Act.put, List.getElem_toArray, List.getElem_cons_succ, List.getElem_cons_zero, List.setIfInBounds_toArray, List.set_cons_zero, List.set_cons_succ]
    exact OpStep.val (v := .bool true) (w' := w5) (by go_simp) (by kernel_rfl) (Below.refl _ _) rfl
  simp only [List.foldl_cons, List.foldl_nil]
  try simp only [Act.put, List.getElem_toArray, List.getElem_cons_succ, List.getElem_cons_zero, List.setIfInBounds_toArray, List.set_cons_zero, List.set_cons_succ]
  have z : vals 13 = .bool true := hV 13 (by decide)
  rw [z]
  have hr := HR.out wz (HB.out.trans (hB.mono HB.out.size))
  clear z hV hB
  go_wp2_with fail
  first | exact hr | exact fin hr rfl
end Go.Proofs.YtmconajkgjfplaaGreat
end

/- Plain laws for FoldParts, and one of a call's relations. -/
section
set_option linter.unusedVariables false
set_option linter.unusedSimpArgs false
namespace Go.Proofs.YtmconajkgjfplaaGreat
open Go.RowKit
set_option linter.unusedVariables false
set_option linter.unusedSimpArgs false
theorem proj_bad {rc cols : List S} {l : List (List V)} (h : rightB rc l cols = false) : projErr rc l cols = 2 := by
  unfold rightB at h
  unfold projErr
  rw [h]; rfl
theorem right_may {rc cols : List S} {l : List (List V)} (h : rightB rc l cols = true) : mayRel rc l = true := by
  unfold rightB at h
  simp only [Bool.and_eq_true] at h
  exact h.1.1
theorem proj_good {rc cols : List S} {l : List (List V)} (h : rightB rc l cols = true) : projErr rc l cols = 0 := by
  have hm := right_may h
  unfold rightB at h
  unfold projErr
  rw [h]
  simp only [if_true]
  simp only [Bool.and_eq_true] at h
  refine madeErr_ok (once_len h.2) ?_
  have h1 : (relCanon (l.map fun x => pickL x (placesL cols rc))).length ≤ l.length := keys_le (f := grpK rc cols)
  have := (may_many hm).1
  omega
theorem grpL_len {rc cols : List S} {l : List (List V)} : (grpL rc l cols).length = (keysL (grpK rc cols) l).length := by unfold grpL; rw [List.length_map]
theorem grpErr_right {rc cols : List S} {l : List (List V)} (h : rightB rc l cols = true) : grpErr rc l cols = 0 := by unfold grpErr; rw [h]; rfl
theorem grpErr_bad {rc cols : List S} {l : List (List V)} (h : rightB rc l cols = false) : grpErr rc l cols = 2 := by unfold grpErr; rw [h]; rfl
theorem grp_at_may {rc cols : List S} {l : List (List V)} (hm : mayRel rc l = true) {k : Nat} (hk : k < (grpL rc l cols).length) : mayRel rc (grpL rc l cols)[k] = true := by
  rw [grp_at hk (by rw [← grpL_len]; exact hk)]
  exact group_may hm
theorem flat_mem {rc cols : List S} {l : List (List V)} {k : Nat} {x : List V} (hx : x ∈ ((grpL rc l cols).take k).flatten) : x ∈ l := by
  rw [List.mem_flatten] at hx
  obtain ⟨g, hg, hx⟩ := hx
  have hg := List.mem_of_mem_take hg
  unfold grpL at hg
  obtain ⟨q, -, rfl⟩ := List.mem_map.1 hg
  exact (List.mem_filter.1 hx).1
theorem sum_step {G : List (List (List V))} {k : Nat} (hk : k < G.length) : ((G.take (k + 1)).map List.length).sum = ((G.take k).map List.length).sum + G[k].length := by
  rw [List.take_succ_eq_append_getElem hk, List.map_append, List.sum_append]; simp
theorem sum_take_le (G : List (List (List V))) (k : Nat) : ((G.take k).map List.length).sum ≤ (G.map List.length).sum := by
  conv => rhs; rw [← List.take_append_drop k G, List.map_append, List.sum_append]
  omega
theorem grp_sum_le {rc cols : List S} {l : List (List V)} (k : Nat) : (((grpL rc l cols).take k).map List.length).sum ≤ l.length := by
  have := sum_take_le (grpL rc l cols) k
  rw [grp_sum] at this
  exact this
theorem union_may {rc cols : List S} {l : List (List V)} (hm : mayRel rc l = true) {k : Nat} : mayRel rc (relCanon ((grpL rc l cols).take k).flatten) = true := by
  refine may_of (may_once hm) ?_ (fun x hx => may_len hm x (flat_mem (canon_mem'.1 hx))) (canon_up' _)
  have h1 : (relCanon ((grpL rc l cols).take k).flatten).length ≤ ((grpL rc l cols).take k).flatten.length := canon_len_le _
  rw [List.length_flatten] at h1
  have := grp_sum_le (rc := rc) (cols := cols) (l := l) k
  have := (may_many hm).1
  omega
theorem union_pick {rc cols : List S} {l : List (List V)} (hm : mayRel rc l = true) {k : Nat} (hk : k < (grpL rc l cols).length) : (grpL rc l cols)[k].map (fun x => pickL x (placesL rc rc)) = (grpL rc l cols)[k] := by
  have h : (grpL rc l cols)[k].map (fun x => pickL x (placesL rc rc)) = (grpL rc l cols)[k].map id := List.map_congr_left (fun x hx => pick_self (grp_at_may hm hk) hx)
  rw [h, List.map_id]
theorem union_rows {rc cols : List S} {l : List (List V)} (hm : mayRel rc l = true) {k : Nat} (hk : k < (grpL rc l cols).length) : relCanon (relCanon ((grpL rc l cols).take k).flatten ++ (grpL rc l cols)[k].map fun x => pickL x (placesL rc rc)) = relCanon ((grpL rc l cols).take (k + 1)).flatten := by
  rw [union_pick hm hk, union_step hk]
theorem union_err {rc cols : List S} {l : List (List V)} (hm : mayRel rc l = true) {k : Nat} (hk : k < (grpL rc l cols).length) : orErr rc (relCanon ((grpL rc l cols).take k).flatten) rc (grpL rc l cols)[k] = 0 := by
  unfold orErr
  rw [union_may hm, grp_at_may hm hk, within_self]
  simp only [Bool.and_self, decide_true, if_true]
  refine madeErr_ok (once_len (may_once hm)) ?_
  rw [union_rows hm hk]
  exact (may_many (union_may hm)).1
theorem grp_proj_at {rc cols : List S} {l : List (List V)} (hr : rightB rc l cols = true) {k : Nat} (hk : k < (grpL rc l cols).length) : projErr rc (grpL rc l cols)[k] cols = 0 := by
  rw [grp_at hk (by rw [← grpL_len]; exact hk)]
  exact group_proj hr (List.getElem_mem _)
theorem grp_key_at {rc cols : List S} {l : List (List V)} {k : Nat} (hk : k < (grpL rc l cols).length) (h2 : k < (keysL (grpK rc cols) l).length) : relCanon ((grpL rc l cols)[k].map fun x => pickL x (placesL cols rc)) = [(keysL (grpK rc cols) l)[k]] := by
  rw [grp_at hk h2]
  exact group_key (List.getElem_mem _)
theorem place_first {l : List S} (h : 0 < l.length) : placeI l l[0] = 0 := by
  cases l with
  | nil => exact absurd h (Nat.lt_irrefl 0)
  | cons a r => simp [placeI, List.findIdx?_cons]
/-- One of the relations. -/
theorem RLs.at {lo : Nat} {W : World} {p : Option Addr} {n q : Nat} {cols : List S} {rs : List (List (List V))} (h : RLs lo W (.slice p n q) cols rs) {k : Nat} (hk : k < rs.length) :
    ∃ b off pg qg ph qh, p = some ⟨b, off, none⟩ ∧ b < W.heap.size ∧ CellsAt W b (off + k * 2) [.slice pg cols.length qg, .slice ph rs[k].length qh] ∧ RelH W pg qg ph qh cols rs[k] := by
  obtain ⟨gs, gbs, gl, gbl, go', gp, gi⟩ := h
  have hkg : k < gs.length := by rw [gl]; exact hk
  have hkgb : k < gbs.length := by rw [gbl]; exact hk
  obtain ⟨s1, s2, s3, s4⟩ := gi k hkg hkgb hk
  obtain ⟨ao', cap', e', -, -, -, hc'⟩ := (Sl.ofOwn (fun _ => rfl) go' : Sl (flat RH.enc) 2 _ _ _ _ gs).form
  injection e' with e1 e2 e3
  subst e1 e3
  obtain ⟨gb, ob, rfl, gb1, gb2, hcc⟩ := hc' k hkg
  obtain ⟨cs, _, hcs, ecs⟩ := hcc k hkg
  obtain rfl : cs = [gs[k].c.v, gs[k].l.v] := ecs
  obtain ⟨hs, hR, -, -⟩ := s3.rows
  have h1 := (OwnT.sl s3.cols).mono Strs.loc (Nat.zero_le _) (Nat.le_refl _)
  have h2 := hR.rws.mono rowE_loc (Nat.zero_le _) (Nat.le_refl _)
  obtain ⟨pg, qg, epg, -, -, -, -⟩ := h1.form
  obtain ⟨ph, qh, eph, -, -, -, -⟩ := h2.form
  rw [epg, eph] at hcs
  rw [epg] at h1
  rw [eph] at h2
  exact ⟨gb, ob, pg, qg, ph, qh, rfl, by omega, hcs, h1, h2⟩
theorem Groups_K {w : World} {pa qa : Option Addr} {na ma : Nat} {ac : List S} {la : List (List V)} {cols : List S} {cv : Value} (ha : RelH w pa na qa ma ac la) (hcols : Strs 0 w.heap.size w cv cols) (hlen : cols.length ≤ 1000000000000) {e : Int} {rs : List (List (List V))} (he : grpErr ac la cols = e) (hl : okL e (grpL ac la cols) = rs) (R : Ending → World → Prop)
    (hR : ∀ w' v, Below w.heap.size w w' → RLs w.heap.size w' v ac rs → R (.returned (.tuple #[v, .int .i64 e])) w') :
    Calls Tryz.prog 7 #[.agg #[.slice pa ac.length na, .slice qa la.length ma], cv] w R := by
  subst he hl
  exact Groups_any 0 w.heap.size 0 w.heap.size 0 w.heap.size ac pa na la _ cols cv w ha.strs (Nat.le_refl _) ha.rws (Nat.le_refl _) hcols (Nat.le_refl _) hlen R hR
/-- A block of relations is written: what is a call's own stays. -/
theorem ownSet2 {lo : Nat} {w : World} {ca la : Value} {hs : List Value} {cols : List S} {l : List (List V)} (hT : OwnT lo w ca cols) (hR : OwnR lo w la hs l) {b : Nat} {x0 x1 : Value} (hb : Blk w b [x0, x1] 25) (u0 u1 : Value) :
    OwnT lo ((w.setCell ⟨b, 0, none⟩ u0).setCell ⟨b, 1, none⟩ u1) ca cols ∧ OwnR lo ((w.setCell ⟨b, 0, none⟩ u0).setCell ⟨b, 1, none⟩ u1) la hs l ∧ Blk ((w.setCell ⟨b, 0, none⟩ u0).setCell ⟨b, 1, none⟩ u1) b [u0, u1] 25 :=
  ⟨Own.setOther (Own.setOther hT (p := ⟨b, 0, none⟩) (Own.ne_blk hT hb (by decide)) _) (p := ⟨b, 1, none⟩) (Own.ne_blk hT hb (by decide)) _, (hR.setBlk hb (by decide) (by decide) 0 _).setBlk (hb.set 0 _) (by decide) (by decide) 1 _, (hb.set 0 u0).set 1 u1⟩
theorem belowSet2 {B : Nat} {w0 w : World} (hB : Below B w0 w) {b : Nat} (h : B ≤ b) (u0 u1 : Value) : Below B w0 ((w.setCell ⟨b, 0, none⟩ u0).setCell ⟨b, 1, none⟩ u1) :=
  (hB.setCell (p := ⟨b, 0, none⟩) h _).setCell (p := ⟨b, 1, none⟩) h _
/-- A relation of a call's own. -/
structure RelOwn (lo : Nat) (w : World) (pc : Option Addr) (qc : Nat) (pl : Option Addr) (ql : Nat) (cols : List S) (l : List (List V)) : Prop where
  strs : OwnT lo w (.slice pc cols.length qc) cols
  rws : ∃ hs, OwnR lo w (.slice pl l.length ql) hs l
theorem RelOwn.below {lo : Nat} {w w' : World} {pc pl : Option Addr} {qc ql : Nat} {cols : List S} {l : List (List V)} (h : RelOwn lo w pc qc pl ql cols l) (hB : Below w.heap.size w w') : RelOwn lo w' pc qc pl ql cols l :=
  ⟨Own.kept h.strs hB, h.rws.imp fun _ h => h.kept hB⟩
theorem RelOwn.set2 {lo : Nat} {w : World} {pc pl : Option Addr} {qc ql : Nat} {cols : List S} {l : List (List V)} (h : RelOwn lo w pc qc pl ql cols l) {b : Nat} {x0 x1 : Value} (hb : Blk w b [x0, x1] 25) (u0 u1 : Value) :
    RelOwn lo ((w.setCell ⟨b, 0, none⟩ u0).setCell ⟨b, 1, none⟩ u1) pc qc pl ql cols l ∧ Blk ((w.setCell ⟨b, 0, none⟩ u0).setCell ⟨b, 1, none⟩ u1) b [u0, u1] 25 := by
  obtain ⟨h1, hs, h2⟩ := h
  obtain ⟨k1, k2, k3⟩ := ownSet2 h1 h2 hb u0 u1
  exact ⟨⟨k1, hs, k2⟩, k3⟩
theorem RelOwn.relH {lo : Nat} {w : World} {pc pl : Option Addr} {qc ql : Nat} {cols : List S} {l : List (List V)} (h : RelOwn lo w pc qc pl ql cols l) : RelH w pc qc pl ql cols l := by
  obtain ⟨h1, hs, h2⟩ := h
  exact ⟨(OwnT.sl h1).mono Strs.loc (Nat.zero_le _) (Nat.le_refl _), h2.rws.mono rowE_loc (Nat.zero_le _) (Nat.le_refl _)⟩
/-- What values of a drawn region are like: those of Pd, and relations of a call's own. -/
inductive Pe where
  | of (p : Pd)
  | own (lo : Nat) (cols : List S) (l : List (List V))
  | ownerr (lo : Nat) (cols : List S) (l : List (List V)) (e : Int)
  | ags (l : List Ag)
instance : Inhabited Pe := ⟨.of .any⟩
def OwnSays (lo : Nat) (cols : List S) (l : List (List V)) (v : Value) (w : World) : Prop := ∃ pc qc pl ql, v = .agg #[.slice pc cols.length qc, .slice pl l.length ql] ∧ RelOwn lo w pc qc pl ql cols l
def Pe.says : Pe → Value → World → Prop
  | .of p, v, w => p.says v w
  | .own lo cols l, v, w => OwnSays lo cols l v w
  | .ownerr lo cols l e, v, w => ∃ u, v = .tuple #[u, .int .i64 e] ∧ OwnSays lo cols l u w
  | .ags l, v, w => Ags 0 w.heap.size w v l
theorem OwnSays.below {lo : Nat} {w w' : World} {v : Value} {cols : List S} {l : List (List V)} (h : OwnSays lo cols l v w) (hB : Below w.heap.size w w') : OwnSays lo cols l v w' := by
  obtain ⟨pc, qc, pl, ql, rfl, h⟩ := h
  exact ⟨pc, qc, pl, ql, rfl, h.below hB⟩
theorem OwnSays.of {lo lo' : Nat} {w : World} {cv lv : Value} {hs : List Value} {cols : List S} {l : List (List V)} (hT : OwnT lo w cv cols) (hR : OwnR lo w lv hs l) (hl : lo' ≤ lo) : OwnSays lo' cols l (.agg #[cv, lv]) w := by
  obtain ⟨p, q, rfl⟩ := Own.slice hT
  obtain ⟨p2, q2, e⟩ := Own.slice hR.own
  rw [hR.len] at e
  subst e
  exact ⟨p, q, p2, q2, rfl, Own.lower hT hl, hs, hR.lower hl⟩
theorem Pe.step {p : Pe} {v : Value} {w w' : World} (h : p.says v w) (hB : Below w.heap.size w w') : p.says v w' := by
  cases p with
  | of p => exact Pd.step (p := p) h hB
  | own lo cols l => exact OwnSays.below h hB
  | ownerr lo cols l e =>
    obtain ⟨u, rfl, h⟩ := h
    exact ⟨u, rfl, h.below hB⟩
  | ags l => exact (Sl.below h Ags.loc hB (Nat.le_refl _)).mono Ags.loc (Nat.zero_le _) hB.size
def Pes (ps : List Pe) (i : Nat) : Value → World → Prop := (ps.getD i (.of .any)).says
theorem Pes.step {ps : List Pe} : ∀ i v w w', Pes ps i v w → Below w.heap.size w w' → Pes ps i v w' := fun i v w w' h hB => Pe.step h hB
theorem Or_E {lo : Nat} {w : World} {pa qa pb qb : Option Addr} {na ma nb mb : Nat} {ac bc : List S} {la lb : List (List V)} (ha : RelH w pa na qa ma ac la) (hb : RelH w pb nb qb mb bc lb) (hlen : ac.length ≤ 100000000) {e : Int} {co : List S} {l2 : List (List V)} (he : orErr ac la bc lb = e) (hc : okL e ac = co) (hl : okL e (relCanon (la ++ lb.map fun x => pickL x (placesL ac bc))) = l2) (hlo : lo ≤ w.heap.size) :
    Calls Tryz.prog 10 #[.agg #[.slice pa ac.length na, .slice qa la.length ma], .agg #[.slice pb bc.length nb, .slice qb lb.length mb]] w fun en w' => ∃ v, en = .returned v ∧ Below w.heap.size w w' ∧ (Pe.ownerr lo co l2 e).says v w' := by
  subst he hc hl
  exact Or_any 0 w.heap.size 0 w.heap.size 0 w.heap.size 0 w.heap.size ac bc _ _ _ _ la lb _ _ w ha.strs (Nat.le_refl _) ha.rws (Nat.le_refl _) hb.strs (Nat.le_refl _) hb.rws (Nat.le_refl _) hlen _ (fun w' cv lv hs hB hT hO => ⟨_, rfl, hB, _, rfl, OwnSays.of hT hO hlo⟩)
theorem Fold_E {lo : Nat} {w : World} {pa qa : Option Addr} {na ma : Nat} {ac : List S} {l : List (List V)} {cols : List S} {cv lav : Value} {la : List Ag} (ha : RelH w pa na qa ma ac l) (hcols : Strs 0 w.heap.size w cv cols) (hags : Ags 0 w.heap.size w lav la) (hlen : cols.length ≤ 1000000000) (hll : la.length ≤ 1000000000) (hl1 : l.length ≤ 1000) (hok : ∀ x ∈ l, ∀ a ∈ x, a.ok) {e : Int} {co : List S} {l2 : List (List V)} (he : foldErr ac cols la l = e) (hc : okL e (foldCols cols la) = co) (hl : okL e (relCanon (foldRows ac cols la l)) = l2) (hlo : lo ≤ w.heap.size) :
    Calls Tryz.prog 12 #[.agg #[.slice pa ac.length na, .slice qa l.length ma], cv, lav] w fun en w' => ∃ v, en = .returned v ∧ Below w.heap.size w w' ∧ (Pe.ownerr lo co l2 e).says v w' := by
  subst he hc hl
  exact Fold_any 0 w.heap.size 0 w.heap.size 0 w.heap.size 0 w.heap.size ac _ _ l _ cols cv la lav w ha.strs (Nat.le_refl _) ha.rws (Nat.le_refl _) hcols (Nat.le_refl _) hags (Nat.le_refl _) hlen hll hl1 hok _ (fun w' cv lv hs hB hT hO => ⟨_, rfl, hB, _, rfl, OwnSays.of hT hO hlo⟩)
theorem take_flag {col : List V} {k : Nat} {x v : V} (hv : col[k]? = some v) (h1 : x ∈ col.take k → false = true) (h2 : v ≠ x) : x ∈ col.take (k + 1) → false = true := by
  intro h
  rw [List.take_add_one, hv] at h
  rcases List.mem_append.1 h with h | h
  · exact h1 h
  · have h : x = v := by simpa using h
    exact absurd h.symm h2
theorem col_at {rc : List S} {cA : S} {l : List (List V)} {k : Nat} (hp : placeI rc cA = 0) (hk : k < l.length) (h0 : 0 < l[k].length) : (colL rc cA l)[k]? = some l[k][0] := by
  unfold colL
  rw [List.getElem?_map, List.getElem?_eq_getElem hk, hp]
  simp [h0]
theorem col_len {rc : List S} {cA : S} {l : List (List V)} : (colL rc cA l).length = l.length := by unfold colL; rw [List.length_map]
/-- What a region does, whatever its order: one frame and one saying of its world, from which the rest goes on. -/
def MeetPost {ι : Type} (ds : ι → List (Tmp × Value)) (F : ι → World → Prop) (a0 : Act) : Exit → Act → World → Prop
  | .normal, a, w => ∃ i, a = (ds i).foldl (fun a p => a.put (some p.1) p.2) a0 ∧ F i w
  | _, _, _ => False
theorem region_meet {P : Program} {ops : Array Oper} {id : Nat} {dr : Bool} {Q : Exit → Act → World → Prop} {a0 : Act} {w : World} {ι : Type} (ds : ι → List (Tmp × Value)) (F : ι → World → Prop)
    (h1 : (Code.region id ops dr).wp P (MeetPost ds F a0) a0 w)
    (h2 : ∀ i w', F i w' → Q .normal ((ds i).foldl (fun a p => a.put (some p.1) p.2) a0) w') : (Code.region id ops dr).wp P Q a0 w :=
  Code.wp_mono (fun e a w' h => by
    cases e with
    | normal => obtain ⟨i, rfl, hf⟩ := h; exact h2 i w' hf
    | _ => exact h.elim) h1
theorem Or_O {lo : Nat} {w : World} {pa qa pb qb : Option Addr} {na ma nb mb : Nat} {ac bc : List S} {la lb : List (List V)} (ha : RelH w pa na qa ma ac la) (hb : RelH w pb nb qb mb bc lb) (hlen : ac.length ≤ 100000000) {e : Int} {co : List S} {l2 : List (List V)} (he : orErr ac la bc lb = e) (hc : okL e ac = co) (hl : okL e (relCanon (la ++ lb.map fun x => pickL x (placesL ac bc))) = l2) (hlo : lo ≤ w.heap.size) (R : Ending → World → Prop)
    (hR : ∀ w' pc qc pl ql, Below w.heap.size w w' → RelOwn lo w' pc qc pl ql co l2 → R (.returned (.tuple #[.agg #[.slice pc co.length qc, .slice pl l2.length ql], .int .i64 e])) w') :
    Calls Tryz.prog 10 #[.agg #[.slice pa ac.length na, .slice qa la.length ma], .agg #[.slice pb bc.length nb, .slice qb lb.length mb]] w R := by
  refine Calls.mono (Or_E ha hb hlen he hc hl hlo) ?_
  rintro en w' ⟨v, rfl, hB, u, rfl, pc, qc, pl, ql, rfl, ho⟩
  exact hR w' pc qc pl ql hB ho
theorem Fold_O {lo : Nat} {w : World} {pa qa : Option Addr} {na ma : Nat} {ac : List S} {l : List (List V)} {cols : List S} {cv lav : Value} {la : List Ag} (ha : RelH w pa na qa ma ac l) (hcols : Strs 0 w.heap.size w cv cols) (hags : Ags 0 w.heap.size w lav la) (hlen : cols.length ≤ 1000000000) (hll : la.length ≤ 1000000000) (hl1 : l.length ≤ 1000) (hok : ∀ x ∈ l, ∀ a ∈ x, a.ok) {e : Int} {co : List S} {l2 : List (List V)} (he : foldErr ac cols la l = e) (hc : okL e (foldCols cols la) = co) (hl : okL e (relCanon (foldRows ac cols la l)) = l2) (hlo : lo ≤ w.heap.size) (R : Ending → World → Prop)
    (hR : ∀ w' pc qc pl ql, Below w.heap.size w w' → RelOwn lo w' pc qc pl ql co l2 → R (.returned (.tuple #[.agg #[.slice pc co.length qc, .slice pl l2.length ql], .int .i64 e])) w') :
    Calls Tryz.prog 12 #[.agg #[.slice pa ac.length na, .slice qa l.length ma], cv, lav] w R := by
  refine Calls.mono (Fold_E ha hcols hags hlen hll hl1 hok he hc hl hlo) ?_
  rintro en w' ⟨v, rfl, hB, u, rfl, pc, qc, pl, ql, rfl, ho⟩
  exact hR w' pc qc pl ql hB ho
end Go.Proofs.YtmconajkgjfplaaGreat
end

/- The document's Sorted. (Printed by gra.py.) -/
section
set_option linter.unusedVariables false
set_option linter.unusedSimpArgs false
namespace Go.Proofs.YtmconajkgjfplaaGreat
open Go.RowKit
set_option linter.unusedVariables false
set_option linter.unusedSimpArgs false
attribute [local go_sem ↓] Go.wp_at_zero Go.wp_at_succ
end Go.Proofs.YtmconajkgjfplaaGreat
end

/- The document's Total, and the law FoldTotals. -/
section
set_option linter.unusedVariables false
set_option linter.unusedSimpArgs false
namespace Go.Proofs.YtmconajkgjfplaaGreat
open Go.RowKit

def H32 : Int := 4294967296
/-- The two halves' sum, told. -/
theorem halves {a b s : Int} (h : a * H32 + b = s) : (a + b / 4294967296) * 4294967296 + b % 4294967296 = s := by unfold H32 at h; omega
end Go.Proofs.YtmconajkgjfplaaGreat
end

/- The document's tell. (Printed by grb.py.) -/
section
set_option linter.unusedVariables false
set_option linter.unusedSimpArgs false
namespace Go.Proofs.YtmconajkgjfplaaGreat
open Go.RowKit
set_option linter.unusedVariables false
set_option linter.unusedSimpArgs false
attribute [local go_sem ↓] Go.wp_at_zero Go.wp_at_succ
theorem ok_len {v : V} (h : v.ok) : v.s.length ≤ 9223372036854775807 := by have := h.2.2; omega
end Go.Proofs.YtmconajkgjfplaaGreat
end

/- The law FoldGroups, walked. (Printed by fldn.py.) -/
section
set_option linter.unusedVariables false
set_option linter.unusedSimpArgs false
namespace Go.Proofs.YtmconajkgjfplaaGreat
open Go.RowKit
set_option linter.unusedVariables false
set_option linter.unusedSimpArgs false
attribute [local go_sem ↓] Go.wp_at_zero Go.wp_at_succ
def great16B (cols : List S) (l : List (List V)) (nb : Nat) : Bool := decide (40 < cols.length) || decide (100 < l.length) || decide (40 < nb) || l.any fun x => decide (40 < x.length)
theorem great16_no {cols : List S} {l : List (List V)} {nb : Nat} (h : great16B cols l nb = false) : cols.length ≤ 40 ∧ l.length ≤ 100 ∧ nb ≤ 40 ∧ ∀ x ∈ l, x.length ≤ 40 := by
  unfold great16B at h
  simp only [Bool.or_eq_false_iff, decide_eq_false_iff_not, List.any_eq_false, decide_eq_true_eq] at h
  exact ⟨by omega, by omega, by omega, fun x hx => by have := h.2 x hx; omega⟩
set_option maxRecDepth 100000 in
set_option maxHeartbeats 4000000 in
theorem great16_any (lo hi : Nat) (cols : List S) (ac : Option Addr) (cc : Nat) (l : List (List V)) (lv : Value) (ak : Option Addr) (nb ck : Nat) (w : World) (hv : Rws lo hi w lv l) (hhi : hi ≤ w.heap.size) (hcl : cols.length ≤ 9223372036854775807) (hnb : nb ≤ 9223372036854775807) (R : Ending → World → Prop)
    (hR : ∀ w', Below w.heap.size w w' → R (.returned (.bool (great16B cols l nb))) w') :
    Calls Tryz.prog 6 #[.agg #[.slice ac cols.length cc, lv], .slice ak nb ck] w R := by
  have HR := Lib.hid hR
  have Hv := Lib.hid hv
  obtain ⟨av, cv, rfl, -, hcm, -, -⟩ := hv.form
  clear hR hv
  have hll := Hv.out.len
  obtain ⟨q, hq⟩ : ∃ q, q = cols.length := ⟨_, rfl⟩
  rw [← hq] at hcl ⊢
  have Hq := Lib.hid hq
  clear hq
  go_enter Tryz.func6, Tryz.ntmps6
  go_upto_region 1 with fail
  have hBa := alloc_below w (.cells #[.slice ac q cc, .slice av l.length cv] 25)
  have hba := Blk.new w [.slice ac q cc, .slice av l.length cv] 25 rfl
  generalize w.alloc (.cells #[.slice ac q cc, .slice av l.length cv] 25) = w1 at *
  have HB := Lib.hid hBa
  have Hv1 := Lib.hid (Sl.below Hv.out rowE_loc hBa hhi)
  obtain ⟨av', cv', e', -, -, -, hc⟩ := Hv1.out.form
  injection e' with e1 e2 e3
  subst e1 e3
  have Hc := Lib.hid hc
  obtain ⟨c0, c1⟩ := hba.cells.c2
  simp only [Nat.zero_add] at c1
  clear hc hBa hba e2
  by_cases h1 : 40 < q
  · have c1 : (40 : Int) < (q : Int) := by omega
    have hr := HR.out _ HB.out
    have e : great16B cols l nb = true := by unfold great16B; rw [decide_eq_true (by rw [← Hq.out]; exact h1)]; rfl
    rw [e] at hr
    clear e
    go_wp2_with fail
    first | exact hr | exact fin hr rfl
  · have c2 : ¬ (40 : Int) < (q : Int) := by omega
    by_cases h2 : 100 < l.length
    · have c3 : (100 : Int) < (l.length : Int) := by omega
      have hr := HR.out _ HB.out
      have e : great16B cols l nb = true := by unfold great16B; rw [decide_eq_true h2]; simp
      rw [e] at hr
      clear e
      go_wp2_with fail
      first | exact hr | exact fin hr rfl
    · have c3 : ¬ (100 : Int) < (l.length : Int) := by omega
      by_cases h3 : 40 < nb
      · have c4 : (40 : Int) < (nb : Int) := by omega
        have hr := HR.out _ HB.out
        have e : great16B cols l nb = true := by unfold great16B; rw [decide_eq_true h3]; simp
        rw [e] at hr
        clear e
        go_wp2_with fail
        first | exact hr | exact fin hr rfl
      have c4 : ¬ (40 : Int) < (nb : Int) := by omega
      have Hcl : Hid (decide (40 < cols.length) = false) := Lib.hid (decide_eq_false (by rw [← Hq.out]; exact h1))
      clear h1
      go_wp2_with fail
      go_loop [24] (fun t24 => ∃ k : Nat, k ≤ l.length ∧ t24 = .int .i64 k ∧ ∀ i, i < k → (l.getD i []).length ≤ 40) (fun t24 => l.length - (intOf t24).toNat)
      case atStart => exact ⟨0, Nat.zero_le _, rfl, fun i h => absurd h (Nat.not_lt_zero _)⟩
      case round =>
        obtain ⟨k, hk, rfl, hno⟩ := hrel
        have Hno := Lib.hid hno
        clear hno
        have kk0 : (0 : Int) ≤ (k : Int) := by omega
        by_cases hlt : k < l.length
        · obtain ⟨b, off, rfl, hb1, hb2, hcc⟩ := Hc.out k hlt
          obtain ⟨cs, _, hcs, sv, rfl, hsv⟩ := hcc k hlt
          have g0 := hcs.c1
          rw [Nat.mul_one] at g0
          have kkl : (k : Int) < (l.length : Int) := by omega
          have Hx : Hid (l.getD k [] = l[k]) := Lib.hid (getDS l _ k hlt)
          have Hbadk : Hid (40 < l[k].length → great16B cols l nb = true) := Lib.hid (fun h => by
            have : (l.any fun x => decide (40 < x.length)) = true := by
              rw [List.any_eq_true]
              exact ⟨l[k], List.getElem_mem hlt, by simpa using h⟩
            unfold great16B
            rw [this]; simp)
          obtain ⟨ay, cy, rfl, -, -, -, -⟩ := hsv.form
          clear hcc hcs hsv
          generalize l[k] = x at *
          by_cases h4 : 40 < x.length
          · have c5 : (40 : Int) < (x.length : Int) := by omega
            have hr := HR.out _ HB.out
            rw [Hbadk.out h4] at hr
            clear h4
            go_wp2_with fail
            first | exact hr | exact fin hr rfl
          · have c5 : ¬ (40 : Int) < (x.length : Int) := by omega
            go_wp2_with fail
            go_round
            case rel => exact ⟨k + 1, by omega, by go_num, fun i hi => by
              by_cases e : i = k
              · subst e; rw [Hx.out]; omega
              · exact Hno.out i (by omega)⟩
            case measure => simp [intOf]; omega
        · obtain rfl : k = l.length := by omega
          have llt : ¬ ((l.length : Nat) : Int) < (l.length : Int) := by omega
          have hr := HR.out _ HB.out
          have e : great16B cols l nb = false := by
            unfold great16B
            rw [Hcl.out, decide_eq_false h2, decide_eq_false h3]
            have : (l.any fun x => decide (40 < x.length)) = false := by
              rw [List.any_eq_false]
              intro x hx
              obtain ⟨i, hi, rfl⟩ := List.getElem_of_mem hx
              have := Hno.out i hi
              rw [getDS l _ i hi] at this
              simp; omega
            rw [this]; rfl
          rw [e] at hr
          clear e
          go_wp2_with fail
          first | exact hr | exact fin hr rfl
theorem CellsAt.blk {W W' : World} {b o : Nat} {cs : List Value} (h : CellsAt W b o cs) (e : W'.heap[b]? = W.heap[b]?) : CellsAt W' b o cs := by
  intro j u hu
  have := h j u hu
  simp only [World.cell?] at this ⊢
  rw [e]
  exact this
/-- The blocks of relations that have been written over. -/
def DoneB (bs : List (Nat × Nat)) (k b : Nat) : Prop := ∃ j, ∃ h : j < bs.length, j < k ∧ bs[j].1 ≤ b ∧ b < bs[j].2
def RowsB (hs : List Value) (b : Nat) : Prop := ∃ u ∈ hs, u.ownBlock = some b
theorem DoneB.succ {bs : List (Nat × Nat)} {k b : Nat} (h : DoneB bs k b) : DoneB bs (k + 1) b := by
  obtain ⟨j, h1, h2, h3⟩ := h
  exact ⟨j, h1, by omega, h3⟩
/-- What the walk over one relation's rows keeps. -/
structure FgT (wp wr : World) (hs : List Value) (ns : List Nat) (b1 b2 : Nat) : Prop where
  only : Only (RowsB hs) wp wr
  row : ∀ i (h : i < hs.length) (h2 : i < ns.length), Shp 44 3 b1 b2 wr hs[i] ns[i]
theorem FgT.set {wp wr : World} {hs : List Value} {ns : List Nat} {b1 b2 : Nat} (h : FgT wp wr hs ns b1 b2) {b i : Nat} (u : Value) (h4 : RowsB hs b) : FgT wp (wr.setCell ⟨b, i, none⟩ u) hs ns b1 b2 :=
  ⟨h.only.trans (Only.setCell wr (p := ⟨b, i, none⟩) h4 u), fun k hk h2 => (h.row k hk h2).setCell b i u⟩
end Go.Proofs.YtmconajkgjfplaaGreat
end

/- The document's Fold. (Printed by grc.py.) -/
section
set_option linter.unusedVariables false
set_option linter.unusedSimpArgs false
namespace Go.Proofs.YtmconajkgjfplaaGreat
open Go.RowKit
set_option linter.unusedVariables false
set_option linter.unusedSimpArgs false
attribute [local go_sem ↓] Go.wp_at_zero Go.wp_at_succ
/-- One of the relations. -/
theorem QLs.at {lo : Nat} {W : World} {p : Option Addr} {n q : Nat} {cols : List S} {rs : List (List (List V))} (h : QLs lo W (.slice p n q) cols rs) {k : Nat} (hk : k < rs.length) :
    ∃ b off pg qg ph qh, p = some ⟨b, off, none⟩ ∧ b < W.heap.size ∧ CellsAt W b (off + k * 2) [.slice pg cols.length qg, .slice ph rs[k].length qh] ∧ Strs lo W.heap.size W (.slice pg cols.length qg) cols ∧ Rws lo W.heap.size W (.slice ph rs[k].length qh) rs[k] := by
  obtain ⟨gs, gbs, gl, gbl, go', gp, gi⟩ := h
  have hkg : k < gs.length := by rw [gl]; exact hk
  have hkgb : k < gbs.length := by rw [gbl]; exact hk
  obtain ⟨s1, s2, s3, s4⟩ := gi k hkg hkgb hk
  obtain ⟨ao', cap', e', -, -, -, hc'⟩ := (Sl.ofOwn (fun _ => rfl) go' : Sl (flat RH.enc) 2 _ _ _ _ gs).form
  injection e' with e1 e2 e3
  subst e1 e3
  obtain ⟨gb, ob, rfl, gb1, gb2, hcc⟩ := hc' k hkg
  obtain ⟨cs, _, hcs, ecs⟩ := hcc k hkg
  obtain rfl : cs = [gs[k].c.v, gs[k].l.v] := ecs
  obtain ⟨pg, qg, epg, -, -, -, -⟩ := s3.cols.form
  obtain ⟨ph, qh, eph, -, -, -, -⟩ := s3.rows.form
  rw [epg, eph] at hcs
  have h1 := s3.cols.mono Strs.loc s1 s2
  have h2 := s3.rows.mono rowE_loc s1 s2
  rw [epg] at h1
  rw [eph] at h2
  exact ⟨gb, ob, pg, qg, ph, qh, rfl, by omega, hcs, h1, h2⟩
end Go.Proofs.YtmconajkgjfplaaGreat
end

/- The document's tellings, one behind the other. -/
section
set_option linter.unusedVariables false
set_option linter.unusedSimpArgs false
namespace Go.Proofs.YtmconajkgjfplaaGreat
open Go.RowKit
set_option linter.unusedVariables false
set_option linter.unusedSimpArgs false
abbrev OwnAg := Own Ag.enc 48 3
theorem OwnAg.sl {lo : Nat} {w : World} {v : Value} {xs : List Ag} (h : OwnAg lo w v xs) : Ags lo w.heap.size w v xs := Sl.ofOwn (fun _ => rfl) h
end Go.Proofs.YtmconajkgjfplaaGreat
end

/- The law FoldTells, walked. (Printed by gre.py.) -/
section
set_option linter.unusedVariables false
set_option linter.unusedSimpArgs false
namespace Go.Proofs.YtmconajkgjfplaaGreat
open Go.RowKit
set_option linter.unusedVariables false
set_option linter.unusedSimpArgs false
attribute [local go_sem ↓] Go.wp_at_zero Go.wp_at_succ
end Go.Proofs.YtmconajkgjfplaaGreat
end
