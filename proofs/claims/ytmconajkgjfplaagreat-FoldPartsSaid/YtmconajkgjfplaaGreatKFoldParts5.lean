/- Texts that the proofs of FoldParts stand on, part 5. -/
import Derived.Sort.CutIn
import Derived.Test.YtmconajkgjfplaaGreatKFoldParts4
/- Without. (Printed by mee.py.) -/
section
set_option linter.unusedVariables false
set_option linter.unusedSimpArgs false
namespace Go.Proofs.YtmconajkgjfplaaGreat
open Go.RowKit Go.Shelf
set_option linter.unusedVariables false
set_option linter.unusedSimpArgs false
attribute [local go_sem] Oper.semAt_some

theorem heap_lt {w : World} {k : Nat} {o : Obj} (h : w.heap[k]? = some o) : k < w.heap.size := (Array.getElem?_eq_some_iff.1 h).1
theorem roundPost_retR {P : Program} {RL : LoopState → Option Code → Loop} {l : Nat} {fn : FuncId} {tmps : Array Value} {ps : Array Tmp} {assign body : Code} {D : Nat} {W : World} {R : Ending → World → Prop} {a : Act}
    (hRL : RL = recL fn tmps ps assign body D) (hl : W.heap[l]? = some (.loop (RL .busy none)))
    (h : R (.returned (.bool false)) (W.putObj l (.loop (RL .done (some .ret))))) : roundPost P l R .ret a W := by subst hRL; exact roundPost_ret hl h
theorem results_cells {P : Program} {fn : Func} {t u : Tmp} {ty uy : TypeId} {tmps : Array Value} {w : World} {a b : Addr} {v1 v2 : Value} (h : fn.results = #[.cell t ty, .cell u uy]) (ht : tmps.getD t undef = .pointer (some a)) (hu : tmps.getD u undef = .pointer (some b))
    (h1 : (loadVar ty a).run P w = .ok v1 w) (h2 : (loadVar uy b).run P w = .ok v2 w) : (results fn tmps).run P w = .ok (.tuple #[v1, v2]) w := by
  simp only [results, h]
  have ht' : (tmps[t]?).getD undef = .pointer (some a) := by simpa using ht
  have hu' : (tmps[u]?).getD undef = .pointer (some b) := by simpa using hu
  simp [Sem.run_bind, Result.andThen, ht', hu', asAddr, h1, h2]
end Go.Proofs.YtmconajkgjfplaaGreat
end

/- Without. (Printed by mef.py.) -/
section
set_option linter.unusedVariables false
set_option linter.unusedSimpArgs false
namespace Go.Proofs.YtmconajkgjfplaaGreat
open Go.RowKit
set_option linter.unusedVariables false
set_option linter.unusedSimpArgs false

theorem placeI_mem {l : List S} {c : S} (h : c ∈ l) : 0 ≤ placeI l c := by
  by_cases hp : 0 ≤ placeI l c
  · exact hp
  · exfalso
    obtain ⟨k, hk, rfl⟩ := List.getElem_of_mem h
    have key : ∀ n, ∀ k (hk : k < l.length), k ≤ n → 0 ≤ placeI l l[k] := by
      intro n
      induction n with
      | zero =>
        intro k hk h0
        obtain rfl : k = 0 := by omega
        rw [placeI_hit (k := 0) hk rfl (fun i hi => absurd hi (Nat.not_lt_zero _))]
        omega
      | succ n ih =>
        intro k hk hkn
        by_cases hex : ∃ i, i < k ∧ l.getD i [] = l[k]
        · obtain ⟨i, hik, he⟩ := hex
          rw [getDS l _ i (by omega)] at he
          rw [← he]
          exact ih i (by omega) (by omega)
        · rw [placeI_hit (k := k) hk rfl (fun i hi e => hex ⟨i, hi, e⟩)]
          omega
    exact hp (key k k hk (Nat.le_refl _))
theorem within_sub {cols of : List S} (h : ∀ c ∈ cols, c ∈ of) : withinB cols of = true := by
  unfold withinB
  rw [List.all_eq_true]
  exact fun c hc => decide_eq_true (placeI_mem (h c hc))
theorem pick_len' (x : List V) (cols rc : List S) : (pickL x (placesL cols rc)).length = cols.length := by unfold pickL placesL; simp
end Go.Proofs.YtmconajkgjfplaaGreat
end

/- A turn of Join's outer loop. (Printed by meg.py.) -/
section
set_option linter.unusedVariables false
set_option linter.unusedSimpArgs false
namespace Go.Proofs.YtmconajkgjfplaaGreat
open Go.RowKit Go.Shelf
set_option linter.unusedVariables false
set_option linter.unusedSimpArgs false
attribute [local go_sem] Oper.semAt_some

/-- What a slice owns holds no calls put off. -/
theorem Own.ne_def {α : Type} {enc : α → List Value} {e : TypeId} {size lo : Nat} {w : World} {v : Value} {xs : List α} (h : Own enc e size lo w v xs) {D : Nat} {o : Obj} (hb : w.heap[D]? = some o) (hc : o.isCells = false) : v.ownBlock ≠ some D := by
  intro hk
  rcases h.2 with ⟨rfl, -⟩ | ⟨g, cap, cur, rfl, -, hg, -⟩
  · cases hk
  · have e1 : g = D := by simpa [Value.ownBlock] using hk
    subst e1
    rw [hg] at hb
    injection hb with hb
    subst hb
    cases hc
theorem OwnR.turn {lo : Nat} {w w' : World} {v : Value} {hs : List Value} {xs : List (List V)} (h : OwnR lo w v hs xs) {L : Nat} {o : Obj} (hl : w.heap[L]? = some o) (hc : o.isCells = false) (hO : Only (· = L) w w') : OwnR lo w' v hs xs :=
  ⟨Own.same h.own (fun g e => hO.block g (Own.lt h.own g e).2 (fun e2 => Own.ne_def h.own hl hc (by rw [e, show g = L from e2]))), h.len,
    fun i hi h2 => Own.same (h.row i hi h2) (fun g e => hO.block g (Own.lt (h.row i hi h2) g e).2 (fun e2 => Own.ne_def (h.row i hi h2) hl hc (by rw [e, show g = L from e2]))), h.apart⟩
end Go.Proofs.YtmconajkgjfplaaGreat
end

/- Join. (Printed by meh.py.) -/
section
set_option linter.unusedVariables false
set_option linter.unusedSimpArgs false
namespace Go.Proofs.YtmconajkgjfplaaGreat
open Go.RowKit Go.Shelf
set_option linter.unusedVariables false
set_option linter.unusedSimpArgs false
attribute [local go_sem] Oper.semAt_some

theorem marks_leave {F : Fence} {n : Nat} {P : Program} {fn : Func} {tmps : Array Value} {R : Ending → World → Prop} : ∀ (Ds : List Nat) (w : World), Ds.Nodup → (∀ D ∈ Ds, w.heap[D]? = some (.deferred (some []))) →
    (∀ w', Only (· ∈ Ds) w w' → LeavesIn F n P fn tmps R [] .returning w') → LeavesInM F n P fn tmps R (Ds.map markD) .returning w
  | [], w, _, _, h => h w (Only.refl _ _)
  | D :: Ds, w, hn, hd, h => by
    obtain ⟨h1, h2⟩ := List.nodup_cons.1 hn
    refine ⟨by simp, .inl ⟨D, w.putObj D (.deferred none), rfl, run_takeDeferred (hd D (by simp)), ?_⟩⟩
    have hp : Only (· ∈ D :: Ds) w (w.putObj D (.deferred none)) := Only.putObj (A := (· ∈ D :: Ds)) w (b := D) (by simp) _
    refine marks_leave Ds _ h2 (fun D' hD' => (World.putObj_heap_other (by rintro rfl; exact h1 hD')).trans (hd D' (by simp [hD']))) (fun w' ho => h w' (hp.trans (ho.mono (fun k _ hk => List.mem_cons_of_mem _ hk))))
theorem Own.turns {α : Type} {enc : α → List Value} {e : TypeId} {size lo : Nat} {w w' : World} {v : Value} {xs : List α} {A : Nat → Prop} (h : Own enc e size lo w v xs) (hA : ∀ D, A D → ∃ o, w.heap[D]? = some o ∧ o.isCells = false) (hO : Only A w w') : Own enc e size lo w' v xs :=
  Own.same h (fun g e => hO.block g (Own.lt h g e).2 (fun e2 => by obtain ⟨o, h1, h2⟩ := hA g e2; exact Own.ne_def h h1 h2 e))
theorem OwnR.turns {lo : Nat} {w w' : World} {v : Value} {hs : List Value} {xs : List (List V)} {A : Nat → Prop} (h : OwnR lo w v hs xs) (hA : ∀ D, A D → ∃ o, w.heap[D]? = some o ∧ o.isCells = false) (hO : Only A w w') : OwnR lo w' v hs xs :=
  ⟨Own.turns h.own hA hO, h.len, fun i hi h2 => Own.turns (h.row i hi h2) hA hO, h.apart⟩
theorem Blk.turns {w w' : World} {b : Nat} {cs : List Value} {t : TypeId} {A : Nat → Prop} (h : Blk w b cs t) (hA : ∀ D, A D → ∃ o, w.heap[D]? = some o ∧ o.isCells = false) (hO : Only A w w') : Blk w' b cs t :=
  hO.blk h (fun hb => by
    obtain ⟨o, h1, h2⟩ := hA b hb
    unfold Blk at h
    rw [h] at h1
    injection h1 with h1
    subst h1
    cases h2)
end Go.Proofs.YtmconajkgjfplaaGreat
end

/- Join's outer loop. (Printed by mei.py.) -/
section
set_option linter.unusedVariables false
set_option linter.unusedSimpArgs false
namespace Go.Proofs.YtmconajkgjfplaaGreat
open Go.RowKit Go.Shelf
set_option linter.unusedVariables false
set_option linter.unusedSimpArgs false
attribute [local go_sem] Oper.semAt_some

end Go.Proofs.YtmconajkgjfplaaGreat
end

/- made, with what it turns. (Printed by mek.py.) -/
section
set_option linter.unusedVariables false
set_option linter.unusedSimpArgs false
namespace Go.Proofs.YtmconajkgjfplaaGreat
open Go.RowKit
set_option linter.unusedVariables false
set_option linter.unusedSimpArgs false

end Go.Proofs.YtmconajkgjfplaaGreat
end

/- Join. (Printed by mej.py, mej2.py.) -/
section
set_option linter.unusedVariables false
set_option linter.unusedSimpArgs false
namespace Go.Proofs.YtmconajkgjfplaaGreat
open Go.RowKit Go.Shelf
set_option linter.unusedVariables false
set_option linter.unusedSimpArgs false
attribute [local go_sem] Oper.semAt_some

end Go.Proofs.YtmconajkgjfplaaGreat
end

/- The document's agree. (Printed by mel.py.) -/
section
set_option linter.unusedVariables false
set_option linter.unusedSimpArgs false
namespace Go.Proofs.YtmconajkgjfplaaGreat
open Go.RowKit
set_option linter.unusedVariables false
set_option linter.unusedSimpArgs false
attribute [local go_sem ↓] Go.wp_at_zero Go.wp_at_succ

end Go.Proofs.YtmconajkgjfplaaGreat
end

/- The document's Or. (Printed by mem.py, merf.py.) -/
section
set_option linter.unusedVariables false
set_option linter.unusedSimpArgs false
namespace Go.Proofs.YtmconajkgjfplaaGreat
open Go.RowKit
set_option linter.unusedVariables false
set_option linter.unusedSimpArgs false
attribute [local go_sem ↓] Go.wp_at_zero Go.wp_at_succ

end Go.Proofs.YtmconajkgjfplaaGreat
end

/- Rows agree as the document has it, and as the code has it. -/
section
set_option linter.unusedVariables false
set_option linter.unusedSimpArgs false
namespace Go.Proofs.YtmconajkgjfplaaGreat
open Go.RowKit
set_option linter.unusedVariables false

theorem placeI_at {l : List S} {c : S} (h : 0 ≤ placeI l c) : ∃ i, ∃ h : i < l.length, placeI l c = (i : Int) ∧ l[i] = c := by
  unfold placeI at h ⊢
  cases hf : l.findIdx? (· == c) with
  | none => rw [hf] at h; simp at h
  | some i =>
    obtain ⟨h1, h2, -⟩ := List.findIdx?_eq_some_iff_getElem.1 hf
    exact ⟨i, h1, rfl, by simpa using h2⟩
theorem once_place {l : List S} (h : onceB l = true) (i : Nat) (hi : i < l.length) : placeI l l[i] = (i : Int) := by
  unfold onceB at h
  have := List.all_eq_true.1 h i (List.mem_range.2 hi)
  unfold onceAt at this
  simp only [getDS l _ i hi, Bool.and_eq_true, beq_iff_eq, decide_eq_true_eq] at this
  exact this.2
theorem may_once {cols : List S} {l : List (List V)} (h : mayRel cols l = true) : onceB cols = true := by
  unfold mayRel at h
  simp only [Bool.and_eq_true] at h
  first | exact h.1.1 | exact h.1
end Go.Proofs.YtmconajkgjfplaaGreat
end

/- What relations are together, in plain words: joined with themselves, in the other order, and parted. -/
section
set_option linter.unusedVariables false
set_option linter.unusedSimpArgs false
namespace Go.Proofs.YtmconajkgjfplaaGreat
open Go.RowKit
set_option linter.unusedVariables false
set_option linter.unusedSimpArgs false

/-- The value of a column in a row. -/
def valC (cols : List S) (x : List V) (c : S) : V := x.getD (placeI cols c).toNat default
theorem pick_val (x : List V) (cs of : List S) : pickL x (placesL cs of) = cs.map (valC of x) := by
  unfold pickL placesL
  rw [List.map_map]
  rfl
theorem place_mem_iff {l : List S} {c : S} : 0 ≤ placeI l c ↔ c ∈ l :=
  ⟨fun h => by obtain ⟨i, hi, -, rfl⟩ := placeI_at h; exact List.getElem_mem hi, placeI_mem⟩
theorem val_self {cols : List S} {x : List V} (ho : onceB cols = true) (hl : x.length = cols.length) : cols.map (valC cols x) = x := by
  apply List.ext_getElem (by simp [hl])
  intro i h1 h2
  rw [List.getElem_map]
  unfold valC
  rw [once_place ho i (by simpa using h1), Int.toNat_natCast, getDS x _ i h2]
theorem canon_is {X l : List (List V)} (hl : Up cmpR l) (h : ∀ z, z ∈ X ↔ z ∈ l) : relCanon X = l := (canon_one cmpR_cmp h).trans (canon_self cmpR_cmp hl)
theorem canon_up' (X : List (List V)) : Up cmpR (relCanon X) := canon_up cmpR_cmp X
theorem canon_mem' {X : List (List V)} {z : List V} : z ∈ relCanon X ↔ z ∈ X := canon_mem cmpR_cmp X z
theorem may_of {cols : List S} {l : List (List V)} (ho : onceB cols = true) (hl : l.length ≤ 100000) (hx : ∀ x ∈ l, x.length = cols.length) (hu : Up cmpR l) : mayRel cols l = true := by
  refine mayRel_yes ho hl (fun i hi => ?_)
  unfold mayAt
  rw [getDS l _ i hi, Bool.and_eq_true, beq_iff_eq]
  refine ⟨hx _ (List.getElem_mem hi), ?_⟩
  by_cases h0 : i = 0
  · subst h0; rfl
  · rw [getDS l _ (i - 1) (by omega), Bool.or_eq_true, decide_eq_true_eq]
    exact .inr ((List.pairwise_iff_getElem.1 hu) (i - 1) i (by omega) hi (by omega))
theorem may_up' {cols : List S} {l : List (List V)} (h : mayRel cols l = true) : Up cmpR l := may_up h
theorem madeErr_ok {cols : List S} {xs : List (List V)} (h1 : cols.length ≤ 32) (h2 : (relCanon xs).length ≤ 100000) : madeErr cols xs = 0 := by
  unfold madeErr
  rw [if_neg (by omega)]
theorem once_nodup {l : List S} (h : onceB l = true) : l.Nodup := by
  rw [List.nodup_iff_pairwise_ne, List.pairwise_iff_getElem]
  intro i j hi hj hij e
  have h1 := once_place h i hi
  have h2 := once_place h j hj
  rw [e, h2] at h1
  omega
theorem once_of {l : List S} (hn : l.Nodup) (hl : l.length ≤ 32) : onceB l = true := by
  refine onceB_yes (fun i hi => ?_)
  unfold onceAt
  rw [getDS l _ i hi, Bool.and_eq_true, decide_eq_true_eq, beq_iff_eq]
  refine ⟨by omega, placeI_hit hi rfl (fun j hj e => ?_)⟩
  rw [getDS l _ j (by omega)] at e
  rw [List.nodup_iff_pairwise_ne, List.pairwise_iff_getElem] at hn
  exact hn j i (by omega) hi hj e
theorem nodup_len_le : ∀ {l m : List S}, l.Nodup → (∀ c ∈ l, c ∈ m) → l.length ≤ m.length := by
  intro l
  induction l with
  | nil => intro m _ _; simp
  | cons a r ih =>
    intro m hn hm
    obtain ⟨h1, h2⟩ := List.nodup_cons.1 hn
    have ha : a ∈ m := hm a List.mem_cons_self
    have := ih (m := m.erase a) h2 (fun c hc => (List.mem_erase_of_ne (by rintro rfl; exact h1 hc)).2 (hm c (List.mem_cons_of_mem _ hc)))
    rw [List.length_erase_of_mem ha] at this
    have := List.length_pos_of_mem ha
    rw [List.length_cons]
    omega
theorem within_self (rc : List S) : withinB rc rc = true := within_sub (fun c hc => hc)
section
variable {rc : List S} {l : List (List V)} (h : mayRel rc l = true)
include h
theorem pick_self {x : List V} (hx : x ∈ l) : pickL x (placesL rc rc) = x := by rw [pick_val, val_self (may_once h) (may_len h x hx)]
end
section
variable {rc sc : List S} {l m : List (List V)} (hr : mayRel rc l = true) (hs : mayRel sc m = true)
include hr hs
end

section
variable {rc sc : List S} {l m : List (List V)} (hr : mayRel rc l = true) (hs : mayRel sc m = true)
include hr
include hs
end
end Go.Proofs.YtmconajkgjfplaaGreat
end

/- The places of columns, each once: fold.places; and fold.groups. -/
section
set_option linter.unusedVariables false
set_option linter.unusedSimpArgs false
namespace Go.Proofs.YtmconajkgjfplaaGreat
open Go.RowKit
set_option linter.unusedVariables false
set_option linter.unusedSimpArgs false

set_option maxRecDepth 100000 in
set_option maxHeartbeats 2000000 in
theorem IndexI_any (lo hi : Nat) (l : List Int) (c : Int) (v : Value) (w : World) (hv : Ints lo hi w v l) (R : Ending → World → Prop) (hR : ∀ r : Int, (0 ≤ r ↔ c ∈ l) → R (.returned (.int .i64 r)) w) :
    Calls Tryz.prog 80 #[v, .int .i64 c] w R := by
  have HR := Lib.hid hR
  obtain ⟨ao, cap, rfl, -, hcm, -, hc⟩ := hv.form
  have Hc := Lib.hid hc
  have hlen := hv.len
  clear hR hv hc
  go_enter Tryz.func80, Tryz.ntmps80
  go_wp2_with fail
  go_loop [8] (fun t8 => ∃ k : Nat, k ≤ l.length ∧ t8 = .int .i64 k ∧ ∀ i, i < k → l.getD i 0 ≠ c) (fun t8 => l.length - (intOf t8).toNat)
  case atStart => exact ⟨0, Nat.zero_le _, rfl, fun i h => absurd h (Nat.not_lt_zero _)⟩
  case round =>
    obtain ⟨k, hk, rfl, hno⟩ := hrel
    have Hno := Lib.hid hno
    clear hno
    have kk0 : (0 : Int) ≤ (k : Int) := by omega
    by_cases hlt : k < l.length
    · obtain ⟨b, off, rfl, hb1, hb2, hcc⟩ := Hc.out k hlt
      obtain ⟨cs, _, hcs, rfl⟩ := hcc k hlt
      have g0 := hcs.c1
      rw [Nat.mul_one] at g0
      have kkl : (k : Int) < (l.length : Int) := by omega
      have Hx : Hid (l.getD k 0 = l[k]) := Lib.hid (getDS l _ k hlt)
      have Hhit : Hid (l[k] = c → (0 ≤ (k : Int) ↔ c ∈ l)) := Lib.hid (fun h => ⟨fun _ => h ▸ List.getElem_mem hlt, fun _ => kk0⟩)
      clear hcs hcc
      generalize l[k] = y at *
      by_cases he : y = c
      · have hr := HR.out k (Hhit.out he)
        subst he
        go_wp2_with fail
        first | exact hr | exact fin hr rfl
      · have he2 : (y == c) = false := by simpa using he
        have he3 : (c == y) = false := by simp; exact fun h => he h.symm
        have he4 : ¬ c = y := fun h => he h.symm
        have Hne := Lib.hid he
        go_wp2_with fail
        go_round
        case rel => exact ⟨k + 1, by omega, by go_num, fun i hi => by
          by_cases e : i = k
          · subst e; rw [Hx.out]; exact Hne.out
          · exact Hno.out i (by omega)⟩
        case measure => simp [intOf]; omega
    · obtain rfl : k = l.length := by omega
      have hr := HR.out (-1) ⟨fun h => by omega, fun h => by
        obtain ⟨i, hi, e⟩ := List.getElem_of_mem h
        exact absurd ((getDS l 0 i hi).trans e) (Hno.out i hi)⟩
      go_wp2_with fail
      first | exact hr | exact fin hr rfl
set_option maxRecDepth 100000 in
set_option maxHeartbeats 2000000 in
theorem ContainsI_any (lo hi : Nat) (l : List Int) (c : Int) (v : Value) (w : World) (hv : Ints lo hi w v l) (R : Ending → World → Prop) (hR : R (.returned (.bool (decide (c ∈ l)))) w) :
    Calls Tryz.prog 49 #[v, .int .i64 c] w R := by
  have HR := Lib.hid hR
  have Hv := Lib.hid hv
  obtain ⟨ao, cap, rfl, -, -, -, -⟩ := hv.form
  clear hR hv
  go_enter Tryz.func49, Tryz.ntmps49
  go_wp2_with fail
  refine IndexI_any lo hi l c _ w Hv.out _ (fun r hr0 => ?_)
  have hr := HR.out
  rw [show decide (c ∈ l) = decide (0 ≤ r) from decide_eq_decide.2 hr0.symm] at hr
  clear hr0
  go_wp2_with fail
  first | exact hr | exact fin hr rfl
/-- May a relation be, and are columns of it, each once? -/
def rightB (rc : List S) (l : List (List V)) (cols : List S) : Bool := mayRel rc l && withinB cols rc && onceB cols
theorem places_nodup {cols rc : List S} (hw : withinB cols rc = true) (hm : onceB rc = true) : onceB cols = true ↔ (placesL cols rc).Nodup := by
  have hat := within_at hw
  constructor
  · intro h
    have hn := once_nodup h
    unfold placesL
    rw [List.nodup_iff_pairwise_ne] at *
    rw [List.pairwise_map]
    refine (List.pairwise_iff_getElem.2 fun i j hi hj hij e => ?_)
    obtain ⟨a, ha, e1, f1⟩ := placeI_at (hat i hi)
    obtain ⟨b, hb, e2, f2⟩ := placeI_at (hat j hj)
    have : a = b := by omega
    subst this
    exact (List.pairwise_iff_getElem.1 hn) i j hi hj hij (f1.symm.trans f2)
  · intro h
    have hn : cols.Nodup := by
      unfold placesL at h
      rw [List.nodup_iff_pairwise_ne] at *
      rw [List.pairwise_map] at h
      exact h.imp (fun h e => h (by rw [e]))
    refine once_of hn (Nat.le_trans (nodup_len_le hn (fun c hc => ?_)) (once_len hm))
    obtain ⟨k, hk, rfl⟩ := List.getElem_of_mem hc
    exact place_mem_iff.1 (hat k hk)
set_option maxRecDepth 100000 in
set_option maxHeartbeats 4000000 in
theorem fplaces_any (lo hi lc hc l2 h2 : Nat) (rc : List S) (ac : Option Addr) (cc : Nat) (l : List (List V)) (lv : Value) (cols : List S) (cv : Value) (w : World) (hrc : Strs lc hc w (.slice ac rc.length cc) rc) (hhc : hc ≤ w.heap.size) (hv : Rws lo hi w lv l) (hhi : hi ≤ w.heap.size) (hcols : Strs l2 h2 w cv cols) (hh2 : h2 ≤ w.heap.size) (hlen : cols.length ≤ 1000000000000) (R : Ending → World → Prop)
    (hno : rightB rc l cols = false → ∀ w', Below w.heap.size w w' → R (.returned (.tuple #[.slice none 0 0, .bool false])) w')
    (hyes : rightB rc l cols = true → ∀ w' v', Below w.heap.size w w' → OwnI w.heap.size w' v' (placesL cols rc) → R (.returned (.tuple #[v', .bool true])) w') :
    Calls Tryz.prog 21 #[.agg #[.slice ac rc.length cc, lv], cv] w R := by
  have Hno := Lib.hid hno
  have Hyes := Lib.hid hyes
  have Hv := Lib.hid hv
  have Hrc := Lib.hid hrc
  have Ho := Lib.hid hcols
  obtain ⟨av, cv2, rfl, -, -, -, -⟩ := hv.form
  obtain ⟨ak, ck, rfl, -, -, -, -⟩ := hcols.form
  have hol := hcols.len
  have hrl := hrc.len
  clear hno hyes hv hrc hcols
  have hs1 : (w.alloc (.cells #[.slice ac rc.length cc, .slice av l.length cv2] 25)).heap.size = w.heap.size + 1 := by simp
  have hB1 := alloc_below w (.cells #[.slice ac rc.length cc, .slice av l.length cv2] 25)
  have hb1 := Blk.new w [.slice ac rc.length cc, .slice av l.length cv2] 25 rfl
  go_enter Tryz.func21, Tryz.ntmps21
  go_upto_region 1 with fail
  generalize w.alloc (.cells #[.slice ac rc.length cc, .slice av l.length cv2] 25) = w1 at *
  have HB1 := Lib.hid hB1
  have Hb1 := Lib.hid hb1
  have hz1 := hB1.size
  have hl1 := hb1.lt
  obtain ⟨c0, c1⟩ := hb1.cells.c2
  simp only [Nat.zero_add] at c1
  clear hs1 hB1 hb1
  go_wp2_with fail
  refine May_any lo hi lc hc rc _ _ l _ w1 (Sl.below Hrc.out Strs.loc HB1.out hhc) (by omega) (Sl.below Hv.out rowE_loc HB1.out hhi) (by omega) _ (fun w2 hB2 => ?_)
  have HB2 := Lib.hid (HB1.out.trans (hB2.mono hz1))
  have Hb2 := Lib.hid (Hb1.out.below hB2 hl1)
  have hz2 := hB2.size
  clear hB2 c0 c1
  cases hm : mayRel rc l
  · have hr := Hno.out (by unfold rightB; rw [hm]; rfl) w2 HB2.out
    go_wp2_with fail
    first | exact hr | exact fin hr rfl
  have Hm := Lib.hid hm
  clear hm
  go_wp2_with fail
  go_loopw [6, 15] (fun t6 t15 wr => ∃ (k : Nat), k ≤ cols.length ∧ t15 = .int .i64 k ∧ OwnI (w.heap.size + 1) wr t6 (placesL (cols.take k) rc) ∧ Hid ((∀ i (hi : i < cols.length), i < k → 0 ≤ placeI rc cols[i]) ∧ (placesL (cols.take k) rc).Nodup) ∧ Below w.heap.size w wr ∧ Blk wr w.heap.size [.slice ac rc.length cc, .slice av l.length cv2] 25) (fun _ t15 _ => cols.length - (intOf t15).toNat)
  case atStart => exact ⟨0, Nat.zero_le _, rfl, Own.nil _ _ _ _ _, Lib.hid ⟨fun i _ h => absurd h (Nat.not_lt_zero _), List.nodup_nil⟩, HB2.out, Hb2.out⟩
  case round =>
    obtain ⟨k, hk, rfl, hown, Hpl, hB, hbk⟩ := hrel
    obtain ⟨wo, ewo⟩ : ∃ x, x = wr := ⟨_, rfl⟩
    subst ewo
    have Hown := Lib.hid hown
    have HB := Lib.hid hB
    have Hbk := Lib.hid hbk
    have hz := hB.size
    have hlk := hbk.lt
    have kk0 : (0 : Int) ≤ (k : Int) := by omega
    obtain ⟨po, cap, hpo⟩ := Own.slice hown
    obtain ⟨c0, c1⟩ := hbk.cells.c2
    simp only [Nat.zero_add] at c1
    clear hown hB hbk
    have Hkl : Hid ((placesL (cols.take k) rc).length = k) := Lib.hid <| by unfold placesL; rw [List.length_map, List.length_take]; omega
    by_cases hlt : k < cols.length
    · have kkl : (k : Int) < (cols.length : Int) := by omega
      obtain ⟨b, o, rfl, hb, hat⟩ := Strs.at (Sl.below Ho.out Strs.loc HB.out hh2) (by omega) (by omega)
      have g0 := hat k hlt wo (Below.refl _ _)
      have Hst : Hid (placesL (cols.take (k + 1)) rc = placesL (cols.take k) rc ++ [placeI rc cols[k]]) := Lib.hid (by unfold placesL; rw [List.take_succ_eq_append_getElem hlt, List.map_append]; rfl)
      have hp1 := placeI_lt rc cols[k]
      by_cases hneg : placeI rc cols[k] < 0
      · have hr := Hno.out (by unfold rightB; rw [within_no hlt hneg]; simp) wo HB.out
        clear hat Hst
        generalize cols[k] = c at *
        subst hpo
        go_wp2_with fail
        refine Index_any lc hc rc c _ wo (Sl.below Hrc.out Strs.loc HB.out hhc) _ ?_
        generalize placeI rc c = pc at *
        go_wp2_with fail
        first | exact hr | exact fin hr rfl
      · by_cases hin : placeI rc cols[k] ∈ placesL (cols.take k) rc
        · have hr := Hno.out (by
            unfold rightB
            cases hw : withinB cols rc
            · simp
            · have hm := Hm.out
              rw [hm, Bool.true_and, Bool.true_and]
              cases ho : onceB cols
              · rfl
              · exfalso
                have := (places_nodup hw (may_once hm)).1 ho
                rw [show cols = cols.take (k + 1) ++ cols.drop (k + 1) from (List.take_append_drop _ _).symm, show placesL (cols.take (k + 1) ++ cols.drop (k + 1)) rc = placesL (cols.take (k + 1)) rc ++ placesL (cols.drop (k + 1)) rc by unfold placesL; rw [List.map_append], Hst.out] at this
                have := (List.nodup_append.1 (List.nodup_append.1 this).1).2.2 _ hin _ (List.mem_singleton.2 rfl)
                exact this rfl) wo HB.out
          have hdec : decide (placeI rc cols[k] ∈ placesL (cols.take k) rc) = true := decide_eq_true hin
          clear hat Hst hin
          have hO := Hown.out
          generalize cols[k] = c at *
          subst hpo
          go_wp2_with fail
          refine Index_any lc hc rc c _ wo (Sl.below Hrc.out Strs.loc HB.out hhc) _ ?_
          have hO2 := OwnI.sl hO
          generalize placeI rc c = pc at *
          have HO2 := Lib.hid hO2
          have Hdec := Lib.hid hdec
          clear hO hO2 hdec
          go_wp2_with fail
          refine ContainsI_any _ _ _ pc _ wo HO2.out _ ?_
          rw [Hdec.out]
          go_wp2_with fail
          first | exact hr | exact fin hr rfl
        · have hnn : (∀ i (hi : i < cols.length), i < k + 1 → 0 ≤ placeI rc cols[i]) ∧ (placesL (cols.take (k + 1)) rc).Nodup := ⟨fun i hi h => by
            by_cases e : i = k
            · subst e; omega
            · exact Hpl.out.1 i hi (by omega), by
            rw [Hst.out, List.nodup_append]
            refine ⟨Hpl.out.2, by simp, fun a ha b hb e => ?_⟩
            rw [List.mem_singleton] at hb
            subst hb e
            exact hin ha⟩
          have Hnn := Lib.hid hnn
          obtain ⟨v3, w3, hr3, ho3, ha3⟩ := appI1 Hown.out (placeI rc cols[k]) rfl (by rw [Hkl.out]; omega) (by omega)
          have HO3 := Lib.hid ho3
          have HB3 := Lib.hid (HB.out.trans (ha3.below (B := w.heap.size) (by omega) (fun q e => by have := (Own.lt Hown.out q e).1; omega)))
          have Hb3 : Hid (Blk w3 w.heap.size _ _) := Lib.hid (ha3.blk Hbk.out (fun e => by have := (Own.lt Hown.out _ e).1; omega))
          have hdec : decide (placeI rc cols[k] ∈ placesL (cols.take k) rc) = false := decide_eq_false hin
          clear hat hnn ho3 ha3 hin
          have hO := Hown.out
          generalize cols[k] = c at *
          subst hpo
          go_wp2_with fail
          refine Index_any lc hc rc c _ wo (Sl.below Hrc.out Strs.loc HB.out hhc) _ ?_
          have hO2 := OwnI.sl hO
          generalize placeI rc c = pc at *
          have HO2 := Lib.hid hO2
          have Hdec := Lib.hid hdec
          clear hO hO2 hdec
          go_wp2_with fail
          refine ContainsI_any _ _ _ pc _ wo HO2.out _ ?_
          rw [Hdec.out]
          go_wp2_with (at_builtin; refine AtApp.of ?_)
          refine AtApp.go hr3 rfl rfl rfl rfl ?_
          go_wp2_with fail
          go_roundw
          case rel => exact ⟨k + 1, by omega, by go_num, by rw [Hst.out]; exact HO3.out, Hnn, HB3.out, Hb3.out⟩
          case measure => simp [intOf]; omega
    · obtain rfl : k = cols.length := by omega
      have hO := Hown.out
      have hP := Hpl.out
      rw [List.take_length] at hO hP
      have hw : withinB cols rc = true := within_yes fun i hi => hP.1 i hi hi
      have hr := Hyes.out (by
        unfold rightB
        rw [Hm.out, hw, (places_nodup hw (may_once Hm.out)).2 hP.2]
        rfl) wo _ HB.out (Own.lower hO (Nat.le_succ _))
      clear hO hP hw
      subst hpo
      go_wp2_with fail
      first | exact hr | exact fin hr rfl
end Go.Proofs.YtmconajkgjfplaaGreat
end

/- fold.groups. -/
section
set_option linter.unusedVariables false
set_option linter.unusedSimpArgs false
namespace Go.Proofs.YtmconajkgjfplaaGreat
open Go.RowKit
set_option linter.unusedVariables false
set_option linter.unusedSimpArgs false
set_option maxRecDepth 100000 in
theorem fgroups_any (pc pr pa : Option Addr) (nc cc nr cr na ca : Nat) (w : World) (R : Ending → World → Prop)
    (hR : R (.returned (.func (.func 50) #[] #[.pointer (some ⟨w.heap.size, 0, none⟩), .pointer (some ⟨w.heap.size + 1, 0, none⟩)])) ((w.alloc (.cells #[.slice pc nc cc, .slice pr nr cr] 25)).alloc (.cells #[.slice pa na ca] 58))) :
    Calls Tryz.prog 22 #[.agg #[.slice pc nc cc, .slice pr nr cr], .slice pa na ca] w R := by
  go_enter Tryz.func22, Tryz.ntmps22
  go_wp2_with fail
  first | exact hR | exact fin hR rfl
end Go.Proofs.YtmconajkgjfplaaGreat
end

/- Relations of a call's own, one behind the other, in a slice of its own. -/
section
set_option linter.unusedVariables false
set_option linter.unusedSimpArgs false
namespace Go.Proofs.YtmconajkgjfplaaGreat
open Go.RowKit
set_option linter.unusedVariables false
set_option linter.unusedSimpArgs false

/-- A relation's two headers. -/
structure RH where
  c : HD
  l : HD
  deriving Inhabited
def RH.enc (h : RH) : List Value := [h.c.v, h.l.v]
theorem RH.one : ∀ x : RH, ∀ u ∈ RH.enc x, u.oneCell' = true := fun x u hu => by
  simp only [RH.enc, List.mem_cons, List.not_mem_nil, or_false] at hu
  rcases hu with rfl | rfl <;> rfl
theorem infoRH : (Tryz.prog.info? 25).map (fun i => (i.zero, i.size, i.bytes)) = some (some (.agg #[.slice none 0 0, .slice none 0 0]), 2, 48) := by kernel_rfl
abbrev OwnRH := Own RH.enc 25 2
/-- A relation whose blocks are in a .. b, all its own. -/
structure RelO (a b : Nat) (W : World) (h : RH) (cols : List S) (rows : List (List V)) : Prop where
  cols : OwnT a W h.c.v cols
  colb : ∀ g, h.c.v.ownBlock = some g → g < b
  rows : ∃ hs, OwnR a W h.l.v hs rows ∧ (∀ g, h.l.v.ownBlock = some g → g < b) ∧ ∀ u ∈ hs, ∀ g, u.ownBlock = some g → g < b
theorem RelO.agree {a b : Nat} {W W' : World} {h : RH} {cols : List S} {rows : List (List V)} (H : RelO a b W h cols rows) (ha : Agree a b W W') : RelO a b W' h cols rows := by
  obtain ⟨hs, h1, h2, h3⟩ := H.rows
  refine ⟨Own.same H.cols (fun g e => ha g (Own.lt H.cols g e).1 (H.colb g e)), H.colb, hs, ⟨Own.same h1.own (fun g e => ha g (Own.lt h1.own g e).1 (h2 g e)), h1.len, fun i hi hi2 => Own.same (h1.row i hi hi2) (fun g e => ha g (Own.lt (h1.row i hi hi2) g e).1 (h3 _ (List.getElem_mem hi) g e)), h1.apart⟩, h2, h3⟩
theorem RelO.made {a : Nat} {W : World} {h : RH} {cols : List S} {hs : List Value} {rows : List (List V)} (hc : OwnT a W h.c.v cols) (hr : OwnR a W h.l.v hs rows) : RelO a W.heap.size W h cols rows := by
  refine ⟨hc, fun g e => (Own.lt hc g e).2, hs, hr, fun g e => (Own.lt hr.own g e).2, fun u hu g e => ?_⟩
  obtain ⟨i, hi, rfl⟩ := List.getElem_of_mem hu
  exact (Own.lt (hr.row i hi (by rw [← hr.len]; exact hi)) g e).2
/-- Relations of the same columns, in a slice of a call's own. -/
def RLs (lo : Nat) (W : World) (v : Value) (cols : List S) (rs : List (List (List V))) : Prop :=
  ∃ (hs : List RH) (bs : List (Nat × Nat)), hs.length = rs.length ∧ bs.length = rs.length ∧ OwnRH lo W v hs ∧ bs.Pairwise (fun p q => p.2 ≤ q.1) ∧
    ∀ i (h1 : i < hs.length) (h2 : i < bs.length) (h3 : i < rs.length), lo ≤ bs[i].1 ∧ bs[i].2 ≤ W.heap.size ∧ RelO bs[i].1 bs[i].2 W hs[i] cols rs[i] ∧ ∀ g, v.ownBlock = some g → g < bs[i].1 ∨ bs[i].2 ≤ g
theorem RLs.nil (lo : Nat) (W : World) (cols : List S) : RLs lo W (.slice none 0 0) cols [] := ⟨[], [], rfl, rfl, Own.nil _ _ _ _ _, List.Pairwise.nil, fun i h => absurd h (Nat.not_lt_zero _)⟩
theorem RLs.slice {lo : Nat} {W : World} {v : Value} {cols : List S} {rs : List (List (List V))} (h : RLs lo W v cols rs) : ∃ p c, v = .slice p rs.length c := by
  obtain ⟨hs, bs, hl, -, ho, -⟩ := h
  obtain ⟨p, c, e⟩ := Own.slice ho
  exact ⟨p, c, by rw [e, hl]⟩
theorem RLs.lt {lo : Nat} {W : World} {v : Value} {cols : List S} {rs : List (List (List V))} (h : RLs lo W v cols rs) : ∀ k, v.ownBlock = some k → lo ≤ k ∧ k < W.heap.size := by
  obtain ⟨hs, bs, -, -, ho, -⟩ := h
  exact Own.lt ho
theorem RLs.ne_def {lo : Nat} {W : World} {v : Value} {cols : List S} {rs : List (List (List V))} (h : RLs lo W v cols rs) {D : Nat} {o : Obj} (hb : W.heap[D]? = some o) (hc : o.isCells = false) : v.ownBlock ≠ some D := by
  obtain ⟨hs, bs, -, -, ho, -⟩ := h
  exact Own.ne_def ho hb hc
theorem RLs.keptOnly {A : Nat → Prop} {lo : Nat} {W W' : World} {v : Value} {cols : List S} {rs : List (List (List V))} (h : RLs lo W v cols rs) (hO : Only A W W') (hA : ∀ b, A b → b < lo) : RLs lo W' v cols rs := by
  obtain ⟨hs, bs, hl, hbl, ho, hp, hi⟩ := h
  refine ⟨hs, bs, hl, hbl, Own.same ho (fun g e => hO.block g (Own.lt ho g e).2 (fun hz => by have := hA g hz; have := (Own.lt ho g e).1; omega)), hp, fun i h1 h2 h3 => ?_⟩
  obtain ⟨k1, k2, k3, k4⟩ := hi i h1 h2 h3
  exact ⟨k1, Nat.le_trans k2 hO.size, k3.agree (fun b hb1 hb2 => hO.block b (by omega) (fun hz => by have := hA b hz; omega)), k4⟩
theorem RLs.kept {lo : Nat} {W W' : World} {v : Value} {cols : List S} {rs : List (List (List V))} (h : RLs lo W v cols rs) (hB : Below W.heap.size W W') : RLs lo W' v cols rs :=
  h.keptOnly (Below.only (A := fun _ => False) hB) (fun _ h => h.elim)
/-- One relation more. -/
theorem RLs.snoc {lo : Nat} {W W1 : World} {v : Value} {cols : List S} {rs : List (List (List V))} (h : RLs lo W v cols rs) (hlo : lo ≤ W.heap.size) (hB : Below W.heap.size W W1) (r : RH) {hs2 : List Value} {rows : List (List V)} (hc : OwnT W.heap.size W1 r.c.v cols) (hr : OwnR W.heap.size W1 r.l.v hs2 rows) (hb : rs.length ≤ 1000000000)
    {n : Nat} (hn : n = W1.heap.size) : ∃ v' w', (Builtin.append_ #[28, 28] 28 #[v, .slice (some ⟨n, 0, none⟩) 1 1]).run Tryz.prog (W1.alloc (.cells #[r.c.v, r.l.v] 25)) = .ok v' w' ∧ RLs lo w' v' cols (rs ++ [rows]) ∧ Appended W1 v w' v' := by
  subst hn
  have hlt0 := fun g e => (RLs.lt h g e).2
  obtain ⟨hs, bs, hl, hbl, ho0, hp, hiR⟩ := h
  have ho := Own.kept ho0 hB
  have hold : ∀ i (h1 : i < bs.length), bs[i].2 ≤ W.heap.size := fun i h1 => (hiR i (by omega) h1 (by omega)).2.1
  have hB1 := alloc_below W1 (.cells (RH.enc r).toArray 25)
  obtain ⟨i0, hi0, hz0, hz1, hz2⟩ := info_parts infoRH
  have hcell := CellsAt.newAt W1 (RH.enc r) 25 rfl
  have hsr : Src Tryz.prog 2 28 (.slice (some ⟨W1.heap.size, 0, none⟩) 1 1) [r].length ([r].flatMap RH.enc) (W1.alloc (.cells (RH.enc r).toArray 25)) :=
    Src.ofSlice _ Tryz.underlying28 _ _ _ _ (by simp [RH.enc]) (fun j u hu => by rw [Addr.add_lit]; exact hcell j u (by simpa using hu)) (fun u hu => by
      rw [List.flatMap_cons, List.flatMap_nil, List.append_nil] at hu
      exact RH.one _ u hu)
  have hz := hB.size
  obtain ⟨v', w', hrun, ho', hap⟩ := (Own.kept ho hB1).app _ _ _ i0 _ 48 Tryz.underlying28 hi0 hz0 hz1 hz2 rfl hsr (by simp only [List.length_cons, List.length_nil]; omega) (by omega) (Nat.le_trans (Nat.le_trans hlo hz) hB1.size)
  have hapw := (Appended.step v hB1).trans hap
  have hzw : W1.heap.size ≤ w'.heap.size := hapw.grown.size
  have hvold : ∀ g, v.ownBlock = some g → g < W.heap.size := hlt0
  have hgn : ∀ a b, b ≤ W1.heap.size → (∀ g, v.ownBlock = some g → g < a ∨ b ≤ g) → ∀ g, v'.ownBlock = some g → g < a ∨ b ≤ g := fun a b hb2 hg g e => by
    rcases hapw.moved with e2 | ⟨q, e2, hq⟩
    · exact hg g (e2 ▸ e)
    · rw [e2] at e; injection e with e; subst e; exact .inr (by omega)
  refine ⟨v', w', hrun, ⟨hs ++ [r], bs ++ [(W.heap.size, W1.heap.size)], by simp [hl], by simp [hbl], ho', ?_, fun i h1 h2 h3 => ?_⟩, hapw⟩
  · rw [List.pairwise_append]
    refine ⟨hp, List.pairwise_singleton _ _, fun p hp1 q hq => ?_⟩
    rw [List.mem_singleton] at hq
    subst hq
    obtain ⟨i, hi, rfl⟩ := List.getElem_of_mem hp1
    exact hold i hi
  · by_cases hlt : i < hs.length
    · simp only [List.getElem_append_left hlt, List.getElem_append_left (show i < bs.length by omega), List.getElem_append_left (show i < rs.length by omega)]
      obtain ⟨k1, k2, k3, k4⟩ := hiR i hlt (by omega) (by omega)
      exact ⟨k1, by omega, (k3.agree (.below hB k2)).agree (hapw.agree (by omega) (fun k e => k4 k e)), hgn _ _ (by omega) k4⟩
    · have e1 : i = hs.length := by rw [List.length_append, List.length_singleton] at h1; omega
      subst e1
      have a1 : (hs ++ [r])[hs.length] = r := by simp
      have a2 : (bs ++ [(W.heap.size, W1.heap.size)])[hs.length]'h2 = (W.heap.size, W1.heap.size) := by
        rw [List.getElem_append_right (by omega)]
        simp
      have a3 : (rs ++ [rows])[hs.length]'h3 = rows := by
        rw [List.getElem_append_right (by omega)]
        simp
      have hnew : RelO W.heap.size W1.heap.size W1 r cols rows := RelO.made hc hr
      have := hnew.agree (hapw.agree (Nat.le_refl _) (fun k e => .inl (hvold k e)))
      simp only [a1, a2, a3]
      exact ⟨hlo, hzw, this, hgn _ _ (Nat.le_refl _) (fun g e => .inl (hvold g e))⟩
end Go.Proofs.YtmconajkgjfplaaGreat
end

/- fold.Groups. (Printed by fldh.py.) -/
section
set_option linter.unusedVariables false
set_option linter.unusedSimpArgs false
namespace Go.Proofs.YtmconajkgjfplaaGreat
open Go.RowKit Go.Shelf
set_option linter.unusedVariables false
set_option linter.unusedSimpArgs false
attribute [local go_sem] Oper.semAt_some

theorem RLs.lower {lo lo' : Nat} {W : World} {v : Value} {cols : List S} {rs : List (List (List V))} (h : RLs lo W v cols rs) (hl : lo' ≤ lo) : RLs lo' W v cols rs := by
  obtain ⟨hs, bs, h1, h2, ho, hp, hi⟩ := h
  exact ⟨hs, bs, h1, h2, Own.lower ho hl, hp, fun i q1 q2 q3 => ⟨Nat.le_trans hl (hi i q1 q2 q3).1, (hi i q1 q2 q3).2⟩⟩
theorem CellsAt.turn {W W' : World} {b o : Nat} {cs : List Value} (h : CellsAt W b o cs) (hne : 0 < cs.length) {L : Nat} {ob : Obj} (hl : W.heap[L]? = some ob) (hc : ob.isCells = false) (hO : Only (· = L) W W') : CellsAt W' b o cs := by
  have hbl : b ≠ L := by
    rintro rfl
    have := h 0 _ (List.getElem?_eq_getElem hne)
    simp only [World.cell?, hl] at this
    cases ob <;> first | (simp at this; done) | cases hc
  have hlt : b < W.heap.size := by
    by_cases hb : b < W.heap.size
    · exact hb
    · have := h 0 _ (List.getElem?_eq_getElem hne)
      simp only [World.cell?, Array.getElem?_eq_none (show W.heap.size ≤ b by omega)] at this
      cases this
  intro j u hu
  have h1 := h j u hu
  have h2 := hO.block b hlt hbl
  simp only [World.cell?] at h1 ⊢
  rw [h2]
  exact h1
theorem Sl.turn {α : Type} {enc : α → List Value} {size lo hi : Nat} {W W' : World} {v : Value} {xs : List α} (h : Sl (flat enc) size lo hi W v xs) (hs : 0 < size) {L : Nat} {ob : Obj} (hl : W.heap[L]? = some ob) (hc : ob.isCells = false) (hO : Only (· = L) W W') : Sl (flat enc) size lo hi W' v xs := by
  obtain ⟨ao, cap, e, h1, h2, h3, h4⟩ := h
  refine ⟨ao, cap, e, h1, h2, h3, fun hne => ?_⟩
  obtain ⟨b, off, e, q1, q2, q3⟩ := h4 hne
  exact ⟨b, off, e, q1, q2, fun k hk => by
    obtain ⟨cs, c1, c2, c3⟩ := q3 k hk
    exact ⟨cs, c1, c2.turn (by omega) hl hc hO, c3⟩⟩
theorem Rws.turn {lo hi : Nat} {W W' : World} {v : Value} {xs : List (List V)} (h : Rws lo hi W v xs) {L : Nat} {ob : Obj} (hl : W.heap[L]? = some ob) (hc : ob.isCells = false) (hO : Only (· = L) W W') : Rws lo hi W' v xs := by
  obtain ⟨ao, cap, e, h1, h2, h3, h4⟩ := h
  refine ⟨ao, cap, e, h1, h2, h3, fun hne => ?_⟩
  obtain ⟨b, off, e, q1, q2, q3⟩ := h4 hne
  exact ⟨b, off, e, q1, q2, fun k hk => by
    obtain ⟨cs, c1, c2, sv, c3, c4⟩ := q3 k hk
    exact ⟨cs, c1, c2.turn (by omega) hl hc hO, sv, c3, Sl.turn c4 (by omega) hl hc hO⟩⟩
/-- The groups of a relation, or the error. -/
def grpErr (rc : List S) (l : List (List V)) (cols : List S) : Int := if rightB rc l cols then 0 else 2
def grpK (rc cols : List S) (x : List V) : List V := pickL x (placesL cols rc)
def grpL (rc : List S) (l : List (List V)) (cols : List S) : List (List (List V)) := (keysL (grpK rc cols) l).map (withK (grpK rc cols) l)
/-- The end of Groups: its result cells are written, the marks are taken, the cells read. -/
theorem grTail {n : Nat} {fn : Func} {tmps : Array Value} {w w5 : World} {b4 b5 lo : Nat} {v x0 y0 : Value} {cols : List S} {rs : List (List (List V))} {err : Int} {Ds : List Nat} {R : Ending → World → Prop} (hfn : fn.results = #[.cell 4 28, .cell 5 29])
    (ht4 : tmps.getD 4 undef = .pointer (some ⟨b4, 0, none⟩)) (ht5 : tmps.getD 5 undef = .pointer (some ⟨b5, 0, none⟩)) (hb4 : Blk w5 b4 [x0] 28) (hb5 : Blk w5 b5 [y0] 29) (h45 : b4 ≠ b5) (hlo4 : w.heap.size ≤ b4) (hlo5 : w.heap.size ≤ b5) (hB : Below w.heap.size w w5)
    (hL : RLs lo w5 v cols rs) (h4 : b4 < lo) (h5 : b5 < lo) (hlo : w.heap.size ≤ lo) (hnd : Ds.Nodup) (hds : ∀ D ∈ Ds, w.heap.size ≤ D ∧ D < lo ∧ w5.heap[D]? = some (.deferred (some [])))
    (hRR : ∀ w', Below w.heap.size w w' → RLs w.heap.size w' v cols rs → R (.returned (.tuple #[v, .int .i64 err])) w') :
    LeavesInM Fence.wide n Tryz.prog fn tmps R (Ds.map markD) .returning ((w5.setCell ⟨b4, 0, none⟩ v).setCell ⟨b5, 0, none⟩ (.int .i64 err)) := by
  have k4 := hb4.set 0 v
  have k5 := hb5.other (p := ⟨b4, 0, none⟩) (Ne.symm h45) v
  have kL := hL.keptOnly (Only.setCell (A := (· = b4)) w5 (p := ⟨b4, 0, none⟩) rfl v) (fun b e => by have : b = b4 := e; omega)
  have kB := hB.setCell (p := ⟨b4, 0, none⟩) hlo4 v
  have kD : ∀ D ∈ Ds, (w5.setCell ⟨b4, 0, none⟩ v).heap[D]? = some (.deferred (some [])) := fun D hD => by
    have hne : D ≠ b4 := by
      rintro rfl
      have := (hds _ hD).2.2
      unfold Blk at hb4
      rw [hb4] at this
      cases this
    exact (Below.heap_setCell _ _ _ _ hne).trans (hds D hD).2.2
  generalize w5.setCell ⟨b4, 0, none⟩ v = w6 at *
  have m5 := k5.set 0 (.int .i64 err)
  have m4 := k4.other (p := ⟨b5, 0, none⟩) h45 (.int .i64 err)
  have mL := kL.keptOnly (Only.setCell (A := (· = b5)) w6 (p := ⟨b5, 0, none⟩) rfl (.int .i64 err)) (fun b e => by have : b = b5 := e; omega)
  have mB := kB.setCell (p := ⟨b5, 0, none⟩) hlo5 (.int .i64 err)
  have mD : ∀ D ∈ Ds, (w6.setCell ⟨b5, 0, none⟩ (.int .i64 err)).heap[D]? = some (.deferred (some [])) := fun D hD => by
    have hne : D ≠ b5 := by
      rintro rfl
      have := kD _ hD
      unfold Blk at k5
      rw [k5] at this
      cases this
    exact (Below.heap_setCell _ _ _ _ hne).trans (kD D hD)
  generalize w6.setCell ⟨b5, 0, none⟩ (.int .i64 err) = w7 at *
  refine marks_leave Ds w7 hnd mD (fun w' ho => ?_)
  have hA : ∀ D, D ∈ Ds → ∃ o, w7.heap[D]? = some o ∧ o.isCells = false := fun D hD => ⟨_, mD D hD, rfl⟩
  exact ⟨_, results_cells hfn ht4 ht5 ((m4.turns hA ho).cells.runVar1 (fun _ => by kernel_rfl)) ((m5.turns hA ho).cells.runVar1 (fun _ => by kernel_rfl)),
    hRR w' (mB.trans (ho.below mB.size (fun D hD => (hds D hD).1))) ((mL.keptOnly ho (fun D hD => (hds D hD).2.1)).lower hlo)⟩
/-- What the rounds of Groups keep. -/
structure GrJ (L D bo : Nat) (W5 : World) (rc : Obj) (cols : List S) (T : List (List (List V))) (k g : Nat) (W : World) : Prop where
  lp : W.heap[L]? = some rc
  df : W.heap[D]? = some (.deferred (some []))
  on : Only (fun z => z = bo ∨ z = L) W5 W
  ge : W5.heap.size ≤ g
  out : ∃ v, Blk W bo [v] 28 ∧ RLs W5.heap.size W v cols (T.take k) ∧ v.ownBlock ≠ some g
/-- One round more. -/
theorem grJ_step {RL : LoopState → Option Code → Loop} {L D bo k g : Nat} {W5 W3 w1 wE : World} {vk vE : Value} {cols : List S} {T : List (List (List V))} {tk : List (List V)}
    (hon : Only (fun z => z = bo ∨ z = L) W5 W3) (hL5 : L < W5.heap.size) (hD5 : D < W5.heap.size) (hDL : D ≠ L) (hbo5 : bo < W5.heap.size) (hbL : bo ≠ L) (hbD : bo ≠ D)
    (hl : W3.heap[L]? = some (.loop (RL .busy none))) (hd : W3.heap[D]? = some (.deferred (some []))) (hbk : Blk W3 bo [vk] 28) (hok : RLs W5.heap.size W3 vk cols (T.take k))
    (hne : vk.ownBlock ≠ some g) (hge : W5.heap.size ≤ g) (hg3 : g < W3.heap.size) (hB1 : Below W3.heap.size W3 w1) (htk : T.take (k + 1) = T.take k ++ [tk]) (hsn : RLs W5.heap.size wE vE cols (T.take k ++ [tk])) (hap : Appended w1 vk wE vE) :
    (wE.setCell ⟨bo, 0, none⟩ vE).heap[L]? = some (.loop (RL .busy none)) ∧
    GrJ L D bo W5 (.loop (RL .ready none)) cols T (k + 1) g ((wE.setCell ⟨bo, 0, none⟩ vE).putObj L (.loop (RL .ready none))) ∧ ((wE.setCell ⟨bo, 0, none⟩ vE).putObj L (.loop (RL .ready none))).heap[g]? = W3.heap[g]? := by
  have hz1 := hB1.size
  have hbk1 := hbk.below hB1 hbk.lt
  have hl1 := (hB1.block L (heap_lt hl)).trans hl
  have hd1 := (hB1.block D (heap_lt hd)).trans hd
  have hok1 := hok.kept hB1
  have hO : Only (fun z => vk.ownBlock = some z) w1 wE := ⟨hap.grown.os, hap.grown.tape, hap.grown.output, hap.grown.size, fun k hk hA => hap.grown.block k hk (fun e => hA e.symm)⟩
  have nl := RLs.ne_def hok1 hl1 rfl
  have nd := RLs.ne_def hok1 hd1 rfl
  have nb : ¬ vk.ownBlock = some bo := fun e => by have := (RLs.lt hok1 bo e).1; omega
  have hlE := (hO.block L (heap_lt hl1) nl).trans hl1
  have hdE := (hO.block D (heap_lt hd1) nd).trans hd1
  have hbkE := hO.blk hbk1 nb
  have hgE : wE.heap[g]? = W3.heap[g]? := (hO.block g (by omega) hne).trans (hB1.block g hg3)
  rw [← htk] at hsn
  have hS : Only (· = bo) wE (wE.setCell ⟨bo, 0, none⟩ vE) := Only.setCell (A := (· = bo)) wE (p := ⟨bo, 0, none⟩) rfl vE
  have hsF := hsn.keptOnly hS (fun b e => by have : b = bo := e; omega)
  have hlF : (wE.setCell ⟨bo, 0, none⟩ vE).heap[L]? = some (.loop (RL .busy none)) := (Below.heap_setCell _ _ _ _ (Ne.symm hbL)).trans hlE
  have hdF : (wE.setCell ⟨bo, 0, none⟩ vE).heap[D]? = some (.deferred (some [])) := (Below.heap_setCell _ _ _ _ (Ne.symm hbD)).trans hdE
  have hgF : (wE.setCell ⟨bo, 0, none⟩ vE).heap[g]? = W3.heap[g]? := (Below.heap_setCell _ _ _ _ (by show g ≠ bo; omega)).trans hgE
  have hzE := hO.size
  have hzS := hS.size
  have hp : Only (· = L) (wE.setCell ⟨bo, 0, none⟩ vE) ((wE.setCell ⟨bo, 0, none⟩ vE).putObj L (.loop (RL .ready none))) := Only.putObj (A := (· = L)) _ (b := L) rfl _
  refine ⟨hlF, ⟨World.putObj_heap_same (heap_lt hlF), (hp.block D (heap_lt hdF) hDL).trans hdF, ?_, hge, vE, hp.blk (hbkE.set 0 vE) hbL, hsF.keptOnly hp (fun b e => by have : b = L := e; omega), hap.apart (by omega) hne⟩, (hp.block g (by omega) (show ¬ g = L by omega)).trans hgF⟩
  have h1 := Only.into2 (Only.into2 hon (Below.only (A := fun _ => False) hB1) (fun _ _ h => h.elim)) hO (fun b hb h => by have := (RLs.lt hok1 b h).1; omega)
  exact h1.trans ((hS.mono (fun z _ hz => .inl hz)).trans (hp.mono (fun z _ hz => .inr hz)))
set_option maxRecDepth 1000000 in
set_option maxHeartbeats 16000000 in
theorem Groups_any (lo hi lc hc l2 h2 : Nat) (rc : List S) (ac : Option Addr) (cc : Nat) (l : List (List V)) (lv : Value) (cols : List S) (cv : Value) (w : World) (hrc : Strs lc hc w (.slice ac rc.length cc) rc) (hhc : hc ≤ w.heap.size) (hv : Rws lo hi w lv l) (hhi : hi ≤ w.heap.size) (hcols : Strs l2 h2 w cv cols) (hh2 : h2 ≤ w.heap.size) (hlen : cols.length ≤ 1000000000000) (R : Ending → World → Prop)
    (hR : ∀ w' v', Below w.heap.size w w' → RLs w.heap.size w' v' rc (okL (grpErr rc l cols) (grpL rc l cols)) → R (.returned (.tuple #[v', .int .i64 (grpErr rc l cols)])) w') :
    Calls Tryz.prog 7 #[.agg #[.slice ac rc.length cc, lv], cv] w R := by
  have HR := Lib.hid hR
  have Hv := Lib.hid hv
  have Hrc := Lib.hid hrc
  have Ho := Lib.hid hcols
  obtain ⟨av, av2, rfl, -, -, -, -⟩ := hv.form
  obtain ⟨ak, ck, rfl, -, -, -, -⟩ := hcols.form
  have hrl63 := hrc.len
  clear hR hv hrc hcols
  obtain ⟨wa, ewa⟩ : ∃ x, x = w.alloc (.cells #[.slice ac rc.length cc, .slice av l.length av2] 25) := ⟨_, rfl⟩
  obtain ⟨wb, ewb⟩ : ∃ x, x = wa.alloc (.cells #[.slice none 0 0] 28) := ⟨_, rfl⟩
  obtain ⟨w2, ew2⟩ : ∃ x, x = wb.alloc (.cells #[.int .i64 0] 29) := ⟨_, rfl⟩
  have sa : wa.heap.size = w.heap.size + 1 := by rw [ewa]; simp
  have sb : wb.heap.size = w.heap.size + 1 + 1 := by rw [ewb]; simp [sa]
  have hBa : Below w.heap.size w wa := by rw [ewa]; exact alloc_below _ _
  have hBb : Below wa.heap.size wa wb := by rw [ewb]; exact alloc_below _ _
  have hBc : Below wb.heap.size wb w2 := by rw [ew2]; exact alloc_below _ _
  have hb1 : Blk wa w.heap.size [.slice ac rc.length cc, .slice av l.length av2] 25 := by rw [ewa]; exact Blk.new w [.slice ac rc.length cc, .slice av l.length av2] _ rfl
  have hb2 : Blk wb (w.heap.size + 1) [.slice none 0 0] 28 := by rw [ewb]; exact Blk.new wa [.slice none 0 0] _ sa.symm
  have hb3 : Blk w2 (w.heap.size + 1 + 1) [.int .i64 0] 29 := by rw [ew2]; exact Blk.new wb [.int .i64 0] _ sb.symm
  have hb1 := (hb1.below hBb hb1.lt).below hBc (by omega)
  have hb2 := hb2.below hBc hb2.lt
  have hB := hBa.trans ((hBb.mono hBa.size).trans (hBc.mono (by omega)))
  refine (callsIn_wide (n := 3)).1 (callsIn_of_wp_marks Tryz.func7 rfl trivial ?_ rfl)
  refine wpIn_wide.2 ?_
  simp only [Tryz.ntmps7, List.size_toArray, List.length_cons, Nat.reduceAdd, Nat.reduceSub, Array.replicate_succ, Array.replicate_zero, List.push_toArray, List.append_toArray, List.nil_append, List.cons_append, List.length_nil]
  go_upto_region 1 with fail
  rw [← ewa, ← ewb, ← ew2]
  clear ewa ewb ew2 hBa hBb hBc sa sb
  have HB := Lib.hid hB
  have Hb1 := Lib.hid hb1
  have Hb2 := Lib.hid hb2
  have Hb3 := Lib.hid hb3
  have hz2 := hB.size
  have hl3 := hb3.lt
  obtain ⟨c0, c1⟩ := hb1.cells.c2
  simp only [Nat.zero_add] at c1
  clear hb1 hb2 hb3 hB
  go_wp2_with fail
  refine fplaces_any lo hi lc hc l2 h2 rc _ _ l _ cols _ w2 (Sl.below Hrc.out Strs.loc HB.out hhc) (by omega) (Sl.below Hv.out rowE_loc HB.out hhi) (by omega) (Sl.below Ho.out Strs.loc HB.out hh2) (by omega) hlen _ (fun hno w3 hB3 => ?_) (fun hyes w3 v3 hB3 ho3 => ?_)
  · have hz3 := hB3.size
    have hB0 := HB.out.trans (hB3.mono hz2)
    have h4 := Hb2.out.below hB3 (by omega)
    have h5 := Hb3.out.below hB3 hl3
    have he : grpErr rc l cols = 2 := by unfold grpErr; rw [hno]; rfl
    have d0 := h4.cells.c1
    have d1 := h5.cells.c1
    have f0 := h4.free 0
    have f1 := h5.free 0
    have HR2 := HR.out
    rw [he] at HR2
    have HT := Lib.hid (fun (fn : Func) (tmps : Array Value) hfn ht4 ht5 => grTail (n := 3) (fn := fn) (tmps := tmps) (R := R) (lo := w3.heap.size) (v := .slice none 0 0) (cols := rc) (rs := []) (err := 2) (Ds := []) hfn ht4 ht5 h4 h5 (by omega) (by omega) (by omega) hB0 (RLs.nil _ _ _) (by omega) (by omega) (by omega) List.nodup_nil (fun D hD => by cases hD) (fun w' hB' hL' => HR2 w' _ hB' (by rw [okL_no (by omega)]; exact hL')))
    clear h4 h5 HR2 he hB3 hB0
    go_wp2_with fail
    exact HT.out _ _ rfl rfl rfl
  have hm : mayRel rc l = true := by
    unfold rightB at hyes
    simp only [Bool.and_eq_true] at hyes
    exact hyes.1.1
  have hwi : withinB cols rc = true := by
    unfold rightB at hyes
    simp only [Bool.and_eq_true] at hyes
    exact hyes.1.2
  have he : grpErr rc l cols = 0 := by unfold grpErr; rw [hyes]; rfl
  rw [he] at HR
  have Hm := Lib.hid hm
  have hml := may_many hm
  have HokA : Hid (∀ x ∈ l, AtOk x.length (placesL cols rc)) := Lib.hid (fun x hx => by rw [may_len hm x hx]; exact places_ok hwi)
  have hcl : cols.length ≤ 32 := once_len (by unfold rightB at hyes; simp only [Bool.and_eq_true] at hyes; exact hyes.2)
  have hpl : (placesL cols rc).length = cols.length := by unfold placesL; simp
  generalize hat : placesL cols rc = at' at *
  have Hat := Lib.hid hat
  have hal : at'.length ≤ 1000000000000 := by omega
  clear hat hpl hcl
  obtain ⟨p3, q3, rfl⟩ := Own.slice ho3
  have hz3 := hB3.size
  have HB3 := Lib.hid (HB.out.trans (hB3.mono hz2))
  have Hi3 := Lib.hid (OwnI.sl ho3)
  have Hb13 := Lib.hid (Hb1.out.below hB3 (by omega))
  have Hb23 := Lib.hid (Hb2.out.below hB3 (by omega))
  have Hb33 := Lib.hid (Hb3.out.below hB3 hl3)
  clear hyes hm hwi he ho3 hB3 Hb1 Hb2 Hb3 c0 c1 hb1 hb2 Ho
  go_upto_region 5 with fail
  have hBa := alloc_below w3 (.cells #[.slice none 0 0] 28)
  have hba := Blk.new w3 [.slice none 0 0] 28 rfl
  generalize w3.alloc (.cells #[.slice none 0 0] 28) = w4 at *
  have hz4 := hBa.size
  have hl4 := hba.lt
  have HB4 := Lib.hid (HB3.out.trans (hBa.mono (by omega)))
  have Hb14 := Lib.hid (Hb13.out.below hBa (by omega))
  have Hb24 := Lib.hid (Hb23.out.below hBa (by omega))
  have Hb34 := Lib.hid (Hb33.out.below hBa (by omega))
  have Hi4 := Lib.hid (Sl.below Hi3.out Ints.loc hBa (Nat.le_refl _))
  have Hbo4 := Lib.hid hba
  obtain ⟨c0, c1⟩ := Hb14.out.cells.c2
  simp only [Nat.zero_add] at c1
  clear hBa hba Hb13 Hb23 Hb33 Hi3
  go_wp2_with fail
  refine fgroups_any ac av p3 rc.length cc l.length av2 at'.length q3 w4 _ ?_
  have hBp := alloc_below w4 (.cells #[.slice ac rc.length cc, .slice av l.length av2] 25)
  have hkp := Blk.new w4 [.slice ac rc.length cc, .slice av l.length av2] 25 rfl
  have hsp : (w4.alloc (.cells #[.slice ac rc.length cc, .slice av l.length av2] 25)).heap.size = w4.heap.size + 1 := by simp
  have hBq := alloc_below (w4.alloc (.cells #[.slice ac rc.length cc, .slice av l.length av2] 25)) (.cells #[.slice p3 at'.length q3] 58)
  have hkq := Blk.new (w4.alloc (.cells #[.slice ac rc.length cc, .slice av l.length av2] 25)) [.slice p3 at'.length q3] 58 hsp.symm
  have hkp4 := hkp.below hBq hkp.lt
  have hBw := hBp.trans (hBq.mono hBp.size)
  clear hkp hBp hBq hsp
  generalize (w4.alloc (.cells #[.slice ac rc.length cc, .slice av l.length av2] 25)).alloc (.cells #[.slice p3 at'.length q3] 58) = W4 at *
  have hzw := hBw.size
  have hkql := hkq.lt
  have hkpl := hkp4.lt
  have HBW := Lib.hid (HB4.out.trans (hBw.mono (by omega)))
  have Hkp := Lib.hid hkp4
  have Hkq := Lib.hid hkq
  have Hb1W := Lib.hid (Hb14.out.below hBw (by omega))
  have Hb2W := Lib.hid (Hb24.out.below hBw (by omega))
  have Hb3W := Lib.hid (Hb34.out.below hBw (by omega))
  have HiW := Lib.hid (Sl.below Hi4.out Ints.loc hBw hz4)
  have HboW := Lib.hid (Hbo4.out.below hBw hl4)
  clear hBw hkp4 hkq c0 c1 Hb14 Hb24 Hb34 Hi4 Hbo4
  go_wp2_with fail
  refine wp_rangeFuncR 2 (gf := 50) rfl (enters_of Tryz.func50 (by kernel_rfl) rfl) (fun fn RL hRL => ?_)
  have HRL := Lib.hid hRL
  clear hRL
  have hB5 : Below W4.heap.size W4 ((W4.alloc (.deferred (some []))).alloc (.loop (RL .ready none))) := ((Below.refl _ _).alloc (Nat.le_refl _) _).alloc (by simp) _
  have hlD : ((W4.alloc (.deferred (some []))).alloc (.loop (RL .ready none))).heap[W4.heap.size]? = some (.deferred (some [])) := (Below.heap_alloc _ _ _ (by simp)).trans (World.alloc_heap_new W4 _)
  have hlL : ((W4.alloc (.deferred (some []))).alloc (.loop (RL .ready none))).heap[W4.heap.size + 1]? = some (.loop (RL .ready none)) := by
    have := World.alloc_heap_new (W4.alloc (.deferred (some []))) (.loop (RL .ready none))
    rwa [World.size_alloc] at this
  generalize (W4.alloc (.deferred (some []))).alloc (.loop (RL .ready none)) = W5 at *
  have HBw5 := Lib.hid (HBW.out.trans (hB5.mono (by omega)))
  have hlt5 := heap_lt hlL
  have HlD := Lib.hid hlD
  have HlL := Lib.hid hlL
  have Hkp5 := Lib.hid (Hkp.out.below hB5 (by omega))
  have Hkq5 := Lib.hid (Hkq.out.below hB5 (by omega))
  have Hb15 := Lib.hid (Hb1W.out.below hB5 (by omega))
  have Hb25 := Lib.hid (Hb2W.out.below hB5 (by omega))
  have Hb35 := Lib.hid (Hb3W.out.below hB5 (by omega))
  have Hi5 := Lib.hid (Sl.below HiW.out Ints.loc hB5 (by omega))
  have Hbo5 := Lib.hid (HboW.out.below hB5 (by omega))
  have Hv5 := Lib.hid (Sl.below Hv.out rowE_loc HBw5.out hhi)
  have Hrc5 := Lib.hid (Sl.below Hrc.out Strs.loc HBw5.out hhc)
  clear hB5 hlD hlL Hkp Hkq Hb1W Hb2W Hb3W HiW HboW
  have hf : grpK rc cols = fun x => pickL x at' := by funext x; unfold grpK; rw [Hat.out]
  obtain ⟨T, hT⟩ : ∃ T, T = (keysL (fun x => pickL x at') l).map (withK (fun x => pickL x at') l) := ⟨_, rfl⟩
  have HTg : Hid (grpL rc l cols = T) := Lib.hid (by unfold grpL; rw [hf, hT])
  have HT := Lib.hid hT
  clear hf hT
  have HJF : Hid (∀ k g W, GrJ (W4.heap.size + 1) W4.heap.size w3.heap.size W5 (.loop (RL .ready none)) rc T k g W → Agree 0 w3.heap.size W5 W ∧ Agree w4.heap.size W4.heap.size W5 W ∧ W5.heap.size ≤ W.heap.size) := Lib.hid (fun k g W h => ⟨h.on.agree (by omega) (fun z hz => by rcases hz with rfl | rfl <;> omega), h.on.agree (by omega) (fun z hz => by rcases hz with rfl | rfl <;> omega), h.on.size⟩)
  refine (groups1_any lo hi w2.heap.size w3.heap.size w4.heap.size (w4.heap.size + 1) (W4.heap.size + 1) 1 l at' (.slice ac rc.length cc) (.slice av l.length av2) (.slice p3 at'.length q3) (GrJ (W4.heap.size + 1) W4.heap.size w3.heap.size W5 (.loop (RL .ready none)) rc T) (fun _ => False) W5 Hv5.out (by omega) Hkp5.out HokA.out (by omega) hal (by omega) (by omega) Hi5.out Hkq5.out ?hJF ?hJB ?hJ0 ?hY).mono ?hend
  case hJF =>
    intro k g W h
    obtain ⟨h1, h2, h3⟩ := HJF.out k g W h
    exact ⟨fun b q1 q2 => h1 b (Nat.zero_le _) (by omega), Hkq5.out.agree h2 (by omega) (by omega), Sl.agree Hi5.out Ints.loc (fun b q1 q2 => h1 b (Nat.zero_le _) q2), h3⟩
  case hJB =>
    intro k g W W' h hB
    obtain ⟨v, q1, q2, q3⟩ := h.out
    exact ⟨(hB.block _ (heap_lt h.lp)).trans h.lp, (hB.block _ (heap_lt h.df)).trans h.df, h.on.trans (Below.only hB), h.ge, v, q1.below hB q1.lt, q2.kept hB, q3⟩
  case hJ0 =>
    intro g W hB hg
    exact ⟨(hB.block _ hlt5).trans HlL.out, (hB.block _ (by omega)).trans HlD.out, Below.only hB, hg, .slice none 0 0, Hbo5.out.below hB (by omega), by simpa using RLs.nil _ _ _, by simp [Value.ownBlock]⟩
  case hY =>
    intro k g Wb W kp kc gp gc grp hJ hBb hgl hk hkey hgrp hperm
    have hlp := (hBb.block _ (heap_lt hJ.lp)).trans hJ.lp
    have hdf := (hBb.block _ (heap_lt hJ.df)).trans hJ.df
    have hon : Only (fun z => z = w3.heap.size ∨ z = W4.heap.size + 1) W5 W := hJ.on.trans (Below.only hBb)
    have hge := hJ.ge
    obtain ⟨vk, hbk0, hok0, hne⟩ := hJ.out
    have hbk := hbk0.below hBb hbk0.lt
    have hok := hok0.kept hBb
    have hkT : k < T.length := by rw [HT.out, List.length_map]; exact hk
    have hTk : T[k] = withK (fun x => pickL x at') l (keysL (fun x => pickL x at') l)[k] := by
      simp only [HT.out, List.getElem_map]
    rw [← hTk] at hperm
    have Htk : Hid (T.take (k + 1) = T.take k ++ [T[k]]) := Lib.hid (List.take_succ_eq_append_getElem hkT)
    have hTl : T.length ≤ 100000 := by
      rw [HT.out, List.length_map]
      have : (keysL (fun x => pickL x at') l).length ≤ (l.map (fun x => pickL x at')).length := canon_len_le _
      rw [List.length_map] at this
      omega
    have hTk2 : T[k] = l.filter fun x => cmpR (pickL x at') (keysL (fun x => pickL x at') l)[k] == 0 := hTk
    have Hcan : Hid (relCanon grp = T[k]) := Lib.hid (canon_is (by rw [hTk2]; exact List.Pairwise.filter _ (may_up' Hm.out)) (fun z => hperm.mem_iff))
    have hgm : ∀ x ∈ grp, x ∈ l := fun x hx => by
      have := hperm.mem_iff.1 hx
      rw [hTk2] at this
      exact (List.mem_filter.1 this).1
    have hgl2 : grp.length ≤ 100000 := by
      rw [hperm.length_eq, hTk2]
      have := List.length_filter_le (fun x => cmpR (pickL x at') (keysL (fun x => pickL x at') l)[k] == 0) l
      omega
    have Hof : Hid (ofErr rc grp = 0) := Lib.hid (by
      unfold ofErr fitB
      rw [may_once Hm.out, if_pos, if_neg]
      · rw [Hcan.out, ← hperm.length_eq]; omega
      · simp only [Bool.true_and, Bool.not_eq_true', List.any_eq_false]
        intro x hx
        simp [may_len Hm.out x (hgm x hx)])
    have Hgx : Hid (∀ x ∈ grp, x.length ≤ 4000000000000) := Lib.hid (fun x hx => by rw [may_len Hm.out x (hgm x hx)]; omega)
    clear hTk hTk2 hperm hgm hkey hJ hbk0 hok0
    have hLl := heap_lt hlp
    have hWb := hBb.size
    have hW5 := hon.size
    have Hlp := Lib.hid hlp
    generalize (keysL (fun x => pickL x at') l)[k] = key at *
    clear hk
    generalize T[k] = tk at *
    generalize hL : W4.heap.size + 1 = L at *
    have hL4 : W4.heap.size < L := by omega
    refine yieldAt_recR HRL.out Hlp.out rfl ?_
    gi_wp2_with fail
    refine ⟨Hlp.out, ?_⟩
    have ho3 : Only (· = L) W (W.putObj L (.loop (RL .busy none))) := Only.putObj (A := (· = L)) W (b := L) rfl _
    have hl3 : (W.putObj L (.loop (RL .busy none))).heap[L]? = some (.loop (RL .busy none)) := World.putObj_heap_same hLl
    generalize W.putObj L (.loop (RL .busy none)) = W3 at *
    have hs3 := ho3.size
    have hon3 : Only (fun z => z = w3.heap.size ∨ z = L) W5 W3 := hon.trans (ho3.mono (fun z _ hz => .inr hz))
    have hbk3 := ho3.blk hbk (show ¬ w3.heap.size = L by omega)
    have hok3 := hok.keptOnly ho3 (fun b e => by have : b = L := e; omega)
    have hdf3 := (ho3.block W4.heap.size (heap_lt hdf) (show ¬ W4.heap.size = L by omega)).trans hdf
    have hb13 := hon3.blk Hb15.out (show ¬ (w.heap.size = w3.heap.size ∨ w.heap.size = L) by omega)
    have hrc3 := Sl.agree Hrc5.out Strs.loc (hon3.agree (hi := hc) (lo := lc) (by omega) (fun z hz => by rcases hz with rfl | rfl <;> omega))
    have hgrp3 : Rws 0 Wb.heap.size W3 (.slice gp grp.length gc) grp := Rws.turn hgrp Hlp.out rfl ho3
    obtain ⟨e0, e1⟩ := hb13.cells.c2
    simp only [Nat.zero_add] at e1
    have Hon3 := Lib.hid hon3
    have Hbk3 := Lib.hid hbk3
    have Hok3 := Lib.hid hok3
    have Hdf3 := Lib.hid hdf3
    have Hl3 := Lib.hid hl3
    have Hrc3 := Lib.hid hrc3
    have Hgrp3 := Lib.hid hgrp3
    have Hho3 := Lib.hid ho3
    clear hon3 hbk3 hok3 hdf3 hl3 hrc3 hgrp3 ho3 hbk hok hdf hon hgrp hlp hb13
    gi_wp2_with fail
    refine ⟨by first | trivial | simp, callsIn_wide.2 (OfK_any 0 Wb.heap.size lc hc rc grp _ _ W3 Hrc3.out Hgrp3.out (by omega) (by omega) (by omega) Hgx.out _ (fun wf cvf lvf hsf hBf hTf hRf => ?_))⟩
    rw [Hof.out, okL_ok rfl] at hTf hRf
    rw [Hof.out]
    rw [Hcan.out] at hRf
    obtain ⟨pf, qf, rfl⟩ := Own.slice hTf
    obtain ⟨pg, qg, eg⟩ := Own.slice hRf.own
    rw [hRf.len] at eg
    subst eg
    have hzf := hBf.size
    have hbkf := Hbk3.out.below hBf Hbk3.out.lt
    have Hbkf := Lib.hid hbkf
    have HBf := Lib.hid hBf
    have HTf := Lib.hid hTf
    have HRf := Lib.hid hRf
    have cb := hbkf.cells.c1
    have hbol := hbkf.lt
    clear hbkf hBf hTf hRf
    obtain ⟨pk, ck, rfl⟩ := RLs.slice Hok3.out
    have hB1 := HBf.out.trans ((alloc_below wf (.cells #[.slice pf rc.length qf, .slice pg tk.length qg] 25)).mono hzf)
    have hs1 : (wf.alloc (.cells #[.slice pf rc.length qf, .slice pg tk.length qg] 25)).heap.size = wf.heap.size + 1 := by simp
    have hTl2 : (T.take k).length ≤ 1000000000 := by rw [List.length_take]; omega
    have HTl2 := Lib.hid hTl2
    clear hTl2
    generalize hnk : (T.take k).length = nk at *
    have Hnk := Lib.hid hnk
    clear hnk
    obtain ⟨vE, wE, hrE, hsnE, hapE⟩ := RLs.snoc Hok3.out (by have := Hon3.out.size; omega) hB1 ⟨⟨pf, rc.length, qf⟩, ⟨pg, tk.length, qg⟩⟩ (Own.kept HTf.out (alloc_below wf _)) (HRf.out.kept (alloc_below wf _)) (by rw [Hnk.out]; exact HTl2.out) hs1.symm
    have Hst := Lib.hid (grJ_step (RL := RL) Hon3.out (by omega) (by omega) (by omega) (by omega) (by omega) (by omega) Hl3.out Hdf3.out Hbk3.out Hok3.out hne hge (by omega) hB1 Htk.out hsnE hapE)
    have hO1 : Only (fun z => Value.ownBlock (.slice pk nk ck) = some z) _ wE := ⟨hapE.grown.os, hapE.grown.tape, hapE.grown.output, hapE.grown.size, fun k hk hA => hapE.grown.block k hk (fun e => hA e.symm)⟩
    have HbE := Lib.hid (hO1.blk (Hbk3.out.below hB1 Hbk3.out.lt) (fun e => by have := (RLs.lt Hok3.out _ e).1; omega))
    obtain ⟨pE, qE, rfl⟩ := RLs.slice hsnE
    clear hsnE hapE hO1 hB1
    generalize hnE : (T.take k ++ [tk]).length = nE at *
    clear hnE
    gi_wp2_with (gi_at_builtin; refine AtApp.of ?_)
    refine AtApp.goIn hrE rfl rfl rfl rfl ?_
    have ce := HbE.out.cells.c1
    have fe := HbE.out.free 0
    gi_wp2_with fail
    exact roundPost_normalR HRL.out Hst.out.1 ⟨rfl, Hst.out.2.1, Hst.out.2.2.trans (Hho3.out.block g (by omega) (show ¬ g = L by omega))⟩
  case hend =>
    rintro e W6 ⟨⟨v, rfl⟩, ⟨g, hJ⟩ | hZ⟩
    · refine ⟨⟨v, rfl⟩, .ready, none, by simp, hJ.lp, ?_⟩
      have hlt := heap_lt hJ.lp
      have h7 : Only (· = W4.heap.size + 1) W6 (W6.putObj (W4.heap.size + 1) (.loop (RL .exhausted none))) := Only.putObj (A := (· = W4.heap.size + 1)) _ (b := W4.heap.size + 1) rfl _
      show Exit.inBlock 0 _ Exit.normal _ (W6.putObj (W4.heap.size + 1) (.loop (RL .exhausted none)))
      generalize W6.putObj (W4.heap.size + 1) (.loop (RL .exhausted none)) = W7 at *
      obtain ⟨v7, hb7, ho7, -⟩ := hJ.out
      rw [List.take_of_length_le (by rw [HT.out, List.length_map]; exact Nat.le_refl _)] at ho7
      have hL7 := ho7.keptOnly h7 (fun b e => by have : b = W4.heap.size + 1 := e; omega)
      have hb77 := h7.blk hb7 (show ¬ w3.heap.size = W4.heap.size + 1 by omega)
      have hon7 : Only (fun z => z = w3.heap.size ∨ z = W4.heap.size + 1) W5 W7 := hJ.on.trans (h7.mono (fun z _ hz => .inr hz))
      have hB7 : Below w.heap.size w W7 := HBw5.out.trans (hon7.below HBw5.out.size (fun z hz => by rcases hz with rfl | rfl <;> omega))
      have h4 := hon7.blk Hb25.out (show ¬ (w.heap.size + 1 = w3.heap.size ∨ w.heap.size + 1 = W4.heap.size + 1) by omega)
      have h5 := hon7.blk Hb35.out (show ¬ (w.heap.size + 1 + 1 = w3.heap.size ∨ w.heap.size + 1 + 1 = W4.heap.size + 1) by omega)
      have hD7 := (hon7.block W4.heap.size (by omega) (show ¬ (W4.heap.size = w3.heap.size ∨ W4.heap.size = W4.heap.size + 1) by omega)).trans HlD.out
      obtain ⟨p7, q7, rfl⟩ := RLs.slice hL7
      have HR2 := HR.out
      rw [HTg.out] at HR2
      have hzz := HBw5.out.size
      have HTt := Lib.hid (fun (fn : Func) (tmps : Array Value) hfn ht4 ht5 => grTail (n := 3) (fn := fn) (tmps := tmps) (R := R) (Ds := [W4.heap.size]) (err := 0) hfn ht4 ht5 h4 h5 (by omega) (by omega) (by omega) hB7 hL7 (by omega) (by omega) (by omega) (by simp) (fun D hD => by rw [List.mem_singleton.1 hD]; exact ⟨by omega, by omega, hD7⟩) (fun w' hB' hL' => HR2 w' _ hB' (by rw [okL_ok rfl]; exact hL')))
      have c0 := hb77.cells.c1
      have d0 := h4.cells.c1
      have d1 := h5.cells.c1
      have f0 := h4.free 0
      have f1 := h5.free 0
      have hsz7 : w3.heap.size < W7.heap.size := hb77.lt
      clear hJ h7 hL7 hb77 hon7 hB7 h4 h5 hD7 HR2 hb7 ho7 hlt
      go_wp2_with fail
      exact HTt.out _ _ rfl rfl rfl
    · exact hZ.elim
end Go.Proofs.YtmconajkgjfplaaGreat
end

/- The document's place and once, of the folds. -/
section
set_option linter.unusedVariables false
set_option linter.unusedSimpArgs false
namespace Go.Proofs.YtmconajkgjfplaaGreat
open Go.RowKit
set_option linter.unusedVariables false
set_option linter.unusedSimpArgs false
def onceNAt (l : List S) (i : Nat) : Bool := placeI l (l.getD i []) == i
def onceN (l : List S) : Bool := (List.range l.length).all (onceNAt l)
theorem onceN_yes {l : List S} (h : ∀ i, i < l.length → onceNAt l i = true) : onceN l = true := by
  unfold onceN
  rw [List.all_eq_true]
  exact fun i hi => h i (List.mem_range.1 hi)
theorem onceN_nodup {l : List S} : onceN l = true ↔ l.Nodup := by
  rw [List.nodup_iff_pairwise_ne]
  constructor
  · intro h
    unfold onceN at h
    rw [List.all_eq_true] at h
    rw [List.pairwise_iff_getElem]
    intro i j hi hj hij e
    have h1 := h i (List.mem_range.2 hi)
    have h2 := h j (List.mem_range.2 hj)
    unfold onceNAt at h1 h2
    rw [getDS l _ i hi, beq_iff_eq] at h1
    rw [getDS l _ j hj, beq_iff_eq, ← e, h1] at h2
    omega
  · intro h
    rw [List.pairwise_iff_getElem] at h
    refine onceN_yes (fun i hi => ?_)
    unfold onceNAt
    rw [getDS l _ i hi, beq_iff_eq]
    refine placeI_hit hi rfl (fun j hj e => ?_)
    rw [getDS l _ j (by omega)] at e
    exact h j i (by omega) hi hj e
end Go.Proofs.YtmconajkgjfplaaGreat
end

/- The document's right, of the folds. (Printed by fldj.py.) -/
section
set_option linter.unusedVariables false
set_option linter.unusedSimpArgs false
namespace Go.Proofs.YtmconajkgjfplaaGreat
open Go.RowKit
set_option linter.unusedVariables false
set_option linter.unusedSimpArgs false
attribute [local go_sem ↓] Go.wp_at_zero Go.wp_at_succ
end Go.Proofs.YtmconajkgjfplaaGreat
end

/- A relation joined with one key, in plain words: the rows that have it. -/
section
set_option linter.unusedVariables false
set_option linter.unusedSimpArgs false
namespace Go.Proofs.YtmconajkgjfplaaGreat
set_option linter.unusedVariables false
set_option linter.unusedSimpArgs false
theorem withK_len {f : List V → List V} {l : List (List V)} {k : List V} : (withK f l k).length ≤ l.length := List.length_filter_le _ _
theorem keys_len {rc cols : List S} {l : List (List V)} : ∀ k ∈ keysL (grpK rc cols) l, k.length = cols.length := by
  intro k hk
  obtain ⟨x, -, rfl⟩ := List.mem_map.1 ((canon_mem cmpR_cmp _ _).1 hk)
  exact pick_len' _ _ _
end Go.Proofs.YtmconajkgjfplaaGreat
end

/- The document's relations of a call's own, one behind the other, in a slice of its own (XFldG's twin). -/
section
set_option linter.unusedVariables false
set_option linter.unusedSimpArgs false
namespace Go.Proofs.YtmconajkgjfplaaGreat
open Go.RowKit
set_option linter.unusedVariables false
set_option linter.unusedSimpArgs false
theorem infoQH : (Tryz.prog.info? 50).map (fun i => (i.zero, i.size, i.bytes)) = some (some (.agg #[.slice none 0 0, .slice none 0 0]), 2, 48) := by kernel_rfl
abbrev OwnQH := Own RH.enc 50 2
/-- A relation whose blocks are in a .. b. -/
structure RelS (a b : Nat) (W : World) (h : RH) (cols : List S) (rows : List (List V)) : Prop where
  cols : Strs a b W h.c.v cols
  rows : Rws a b W h.l.v rows
theorem RelS.agree {a b : Nat} {W W' : World} {h : RH} {cols : List S} {rows : List (List V)} (H : RelS a b W h cols rows) (ha : Agree a b W W') : RelS a b W' h cols rows :=
  ⟨Sl.agree H.cols Strs.loc ha, Sl.agree H.rows rowE_loc ha⟩
/-- Relations of the same columns, in a slice of a call's own. -/
def QLs (lo : Nat) (W : World) (v : Value) (cols : List S) (rs : List (List (List V))) : Prop :=
  ∃ (hs : List RH) (bs : List (Nat × Nat)), hs.length = rs.length ∧ bs.length = rs.length ∧ OwnQH lo W v hs ∧ bs.Pairwise (fun p q => p.2 ≤ q.1) ∧
    ∀ i (h1 : i < hs.length) (h2 : i < bs.length) (h3 : i < rs.length), lo ≤ bs[i].1 ∧ bs[i].2 ≤ W.heap.size ∧ RelS bs[i].1 bs[i].2 W hs[i] cols rs[i] ∧ ∀ g, v.ownBlock = some g → g < bs[i].1 ∨ bs[i].2 ≤ g
theorem QLs.nil (lo : Nat) (W : World) (cols : List S) : QLs lo W (.slice none 0 0) cols [] := ⟨[], [], rfl, rfl, Own.nil _ _ _ _ _, List.Pairwise.nil, fun i h => absurd h (Nat.not_lt_zero _)⟩
theorem QLs.slice {lo : Nat} {W : World} {v : Value} {cols : List S} {rs : List (List (List V))} (h : QLs lo W v cols rs) : ∃ p c, v = .slice p rs.length c := by
  obtain ⟨hs, bs, hl, -, ho, -⟩ := h
  obtain ⟨p, c, e⟩ := Own.slice ho
  exact ⟨p, c, by rw [e, hl]⟩
theorem QLs.lt {lo : Nat} {W : World} {v : Value} {cols : List S} {rs : List (List (List V))} (h : QLs lo W v cols rs) : ∀ k, v.ownBlock = some k → lo ≤ k ∧ k < W.heap.size := by
  obtain ⟨hs, bs, -, -, ho, -⟩ := h
  exact Own.lt ho
theorem QLs.ne_def {lo : Nat} {W : World} {v : Value} {cols : List S} {rs : List (List (List V))} (h : QLs lo W v cols rs) {D : Nat} {o : Obj} (hb : W.heap[D]? = some o) (hc : o.isCells = false) : v.ownBlock ≠ some D := by
  obtain ⟨hs, bs, -, -, ho, -⟩ := h
  exact Own.ne_def ho hb hc
theorem QLs.keptOnly {A : Nat → Prop} {lo : Nat} {W W' : World} {v : Value} {cols : List S} {rs : List (List (List V))} (h : QLs lo W v cols rs) (hO : Only A W W') (hA : ∀ b, A b → b < lo) : QLs lo W' v cols rs := by
  obtain ⟨hs, bs, hl, hbl, ho, hp, hi⟩ := h
  refine ⟨hs, bs, hl, hbl, Own.same ho (fun g e => hO.block g (Own.lt ho g e).2 (fun hz => by have := hA g hz; have := (Own.lt ho g e).1; omega)), hp, fun i h1 h2 h3 => ?_⟩
  obtain ⟨k1, k2, k3, k4⟩ := hi i h1 h2 h3
  exact ⟨k1, Nat.le_trans k2 hO.size, k3.agree (fun b hb1 hb2 => hO.block b (by omega) (fun hz => by have := hA b hz; omega)), k4⟩
theorem QLs.kept {lo : Nat} {W W' : World} {v : Value} {cols : List S} {rs : List (List (List V))} (h : QLs lo W v cols rs) (hB : Below W.heap.size W W') : QLs lo W' v cols rs :=
  h.keptOnly (Below.only (A := fun _ => False) hB) (fun _ h => h.elim)
/-- One relation more. -/
theorem QLs.snoc {lo : Nat} {W W1 : World} {v : Value} {cols : List S} {rs : List (List (List V))} (h : QLs lo W v cols rs) (hlo : lo ≤ W.heap.size) (hB : Below W.heap.size W W1) (r : RH) {rows : List (List V)} (hc : Strs W.heap.size W1.heap.size W1 r.c.v cols) (hr : Rws W.heap.size W1.heap.size W1 r.l.v rows) (hb : rs.length ≤ 1000000000)
    {n : Nat} (hn : n = W1.heap.size) : ∃ v' w', (Builtin.append_ #[82, 82] 82 #[v, .slice (some ⟨n, 0, none⟩) 1 1]).run Tryz.prog (W1.alloc (.cells #[r.c.v, r.l.v] 50)) = .ok v' w' ∧ QLs lo w' v' cols (rs ++ [rows]) ∧ Appended W1 v w' v' := by
  subst hn
  have hlt0 := fun g e => (QLs.lt h g e).2
  obtain ⟨hs, bs, hl, hbl, ho0, hp, hiR⟩ := h
  have ho := Own.kept ho0 hB
  have hold : ∀ i (h1 : i < bs.length), bs[i].2 ≤ W.heap.size := fun i h1 => (hiR i (by omega) h1 (by omega)).2.1
  have hB1 := alloc_below W1 (.cells (RH.enc r).toArray 50)
  obtain ⟨i0, hi0, hz0, hz1, hz2⟩ := info_parts infoQH
  have hcell := CellsAt.newAt W1 (RH.enc r) 50 rfl
  have hsr : Src Tryz.prog 2 82 (.slice (some ⟨W1.heap.size, 0, none⟩) 1 1) [r].length ([r].flatMap RH.enc) (W1.alloc (.cells (RH.enc r).toArray 50)) :=
    Src.ofSlice _ Tryz.underlying82 _ _ _ _ (by simp [RH.enc]) (fun j u hu => by rw [Addr.add_lit]; exact hcell j u (by simpa using hu)) (fun u hu => by
      rw [List.flatMap_cons, List.flatMap_nil, List.append_nil] at hu
      exact RH.one _ u hu)
  have hz := hB.size
  obtain ⟨v', w', hrun, ho', hap⟩ := (Own.kept ho hB1).app _ _ _ i0 _ 48 Tryz.underlying82 hi0 hz0 hz1 hz2 rfl hsr (by simp only [List.length_cons, List.length_nil]; omega) (by omega) (Nat.le_trans (Nat.le_trans hlo hz) hB1.size)
  have hapw := (Appended.step v hB1).trans hap
  have hzw : W1.heap.size ≤ w'.heap.size := hapw.grown.size
  have hvold : ∀ g, v.ownBlock = some g → g < W.heap.size := hlt0
  have hgn : ∀ a b, b ≤ W1.heap.size → (∀ g, v.ownBlock = some g → g < a ∨ b ≤ g) → ∀ g, v'.ownBlock = some g → g < a ∨ b ≤ g := fun a b hb2 hg g e => by
    rcases hapw.moved with e2 | ⟨q, e2, hq⟩
    · exact hg g (e2 ▸ e)
    · rw [e2] at e; injection e with e; subst e; exact .inr (by omega)
  refine ⟨v', w', hrun, ⟨hs ++ [r], bs ++ [(W.heap.size, W1.heap.size)], by simp [hl], by simp [hbl], ho', ?_, fun i h1 h2 h3 => ?_⟩, hapw⟩
  · rw [List.pairwise_append]
    refine ⟨hp, List.pairwise_singleton _ _, fun p hp1 q hq => ?_⟩
    rw [List.mem_singleton] at hq
    subst hq
    obtain ⟨i, hi, rfl⟩ := List.getElem_of_mem hp1
    exact hold i hi
  · by_cases hlt : i < hs.length
    · simp only [List.getElem_append_left hlt, List.getElem_append_left (show i < bs.length by omega), List.getElem_append_left (show i < rs.length by omega)]
      obtain ⟨k1, k2, k3, k4⟩ := hiR i hlt (by omega) (by omega)
      exact ⟨k1, by omega, (k3.agree (.below hB k2)).agree (hapw.agree (by omega) (fun k e => k4 k e)), hgn _ _ (by omega) k4⟩
    · have e1 : i = hs.length := by rw [List.length_append, List.length_singleton] at h1; omega
      subst e1
      have a1 : (hs ++ [r])[hs.length] = r := by simp
      have a2 : (bs ++ [(W.heap.size, W1.heap.size)])[hs.length]'h2 = (W.heap.size, W1.heap.size) := by
        rw [List.getElem_append_right (by omega)]
        simp
      have a3 : (rs ++ [rows])[hs.length]'h3 = rows := by
        rw [List.getElem_append_right (by omega)]
        simp
      have hnew : RelS W.heap.size W1.heap.size W1 r cols rows := ⟨hc, hr⟩
      have := hnew.agree (hapw.agree (Nat.le_refl _) (fun k e => .inl (hvold k e)))
      simp only [a1, a2, a3]
      exact ⟨hlo, hzw, this, hgn _ _ (Nat.le_refl _) (fun g e => .inl (hvold g e))⟩
end Go.Proofs.YtmconajkgjfplaaGreat
end

/- The document's Without. (Printed by meo.py, merf.py.) -/
section
set_option linter.unusedVariables false
set_option linter.unusedSimpArgs false
namespace Go.Proofs.YtmconajkgjfplaaGreat
open Go.RowKit
set_option linter.unusedVariables false
set_option linter.unusedSimpArgs false
attribute [local go_sem ↓] Go.wp_at_zero Go.wp_at_succ

end Go.Proofs.YtmconajkgjfplaaGreat
end

/- The document's Join. (Printed by mep.py, merf.py.) -/
section
set_option linter.unusedVariables false
set_option linter.unusedSimpArgs false
namespace Go.Proofs.YtmconajkgjfplaaGreat
open Go.RowKit
set_option linter.unusedVariables false
set_option linter.unusedSimpArgs false
attribute [local go_sem ↓] Go.wp_at_zero Go.wp_at_succ

end Go.Proofs.YtmconajkgjfplaaGreat
end

/- The document's Groups. (Printed by fldk.py.) -/
section
set_option linter.unusedVariables false
set_option linter.unusedSimpArgs false
namespace Go.Proofs.YtmconajkgjfplaaGreat
open Go.RowKit
set_option linter.unusedVariables false
set_option linter.unusedSimpArgs false
attribute [local go_sem ↓] Go.wp_at_zero Go.wp_at_succ
theorem QLs.lower {lo lo' : Nat} {W : World} {v : Value} {cols : List S} {rs : List (List (List V))} (h : QLs lo W v cols rs) (hl : lo' ≤ lo) : QLs lo' W v cols rs := by
  obtain ⟨hs, bs, h1, h2, ho, hp, hi⟩ := h
  exact ⟨hs, bs, h1, h2, Own.lower ho hl, hp, fun i q1 q2 q3 => ⟨Nat.le_trans hl (hi i q1 q2 q3).1, (hi i q1 q2 q3).2⟩⟩
end Go.Proofs.YtmconajkgjfplaaGreat
end

/- The law of layer 16: a relation's own copy, and the document's relation of the program's. (Printed by r16.py.) -/
section
set_option linter.unusedVariables false
set_option linter.unusedSimpArgs false
namespace Go.Proofs.YtmconajkgjfplaaGreat
open Go.RowKit
set_option linter.unusedVariables false
set_option linter.unusedSimpArgs false
set_option maxRecDepth 100000 in
set_option maxHeartbeats 4000000 in
theorem ref16_any (ac av : Option Addr) (nc cc nv cv : Nat) (w : World) (R : Ending → World → Prop)
    (hR : ∀ w', Below w.heap.size w w' → R (.returned (.agg #[.slice ac nc cc, .slice av nv cv])) w') :
    Calls Tryz.prog 17 #[.agg #[.slice ac nc cc, .slice av nv cv]] w R := by
  have HR := Lib.hid hR
  clear hR
  have hB0 := alloc_below w (.cells #[.slice ac nc cc, .slice av nv cv] 25)
  have hb0 := Blk.new w [.slice ac nc cc, .slice av nv cv] 25 rfl
  go_enter Tryz.func17, Tryz.ntmps17
  go_upto_region 1 with fail
  have hB1 := hB0.alloc hB0.size (.cells #[.slice none 0 0, .slice none 0 0] 50)
  have hb1 : Blk _ (w.heap.size + 1) [.slice none 0 0, .slice none 0 0] 50 := Blk.new (w.alloc (.cells #[.slice ac nc cc, .slice av nv cv] 25)) [.slice none 0 0, .slice none 0 0] 50 (by show _ = (w.heap.push _).size; rw [Array.size_push])
  have hc0 := hb0.alloc (.cells #[.slice none 0 0, .slice none 0 0] 50)
  generalize (w.alloc (.cells #[.slice ac nc cc, .slice av nv cv] 25)).alloc (.cells #[.slice none 0 0, .slice none 0 0] 50) = w1 at *
  obtain ⟨d0, d1⟩ := hc0.cells.c2
  simp only [Nat.zero_add] at d1
  obtain ⟨e0, e1⟩ := hb1.cells.c2
  simp only [Nat.zero_add] at e1
  have f0 := hb1.free 0
  have f1 := hb1.free 1
  have Hrv := Lib.hid (((hb1.set 0 (.slice ac nc cc)).set 1 (.slice av nv cv)).cells.runVar (P := Tryz.prog) (t := 50) (fun _ => by kernel_rfl) (fun _ => by kernel_rfl))
  have Hr := Lib.hid (HR.out _ ((hB1.setCell (p := ⟨w.heap.size + 1, 0, none⟩) (Nat.le_succ _) (.slice ac nc cc)).setCell (p := ⟨w.heap.size + 1, 1, none⟩) (Nat.le_succ _) (.slice av nv cv)))
  clear hb0 hB0 hB1 hb1 hc0
  go_wp2_with fail
  exact ret_cell rfl rfl Hrv.out rfl Hr.out
end Go.Proofs.YtmconajkgjfplaaGreat
end

/- Whether tellings may be: fold.right. (Printed by fldx.py.) -/
section
set_option linter.unusedVariables false
set_option linter.unusedSimpArgs false
namespace Go.Proofs.YtmconajkgjfplaaGreat
open Go.RowKit
set_option linter.unusedVariables false
set_option linter.unusedSimpArgs false
attribute [local go_sem ↓] Go.wp_at_zero Go.wp_at_succ
/-- A telling. -/
structure Ag where
  op : Int
  col : S
  nm : S
  deriving Inhabited
def Ag.enc (a : Ag) : List Value := [.int .i64 a.op, .string ⟨a.col.toArray⟩, .string ⟨a.nm.toArray⟩]
abbrev Ags := Sl (flat Ag.enc) 3
theorem Ags.loc : Loc (flat Ag.enc) := flat_loc _
def aggBad (rc cols : List S) (a : Ag) : Bool := decide (a.op < 1) || decide (5 < a.op) || (decide (a.op = 1) && !decide (a.col = [])) || (!decide (a.op = 1) && decide (placeI rc a.col < 0)) || decide (0 ≤ placeI cols a.nm)
def fitAt (rc cols : List S) (l : List Ag) (k : Nat) : Bool := !aggBad rc (cols ++ (l.take k).map Ag.nm) (l.getD k default)
/-- May the tellings be, columns being there? -/
def fitsB (rc cols : List S) (l : List Ag) : Bool := (List.range l.length).all (fitAt rc cols l)
theorem fitsB_no {rc cols : List S} {l : List Ag} {k : Nat} (hk : k < l.length) (h : aggBad rc (cols ++ (l.take k).map Ag.nm) l[k] = true) : fitsB rc cols l = false := by
  unfold fitsB
  rw [List.all_eq_false]
  exact ⟨k, List.mem_range.2 hk, by unfold fitAt; rw [getDS l _ k hk, h]; simp⟩
theorem fitsB_yes {rc cols : List S} {l : List Ag} (h : ∀ k (hk : k < l.length), aggBad rc (cols ++ (l.take k).map Ag.nm) l[k] = false) : fitsB rc cols l = true := by
  unfold fitsB
  rw [List.all_eq_true]
  intro k hk
  have hk := List.mem_range.1 hk
  unfold fitAt
  rw [getDS l _ k hk, h k hk]; rfl
set_option maxRecDepth 100000 in
set_option maxHeartbeats 4000000 in
theorem fright_any (lc hc l2 h2 l3 h3 : Nat) (rc : List S) (ac : Option Addr) (cc : Nat) (ar : Option Addr) (nr cr : Nat) (cols : List S) (cv : Value) (l : List Ag) (lv : Value) (w : World) (hrc : Strs lc hc w (.slice ac rc.length cc) rc) (hhc : hc ≤ w.heap.size) (hcols : Strs l2 h2 w cv cols) (hh2 : h2 ≤ w.heap.size) (hl : Ags l3 h3 w lv l) (hh3 : h3 ≤ w.heap.size) (hlen : cols.length ≤ 1000000000000) (hll : l.length ≤ 1000000000000) (R : Ending → World → Prop)
    (hno : fitsB rc cols l = false → ∀ w', Below w.heap.size w w' → R (.returned (.tuple #[.slice none 0 0, .slice none 0 0, .bool false])) w')
    (hyes : fitsB rc cols l = true → ∀ w' tv iv, Below w.heap.size w w' → OwnT w.heap.size w' tv (cols ++ l.map Ag.nm) → OwnI w.heap.size w' iv (l.map fun a => placeI rc a.col) → R (.returned (.tuple #[tv, iv, .bool true])) w') :
    Calls Tryz.prog 35 #[.agg #[.slice ac rc.length cc, .slice ar nr cr], cv, lv] w R := by
  have HNo := Lib.hid hno
  have HYes := Lib.hid hyes
  have Hrc := Lib.hid hrc
  have Hcols := Lib.hid hcols
  have Hl := Lib.hid hl
  obtain ⟨ak, ck, rfl, -, -, -, -⟩ := hcols.form
  obtain ⟨al, cl, rfl, -, -, -, hal⟩ := hl.form
  have hll63 := hl.len
  have hrl63 := hrc.len
  clear hno hyes hrc hcols hl hal
  go_enter Tryz.func35, Tryz.ntmps35
  go_upto_region 1 with fail
  have hBa := alloc_below w (.cells #[.slice ac rc.length cc, .slice ar nr cr] 25)
  have hba := Blk.new w [.slice ac rc.length cc, .slice ar nr cr] 25 rfl
  generalize w.alloc (.cells #[.slice ac rc.length cc, .slice ar nr cr] 25) = wa at *
  have HBa := Lib.hid hBa
  have Hba := Lib.hid hba
  have hza := hBa.size
  have hla := hba.lt
  clear hBa hba
  go_wp2_with fail
  refine CloneStr_any l2 h2 cols _ wa (Sl.below Hcols.out Strs.loc HBa.out hh2) (by omega) (by omega) _ (fun w1 v1 hB1 ho1 => ?_)
  have HB1 := Lib.hid (HBa.out.trans (hB1.mono hza))
  have Hb1 := Lib.hid (Hba.out.below hB1 hla)
  have hz1 := hB1.size
  have Ho1 := Lib.hid (Own.lower ho1 (Nat.le_of_lt hla))
  have Ho1a := Lib.hid ho1
  obtain ⟨p1, c1, rfl⟩ := Own.slice ho1
  clear hB1 ho1 Hba HBa
  go_wp2_with fail
  go_loopw [6, 7, 16] (fun t6 t7 t16 wr => ∃ k : Nat, k ≤ l.length ∧ t16 = .int .i64 k ∧ Below w.heap.size w wr ∧ Blk wr w.heap.size [.slice ac rc.length cc, .slice ar nr cr] 25 ∧ OwnT wa.heap.size wr t6 (cols ++ (l.take k).map Ag.nm) ∧ OwnI wa.heap.size wr t7 ((l.take k).map fun a => placeI rc a.col) ∧ wa.heap.size ≤ wr.heap.size ∧ ∀ i (hi : i < l.length), i < k → aggBad rc (cols ++ (l.take i).map Ag.nm) l[i] = false) (fun _ _ t16 _ => l.length - (intOf t16).toNat)
  case atStart => exact ⟨0, Nat.zero_le _, rfl, HB1.out, Hb1.out, by simpa using Ho1a.out, by simpa using Own.nil _ _ _ _ _, hz1, fun i _ h => absurd h (Nat.not_lt_zero _)⟩
  case round =>
    obtain ⟨k, hk, rfl, hB, hb, ho6, ho7, hzr, hfit⟩ := hrel
    obtain ⟨wo, ewo⟩ : ∃ x, x = wr := ⟨_, rfl⟩
    subst ewo
    have HB := Lib.hid hB
    have Hb := Lib.hid hb
    have Ho6 := Lib.hid ho6
    have Ho7 := Lib.hid ho7
    have Hfit := Lib.hid hfit
    have hz := hB.size
    have hbl := hb.lt
    have kk0 : (0 : Int) ≤ (k : Int) := by omega
    obtain ⟨p6, c6, e6⟩ := Own.slice ho6
    obtain ⟨p7, c7, e7⟩ := Own.slice ho7
    subst e6 e7
    have el6 : (cols ++ (l.take k).map Ag.nm).length = cols.length + k := by rw [List.length_append, List.length_map, List.length_take, Nat.min_eq_left hk]
    have el7 : ((l.take k).map fun a => placeI rc a.col).length = k := by rw [List.length_map, List.length_take, Nat.min_eq_left hk]
    rw [el6] at Ho6 ⊢
    rw [el7] at Ho7 ⊢
    clear hB hb ho6 ho7 hfit el6 el7
    by_cases hlt : k < l.length
    · obtain ⟨ao', cap', e', -, -, -, hc⟩ := (Sl.below Hl.out Ags.loc HB.out hh3).form
      injection e' with e1 e2 e3
      subst e1 e3
      obtain ⟨b, off, rfl, hb1, hb2, hcc⟩ := hc k hlt
      obtain ⟨cs, -, hcs, ecs⟩ := hcc k hlt
      obtain rfl : cs = Ag.enc l[k] := ecs
      obtain ⟨g0, g1, g2⟩ := hcs.c3
      have kkl : (k : Int) < (l.length : Int) := by omega
      have Hst : Hid (l.take (k + 1) = l.take k ++ [l[k]]) := Lib.hid (List.take_succ_eq_append_getElem hlt)
      have Hbad : Hid (aggBad rc (cols ++ (l.take k).map Ag.nm) l[k] = true → fitsB rc cols l = false) := Lib.hid (fitsB_no hlt)
      have Hnext : Hid (aggBad rc (cols ++ (l.take k).map Ag.nm) l[k] = false → ∀ i (hi : i < l.length), i < k + 1 → aggBad rc (cols ++ (l.take i).map Ag.nm) l[i] = false) := Lib.hid (fun h i hi hik => by
        by_cases e : i = k
        · subst e; exact h
        · exact Hfit.out i hi (by omega))
      clear hcc hcs hc e2 Hfit
      generalize l[k] = a at *
      generalize hC : cols ++ (l.take k).map Ag.nm = C at *
      have HC := Lib.hid hC
      have hCl : C.length = cols.length + k := by rw [← hC, List.length_append, List.length_map, List.length_take, Nat.min_eq_left hk]
      have HCl := Lib.hid hCl
      clear hC hCl
      generalize hI : ((l.take k).map fun a => placeI rc a.col) = I at *
      have HI := Lib.hid hI
      clear hI
      go_upto_region 5 with fail
      have hBx := alloc_below wo (.cells #[.int .i64 a.op, .string ⟨a.col.toArray⟩, .string ⟨a.nm.toArray⟩] 41)
      have hbx := Blk.new wo [.int .i64 a.op, .string ⟨a.col.toArray⟩, .string ⟨a.nm.toArray⟩] 41 rfl
      generalize wo.alloc (.cells #[.int .i64 a.op, .string ⟨a.col.toArray⟩, .string ⟨a.nm.toArray⟩] 41) = wx at *
      have HBx := Lib.hid hBx
      have HBwx := Lib.hid (HB.out.trans (hBx.mono hz))
      have Hbx := Lib.hid hbx
      have Hb := Lib.hid (Hb.out.below hBx hbl)
      have hzx := hBx.size
      have Ho6 := Lib.hid (Own.kept Ho6.out hBx)
      have Ho7 := Lib.hid (Own.kept Ho7.out hBx)
      obtain ⟨c0, c1⟩ := Hb.out.cells.c2
      obtain ⟨d0, d1, d2⟩ := hbx.cells.c3
      simp only [Nat.zero_add] at c1 d1 d2
      clear g0 g1 g2 hBx hbx
      go_wp2_with fail
      refine Index_any lc hc rc a.col _ wx (Sl.below Hrc.out Strs.loc HBwx.out hhc) _ ?_
      have Hpl := Lib.hid (placeI_lt rc a.col)
      by_cases o1 : a.op < 1
      · have hbd : aggBad rc C a = true := by unfold aggBad; rw [decide_eq_true o1]; rfl
        have hr := HNo.out (Hbad.out hbd) wx HBwx.out
        clear hbd
        generalize placeI rc a.col = P at *
        go_wp2_with fail
        first | exact hr | exact fin hr rfl | exact bodyPost_ret (results_tmp3 rfl _ _ _) rfl (fin hr rfl)
      by_cases o5 : 5 < a.op
      · have hbd : aggBad rc C a = true := by unfold aggBad; rw [decide_eq_true o5]; simp
        have hr := HNo.out (Hbad.out hbd) wx HBwx.out
        clear hbd
        generalize placeI rc a.col = P at *
        go_wp2_with fail
        first | exact hr | exact fin hr rfl | exact bodyPost_ret (results_tmp3 rfl _ _ _) rfl (fin hr rfl)
      by_cases oc : a.op = 1
      · by_cases on : a.col = []
        · have hba : aggBad rc C a = decide (0 ≤ placeI C a.nm) := by unfold aggBad; rw [decide_eq_false o1, decide_eq_false o5, decide_eq_true oc, decide_eq_true on]; simp
          rw [hba] at Hbad Hnext
          clear hba
          obtain ⟨P, hP⟩ : ∃ P, P = placeI rc a.col := ⟨_, rfl⟩
          rw [← hP] at Hpl ⊢
          have HP := Lib.hid hP
          clear hP
          go_wp2_with fail
          refine Contains_any wa.heap.size wx.heap.size C a.nm _ wx (OwnT.sl Ho6.out) _ ?_
          by_cases oq : 0 ≤ placeI C a.nm
          · rw [decide_eq_true oq] at Hbad ⊢
            have hr := HNo.out (Hbad.out rfl) wx HBwx.out
            clear oq
            go_wp2_with fail
            first | exact hr | exact fin hr rfl | exact bodyPost_ret (results_tmp3 rfl _ _ _) rfl (fin hr rfl)
          rw [decide_eq_false oq] at Hnext ⊢
          clear oq
          have hcl6 : C.length ≤ 4000000000000 := by rw [HCl.out]; omega
          obtain ⟨v6, w6, hr6, ho6, ha6⟩ := appT1 Ho6.out a.nm rfl hcl6 (by omega)
          have hB6 : Below wa.heap.size wx w6 := ha6.below (by omega) (fun q e => (Own.lt Ho6.out q e).1)
          have hz6 := hB6.size
          have h76 : OwnI wa.heap.size w6 (.slice p7 k c7) I := Own.same Ho7.out (fun g hg => ha6.grown.block g (Own.lt Ho7.out g hg).2 (fun e => Own.apartT Ho7.out Ho6.out (by decide) hg e.symm))
          obtain ⟨v7, w7, hr7, ho7, ha7⟩ := appI1 h76 P rfl (by rw [← HI.out, List.length_map, List.length_take]; omega) (by omega)
          have hB7 : Below wa.heap.size w6 w7 := ha7.below (by omega) (fun q e => (Own.lt h76 q e).1)
          have h67 : OwnT wa.heap.size w7 v6 (C ++ [a.nm]) := Own.same ho6 (fun g hg => ha7.grown.block g (Own.lt ho6 g hg).2 (fun e => Own.apartT ho6 h76 (by decide) hg e.symm))
          have Hb7 := Lib.hid ((Hb.out.below (hB6.mono (show w.heap.size + 1 ≤ _ by omega)) (by omega)).below (hB7.mono (show w.heap.size + 1 ≤ _ by omega)) (by omega))
          have HB7 := Lib.hid ((HBwx.out.trans (hB6.mono hza)).trans (hB7.mono hza))
          have Ho67 := Lib.hid h67
          have Ho77 := Lib.hid ho7
          have hz7 := hB7.size
          obtain ⟨p6', c6', e6'⟩ := Own.slice ho6
          obtain ⟨p7', c7', e7'⟩ := Own.slice ho7
          subst e6' e7'
          clear ho6 ha6 hB6 h76 ho7 ha7 hB7 h67 c0 c1 d0 d1
          generalize (C ++ [a.nm]).length = n6 at *
          generalize (I ++ [P]).length = n7 at *
          go_wp2_with (at_builtin; refine AtApp.of ?_)
          refine AtApp.go hr6 rfl rfl rfl rfl ?_
          go_wp2_with (at_builtin; refine AtApp.of ?_)
          refine AtApp.go hr7 rfl rfl rfl rfl ?_
          go_wp2_with fail
          go_roundw
          case rel => exact ⟨k + 1, by omega, by go_num, HB7.out, Hb7.out, by rw [Hst.out, List.map_append, ← List.append_assoc, HC.out]; exact Ho67.out, by rw [Hst.out, List.map_append, HI.out]; simp only [List.map_cons, List.map_nil]; rw [← HP.out]; exact Ho77.out, by omega, Hnext.out (by first | trivial | rfl)⟩
          case measure => simp [intOf]; omega
        · have hbd : aggBad rc C a = true := by unfold aggBad; rw [decide_eq_true oc, decide_eq_false on]; simp
          have hr := HNo.out (Hbad.out hbd) wx HBwx.out
          clear hbd
          generalize placeI rc a.col = P at *
          go_wp2_with fail
          first | exact hr | exact fin hr rfl | exact bodyPost_ret (results_tmp3 rfl _ _ _) rfl (fin hr rfl)
      · by_cases on : placeI rc a.col < 0
        · have hbd : aggBad rc C a = true := by unfold aggBad; rw [decide_eq_false oc, decide_eq_true on]; simp
          have hr := HNo.out (Hbad.out hbd) wx HBwx.out
          clear hbd
          generalize placeI rc a.col = P at *
          go_wp2_with fail
          first | exact hr | exact fin hr rfl | exact bodyPost_ret (results_tmp3 rfl _ _ _) rfl (fin hr rfl)
        · have hba : aggBad rc C a = decide (0 ≤ placeI C a.nm) := by unfold aggBad; rw [decide_eq_false o1, decide_eq_false o5, decide_eq_false oc, decide_eq_false on]; simp
          rw [hba] at Hbad Hnext
          clear hba
          obtain ⟨P, hP⟩ : ∃ P, P = placeI rc a.col := ⟨_, rfl⟩
          rw [← hP] at Hpl on ⊢
          have HP := Lib.hid hP
          clear hP
          go_wp2_with fail
          refine Contains_any wa.heap.size wx.heap.size C a.nm _ wx (OwnT.sl Ho6.out) _ ?_
          by_cases oq : 0 ≤ placeI C a.nm
          · rw [decide_eq_true oq] at Hbad ⊢
            have hr := HNo.out (Hbad.out rfl) wx HBwx.out
            clear oq
            go_wp2_with fail
            first | exact hr | exact fin hr rfl | exact bodyPost_ret (results_tmp3 rfl _ _ _) rfl (fin hr rfl)
          rw [decide_eq_false oq] at Hnext ⊢
          clear oq
          have hcl6 : C.length ≤ 4000000000000 := by rw [HCl.out]; omega
          obtain ⟨v6, w6, hr6, ho6, ha6⟩ := appT1 Ho6.out a.nm rfl hcl6 (by omega)
          have hB6 : Below wa.heap.size wx w6 := ha6.below (by omega) (fun q e => (Own.lt Ho6.out q e).1)
          have hz6 := hB6.size
          have h76 : OwnI wa.heap.size w6 (.slice p7 k c7) I := Own.same Ho7.out (fun g hg => ha6.grown.block g (Own.lt Ho7.out g hg).2 (fun e => Own.apartT Ho7.out Ho6.out (by decide) hg e.symm))
          obtain ⟨v7, w7, hr7, ho7, ha7⟩ := appI1 h76 P rfl (by rw [← HI.out, List.length_map, List.length_take]; omega) (by omega)
          have hB7 : Below wa.heap.size w6 w7 := ha7.below (by omega) (fun q e => (Own.lt h76 q e).1)
          have h67 : OwnT wa.heap.size w7 v6 (C ++ [a.nm]) := Own.same ho6 (fun g hg => ha7.grown.block g (Own.lt ho6 g hg).2 (fun e => Own.apartT ho6 h76 (by decide) hg e.symm))
          have Hb7 := Lib.hid ((Hb.out.below (hB6.mono (show w.heap.size + 1 ≤ _ by omega)) (by omega)).below (hB7.mono (show w.heap.size + 1 ≤ _ by omega)) (by omega))
          have HB7 := Lib.hid ((HBwx.out.trans (hB6.mono hza)).trans (hB7.mono hza))
          have Ho67 := Lib.hid h67
          have Ho77 := Lib.hid ho7
          have hz7 := hB7.size
          obtain ⟨p6', c6', e6'⟩ := Own.slice ho6
          obtain ⟨p7', c7', e7'⟩ := Own.slice ho7
          subst e6' e7'
          clear ho6 ha6 hB6 h76 ho7 ha7 hB7 h67 c0 c1 d0 d1
          generalize (C ++ [a.nm]).length = n6 at *
          generalize (I ++ [P]).length = n7 at *
          go_wp2_with (at_builtin; refine AtApp.of ?_)
          refine AtApp.go hr6 rfl rfl rfl rfl ?_
          go_wp2_with (at_builtin; refine AtApp.of ?_)
          refine AtApp.go hr7 rfl rfl rfl rfl ?_
          go_wp2_with fail
          go_roundw
          case rel => exact ⟨k + 1, by omega, by go_num, HB7.out, Hb7.out, by rw [Hst.out, List.map_append, ← List.append_assoc, HC.out]; exact Ho67.out, by rw [Hst.out, List.map_append, HI.out]; simp only [List.map_cons, List.map_nil]; rw [← HP.out]; exact Ho77.out, by omega, Hnext.out (by first | trivial | rfl)⟩
          case measure => simp [intOf]; omega
    · obtain rfl : k = l.length := by omega
      have llt : ¬ ((l.length : Nat) : Int) < (l.length : Int) := by omega
      have h6 := Ho6.out
      have h7 := Ho7.out
      rw [List.take_length] at h6 h7
      have hr := HYes.out (fitsB_yes (fun k hk => Hfit.out k hk hk)) wo _ _ HB.out (Own.lower h6 (by omega)) (Own.lower h7 (by omega))
      clear h6 h7
      go_wp2_with fail
      first | exact hr | exact fin hr rfl | exact bodyPost_ret (results_tmp3 rfl _ _ _) rfl (fin hr rfl)
end Go.Proofs.YtmconajkgjfplaaGreat
end

/- Tellings, and a relation of whole values, of an argument: opened. -/
section
set_option linter.unusedVariables false
set_option linter.unusedSimpArgs false
namespace Go.Proofs.YtmconajkgjfplaaGreat
open Go.ChangeShapes Go.WideShapes Go.ChangeAt Go.RowKit
def rowOkV (x : List V) : Prop := ∀ a ∈ x, a.ok
set_option maxRecDepth 100000 in
theorem el_rowV {H : Type} {enc : TypeId × Value → H} {w : World} (n : Nat) (cs : List Value) (x : DataW H × List MemPlace) (hl : cs.length = 1)
    (h : DataW.trod enc Tryz.prog w 0 (fun _ => true) true n 36 cs = some x) : ∃ a : List V, rowE 0 w.heap.size w cs a ∧ rowOkV a := by
  match cs, hl with
  | [c0], _ =>
    obtain ⟨l, s3, b3⟩ := open_sl (α := V) (E := flat V.enc) (ok := V.ok) Tryz.underlying36 (size := 3) (by kernel_rfl) (by decide) el_V h
    exact ⟨l, ⟨c0, rfl, s3⟩, b3⟩
def relOkV (p : List S × List (List V)) : Prop := ∀ x ∈ p.2, rowOkV x
set_option maxRecDepth 100000 in
theorem el_relV {H : Type} {enc : TypeId × Value → H} {w : World} (n : Nat) (cs : List Value) (x : DataW H × List MemPlace) (hl : cs.length = 2)
    (h : DataW.trod enc Tryz.prog w 0 (fun _ => true) true n 25 cs = some x) : ∃ p : List S × List (List V), RelIn w (.agg cs.toArray) p ∧ relOkV p := by
  obtain ⟨xs, m, _, _, _, hxl, hf⟩ := DataW.trod_struct Tryz.underlying25 h
  have k1 : Tryz.prog.cellsOf 22 = 1 := by kernel_rfl
  have k2 : Tryz.prog.cellsOf 23 = 1 := by kernel_rfl
  match cs, hl with
  | [c0, c1], _ =>
    match xs, hxl with
    | [y0, y1], _ =>
      have g0 := hf 0 _ rfl
      have g1 := hf 1 _ rfl
      simp [k1, k2] at g0 g1
      obtain ⟨l0, s0, o0⟩ := open_sl (α := S) (E := flat strE) (ok := colOk) Tryz.underlying22 (size := 1) (by kernel_rfl) (by decide) el_col g0
      obtain ⟨l1, s1, o1⟩ := open_sl (α := List V) (E := rowE) (ok := rowOkV) Tryz.underlying23 (size := 1) (by kernel_rfl) (by decide) el_rowV g1
      have s0' := s0
      obtain ⟨ac, cc, rfl, -, -, -, -⟩ := s0'.form
      exact ⟨(l0, l1), ⟨ac, cc, c1, rfl, s0, s1⟩, o1⟩
set_option maxRecDepth 100000 in
theorem open_relV {H : Type} {enc : TypeId × Value → H} {w : World} {base : Nat} {v : Value} {x : DataW H × List MemPlace} (hv : Value.okWide Tryz.prog w .any base 25 v)
    (h : ∃ n, DataW.trod enc Tryz.prog w 0 (fun _ => true) true n 25 v.cells.toList = some x) : ∃ p : List S × List (List V), RelIn w v p ∧ relOkV p := by
  obtain ⟨cs, rfl, z⟩ := okWide_struct Tryz.underlying25 hv
  obtain ⟨n, h⟩ := h
  have k : Tryz.prog.cellsOf 25 = 2 := by kernel_rfl
  obtain ⟨p, hp, ho⟩ := el_relV n _ _ (by rw [← k, ← z]; simp [Value.cells]) h
  refine ⟨p, ?_, ho⟩
  simpa [Value.cells] using hp
end Go.Proofs.YtmconajkgjfplaaGreat
end

/- What Fold tells, in plain words. -/
section
set_option linter.unusedVariables false
set_option linter.unusedSimpArgs false
namespace Go.Proofs.YtmconajkgjfplaaGreat
open Go.RowKit
set_option linter.unusedVariables false
set_option linter.unusedSimpArgs false
def colL (rc : List S) (c : S) (g : List (List V)) : List V := g.map fun y => y.getD (placeI rc c).toNat default
def aggVs (rc : List S) (a : Ag) (g : List (List V)) : List V := if a.op = 1 then [] else colL rc a.col g
def tellG (rc : List S) (g : List (List V)) (a : Ag) : V := tellV a.op g.length (aggVs rc a g)
def errG (rc : List S) (g : List (List V)) (a : Ag) : Int := tellErr a.op (aggVs rc a g)
def okG (rc : List S) (la : List Ag) (g : List (List V)) : Bool := la.all fun a => errG rc g a == 0
def foldRow (rc : List S) (la : List Ag) (key : List V) (g : List (List V)) : List V := key ++ la.map (tellG rc g)
def foldRows (rc cols : List S) (la : List Ag) (l : List (List V)) : List (List V) := (keysL (grpK rc cols) l).map fun k => foldRow rc la k (withK (grpK rc cols) l k)
def foldOk (rc cols : List S) (la : List Ag) (l : List (List V)) : Bool := (keysL (grpK rc cols) l).all fun k => okG rc la (withK (grpK rc cols) l k)
def foldCols (cols : List S) (la : List Ag) : List S := cols ++ la.map Ag.nm
def foldErr (rc cols : List S) (la : List Ag) (l : List (List V)) : Int :=
  if rightB rc l cols && fitsB rc cols la then (if 32 < cols.length + la.length then 140 else if foldOk rc cols la l then ofErr (foldCols cols la) (foldRows rc cols la l) else 160) else 2
theorem sum_perm {l l' : List Int} (h : l.Perm l') : l.sum = l'.sum := by
  induction h with
  | nil => rfl
  | cons x _ ih => simp [ih]
  | swap x y l => simp only [List.sum_cons]; omega
  | trans _ _ h1 h2 => exact h1.trans h2
theorem total_perm {l l' : List V} (h : l.Perm l') : total l = total l' := by
  unfold total
  have h1 : l.all (fun v => v.kind == 1) = l'.all (fun v => v.kind == 1) := by
    rw [Bool.eq_iff_iff, List.all_eq_true, List.all_eq_true]
    exact ⟨fun k x hx => k x (h.mem_iff.2 hx), fun k x hx => k x (h.mem_iff.1 hx)⟩
  have h2 : (l.map V.n).sum = (l'.map V.n).sum := sum_perm (h.map V.n)
  rw [h1, h2]
theorem sortV_perm {l l' : List V} (h : l.Perm l') : sortV l = sortV l' := canon_one cmpV_cmp (fun x => h.mem_iff)
theorem tellV_perm {op : Int} {n : Nat} {l l' : List V} (h : l.Perm l') : tellV op n l = tellV op n l' := by
  unfold tellV leastV greatV
  rw [total_perm h, sortV_perm h]
theorem tellErr_perm {op : Int} {l l' : List V} (h : l.Perm l') : tellErr op l = tellErr op l' := by
  unfold tellErr
  rw [total_perm h]
theorem aggVs_perm {rc : List S} {a : Ag} {g g' : List (List V)} (h : g.Perm g') : (aggVs rc a g).Perm (aggVs rc a g') := by
  unfold aggVs
  split
  · exact List.Perm.refl _
  · exact h.map _
theorem tellG_perm {rc : List S} {g g' : List (List V)} (h : g.Perm g') : tellG rc g = tellG rc g' := by
  funext a
  unfold tellG
  rw [h.length_eq, tellV_perm (aggVs_perm h)]
theorem errG_perm {rc : List S} {g g' : List (List V)} (h : g.Perm g') : errG rc g = errG rc g' := by
  funext a
  unfold errG
  exact tellErr_perm (aggVs_perm h)
theorem tellErr_val {op : Int} {l : List V} (h : tellErr op l ≠ 0) : tellErr op l = 160 := by
  unfold tellErr at *
  split at h
  · split at h
    · exact absurd rfl h
    · rename_i h1 h2
      rw [if_pos h1, if_neg h2]
  · exact absurd rfl h
/-- A telling that fails makes the whole fail. -/
theorem fold_bad {rc cols : List S} {la : List Ag} {l : List (List V)} {k : List V} {g : List (List V)} {a : Ag} (hk : k ∈ keysL (grpK rc cols) l) (hg : g.Perm (withK (grpK rc cols) l k)) (ha : a ∈ la) (he : errG rc g a ≠ 0) : foldOk rc cols la l = false := by
  unfold foldOk
  rw [List.all_eq_false]
  refine ⟨k, hk, ?_⟩
  unfold okG
  rw [Bool.not_eq_true, List.all_eq_false]
  refine ⟨a, ha, ?_⟩
  rw [← errG_perm hg]
  simpa using he
theorem fold_good {rc cols : List S} {la : List Ag} {l : List (List V)} (h : ∀ k, k ∈ keysL (grpK rc cols) l → ∀ a ∈ la, errG rc (withK (grpK rc cols) l k) a = 0) : foldOk rc cols la l = true := by
  unfold foldOk
  rw [List.all_eq_true]
  intro k hk
  unfold okG
  rw [List.all_eq_true]
  intro a ha
  simpa using h k hk a ha
theorem fits_all {rc cols : List S} {la : List Ag} (h : fitsB rc cols la = true) : ∀ a ∈ la, 1 ≤ a.op ∧ a.op ≤ 5 ∧ (a.op ≠ 1 → 0 ≤ placeI rc a.col) := by
  intro a ha
  obtain ⟨k, hk, rfl⟩ := List.getElem_of_mem ha
  unfold fitsB at h
  have h1 := List.all_eq_true.1 h k (List.mem_range.2 hk)
  unfold fitAt at h1
  rw [getDS la _ k hk] at h1
  unfold aggBad at h1
  simp only [Bool.not_eq_true', Bool.or_eq_false_iff, Bool.and_eq_false_iff, decide_eq_false_iff_not, Bool.not_eq_false', decide_eq_true_eq] at h1
  obtain ⟨⟨⟨⟨h1, h2⟩, h3⟩, h4⟩, h5⟩ := h1
  refine ⟨by omega, by omega, fun hn => ?_⟩
  rcases h4 with h4 | h4
  · exact absurd h4 hn
  · omega
end Go.Proofs.YtmconajkgjfplaaGreat
end

/- The document's Fold, in plain words. -/
section
set_option linter.unusedVariables false
set_option linter.unusedSimpArgs false
namespace Go.Proofs.YtmconajkgjfplaaGreat
open Go.RowKit
set_option linter.unusedVariables false
set_option linter.unusedSimpArgs false
/-- A telling that cannot be, its name left aside. -/
def aggOps (rc : List S) (a : Ag) : Bool := decide (a.op < 1) || decide (5 < a.op) || (decide (a.op = 1) && !decide (a.col = [])) || (!decide (a.op = 1) && decide (placeI rc a.col < 0))
theorem aggBad_split {rc cols : List S} {a : Ag} : aggBad rc cols a = (aggOps rc a || decide (0 ≤ placeI cols a.nm)) := rfl
theorem fitsB_cons {rc cols : List S} {a : Ag} {la : List Ag} : fitsB rc cols (a :: la) = (!aggBad rc cols a && fitsB rc (cols ++ [a.nm]) la) := by
  unfold fitsB
  rw [List.length_cons, List.range_succ_eq_map, List.all_cons, List.all_map]
  congr 1
  · unfold fitAt; simp
  · congr 1
    funext k
    simp [fitAt, List.append_assoc]
theorem fits_split {rc : List S} : ∀ {la : List Ag} {cols : List S}, cols.Nodup → fitsB rc cols la = ((la.all fun a => !aggOps rc a) && onceN (foldCols cols la))
  | [], cols, h => by
    have : onceN (foldCols cols []) = true := onceN_nodup.2 (by unfold foldCols; simpa using h)
    rw [this]; rfl
  | a :: la, cols, h => by
    rw [fitsB_cons, aggBad_split, List.all_cons]
    by_cases hm : a.nm ∈ cols
    · have h1 : onceN (foldCols cols (a :: la)) = false := by
        rw [Bool.eq_false_iff]
        intro h2
        have h3 := onceN_nodup.1 h2
        unfold foldCols at h3
        rw [List.nodup_append] at h3
        exact h3.2.2 a.nm hm a.nm (by simp) rfl
      rw [h1, decide_eq_true (place_mem_iff.2 hm)]
      simp
    · have hn : (cols ++ [a.nm]).Nodup := by
        rw [List.nodup_append]
        exact ⟨h, by simp, fun x hx y hy e => by rw [List.mem_singleton.1 hy] at e; exact hm (e ▸ hx)⟩
      rw [fits_split hn, decide_eq_false (fun h2 => hm (place_mem_iff.1 h2)), Bool.or_false, show foldCols (cols ++ [a.nm]) la = foldCols cols (a :: la) by unfold foldCols; simp, Bool.and_assoc]
theorem fits_right {rc cols : List S} {l : List (List V)} {la : List Ag} (h : rightB rc l cols = true) : fitsB rc cols la = ((la.all fun a => !aggOps rc a) && onceN (foldCols cols la)) := by
  refine fits_split (once_nodup ?_)
  unfold rightB at h
  simp only [Bool.and_eq_true] at h
  exact h.2
theorem group_may {rc : List S} {f : List V → List V} {l : List (List V)} {k : List V} (hm : mayRel rc l = true) : mayRel rc (withK f l k) = true := by
  refine may_of (may_once hm) ?_ (fun x hx => may_len hm x (List.mem_filter.1 hx).1) (List.Pairwise.filter _ (may_up' hm))
  have := withK_len (f := f) (l := l) (k := k)
  have := (may_many hm).1
  omega
theorem group_ne {rc cols : List S} {l : List (List V)} {k : List V} (hk : k ∈ keysL (grpK rc cols) l) : 0 < (withK (grpK rc cols) l k).length := by
  obtain ⟨x, hx, rfl⟩ := List.mem_map.1 ((canon_mem cmpR_cmp _ _).1 hk)
  exact List.length_pos_of_mem (List.mem_filter.2 ⟨hx, by rw [cmpR_self]; rfl⟩)
theorem group_key {rc cols : List S} {l : List (List V)} {k : List V} (hk : k ∈ keysL (grpK rc cols) l) : relCanon ((withK (grpK rc cols) l k).map fun x => pickL x (placesL cols rc)) = [k] := by
  refine canon_is (List.pairwise_singleton _ _) (fun z => ?_)
  rw [List.mem_singleton, List.mem_map]
  have hp := group_ne hk
  constructor
  · rintro ⟨x, hx, rfl⟩
    have := (List.mem_filter.1 hx).2
    rw [beq_iff_eq, cmpR_cmp.zero] at this
    exact this
  · rintro rfl
    refine ⟨(withK (grpK rc cols) l z)[0], List.getElem_mem hp, ?_⟩
    have := (List.mem_filter.1 (List.getElem_mem hp)).2
    rw [beq_iff_eq, cmpR_cmp.zero] at this
    exact this
theorem group_proj {rc cols : List S} {l : List (List V)} {k : List V} (hr : rightB rc l cols = true) (hk : k ∈ keysL (grpK rc cols) l) : projErr rc (withK (grpK rc cols) l k) cols = 0 := by
  unfold rightB at hr
  simp only [Bool.and_eq_true] at hr
  obtain ⟨⟨hm, hw⟩, ho⟩ := hr
  unfold projErr
  rw [group_may hm, hw, ho]
  simp only [Bool.and_self, if_true]
  refine madeErr_ok (once_len ho) ?_
  rw [group_key hk]; simp
theorem keys_le {f : List V → List V} {l : List (List V)} : (keysL f l).length ≤ l.length := by
  have h : (keysL f l).length ≤ (l.map f).length := canon_len_le _
  rw [List.length_map] at h
  exact h
theorem rows_len {rc cols : List S} {la : List Ag} {l : List (List V)} : ∀ y ∈ foldRows rc cols la l, y.length = cols.length + la.length := by
  intro y hy
  unfold foldRows at hy
  obtain ⟨k, hk, rfl⟩ := List.mem_map.1 hy
  unfold foldRow
  rw [List.length_append, List.length_map, keys_len k hk]
theorem grp_at {rc cols : List S} {l : List (List V)} {k : Nat} (h1 : k < (grpL rc l cols).length) (h2 : k < (keysL (grpK rc cols) l).length) : (grpL rc l cols)[k] = withK (grpK rc cols) l (keysL (grpK rc cols) l)[k] := by
  simp [grpL]
end Go.Proofs.YtmconajkgjfplaaGreat
end

/- What the groups of a relation are together: plain laws for FoldParts. -/
section
set_option linter.unusedVariables false
set_option linter.unusedSimpArgs false
namespace Go.Proofs.YtmconajkgjfplaaGreat
set_option linter.unusedVariables false
set_option linter.unusedSimpArgs false
theorem sum_one {α : Type} [DecidableEq α] {c : α} {g : α → Nat} : ∀ {ks : List α}, ks.Nodup → c ∈ ks → (ks.map fun k => (if c = k then 1 else 0) + g k).sum = 1 + (ks.map g).sum
  | [], _, h => by cases h
  | k :: r, hn, hc => by
    rw [List.nodup_cons] at hn
    rw [List.map_cons, List.map_cons, List.sum_cons, List.sum_cons]
    by_cases e : c = k
    · subst e
      rw [if_pos rfl]
      have : (r.map fun k => (if c = k then 1 else 0) + g k) = r.map g := by
        rw [List.map_inj_left]
        intro x hx
        rw [if_neg (fun (e : c = x) => hn.1 (by rw [e]; exact hx))]
        omega
      rw [this]; omega
    · rw [if_neg e, sum_one hn.2 (by rcases List.mem_cons.1 hc with h | h; exact absurd h e; exact h)]
      omega
theorem withK_cons {f : List V → List V} {a : List V} {r : List (List V)} {k : List V} : (withK f (a :: r) k).length = (if f a = k then 1 else 0) + (withK f r k).length := by
  unfold withK
  rw [List.filter_cons]
  by_cases e : f a = k
  · rw [if_pos e, e, cmpR_self]; simp; omega
  · rw [if_neg e]
    have : (cmpR (f a) k == 0) = false := by
      rw [Bool.eq_false_iff]
      intro h
      rw [beq_iff_eq, cmpR_cmp.zero] at h
      exact e h
    rw [this]; simp
theorem zero_sum {α : Type} : ∀ (ks : List α), (ks.map fun _ => 0).sum = 0
  | [] => rfl
  | a :: r => by rw [List.map_cons, List.sum_cons, zero_sum r]
theorem grpsum_len {f : List V → List V} : ∀ (l ks : List (List V)), ks.Nodup → (∀ x ∈ l, f x ∈ ks) → (ks.map fun k => (withK f l k).length).sum = l.length
  | [], ks, _, _ => by
    have : (ks.map fun k => (withK f [] k).length) = ks.map fun _ => 0 := by rw [List.map_inj_left]; intro x _; rfl
    rw [this]
    exact zero_sum ks
  | a :: r, ks, hn, h => by
    have : (ks.map fun k => (withK f (a :: r) k).length) = ks.map fun k => (if f a = k then 1 else 0) + (withK f r k).length := by
      rw [List.map_inj_left]; intro x _; exact withK_cons
    rw [this, sum_one hn (h a (List.mem_cons_self ..)), grpsum_len r ks hn (fun x hx => h x (List.mem_cons_of_mem _ hx)), List.length_cons]
    omega
theorem keys_nodup {f : List V → List V} {l : List (List V)} : (keysL f l).Nodup := by
  have h : Up cmpR (keysL f l) := canon_up cmpR_cmp _
  refine List.Pairwise.imp (fun {a b} h e => ?_) h
  subst e
  rw [cmpR_self] at h
  omega
theorem keys_mem {f : List V → List V} {l : List (List V)} {x : List V} (h : x ∈ l) : f x ∈ keysL f l := (canon_mem cmpR_cmp _ _).2 (List.mem_map_of_mem h)
/-- The groups are as many rows as there are. -/
theorem grp_sum {rc cols : List S} {l : List (List V)} : ((grpL rc l cols).map List.length).sum = l.length := by
  unfold grpL
  rw [List.map_map]
  exact grpsum_len l _ keys_nodup (fun x hx => keys_mem hx)
/-- All groups put together are the relation. -/
theorem grp_union {rc cols : List S} {l : List (List V)} (hm : mayRel rc l = true) : relCanon (grpL rc l cols).flatten = l := by
  refine canon_is (may_up' hm) (fun z => ?_)
  rw [List.mem_flatten]
  unfold grpL
  constructor
  · rintro ⟨g, hg, hz⟩
    obtain ⟨k, -, rfl⟩ := List.mem_map.1 hg
    exact (List.mem_filter.1 hz).1
  · intro hz
    exact ⟨_, List.mem_map_of_mem (keys_mem hz), List.mem_filter.2 ⟨hz, by rw [cmpR_self]; rfl⟩⟩
theorem union_step {G : List (List (List V))} {k : Nat} (hk : k < G.length) : relCanon (relCanon (G.take k).flatten ++ G[k]) = relCanon (G.take (k + 1)).flatten := by
  refine canon_one cmpR_cmp (fun z => ?_)
  rw [List.take_succ_eq_append_getElem hk, List.flatten_append, List.mem_append, List.mem_append]
  unfold relCanon
  rw [canon_mem cmpR_cmp]
  simp
end Go.Proofs.YtmconajkgjfplaaGreat
end

/- A relation told whole by count, least and greatest: plain laws for FoldParts. -/
section
set_option linter.unusedVariables false
set_option linter.unusedSimpArgs false
namespace Go.Proofs.YtmconajkgjfplaaGreat
set_option linter.unusedVariables false
set_option linter.unusedSimpArgs false
def partLa (c0 : S) : List Ag := [⟨1, [], [99]⟩, ⟨4, c0, [108]⟩, ⟨5, c0, [103]⟩]
theorem right_nil {rc : List S} {l : List (List V)} (hm : mayRel rc l = true) : rightB rc l [] = true := by
  unfold rightB
  rw [hm]; rfl
theorem part_fits {rc : List S} {l : List (List V)} {c0 : S} (hm : mayRel rc l = true) (hc : c0 ∈ rc) : fitsB rc [] (partLa c0) = true := by
  have hp := place_mem_iff.2 hc
  rw [fits_right (right_nil hm), Bool.and_eq_true]
  refine ⟨?_, by show onceN [[99], [108], [103]] = true; decide +kernel⟩
  have h : ¬ placeI rc c0 < 0 := by omega
  simp [partLa, aggOps, h]
theorem key_nil {rc : List S} {x : List V} : grpK rc [] x = [] := rfl
theorem part_keys {rc : List S} {l : List (List V)} (h : 0 < l.length) : keysL (grpK rc []) l = [[]] := by
  refine canon_is (List.pairwise_singleton _ _) (fun z => ?_)
  rw [List.mem_singleton, List.mem_map]
  constructor
  · rintro ⟨x, -, rfl⟩; rfl
  · rintro rfl; exact ⟨l[0], List.getElem_mem h, rfl⟩
theorem part_group {rc : List S} {l : List (List V)} : withK (grpK rc []) l [] = l := by
  unfold withK
  rw [List.filter_eq_self]
  intro a _
  rw [key_nil, cmpR_self]; rfl
theorem part_rows {rc : List S} {l : List (List V)} {c0 : S} (h : 0 < l.length) : foldRows rc [] (partLa c0) l = [[.num (l.length : Int), leastV (colL rc c0 l), greatV (colL rc c0 l)]] := by
  unfold foldRows
  rw [part_keys h, List.map_cons, List.map_nil, part_group]
  rfl
theorem part_none {rc : List S} {c0 : S} : foldRows rc [] (partLa c0) [] = [] := rfl
theorem part_ok {rc : List S} {l : List (List V)} {c0 : S} : foldOk rc [] (partLa c0) l = true := by
  refine fold_good (fun k _ a ha => ?_)
  unfold errG
  refine tell_err ?_
  simp only [partLa, List.mem_cons, List.not_mem_nil, or_false] at ha
  rcases ha with rfl | rfl | rfl
  · exact (by decide : (1 : Int) ≠ 3)
  · exact (by decide : (4 : Int) ≠ 3)
  · exact (by decide : (5 : Int) ≠ 3)
theorem part_fit {rc : List S} {l : List (List V)} {c0 : S} : ofErr (foldCols [] (partLa c0)) (foldRows rc [] (partLa c0) l) = 0 := by
  have h1 : fitB (foldCols [] (partLa c0)) (foldRows rc [] (partLa c0) l) = true := by
    unfold fitB
    rw [Bool.and_eq_true]
    refine ⟨by show onceB [[99], [108], [103]] = true; decide +kernel, ?_⟩
    rw [Bool.not_eq_true', List.any_eq_false]
    intro x hx
    rw [rows_len x hx]
    simp [foldCols]
  have h2 : (relCanon (foldRows rc [] (partLa c0) l)).length ≤ 1 := by
    refine Nat.le_trans (canon_len_le _) ?_
    cases l with
    | nil => rw [part_none]; simp
    | cons a r => rw [part_rows (by simp)]; simp
  unfold ofErr
  rw [h1, if_pos rfl, if_neg (by omega)]
theorem part_err {rc : List S} {l : List (List V)} {c0 : S} (hm : mayRel rc l = true) (hc : c0 ∈ rc) : foldErr rc [] (partLa c0) l = 0 := by
  unfold foldErr
  rw [right_nil hm, part_fits hm hc, part_ok, part_fit]
  rfl
theorem leastV_mem {vs : List V} (h : 0 < vs.length) : leastV vs ∈ vs := by
  unfold leastV
  refine (canon_mem cmpV_cmp vs _).1 ?_
  have := sortV_ne h
  show (sortV vs).headD default ∈ sortV vs
  cases hs : sortV vs with
  | nil => rw [hs] at this; cases this
  | cons a r => exact List.mem_cons_self ..
theorem greatV_mem {vs : List V} (h : 0 < vs.length) : greatV vs ∈ vs := by
  unfold greatV
  refine (canon_mem cmpV_cmp vs _).1 ?_
  have hp := sortV_ne h
  show (sortV vs).getLastD default ∈ sortV vs
  rw [List.getLastD_eq_getLast?]
  cases hs : (sortV vs).getLast? with
  | none => rw [List.getLast?_eq_none_iff] at hs; rw [hs] at hp; cases hp
  | some a => exact List.mem_of_getLast? hs
theorem leastV_le {vs : List V} {x : V} (hx : x ∈ vs) : 0 ≤ cmpV x (leastV vs) := by
  have hu : Up cmpV (sortV vs) := canon_up cmpV_cmp vs
  have hm : x ∈ sortV vs := (canon_mem cmpV_cmp vs x).2 hx
  unfold leastV
  cases hs : sortV vs with
  | nil => rw [hs] at hm; cases hm
  | cons a r =>
    rw [hs] at hu hm
    rcases List.mem_cons.1 hm with rfl | h
    · rw [List.headD_cons, cmpV_cmp.self]; exact Int.le_refl _
    · have h1 := (List.pairwise_cons.1 hu).1 x h
      rw [List.headD_cons, cmpV_cmp.anti]
      omega
theorem greatV_ge {vs : List V} {x : V} (hx : x ∈ vs) : cmpV x (greatV vs) ≤ 0 := by
  have hu : Up cmpV (sortV vs) := canon_up cmpV_cmp vs
  have hm : x ∈ sortV vs := (canon_mem cmpV_cmp vs x).2 hx
  unfold greatV
  obtain ⟨i, hi, rfl⟩ := List.getElem_of_mem hm
  have hl : (sortV vs).length - 1 < (sortV vs).length := by omega
  rw [List.getLastD_eq_getLast?, List.getLast?_eq_getElem?, List.getElem?_eq_getElem hl, Option.getD_some]
  by_cases e : i = (sortV vs).length - 1
  · subst e
    rw [cmpV_cmp.self]; exact Int.le_refl _
  · have := (List.pairwise_iff_getElem.1 hu) i _ hi hl (by omega)
    omega
end Go.Proofs.YtmconajkgjfplaaGreat
end

/- fold.Fold. (Printed by fldz.py.) -/
section
set_option linter.unusedVariables false
set_option linter.unusedSimpArgs false
namespace Go.Proofs.YtmconajkgjfplaaGreat
open Go.RowKit Go.Shelf
set_option linter.unusedVariables false
set_option linter.unusedSimpArgs false
attribute [local go_sem] Oper.semAt_some
theorem OwnR.onlyLow {A : Nat → Prop} {lo : Nat} {w w' : World} {v : Value} {hs : List Value} {xs : List (List V)} (h : OwnR lo w v hs xs) (hO : Only A w w') (hA : ∀ b, A b → b < lo) : OwnR lo w' v hs xs :=
  ⟨Own.same h.own (fun g e => hO.block g (Own.lt h.own g e).2 (fun hz => by have := hA g hz; have := (Own.lt h.own g e).1; omega)), h.len, fun i hi hi2 => Own.same (h.row i hi hi2) (fun g e => hO.block g (Own.lt (h.row i hi hi2) g e).2 (fun hz => by have := hA g hz; have := (Own.lt (h.row i hi hi2) g e).1; omega)), h.apart⟩
theorem OwnR.onlyOut {A : Nat → Prop} {lo : Nat} {w w' : World} {v : Value} {hs : List Value} {xs : List (List V)} (h : OwnR lo w v hs xs) (hO : Only A w w') (hA : ∀ b, A b → b < lo ∨ w.heap.size ≤ b) : OwnR lo w' v hs xs :=
  ⟨Own.same h.own (fun g e => hO.block g (Own.lt h.own g e).2 (fun hz => by have := hA g hz; have := Own.lt h.own g e; omega)), h.len, fun i hi hi2 => Own.same (h.row i hi hi2) (fun g e => hO.block g (Own.lt (h.row i hi hi2) g e).2 (fun hz => by have := hA g hz; have := Own.lt (h.row i hi hi2) g e; omega)), h.apart⟩
theorem Own.onlyLow {α : Type} {enc : α → List Value} {e : TypeId} {size : Nat} {A : Nat → Prop} {lo : Nat} {w w' : World} {v : Value} {xs : List α} (h : Own enc e size lo w v xs) (hO : Only A w w') (hA : ∀ b, A b → b < lo) : Own enc e size lo w' v xs :=
  Own.same h (fun g e => hO.block g (Own.lt h g e).2 (fun hz => by have := hA g hz; have := (Own.lt h g e).1; omega))
/-- The end of Fold: its result cells are written; the marks are taken, the cells read. -/
theorem fdLeave {n : Nat} {fn : Func} {tmps : Array Value} {w w7 : World} {b6 b7 lo : Nat} {cv lv : Value} {cols : List S} {rs : List (List V)} {hs : List Value} {err : Int} {Ds : List Nat} {R : Ending → World → Prop} (hfn : fn.results = #[.cell 6 25, .cell 7 29])
    (ht6 : tmps.getD 6 undef = .pointer (some ⟨b6, 0, none⟩)) (ht7 : tmps.getD 7 undef = .pointer (some ⟨b7, 0, none⟩)) (hb6 : Blk w7 b6 [cv, lv] 25) (hb7 : Blk w7 b7 [.int .i64 err] 29) (hB : Below w.heap.size w w7)
    (hT : OwnT lo w7 cv cols) (hL : OwnR lo w7 lv hs rs) (hlo : w.heap.size ≤ lo) (hnd : Ds.Nodup) (hds : ∀ D ∈ Ds, w.heap.size ≤ D ∧ D < lo ∧ w7.heap[D]? = some (.deferred (some [])))
    (hRR : ∀ w', Below w.heap.size w w' → OwnT w.heap.size w' cv cols → OwnR w.heap.size w' lv hs rs → R (.returned (.tuple #[.agg #[cv, lv], .int .i64 err])) w') :
    LeavesInM Fence.wide n Tryz.prog fn tmps R (Ds.map markD) .returning w7 := by
  refine marks_leave Ds w7 hnd (fun D hD => (hds D hD).2.2) (fun w' ho => ?_)
  have hA : ∀ D, D ∈ Ds → ∃ o, w7.heap[D]? = some o ∧ o.isCells = false := fun D hD => ⟨_, (hds D hD).2.2, rfl⟩
  exact ⟨_, results_cells hfn ht6 ht7 ((hb6.turns hA ho).cells.runVar (fun _ => by kernel_rfl) (fun _ => by kernel_rfl)) ((hb7.turns hA ho).cells.runVar1 (fun _ => by kernel_rfl)),
    hRR w' (hB.trans (ho.below hB.size (fun D hD => (hds D hD).1))) (Own.lower (Own.onlyLow hT ho (fun D hD => (hds D hD).2.1)) hlo) ((hL.onlyLow ho (fun D hD => (hds D hD).2.1)).lower hlo)⟩
theorem fdTail {n : Nat} {fn : Func} {tmps : Array Value} {w w5 : World} {b6 b7 lo : Nat} {cv lv x0 x1 y0 : Value} {cols : List S} {rs : List (List V)} {hs : List Value} {err : Int} {Ds : List Nat} {R : Ending → World → Prop} (hfn : fn.results = #[.cell 6 25, .cell 7 29])
    (ht6 : tmps.getD 6 undef = .pointer (some ⟨b6, 0, none⟩)) (ht7 : tmps.getD 7 undef = .pointer (some ⟨b7, 0, none⟩)) (hb6 : Blk w5 b6 [x0, x1] 25) (hb7 : Blk w5 b7 [y0] 29) (h67 : b6 ≠ b7) (hlo6 : w.heap.size ≤ b6) (hlo7 : w.heap.size ≤ b7) (hB : Below w.heap.size w w5)
    (hT : OwnT lo w5 cv cols) (hL : OwnR lo w5 lv hs rs) (h6 : b6 < lo) (h7 : b7 < lo) (hlo : w.heap.size ≤ lo) (hnd : Ds.Nodup) (hds : ∀ D ∈ Ds, w.heap.size ≤ D ∧ D < lo ∧ w5.heap[D]? = some (.deferred (some [])))
    (hRR : ∀ w', Below w.heap.size w w' → OwnT w.heap.size w' cv cols → OwnR w.heap.size w' lv hs rs → R (.returned (.tuple #[.agg #[cv, lv], .int .i64 err])) w') :
    LeavesInM Fence.wide n Tryz.prog fn tmps R (Ds.map markD) .returning (((w5.setCell ⟨b6, 0, none⟩ cv).setCell ⟨b6, 1, none⟩ lv).setCell ⟨b7, 0, none⟩ (.int .i64 err)) := by
  have hO : Only (fun z => z = b6 ∨ z = b7) w5 (((w5.setCell ⟨b6, 0, none⟩ cv).setCell ⟨b6, 1, none⟩ lv).setCell ⟨b7, 0, none⟩ (.int .i64 err)) :=
    ((Only.setCell (A := fun z => z = b6 ∨ z = b7) w5 (p := ⟨b6, 0, none⟩) (.inl rfl) cv).trans (Only.setCell _ (p := ⟨b6, 1, none⟩) (.inl rfl) lv)).trans (Only.setCell _ (p := ⟨b7, 0, none⟩) (.inr rfl) (.int .i64 err))
  have k6 : Blk (((w5.setCell ⟨b6, 0, none⟩ cv).setCell ⟨b6, 1, none⟩ lv).setCell ⟨b7, 0, none⟩ (.int .i64 err)) b6 [cv, lv] 25 := ((hb6.set 0 cv).set 1 lv).other h67 _
  have k7 : Blk (((w5.setCell ⟨b6, 0, none⟩ cv).setCell ⟨b6, 1, none⟩ lv).setCell ⟨b7, 0, none⟩ (.int .i64 err)) b7 [.int .i64 err] 29 := ((hb7.other (p := ⟨b6, 0, none⟩) (Ne.symm h67) cv).other (p := ⟨b6, 1, none⟩) (Ne.symm h67) lv).set 0 (.int .i64 err)
  have hA : ∀ b, (fun z => z = b6 ∨ z = b7) b → b < lo := fun b hb => by rcases hb with rfl | rfl <;> assumption
  refine fdLeave hfn ht6 ht7 k6 k7 (hB.trans (hO.below hB.size (fun b hb => by rcases hb with rfl | rfl <;> assumption))) (Own.onlyLow hT hO hA) (hL.onlyLow hO hA) hlo hnd (fun D hD => ?_) hRR
  obtain ⟨q1, q2, q3⟩ := hds D hD
  refine ⟨q1, q2, (hO.block D (heap_lt q3) (fun hz => ?_)).trans q3⟩
  rcases hz with rfl | rfl
  · unfold Blk at hb6; rw [hb6] at q3; cases q3
  · unfold Blk at hb7; rw [hb7] at q3; cases q3
/-- What the rounds of Fold keep. -/
structure FdJ (L D bo : Nat) (W5 : World) (rc : Obj) (T : List (List V)) (G : Nat → Prop) (k g : Nat) (W : World) : Prop where
  lp : W.heap[L]? = some rc
  df : W.heap[D]? = some (.deferred (some []))
  on : Only (fun z => z = bo ∨ z = L) W5 W
  ge : W5.heap.size ≤ g
  out : ∃ v hs, Blk W bo [v] 23 ∧ OwnR W5.heap.size W v hs (T.take k) ∧ v.ownBlock ≠ some g
  good : ∀ j, j < k → G j
/-- What is left where a telling fails. -/
def FdZ (N : Prop) (L D b6 b7 : Nat) (w : World) (rc : Obj) (W : World) : Prop := N ∧ W.heap[L]? = some rc ∧ W.heap[D]? = some (.deferred (some [])) ∧ Below w.heap.size w W ∧ Blk W b6 [.slice none 0 0, .slice none 0 0] 25 ∧ Blk W b7 [.int .i64 160] 29
set_option maxRecDepth 1000000 in
set_option maxHeartbeats 16000000 in
theorem Fold_any (lo hi lc hc l2 h2 l3 h3 : Nat) (rc : List S) (ac : Option Addr) (cc : Nat) (l : List (List V)) (lv : Value) (cols : List S) (cv : Value) (la : List Ag) (lav : Value) (w : World) (hrc : Strs lc hc w (.slice ac rc.length cc) rc) (hhc : hc ≤ w.heap.size) (hv : Rws lo hi w lv l) (hhi : hi ≤ w.heap.size) (hcols : Strs l2 h2 w cv cols) (hh2 : h2 ≤ w.heap.size) (hla : Ags l3 h3 w lav la) (hh3 : h3 ≤ w.heap.size) (hlen : cols.length ≤ 1000000000) (hll : la.length ≤ 1000000000) (hl1 : l.length ≤ 1000) (hok : ∀ x ∈ l, ∀ a ∈ x, a.ok) (R : Ending → World → Prop)
    (hR : ∀ w' cv' lv' hs', Below w.heap.size w w' → OwnT w.heap.size w' cv' (okL (foldErr rc cols la l) (foldCols cols la)) → OwnR w.heap.size w' lv' hs' (okL (foldErr rc cols la l) (relCanon (foldRows rc cols la l))) → R (.returned (.tuple #[.agg #[cv', lv'], .int .i64 (foldErr rc cols la l)])) w') :
    Calls Tryz.prog 12 #[.agg #[.slice ac rc.length cc, lv], cv, lav] w R := by
  have HR := Lib.hid hR
  have Hv := Lib.hid hv
  have Hrc := Lib.hid hrc
  have Ho := Lib.hid hcols
  have Hla := Lib.hid hla
  have Hok := Lib.hid hok
  obtain ⟨av, av2, rfl, -, -, -, -⟩ := hv.form
  obtain ⟨ak, ck, rfl, -, -, -, -⟩ := hcols.form
  obtain ⟨al, cl, rfl, -, -, -, -⟩ := hla.form
  have hrl63 := hrc.len
  clear hR hv hrc hcols hla hok
  obtain ⟨wa, ewa⟩ : ∃ x, x = w.alloc (.cells #[.slice ac rc.length cc, .slice av l.length av2] 25) := ⟨_, rfl⟩
  obtain ⟨wb, ewb⟩ : ∃ x, x = wa.alloc (.cells #[.slice al la.length cl] 42) := ⟨_, rfl⟩
  obtain ⟨wc, ewc⟩ : ∃ x, x = wb.alloc (.cells #[.slice none 0 0, .slice none 0 0] 25) := ⟨_, rfl⟩
  obtain ⟨w2, ew2⟩ : ∃ x, x = wc.alloc (.cells #[.int .i64 0] 29) := ⟨_, rfl⟩
  have sa : wa.heap.size = w.heap.size + 1 := by rw [ewa]; simp
  have sb : wb.heap.size = w.heap.size + 1 + 1 := by rw [ewb]; simp [sa]
  have sc : wc.heap.size = w.heap.size + 1 + 1 + 1 := by rw [ewc]; simp [sb]
  have hBa : Below w.heap.size w wa := by rw [ewa]; exact alloc_below _ _
  have hBb : Below wa.heap.size wa wb := by rw [ewb]; exact alloc_below _ _
  have hBc : Below wb.heap.size wb wc := by rw [ewc]; exact alloc_below _ _
  have hBd : Below wc.heap.size wc w2 := by rw [ew2]; exact alloc_below _ _
  have hb0 : Blk wa w.heap.size [.slice ac rc.length cc, .slice av l.length av2] 25 := by rw [ewa]; exact Blk.new w [.slice ac rc.length cc, .slice av l.length av2] _ rfl
  have hb1 : Blk wb (w.heap.size + 1) [.slice al la.length cl] 42 := by rw [ewb]; exact Blk.new wa [.slice al la.length cl] _ sa.symm
  have hb6 : Blk wc (w.heap.size + 1 + 1) [.slice none 0 0, .slice none 0 0] 25 := by rw [ewc]; exact Blk.new wb [.slice none 0 0, .slice none 0 0] _ sb.symm
  have hb7 : Blk w2 (w.heap.size + 1 + 1 + 1) [.int .i64 0] 29 := by rw [ew2]; exact Blk.new wc [.int .i64 0] _ sc.symm
  have hBcd := hBc.trans (hBd.mono hBc.size)
  have hBbcd := hBb.trans (hBcd.mono hBb.size)
  have hb0 := hb0.below hBbcd hb0.lt
  have hb1 := hb1.below hBcd hb1.lt
  have hb6 := hb6.below hBd hb6.lt
  have hB := hBa.trans (hBbcd.mono hBa.size)
  refine (callsIn_wide (n := 3)).1 (callsIn_of_wp_marks Tryz.func12 rfl trivial ?_ rfl)
  refine wpIn_wide.2 ?_
  simp only [Tryz.ntmps12, List.size_toArray, List.length_cons, Nat.reduceAdd, Nat.reduceSub, Array.replicate_succ, Array.replicate_zero, List.push_toArray, List.append_toArray, List.nil_append, List.cons_append, List.length_nil]
  go_upto_region 1 with fail
  rw [← ewa, ← ewb, ← ewc, ← ew2]
  clear ewa ewb ewc ew2 hBa hBb hBc hBd hBcd hBbcd sa sb sc
  have HB := Lib.hid hB
  have Hb0 := Lib.hid hb0
  have Hb1 := Lib.hid hb1
  have Hb6 := Lib.hid hb6
  have Hb7 := Lib.hid hb7
  have hz2 := hB.size
  have hl7 := hb7.lt
  obtain ⟨c0, c1⟩ := hb0.cells.c2
  simp only [Nat.zero_add] at c1
  clear hb0 hb1 hb6 hb7 hB
  go_wp2_with fail
  refine fplaces_any lo hi lc hc l2 h2 rc _ _ l _ cols _ w2 (Sl.below Hrc.out Strs.loc HB.out hhc) (by omega) (Sl.below Hv.out rowE_loc HB.out hhi) (by omega) (Sl.below Ho.out Strs.loc HB.out hh2) (by omega) (by omega) _ (fun hno x3 hB3 => ?_) (fun hyes x3 v3 hB3 ho3 => ?_)
  · have hz3 := hB3.size
    have HB3 := Lib.hid (HB.out.trans (hB3.mono hz2))
    have Hb03 := Lib.hid (Hb0.out.below hB3 (by omega))
    have Hb13 := Lib.hid (Hb1.out.below hB3 (by omega))
    have Hb63 := Lib.hid (Hb6.out.below hB3 (by omega))
    have Hb73 := Lib.hid (Hb7.out.below hB3 hl7)
    have he : foldErr rc cols la l = 2 := by unfold foldErr; rw [hno]; rfl
    have HR2 := HR.out
    rw [he] at HR2
    clear he hno hB3 c0 c1 Hb0 Hb1 Hb6 Hb7
    obtain ⟨c0, c1⟩ := Hb03.out.cells.c2
    simp only [Nat.zero_add] at c1
    have c2 := Hb13.out.cells.c1
    have HR2' := Lib.hid HR2
    clear HR2
    go_wp2_with fail
    refine fright_any lc hc l2 h2 l3 h3 rc _ _ _ _ _ cols _ la _ x3 (Sl.below Hrc.out Strs.loc HB3.out hhc) (by omega) (Sl.below Ho.out Strs.loc HB3.out hh2) (by omega) (Sl.below Hla.out Ags.loc HB3.out hh3) (by omega) (by omega) (by omega) _ (fun _ x4 hB4 => ?_) (fun _ x4 tv iv hB4 hot hoi => ?_)
    · have hz4 := hB4.size
      have HBx4 := Lib.hid (HB3.out.trans (hB4.mono (by omega)))
      have hBx := alloc_below x4 (.cells #[.slice none 0 0] 58)
      have hB45 := hB4.trans (hBx.mono hz4)
      go_upto_region 3 with fail
      generalize x4.alloc (.cells #[.slice none 0 0] 58) = x5 at *
      have hz5 := hBx.size
      have HB5 := Lib.hid (HB3.out.trans (hB45.mono (by omega)))
      have Hb65 := Lib.hid (Hb63.out.below hB45 (by omega))
      have Hb75 := Lib.hid (Hb73.out.below hB45 (by omega))
      have HR2 := HR2'.out
      clear hBx hB45 hB4 c0 c1 c2
      have d6 := Hb65.out
      have d7 := Hb75.out
      obtain ⟨e0, e1⟩ := d6.cells.c2
      simp only [Nat.zero_add] at e1
      have e2 := d7.cells.c1
      have f0 := d6.free 0
      have f1 := d6.free 1
      have f2 := d7.free 0
      have HT := Lib.hid (fun (fn : Func) (tmps : Array Value) hfn ht6 ht7 => fdTail (n := 3) (fn := fn) (tmps := tmps) (R := R) (lo := x5.heap.size) (cv := .slice none 0 0) (lv := .slice none 0 0) (cols := []) (rs := []) (hs := []) (err := 2) (Ds := []) hfn ht6 ht7 d6 d7 (by omega) (by omega) (by omega) HB5.out (Own.nil _ _ _ _ _) (OwnR.nil _ _) (by omega) (by omega) (by omega) List.nodup_nil (fun D hD => by cases hD) (fun w' hB' hT' hR' => HR2 w' _ _ _ hB' (by rw [okL_no (by omega)]; exact hT') (by rw [okL_no (by omega)]; exact hR')))
      clear d6 d7 HR2
      go_wp2_with fail
      exact HT.out _ _ rfl rfl rfl
    · obtain ⟨pt, qt, rfl⟩ := Own.slice hot
      obtain ⟨pi, qi, rfl⟩ := Own.slice hoi
      clear hot hoi
      generalize (cols ++ la.map Ag.nm).length = nt at *
      generalize (la.map fun a => placeI rc a.col).length = ni at *
      have hz4 := hB4.size
      have HBx4 := Lib.hid (HB3.out.trans (hB4.mono (by omega)))
      have hBx := alloc_below x4 (.cells #[.slice pi ni qi] 58)
      have hB45 := hB4.trans (hBx.mono hz4)
      go_upto_region 3 with fail
      generalize x4.alloc (.cells #[.slice pi ni qi] 58) = x5 at *
      have hz5 := hBx.size
      have HB5 := Lib.hid (HB3.out.trans (hB45.mono (by omega)))
      have Hb65 := Lib.hid (Hb63.out.below hB45 (by omega))
      have Hb75 := Lib.hid (Hb73.out.below hB45 (by omega))
      have HR2 := HR2'.out
      clear hBx hB45 hB4 c0 c1 c2
      have d6 := Hb65.out
      have d7 := Hb75.out
      obtain ⟨e0, e1⟩ := d6.cells.c2
      simp only [Nat.zero_add] at e1
      have e2 := d7.cells.c1
      have f0 := d6.free 0
      have f1 := d6.free 1
      have f2 := d7.free 0
      have HT := Lib.hid (fun (fn : Func) (tmps : Array Value) hfn ht6 ht7 => fdTail (n := 3) (fn := fn) (tmps := tmps) (R := R) (lo := x5.heap.size) (cv := .slice none 0 0) (lv := .slice none 0 0) (cols := []) (rs := []) (hs := []) (err := 2) (Ds := []) hfn ht6 ht7 d6 d7 (by omega) (by omega) (by omega) HB5.out (Own.nil _ _ _ _ _) (OwnR.nil _ _) (by omega) (by omega) (by omega) List.nodup_nil (fun D hD => by cases hD) (fun w' hB' hT' hR' => HR2 w' _ _ _ hB' (by rw [okL_no (by omega)]; exact hT') (by rw [okL_no (by omega)]; exact hR')))
      clear d6 d7 HR2
      go_wp2_with fail
      exact HT.out _ _ rfl rfl rfl
  have hm : mayRel rc l = true := by
    unfold rightB at hyes
    simp only [Bool.and_eq_true] at hyes
    exact hyes.1.1
  have hwi : withinB cols rc = true := by
    unfold rightB at hyes
    simp only [Bool.and_eq_true] at hyes
    exact hyes.1.2
  have Hyes := Lib.hid hyes
  have Hm := Lib.hid hm
  have hml := may_many hm
  have HokA : Hid (∀ x ∈ l, AtOk x.length (placesL cols rc)) := Lib.hid (fun x hx => by rw [may_len hm x hx]; exact places_ok hwi)
  have hcl : cols.length ≤ 32 := once_len (by unfold rightB at hyes; simp only [Bool.and_eq_true] at hyes; exact hyes.2)
  have hpl : (placesL cols rc).length = cols.length := by unfold placesL; simp
  generalize hat : placesL cols rc = at' at *
  have Hat := Lib.hid hat
  have hal : at'.length ≤ 1000000000000 := by omega
  clear hat hpl
  obtain ⟨p3, q3, rfl⟩ := Own.slice ho3
  have hz3 := hB3.size
  have HB3 := Lib.hid (HB.out.trans (hB3.mono hz2))
  have Hi3 := Lib.hid (OwnI.sl ho3)
  have Hb03 := Lib.hid (Hb0.out.below hB3 (by omega))
  have Hb13 := Lib.hid (Hb1.out.below hB3 (by omega))
  have Hb63 := Lib.hid (Hb6.out.below hB3 (by omega))
  have Hb73 := Lib.hid (Hb7.out.below hB3 hl7)
  clear hyes hm hwi ho3 hB3 Hb0 Hb1 Hb6 Hb7 c0 c1
  obtain ⟨c0, c1⟩ := Hb03.out.cells.c2
  simp only [Nat.zero_add] at c1
  have c2 := Hb13.out.cells.c1
  go_wp2_with fail
  refine fright_any lc hc l2 h2 l3 h3 rc _ _ _ _ _ cols _ la _ x3 (Sl.below Hrc.out Strs.loc HB3.out hhc) (by omega) (Sl.below Ho.out Strs.loc HB3.out hh2) (by omega) (Sl.below Hla.out Ags.loc HB3.out hh3) (by omega) (by omega) (by omega) _ (fun hno x4 hB4 => ?_) (fun hfi x4 tv iv hB4 hot hoi => ?_)
  · have he : foldErr rc cols la l = 2 := by unfold foldErr; rw [hno, Bool.and_false]; rfl
    have HR2 := HR.out
    rw [he] at HR2
    have HR2' := Lib.hid HR2
    clear he HR2
    have hz4 := hB4.size
    have HBx4 := Lib.hid (HB3.out.trans (hB4.mono (by omega)))
    have hBx := alloc_below x4 (.cells #[.slice none 0 0] 58)
    have hB45 := hB4.trans (hBx.mono hz4)
    go_upto_region 3 with fail
    generalize x4.alloc (.cells #[.slice none 0 0] 58) = x5 at *
    have hz5 := hBx.size
    have HB5 := Lib.hid (HB3.out.trans (hB45.mono (by omega)))
    have Hb65 := Lib.hid (Hb63.out.below hB45 (by omega))
    have Hb75 := Lib.hid (Hb73.out.below hB45 (by omega))
    have HR2 := HR2'.out
    clear hBx hB45 hB4 c0 c1 c2
    have d6 := Hb65.out
    have d7 := Hb75.out
    obtain ⟨e0, e1⟩ := d6.cells.c2
    simp only [Nat.zero_add] at e1
    have e2 := d7.cells.c1
    have f0 := d6.free 0
    have f1 := d6.free 1
    have f2 := d7.free 0
    have HT := Lib.hid (fun (fn : Func) (tmps : Array Value) hfn ht6 ht7 => fdTail (n := 3) (fn := fn) (tmps := tmps) (R := R) (lo := x5.heap.size) (cv := .slice none 0 0) (lv := .slice none 0 0) (cols := []) (rs := []) (hs := []) (err := 2) (Ds := []) hfn ht6 ht7 d6 d7 (by omega) (by omega) (by omega) HB5.out (Own.nil _ _ _ _ _) (OwnR.nil _ _) (by omega) (by omega) (by omega) List.nodup_nil (fun D hD => by cases hD) (fun w' hB' hT' hR' => HR2 w' _ _ _ hB' (by rw [okL_no (by omega)]; exact hT') (by rw [okL_no (by omega)]; exact hR')))
    clear d6 d7 HR2
    go_wp2_with fail
    exact HT.out _ _ rfl rfl rfl
  have hln : (cols ++ la.map Ag.nm).length = cols.length + la.length := by simp
  have hli : (la.map fun a => placeI rc a.col).length = la.length := by simp
  obtain ⟨pt, qt, et⟩ := Own.slice hot
  obtain ⟨pi, qi, ei⟩ := Own.slice hoi
  rw [hln] at et
  rw [hli] at ei
  subst et ei
  have HFi := Lib.hid (fits_all hfi)
  have he0 : foldErr rc cols la l = if 32 < cols.length + la.length then 140 else if foldOk rc cols la l then ofErr (foldCols cols la) (foldRows rc cols la l) else 160 := by
    unfold foldErr; rw [Hyes.out, hfi]; rfl
  have hz4 := hB4.size
  have hBx := alloc_below x4 (.cells #[.slice pi la.length qi] 58)
  have hbx := Blk.new x4 [.slice pi la.length qi] 58 rfl
  clear hln hli
  go_upto_region 3 with fail
  generalize x4.alloc (.cells #[.slice pi la.length qi] 58) = w3 at *
  have hzx := hBx.size
  have hB34 := hB4.trans (hBx.mono hz4)
  have HB3 := Lib.hid (HB3.out.trans (hB34.mono (by omega)))
  have Hb03 := Lib.hid (Hb03.out.below hB34 (by omega))
  have Hb13 := Lib.hid (Hb13.out.below hB34 (by omega))
  have Hb63 := Lib.hid (Hb63.out.below hB34 (by omega))
  have Hb73 := Lib.hid (Hb73.out.below hB34 (by omega))
  have Hi3 := Lib.hid (Sl.below Hi3.out Ints.loc hB34 (Nat.le_refl _))
  have Ht3 := Lib.hid (Sl.below (OwnT.sl hot) Strs.loc hBx (Nat.le_refl _))
  have Hof3 := Lib.hid (Sl.below (OwnI.sl hoi) Ints.loc hBx (Nat.le_refl _))
  have Hbt3 := Lib.hid hbx
  have hl11 := hbx.lt
  clear hB4 hot hoi hBx hbx hB34 c0 c1 c2 hfi
  have He0 := Lib.hid he0
  clear he0
  by_cases h32 : 32 < cols.length + la.length
  · have he : foldErr rc cols la l = 140 := by rw [He0.out, if_pos h32]
    have HR2 := HR.out
    rw [he] at HR2
    have h32i : (32 : Int) < (cols.length + la.length : Nat) := by omega
    clear he
    generalize cols.length + la.length = nt at *
    have d6 := Hb63.out
    have d7 := Hb73.out
    obtain ⟨e0, e1⟩ := d6.cells.c2
    simp only [Nat.zero_add] at e1
    have e2 := d7.cells.c1
    have f0 := d6.free 0
    have f1 := d6.free 1
    have f2 := d7.free 0
    have HT := Lib.hid (fun (fn : Func) (tmps : Array Value) hfn ht6 ht7 => fdTail (n := 3) (fn := fn) (tmps := tmps) (R := R) (lo := w3.heap.size) (cv := .slice none 0 0) (lv := .slice none 0 0) (cols := []) (rs := []) (hs := []) (err := 140) (Ds := []) hfn ht6 ht7 d6 d7 (by omega) (by omega) (by omega) HB3.out (Own.nil _ _ _ _ _) (OwnR.nil _ _) (by omega) (by omega) (by omega) List.nodup_nil (fun D hD => by cases hD) (fun w' hB' hT' hR' => HR2 w' _ _ _ hB' (by rw [okL_no (by omega)]; exact hT') (by rw [okL_no (by omega)]; exact hR')))
    clear d6 d7 HR2
    go_wp2_with fail
    exact HT.out _ _ rfl rfl rfl
  have He1 : Hid (foldErr rc cols la l = if foldOk rc cols la l then ofErr (foldCols cols la) (foldRows rc cols la l) else 160) := Lib.hid (by rw [He0.out, if_neg h32])
  have h32i : ¬ (32 : Int) < (cols.length + la.length : Nat) := by omega
  have Hnt : Hid (cols.length + la.length = (foldCols cols la).length) := Lib.hid (by unfold foldCols; simp)
  have hntl : cols.length + la.length ≤ 32 := by omega
  rw [Hnt.out] at Ht3 h32i ⊢
  change Hid (Strs x3.heap.size x4.heap.size w3 (.slice pt (foldCols cols la).length qt) (foldCols cols la)) at Ht3
  clear He0 h32
  go_upto_region 8 with fail
  have hBa := alloc_below w3 (.cells #[.slice none 0 0] 23)
  have hba := Blk.new w3 [.slice none 0 0] 23 rfl
  generalize w3.alloc (.cells #[.slice none 0 0] 23) = w4 at *
  have hz4' := hBa.size
  have hl4 := hba.lt
  have hz3w : w.heap.size + 1 + 1 + 1 < w3.heap.size := Hb73.out.lt
  have HB4 := Lib.hid (HB3.out.trans (hBa.mono (by omega)))
  have Hb04 := Lib.hid (Hb03.out.below hBa (by omega))
  have Hb14 := Lib.hid (Hb13.out.below hBa (by omega))
  have Hb64 := Lib.hid (Hb63.out.below hBa (by omega))
  have Hb74 := Lib.hid (Hb73.out.below hBa (by omega))
  have Hi4 := Lib.hid (Sl.below Hi3.out Ints.loc hBa (by omega))
  have Ht4 := Lib.hid (Sl.below Ht3.out Strs.loc hBa (by omega))
  have Hof4 := Lib.hid (Sl.below Hof3.out Ints.loc hBa (by omega))
  have Hbt4 := Lib.hid (Hbt3.out.below hBa hl11)
  have Hbo4 := Lib.hid hba
  obtain ⟨c0, c1⟩ := Hb04.out.cells.c2
  simp only [Nat.zero_add] at c1
  clear hBa hba Hb03 Hb13 Hb63 Hb73 Hi3 Ht3 Hof3 Hbt3
  go_wp2_with fail
  refine fgroups_any ac av p3 rc.length cc l.length av2 at'.length q3 w4 _ ?_
  have hBp := alloc_below w4 (.cells #[.slice ac rc.length cc, .slice av l.length av2] 25)
  have hkp := Blk.new w4 [.slice ac rc.length cc, .slice av l.length av2] 25 rfl
  have hsp : (w4.alloc (.cells #[.slice ac rc.length cc, .slice av l.length av2] 25)).heap.size = w4.heap.size + 1 := by simp
  have hBq := alloc_below (w4.alloc (.cells #[.slice ac rc.length cc, .slice av l.length av2] 25)) (.cells #[.slice p3 at'.length q3] 58)
  have hkq := Blk.new (w4.alloc (.cells #[.slice ac rc.length cc, .slice av l.length av2] 25)) [.slice p3 at'.length q3] 58 hsp.symm
  have hkp4 := hkp.below hBq hkp.lt
  have hBw := hBp.trans (hBq.mono hBp.size)
  clear hkp hBp hBq hsp
  generalize (w4.alloc (.cells #[.slice ac rc.length cc, .slice av l.length av2] 25)).alloc (.cells #[.slice p3 at'.length q3] 58) = W4 at *
  have hzw := hBw.size
  have hkql := hkq.lt
  have hkpl := hkp4.lt
  have HBW := Lib.hid (HB4.out.trans (hBw.mono (by omega)))
  have Hkp := Lib.hid hkp4
  have Hkq := Lib.hid hkq
  have Hb0W := Lib.hid (Hb04.out.below hBw (by omega))
  have Hb1W := Lib.hid (Hb14.out.below hBw (by omega))
  have Hb6W := Lib.hid (Hb64.out.below hBw (by omega))
  have Hb7W := Lib.hid (Hb74.out.below hBw (by omega))
  have HiW := Lib.hid (Sl.below Hi4.out Ints.loc hBw (by omega))
  have HtW := Lib.hid (Sl.below Ht4.out Strs.loc hBw (by omega))
  have HofW := Lib.hid (Sl.below Hof4.out Ints.loc hBw (by omega))
  have HbtW := Lib.hid (Hbt4.out.below hBw (by omega))
  have HboW := Lib.hid (Hbo4.out.below hBw hl4)
  clear hBw hkp4 hkq c0 c1 Hb04 Hb14 Hb64 Hb74 Hi4 Ht4 Hof4 Hbt4 Hbo4
  go_wp2_with fail
  refine wp_rangeFuncR 2 (gf := 50) rfl (enters_of Tryz.func50 (by kernel_rfl) rfl) (fun fn RL hRL => ?_)
  have HRL := Lib.hid hRL
  clear hRL
  have hB5 : Below W4.heap.size W4 ((W4.alloc (.deferred (some []))).alloc (.loop (RL .ready none))) := ((Below.refl _ _).alloc (Nat.le_refl _) _).alloc (by simp) _
  have hlD : ((W4.alloc (.deferred (some []))).alloc (.loop (RL .ready none))).heap[W4.heap.size]? = some (.deferred (some [])) := (Below.heap_alloc _ _ _ (by simp)).trans (World.alloc_heap_new W4 _)
  have hlL : ((W4.alloc (.deferred (some []))).alloc (.loop (RL .ready none))).heap[W4.heap.size + 1]? = some (.loop (RL .ready none)) := by
    have := World.alloc_heap_new (W4.alloc (.deferred (some []))) (.loop (RL .ready none))
    rwa [World.size_alloc] at this
  generalize (W4.alloc (.deferred (some []))).alloc (.loop (RL .ready none)) = W5 at *
  have HBw5 := Lib.hid (HBW.out.trans (hB5.mono (by omega)))
  have hlt5 := heap_lt hlL
  have HlD := Lib.hid hlD
  have HlL := Lib.hid hlL
  have Hkp5 := Lib.hid (Hkp.out.below hB5 (by omega))
  have Hkq5 := Lib.hid (Hkq.out.below hB5 (by omega))
  have Hb15 := Lib.hid (Hb1W.out.below hB5 (by omega))
  have Hb65 := Lib.hid (Hb6W.out.below hB5 (by omega))
  have Hb75 := Lib.hid (Hb7W.out.below hB5 (by omega))
  have Hi5 := Lib.hid (Sl.below HiW.out Ints.loc hB5 (by omega))
  have Ht5 := Lib.hid (Sl.below HtW.out Strs.loc hB5 (by omega))
  have Hof5 := Lib.hid (Sl.below HofW.out Ints.loc hB5 (by omega))
  have Hbt5 := Lib.hid (HbtW.out.below hB5 (by omega))
  have Hbo5 := Lib.hid (HboW.out.below hB5 (by omega))
  have Hv5 := Lib.hid (Sl.below Hv.out rowE_loc HBw5.out hhi)
  have Hla5 := Lib.hid (Sl.below Hla.out Ags.loc HBw5.out hh3)
  clear hB5 hlD hlL Hkp Hkq Hb0W Hb1W Hb6W Hb7W HiW HtW HofW HbtW HboW
  have hf : grpK rc cols = fun x => pickL x at' := by funext x; unfold grpK; rw [Hat.out]
  obtain ⟨T, hT⟩ : ∃ T, T = (keysL (fun x => pickL x at') l).map (fun k => foldRow rc la k (withK (fun x => pickL x at') l k)) := ⟨_, rfl⟩
  have HTg : Hid (foldRows rc cols la l = T) := Lib.hid (by unfold foldRows; rw [hf, hT])
  obtain ⟨G, hG⟩ : ∃ G : Nat → Prop, G = fun j => ∀ (h : j < (keysL (fun x => pickL x at') l).length), ∀ a ∈ la, errG rc (withK (fun x => pickL x at') l (keysL (fun x => pickL x at') l)[j]) a = 0 := ⟨_, rfl⟩
  have HGood : Hid ((∀ j, j < (keysL (fun x => pickL x at') l).length → G j) → foldOk rc cols la l = true) := Lib.hid (fun h => fold_good (fun k hk a ha => by
    rw [hf] at hk ⊢
    obtain ⟨j, hj, rfl⟩ := List.getElem_of_mem hk
    have := h j hj
    rw [hG] at this
    exact this hj a ha))
  have HBadT : Hid (∀ (j : Nat) (hj : j < (keysL (fun x => pickL x at') l).length) (g : List (List V)) (a : Ag), g.Perm (withK (fun x => pickL x at') l (keysL (fun x => pickL x at') l)[j]) → a ∈ la → errG rc g a ≠ 0 → foldOk rc cols la l = false) := Lib.hid (fun j hj g a hg ha he => by
    refine fold_bad (k := (keysL (fun x => pickL x at') l)[j]) (by rw [hf]; exact List.getElem_mem hj) (by rw [hf]; exact hg) ha he)
  have HT := Lib.hid hT
  have HG := Lib.hid hG
  clear hf hT hG
  have HJF : Hid (∀ k g W, FdJ (W4.heap.size + 1) W4.heap.size w3.heap.size W5 (.loop (RL .ready none)) T G k g W → Agree 0 w3.heap.size W5 W ∧ Agree w4.heap.size W4.heap.size W5 W ∧ W5.heap.size ≤ W.heap.size) := Lib.hid (fun k g W h => ⟨h.on.agree (by omega) (fun z hz => by rcases hz with rfl | rfl <;> omega), h.on.agree (by omega) (fun z hz => by rcases hz with rfl | rfl <;> omega), h.on.size⟩)
  refine (groups1_any lo hi w2.heap.size x3.heap.size w4.heap.size (w4.heap.size + 1) (W4.heap.size + 1) 1 l at' (.slice ac rc.length cc) (.slice av l.length av2) (.slice p3 at'.length q3) (FdJ (W4.heap.size + 1) W4.heap.size w3.heap.size W5 (.loop (RL .ready none)) T G) (FdZ (foldOk rc cols la l = false) (W4.heap.size + 1) W4.heap.size (w.heap.size + 1 + 1) (w.heap.size + 1 + 1 + 1) w (.loop (RL .done (some .ret)))) W5 Hv5.out (by omega) Hkp5.out HokA.out (by omega) hal (by omega) (by omega) Hi5.out Hkq5.out ?hJF ?hJB ?hJ0 ?hY).mono ?hend
  case hJF =>
    intro k g W h
    obtain ⟨h1, h2, h3⟩ := HJF.out k g W h
    exact ⟨fun b q1 q2 => h1 b (Nat.zero_le _) (by omega), Hkq5.out.agree h2 (by omega) (by omega), Sl.agree Hi5.out Ints.loc (fun b q1 q2 => h1 b (Nat.zero_le _) (by omega)), h3⟩
  case hJB =>
    intro k g W W' h hB
    obtain ⟨v, hs, q1, q2, q3⟩ := h.out
    exact ⟨(hB.block _ (heap_lt h.lp)).trans h.lp, (hB.block _ (heap_lt h.df)).trans h.df, h.on.trans (Below.only hB), h.ge, ⟨v, hs, q1.below hB q1.lt, q2.kept hB, q3⟩, h.good⟩
  case hJ0 =>
    intro g W hB hg
    exact ⟨(hB.block _ hlt5).trans HlL.out, (hB.block _ (by omega)).trans HlD.out, Below.only hB, hg, ⟨.slice none 0 0, [], Hbo5.out.below hB (by omega), by simpa using OwnR.nil _ _, by simp [Value.ownBlock]⟩, fun j h => absurd h (Nat.not_lt_zero _)⟩
  case hY =>
    intro k g Wb W kp kc gp gc grp hJ hBb hgl hk hkey hgrp hperm
    have hlp := (hBb.block _ (heap_lt hJ.lp)).trans hJ.lp
    have hdf := (hBb.block _ (heap_lt hJ.df)).trans hJ.df
    have hon : Only (fun z => z = w3.heap.size ∨ z = W4.heap.size + 1) W5 W := hJ.on.trans (Below.only hBb)
    have hge := hJ.ge
    obtain ⟨vk, hsk, hbk0, hok0, hne⟩ := hJ.out
    have hbk := hbk0.below hBb hbk0.lt
    have hok := hok0.kept hBb
    have Hgood := Lib.hid hJ.good
    have HN5 : Hid (W5.heap.size ≤ Wb.heap.size) := Lib.hid hJ.on.size
    have hkT : k < T.length := by rw [HT.out, List.length_map]; exact hk
    have hTk : T[k] = foldRow rc la (keysL (fun x => pickL x at') l)[k] grp := by
      simp only [HT.out, List.getElem_map]
      unfold foldRow
      rw [tellG_perm hperm]
    have Htk : Hid (T.take (k + 1) = T.take k ++ [foldRow rc la (keysL (fun x => pickL x at') l)[k] grp]) := Lib.hid (by rw [List.take_succ_eq_append_getElem hkT, hTk])
    have HGk : Hid ((∀ a ∈ la, errG rc grp a = 0) → G k) := Lib.hid (fun h => by
      rw [HG.out]
      intro _ a ha
      rw [← errG_perm hperm]
      exact h a ha)
    have HBd : Hid (∀ a, a ∈ la → errG rc grp a ≠ 0 → foldOk rc cols la l = false) := Lib.hid (fun a ha he => HBadT.out k hk grp a hperm ha he)
    have hTl : T.length ≤ 100000 := by
      rw [HT.out, List.length_map]
      have : (keysL (fun x => pickL x at') l).length ≤ (l.map (fun x => pickL x at')).length := canon_len_le _
      rw [List.length_map] at this
      omega
    have hgm : ∀ x ∈ grp, x ∈ l := fun x hx => by
      have := hperm.mem_iff.1 hx
      unfold withK at this
      exact (List.mem_filter.1 this).1
    have hgl2 : grp.length ≤ 1000 := by
      rw [hperm.length_eq]
      have h1 := List.length_filter_le (fun x => cmpR (pickL x at') (keysL (fun x => pickL x at') l)[k] == 0) l
      exact Nat.le_trans h1 hl1
    have hgpos : 0 < grp.length := by
      rw [hperm.length_eq]
      obtain ⟨y, hy, hyk⟩ := List.mem_map.1 ((canon_mem cmpR_cmp (l.map (fun x => pickL x at')) _).1 (List.getElem_mem hk : (keysL (fun x => pickL x at') l)[k] ∈ keysL (fun x => pickL x at') l))
      have : y ∈ withK (fun x => pickL x at') l (keysL (fun x => pickL x at') l)[k] := by
        unfold withK
        rw [List.mem_filter]
        refine ⟨hy, ?_⟩
        show (cmpR (pickL y at') _ == 0) = true
        rw [show pickL y at' = _ from hyk, cmpR_cmp.self]; rfl
      exact List.length_pos_of_mem this
    have Hgok : Hid (∀ x ∈ grp, x.length = rc.length ∧ ∀ a ∈ x, a.ok) := Lib.hid (fun x hx => ⟨may_len Hm.out x (hgm x hx), Hok.out x (hgm x hx)⟩)
    have hkl : (keysL (fun x => pickL x at') l)[k].length ≤ 32 := by
      obtain ⟨y, hy, hyk⟩ := List.mem_map.1 ((canon_mem cmpR_cmp (l.map (fun x => pickL x at')) _).1 (List.getElem_mem hk : (keysL (fun x => pickL x at') l)[k] ∈ keysL (fun x => pickL x at') l))
      rw [← hyk]
      show (pickL y at').length ≤ 32
      unfold pickL
      rw [List.length_map]
      have : at'.length = cols.length := by rw [← Hat.out]; unfold placesL; simp
      omega
    have Hokb := Lib.hid hok0
    have HBb := Lib.hid hBb
    clear hTk hperm hgm hJ hbk0 hok0
    have hLl := heap_lt hlp
    have hWb := hBb.size
    have hW5 := hon.size
    have Hlp := Lib.hid hlp
    generalize (keysL (fun x => pickL x at') l)[k] = key at *
    clear hk hkT
    generalize hL : W4.heap.size + 1 = L at *
    have hL4 : W4.heap.size < L := by omega
    refine yieldAt_recR HRL.out Hlp.out rfl ?_
    gi_wp2_with fail
    refine ⟨Hlp.out, ?_⟩
    have ho3 : Only (· = L) W (W.putObj L (.loop (RL .busy none))) := Only.putObj (A := (· = L)) W (b := L) rfl _
    have hl3 : (W.putObj L (.loop (RL .busy none))).heap[L]? = some (.loop (RL .busy none)) := World.putObj_heap_same hLl
    generalize W.putObj L (.loop (RL .busy none)) = W3 at *
    have hs3 := ho3.size
    have hon3 : Only (fun z => z = w3.heap.size ∨ z = L) W5 W3 := hon.trans (ho3.mono (fun z _ hz => .inr hz))
    have hbk3 := ho3.blk hbk (show ¬ w3.heap.size = L by omega)
    have hok3 := hok.onlyLow ho3 (fun b e => by have : b = L := e; omega)
    have hdf3 := (ho3.block W4.heap.size (heap_lt hdf) (show ¬ W4.heap.size = L by omega)).trans hdf
    have hb13 := hon3.blk Hb15.out (show ¬ (w.heap.size + 1 = w3.heap.size ∨ w.heap.size + 1 = L) by omega)
    have hb63 := hon3.blk Hb65.out (show ¬ (w.heap.size + 1 + 1 = w3.heap.size ∨ w.heap.size + 1 + 1 = L) by omega)
    have hb73 := hon3.blk Hb75.out (show ¬ (w.heap.size + 1 + 1 + 1 = w3.heap.size ∨ w.heap.size + 1 + 1 + 1 = L) by omega)
    have hbt3 := hon3.blk Hbt5.out (show ¬ (x4.heap.size = w3.heap.size ∨ x4.heap.size = L) by omega)
    have hla3 := Sl.agree Hla5.out Ags.loc (hon3.agree (hi := h3) (lo := l3) (by omega) (fun z hz => by rcases hz with rfl | rfl <;> omega))
    have hof3 := Sl.agree Hof5.out Ints.loc (hon3.agree (hi := x4.heap.size) (lo := x3.heap.size) (by omega) (fun z hz => by rcases hz with rfl | rfl <;> omega))
    have hgrp3 : Rws 0 Wb.heap.size W3 (.slice gp grp.length gc) grp := Rws.turn hgrp Hlp.out rfl ho3
    have hkey3 : OwnV Wb.heap.size W3 (.slice kp key.length kc) key := Own.onlyLow hkey ho3 (fun b e => by have : b = L := e; have := HN5.out; omega)
    have Hon3 := Lib.hid hon3
    have Hbk3 := Lib.hid hbk3
    have Hok3 := Lib.hid hok3
    have Hdf3 := Lib.hid hdf3
    have Hl3 := Lib.hid hl3
    have Hb13 := Lib.hid hb13
    have Hb63 := Lib.hid hb63
    have Hb73 := Lib.hid hb73
    have Hbt3 := Lib.hid hbt3
    have Hla3 := Lib.hid hla3
    have Hof3 := Lib.hid hof3
    have Hgrp3 := Lib.hid hgrp3
    have Hkey3 := Lib.hid hkey3
    have Hho3 := Lib.hid ho3
    have c1 := hb13.cells.c1
    clear hon3 hbk3 hok3 hdf3 hl3 hb13 hb63 hb73 hbt3 hla3 hof3 hgrp3 hkey3 ho3 hbk hok hdf hon hgrp hlp hkey
    gi_wp2_with fail
    gi_loopw [14, 57] (fun t14 t57 wr => ∃ i : Nat, i ≤ la.length ∧ t57 = .int .i64 i ∧ Below Wb.heap.size W3 wr ∧ W3.heap.size ≤ wr.heap.size ∧ OwnV Wb.heap.size wr t14 (key ++ (la.take i).map (tellG rc grp)) ∧ ∀ a ∈ la.take i, errG rc grp a = 0) (fun _ t57 _ => la.length - (intOf t57).toNat)
    case atStart => exact ⟨0, Nat.zero_le _, rfl, Below.refl _ _, Nat.le_refl _, by simpa using Hkey3.out, fun a ha => by simp at ha⟩
    case round =>
      clear c1
      obtain ⟨i, hi', rfl, hBr, hzr, hox, herr⟩ := hrel
      obtain ⟨wo, ewo⟩ : ∃ x, x = wr := ⟨_, rfl⟩
      subst ewo
      have HBr := Lib.hid hBr
      have Hox := Lib.hid hox
      have Herr := Lib.hid herr
      have ii0 : (0 : Int) ≤ (i : Int) := by omega
      obtain ⟨px, cx, ex⟩ := Own.slice hox
      subst ex
      have exl : (key ++ (la.take i).map (tellG rc grp)).length = key.length + i := by rw [List.length_append, List.length_map, List.length_take, Nat.min_eq_left hi']
      rw [exl] at Hox ⊢
      have hN5 := HN5.out
      clear hBr hox herr exl
      by_cases hlt : i < la.length
      · have iil : (i : Int) < (la.length : Int) := by omega
        obtain ⟨ao', cap', e', -, -, -, hc'⟩ := (Sl.agree Hla3.out Ags.loc (.below HBr.out (by omega))).form
        injection e' with e1 e2 e3
        subst e1 e3
        obtain ⟨b, off, rfl, hb1', hb2', hcc⟩ := hc' i hlt
        obtain ⟨cs, -, hcs, ecs⟩ := hcc i hlt
        obtain rfl : cs = Ag.enc la[i] := ecs
        obtain ⟨g0, g1, g2⟩ := hcs.c3
        obtain ⟨ao', cap', e', -, -, -, hc'⟩ := (Sl.agree Hof3.out Ints.loc (.below HBr.out (by omega))).form
        injection e' with e1 e2' e3
        rw [List.length_map] at e2'
        subst e1 e3
        have hltm : i < (la.map fun a => placeI rc a.col).length := by rw [List.length_map]; exact hlt
        obtain ⟨bi, oi, rfl, hbi1, hbi2, hcc⟩ := hc' i hltm
        obtain ⟨cs, -, hcs2, ecs⟩ := hcc i hltm
        obtain rfl : cs = [.int .i64 (placeI rc la[i].col)] := by rw [List.getElem_map] at ecs; exact ecs
        have Hoi := Lib.hid hcs2
        have Hst : Hid (la.take (i + 1) = la.take i ++ [la[i]]) := Lib.hid (List.take_succ_eq_append_getElem hlt)
        have Hmem : Hid (la[i] ∈ la) := Lib.hid (List.getElem_mem hlt)
        have Hop := Lib.hid (HFi.out la[i] (List.getElem_mem hlt))
        clear hcc hcs hcs2 hc' e2 e2' ecs
        generalize la[i] = a at *
        gi_upto_region 14 with fail
        have hBx := alloc_below wo (.cells #[.int .i64 a.op, .string ⟨a.col.toArray⟩, .string ⟨a.nm.toArray⟩] 41)
        have hbx := Blk.new wo [.int .i64 a.op, .string ⟨a.col.toArray⟩, .string ⟨a.nm.toArray⟩] 41 rfl
        generalize wo.alloc (.cells #[.int .i64 a.op, .string ⟨a.col.toArray⟩, .string ⟨a.nm.toArray⟩] 41) = wx at *
        have HBx := Lib.hid (HBr.out.trans (hBx.mono (by omega)))
        have Hbx := Lib.hid hbx
        have Hox := Lib.hid (Own.kept Hox.out hBx)
        have hzx' := hBx.size
        have hlx := hbx.lt
        have Hoi := Lib.hid (Hoi.out.agree (.below hBx (Nat.le_refl _)) (Nat.zero_le _) (by omega))
        clear hBx hbx g0 g1 g2
        gi_wp2_with fail
        gi_loopw [18, 64] (fun t18 t64 w8 => ∃ j : Nat, j ≤ grp.length ∧ t64 = .int .i64 j ∧ Below wx.heap.size wx w8 ∧ OwnV wx.heap.size w8 t18 (if a.op = 1 then [] else colL rc a.col (grp.take j))) (fun _ t64 _ => grp.length - (intOf t64).toNat)
        case atStart => exact ⟨0, Nat.zero_le _, rfl, Below.refl _ _, by unfold colL; split <;> simpa using Own.nil _ _ _ _ _⟩
        case round =>
          obtain ⟨j, hj, rfl, hBj, hoj⟩ := hrel
          obtain ⟨wj, ewj⟩ : ∃ x, x = wr := ⟨_, rfl⟩
          subst ewj
          have HBj := Lib.hid hBj
          have Hoj := Lib.hid hoj
          have jj0 : (0 : Int) ≤ (j : Int) := by omega
          have hzj := hBj.size
          obtain ⟨d0, d1, d2⟩ := (Hbx.out.below hBj hlx).cells.c3
          simp only [Nat.zero_add] at d1 d2
          clear hBj hoj d1 d2
          by_cases hjt : j < grp.length
          · have jjl : (j : Int) < (grp.length : Int) := by omega
            obtain ⟨ao', cap', e', -, -, -, hc'⟩ := (Sl.below (Sl.below Hgrp3.out rowE_loc HBx.out (Nat.le_refl _)) rowE_loc HBj.out (by omega)).form
            injection e' with e1 e2 e3
            subst e1 e3
            obtain ⟨bg, og, rfl, hbg1, hbg2, hcc⟩ := hc' j hjt
            obtain ⟨cs, -, hcs, sv, rfl, hsv⟩ := hcc j hjt
            have k0 := hcs.c1
            rw [Nat.mul_one] at k0
            have Hgj : Hid (grp.take (j + 1) = grp.take j ++ [grp[j]]) := Lib.hid (List.take_succ_eq_append_getElem hjt)
            have hgl := (Hgok.out _ (List.getElem_mem hjt)).1
            clear hcc hcs hc' e2
            generalize grp[j] = y at *
            obtain ⟨py, cy, rfl, -, -, -, hcy⟩ := hsv.form
            have hy63 := hsv.len
            by_cases oc : a.op = 1
            · have hn : (if a.op = 1 then ([] : List V) else colL rc a.col (grp.take (j + 1))) = if a.op = 1 then [] else colL rc a.col (grp.take j) := by rw [if_pos oc, if_pos oc]
              have Hn : Hid (OwnV wx.heap.size wj _ (if a.op = 1 then [] else colL rc a.col (grp.take (j + 1)))) := Lib.hid (by rw [hn]; exact Hoj.out)
              obtain ⟨pj, cj, ej⟩ := Own.slice Hoj.out
              clear hn hsv hcy Hoj
              gi_wp2_with fail
              go_roundw
              case rel => exact ⟨j + 1, by omega, by go_num, HBj.out, Hn.out⟩
              case measure => simp [intOf]; omega
            · obtain ⟨P, hP⟩ : ∃ P : Nat, placeI rc a.col = (P : Int) := ⟨(placeI rc a.col).toNat, by have := Hop.out.2.2 oc; omega⟩
              have hPl := (placeI_lt rc a.col).2
              rw [hP] at hPl
              have hPy : P < y.length := by omega
              have ppl : (P : Int) < (y.length : Int) := by omega
              have pp0 : (0 : Int) ≤ (P : Int) := by omega
              rw [if_neg oc] at Hoj
              obtain ⟨by_, oy, rfl, hby1, hby2, hcc⟩ := hcy P hPy
              obtain ⟨cs, -, hcs, ecs⟩ := hcc P hPy
              obtain rfl : cs = V.enc y[P] := ecs
              obtain ⟨y0, y1, y2⟩ := hcs.c3
              have hk := (Hoi.out.agree (.below HBj.out (Nat.le_refl _)) (Nat.zero_le _) (by omega)).c1
              rw [Nat.mul_one, hP] at hk
              have c2 := ((Hbt3.out.below HBx.out (by omega)).below HBj.out (by omega)).cells.c1
              have hcol : colL rc a.col (grp.take (j + 1)) = colL rc a.col (grp.take j) ++ [y[P]] := by
                unfold colL
                rw [Hgj.out, List.map_append]
                simp only [List.map_cons, List.map_nil, hP, Int.toNat_natCast, getDS y _ P hPy]
              have hcl' : (colL rc a.col (grp.take j)).length ≤ 1000 := by unfold colL; rw [List.length_map, List.length_take]; omega
              obtain ⟨v9, w9, hr9, ho9, ha9⟩ := appW1 Hoj.out y[P] rfl (by omega) (by omega)
              have HB9 := Lib.hid (HBj.out.trans (ha9.below (by omega) (fun q e => (Own.lt Hoj.out q e).1)))
              have Hn : Hid (OwnV wx.heap.size w9 v9 (if a.op = 1 then [] else colL rc a.col (grp.take (j + 1)))) := Lib.hid (by rw [if_neg oc, hcol]; exact ho9)
              obtain ⟨pj, cj, ej⟩ := Own.slice Hoj.out
              obtain ⟨p9, c9, e9⟩ := Own.slice ho9
              subst e9
              clear hsv hcy hcc hcs hcol ho9 ha9 hP hPl hgl
              generalize y[P] = z at *
              generalize (colL rc a.col (grp.take j) ++ [z]).length = n9 at *
              subst ej
              generalize (colL rc a.col (grp.take j)).length = nj at *
              gi_wp2_with (gi_at_builtin; refine AtApp.of ?_)
              refine AtApp.goIn hr9 rfl rfl rfl rfl ?_
              gi_wp2_with fail
              go_roundw
              case rel => exact ⟨j + 1, by omega, by go_num, HB9.out, Hn.out⟩
              case measure => simp [intOf]; omega
          · obtain rfl : j = grp.length := by omega
            have llt : ¬ ((grp.length : Nat) : Int) < (grp.length : Int) := by omega
            have hvs : (if a.op = 1 then ([] : List V) else colL rc a.col (grp.take grp.length)) = aggVs rc a grp := by unfold aggVs; rw [List.take_length]
            rw [hvs] at Hoj
            have hvl : (aggVs rc a grp).length ≤ 1000 := by
              unfold aggVs
              split
              · simp
              · unfold colL; rw [List.length_map]; exact hgl2
            have hvne : a.op = 1 ∨ 0 < (aggVs rc a grp).length := by
              by_cases oc : a.op = 1
              · exact .inl oc
              · exact .inr (by unfold aggVs; rw [if_neg oc]; unfold colL; rw [List.length_map]; exact hgpos)
            have hvok : ∀ x ∈ aggVs rc a grp, x.ok := by
              intro x hx
              unfold aggVs at hx
              split at hx
              · cases hx
              · rename_i oc
                unfold colL at hx
                obtain ⟨y, hy, rfl⟩ := List.mem_map.1 hx
                have h1 := Hgok.out y hy
                have h2 := Hop.out.2.2 oc
                have h3 := (placeI_lt rc a.col).2
                rw [getDS y _ _ (show (placeI rc a.col).toNat < y.length by omega)]
                exact h1.2 _ (List.getElem_mem _)
            obtain ⟨pj, cj, ej⟩ := Own.slice Hoj.out
            have Hj1 := Lib.hid (OwnV.sl Hoj.out)
            rw [ej] at Hj1
            clear hvs Hoj
            subst ej
            gi_wp2_with fail
            refine ⟨by first | trivial | simp, callsIn_wide.2 (tell_any wx.heap.size wj.heap.size a.op grp.length _ _ wj Hj1.out (Nat.le_refl _) (by omega) hvl Hop.out.1 Hop.out.2.1 hvok hvne _ (fun w9 hB9 => ?_))⟩
            have e1 : tellV a.op grp.length (aggVs rc a grp) = tellG rc grp a := rfl
            have e2 : tellErr a.op (aggVs rc a grp) = errG rc grp a := rfl
            rw [e1, e2]
            have hz9 := hB9.size
            have HB9 := Lib.hid (HBx.out.trans ((HBj.out.mono (by omega)).trans (hB9.mono (by omega))))
            have Hox9 := Lib.hid (Own.kept (Own.kept Hox.out HBj.out) hB9)
            have HBw9 := Lib.hid (HBw5.out.trans ((Hon3.out.below (B := w.heap.size) (by omega) (fun z hz => by rcases hz with rfl | rfl <;> omega)).trans (HB9.out.mono (by omega))))
            clear e1 e2 hvl hvne hvok d0 hB9
            generalize (aggVs rc a grp).length = nv at *
            by_cases he : errG rc grp a = 0
            · have Hmm : Hid (key ++ (la.take (i + 1)).map (tellG rc grp) = (key ++ (la.take i).map (tellG rc grp)) ++ [tellG rc grp a]) := Lib.hid (by rw [Hst.out, List.map_append, List.append_assoc]; rfl)
              have Hee : Hid (∀ a ∈ la.take (i + 1), errG rc grp a = 0) := Lib.hid (fun x hx => by
                rw [Hst.out] at hx
                rcases List.mem_append.1 hx with h | h
                · exact Herr.out x h
                · rw [List.mem_singleton.1 h]; exact he)
              rw [he]
              clear he
              generalize tellG rc grp a = m at *
              gi_upto_region 24 with fail
              have hBm := alloc_below w9 (.cells #[.int .i64 m.kind, .int .i64 m.n, .string ⟨m.s.toArray⟩] 44)
              have hbm := Blk.new w9 [.int .i64 m.kind, .int .i64 m.n, .string ⟨m.s.toArray⟩] 44 rfl
              generalize w9.alloc (.cells #[.int .i64 m.kind, .int .i64 m.n, .string ⟨m.s.toArray⟩] 44) = wm at *
              have hzm := hBm.size
              obtain ⟨m0, m1, m2⟩ := hbm.cells.c3
              simp only [Nat.zero_add] at m1 m2
              have Hl9 := Lib.hid (hbm.cells.runVar (P := Tryz.prog) (t := 44) (fun _ => by kernel_rfl) (fun _ => by kernel_rfl))
              have hcx : (key ++ (la.take i).map (tellG rc grp)).length ≤ 2000000000 := by rw [List.length_append, List.length_map, List.length_take]; omega
              obtain ⟨vE, wE, hrE, hoE, haE⟩ := appV1 (Own.kept Hox9.out hBm) m rfl (by omega) (by omega)
              have HoE : Hid (OwnV Wb.heap.size wE vE (key ++ (la.take (i + 1)).map (tellG rc grp))) := Lib.hid (by rw [Hmm.out]; exact hoE)
              have HBE := Lib.hid ((HB9.out.trans (hBm.mono (by omega))).trans (haE.below (B := Wb.heap.size) (by omega) (fun q e => (Own.lt Hox9.out q e).1)))
              have HzE : Hid (W3.heap.size ≤ wE.heap.size) := Lib.hid (by have := HBE.out.size; exact this)
              obtain ⟨pE, qE, eE⟩ := Own.slice hoE
              subst eE
              clear hBm hbm hoE haE hcx
              generalize ((key ++ (la.take i).map (tellG rc grp)) ++ [m]).length = nE at *
              have hl9 := Hl9.out
              gi_wp2_with (gi_at_builtin; refine AtApp.of ?_)
              refine AtApp.goIn hrE rfl rfl rfl rfl ?_
              gi_wp2_with fail
              go_roundw
              case rel => exact ⟨i + 1, by omega, by go_num, HBE.out, HzE.out, HoE.out, Hee.out⟩
              case measure => simp [intOf]; omega
            · have h160 : errG rc grp a = 160 := tellErr_val he
              have HNo := Lib.hid (HBd.out a Hmem.out he)
              rw [h160]
              clear he h160
              generalize tellG rc grp a = m at *
              gi_upto_region 23 with fail
              have hBm := alloc_below w9 (.cells #[.int .i64 m.kind, .int .i64 m.n, .string ⟨m.s.toArray⟩] 44)
              generalize w9.alloc (.cells #[.int .i64 m.kind, .int .i64 m.n, .string ⟨m.s.toArray⟩] 44) = wm at *
              have hzm := hBm.size
              have HBm := Lib.hid (HB9.out.trans (hBm.mono (by omega)))
              have HBwm := Lib.hid (HBw9.out.trans (hBm.mono (by omega)))
              have h6 := Hb63.out.below HBm.out (by omega)
              have h7 := Hb73.out.below HBm.out (by omega)
              have H6 := Lib.hid h6
              have H7 := Lib.hid h7
              have Hlm := Lib.hid ((HBm.out.block L (by omega)).trans Hl3.out)
              have Hdm := Lib.hid ((HBm.out.block W4.heap.size (by omega)).trans Hdf3.out)
              obtain ⟨q0, q1⟩ := h6.cells.c2
              simp only [Nat.zero_add] at q1
              have q2 := h7.cells.c1
              have f0 := h6.free 0
              have f1 := h6.free 1
              have f2 := h7.free 0
              clear h6 h7 hBm
              gi_wp2_with fail
              have hO : Only (fun z => z = w.heap.size + 1 + 1 ∨ z = w.heap.size + 1 + 1 + 1) wm (((wm.setCell ⟨w.heap.size + 1 + 1, 0, none⟩ (.slice none 0 0)).setCell ⟨w.heap.size + 1 + 1, 1, none⟩ (.slice none 0 0)).setCell ⟨w.heap.size + 1 + 1 + 1, 0, none⟩ (.int .i64 160)) :=
                ((Only.setCell (A := fun z => z = w.heap.size + 1 + 1 ∨ z = w.heap.size + 1 + 1 + 1) wm (p := ⟨w.heap.size + 1 + 1, 0, none⟩) (.inl rfl) _).trans (Only.setCell _ (p := ⟨w.heap.size + 1 + 1, 1, none⟩) (.inl rfl) _)).trans (Only.setCell _ (p := ⟨w.heap.size + 1 + 1 + 1, 0, none⟩) (.inr rfl) _)
              have k6 : Blk (((wm.setCell ⟨w.heap.size + 1 + 1, 0, none⟩ (.slice none 0 0)).setCell ⟨w.heap.size + 1 + 1, 1, none⟩ (.slice none 0 0)).setCell ⟨w.heap.size + 1 + 1 + 1, 0, none⟩ (.int .i64 160)) (w.heap.size + 1 + 1) [.slice none 0 0, .slice none 0 0] 25 := ((H6.out.set 0 (.slice none 0 0)).set 1 (.slice none 0 0)).other (by show w.heap.size + 1 + 1 ≠ w.heap.size + 1 + 1 + 1; omega) _
              have k7 : Blk (((wm.setCell ⟨w.heap.size + 1 + 1, 0, none⟩ (.slice none 0 0)).setCell ⟨w.heap.size + 1 + 1, 1, none⟩ (.slice none 0 0)).setCell ⟨w.heap.size + 1 + 1 + 1, 0, none⟩ (.int .i64 160)) (w.heap.size + 1 + 1 + 1) [.int .i64 160] 29 := ((H7.out.other (p := ⟨w.heap.size + 1 + 1, 0, none⟩) (by show w.heap.size + 1 + 1 + 1 ≠ w.heap.size + 1 + 1; omega) _).other (p := ⟨w.heap.size + 1 + 1, 1, none⟩) (by show w.heap.size + 1 + 1 + 1 ≠ w.heap.size + 1 + 1; omega) _).set 0 (.int .i64 160)
              have hl9 := (hO.block L (heap_lt Hlm.out) (show ¬ (L = w.heap.size + 1 + 1 ∨ L = w.heap.size + 1 + 1 + 1) by omega)).trans Hlm.out
              have hd9 := (hO.block W4.heap.size (heap_lt Hdm.out) (show ¬ (W4.heap.size = w.heap.size + 1 + 1 ∨ W4.heap.size = w.heap.size + 1 + 1 + 1) by omega)).trans Hdm.out
              have hB10 := HBwm.out.trans (hO.below (by have := HBwm.out.size; omega) (fun k e => by omega))
              generalize ((wm.setCell ⟨w.heap.size + 1 + 1, 0, none⟩ (.slice none 0 0)).setCell ⟨w.heap.size + 1 + 1, 1, none⟩ (.slice none 0 0)).setCell ⟨w.heap.size + 1 + 1 + 1, 0, none⟩ (.int .i64 160) = W9 at *
              refine roundPost_retR HRL.out hl9 (.inr ⟨rfl, ?_⟩)
              have h10 : Only (· = L) W9 (W9.putObj L (.loop (RL .done (some .ret)))) := Only.putObj (A := (· = L)) W9 (b := L) rfl _
              exact ⟨HNo.out, World.putObj_heap_same (heap_lt hl9), (h10.block _ (heap_lt hd9) (show ¬ W4.heap.size = L by omega)).trans hd9, hB10.trans (h10.below (by have := hB10.size; omega) (fun k e => by have : k = L := e; omega)), h10.blk k6 (show ¬ w.heap.size + 1 + 1 = L by omega), h10.blk k7 (show ¬ w.heap.size + 1 + 1 + 1 = L by omega)⟩
      · obtain rfl : i = la.length := by omega
        have llt : ¬ ((la.length : Nat) : Int) < (la.length : Int) := by omega
        have hox := Hox.out
        rw [List.take_length] at hox
        have herr := Herr.out
        rw [List.take_length] at herr
        have HGk1 := Lib.hid (HGk.out herr)
        have Hoxe : Hid (OwnV Wb.heap.size wo (.slice px (key.length + la.length) cx) (foldRow rc la key grp)) := Lib.hid hox
        have hOb : Only (fun z => z = L ∨ Wb.heap.size ≤ z) Wb wo := (((Below.onlyGe HBb.out).mono (fun z _ hz => .inr hz)).trans (Hho3.out.mono (fun z _ hz => .inl hz))).trans ((Below.onlyGe HBr.out).mono (fun z _ hz => .inr hz))
        have hok := Hokb.out.onlyOut hOb (fun b hb => by rcases hb with rfl | hb; exact .inl (by omega); exact .inr hb)
        have hbk := Hbk3.out.below HBr.out (by omega)
        have Hbk := Lib.hid hbk
        have hbkl := hbk.lt
        obtain ⟨pk, ck, epk⟩ := Own.slice hok.own
        subst epk
        have cb := hbk.cells.c1
        have hhl : hsk.length ≤ 1000000 := by rw [hok.len, List.length_take]; omega
        have hvlt : ∀ q, (Value.slice pk hsk.length ck).ownBlock = some q → W5.heap.size ≤ q ∧ q < Wb.heap.size := fun q e => Own.lt Hokb.out.own q e
        obtain ⟨vE, wE, hrE, hoE, haE⟩ := appH1 hok.own px (key.length + la.length) cx rfl (by omega) (by omega)
        have hsn := hok.snoc (Own.lower Hoxe.out (by omega)) (fun q hq e => by
          have h1 := (Own.lt Hoxe.out q hq).1
          have h2 := (hvlt q e).2
          omega) hoE haE
        have hO1 : Only (fun z => Value.ownBlock (.slice pk hsk.length ck) = some z) wo wE := ⟨haE.grown.os, haE.grown.tape, haE.grown.output, haE.grown.size, fun k hk hA => haE.grown.block k hk (fun e => hA e.symm)⟩
        have HbE := Lib.hid (hO1.blk hbk (fun e => by have := (hvlt _ e).1; omega))
        have hlE := (hO1.block L (by omega) (fun e => by have := (hvlt _ e).1; omega)).trans ((HBr.out.block L (by omega)).trans Hl3.out)
        have hdE := (hO1.block W4.heap.size (by omega) (fun e => by have := (hvlt _ e).1; omega)).trans ((HBr.out.block W4.heap.size (by omega)).trans Hdf3.out)
        have hneE : vE.ownBlock ≠ some g := haE.apart (by omega) hne
        have hgE : wE.heap[g]? = W3.heap[g]? := (hO1.block g (by omega) hne).trans (HBr.out.block g hgl)
        have HonE : Hid (Only (fun z => z = w3.heap.size ∨ z = L) W5 wE) := Lib.hid (Only.into2 (Only.into2 Hon3.out (Below.onlyGe HBr.out) (fun b hb h => by omega)) hO1 (fun b hb h => by have := (hvlt _ h).1; omega))
        have HsnE := Lib.hid hsn
        have HlE := Lib.hid hlE
        have HdE := Lib.hid hdE
        have HneE := Lib.hid hneE
        have HgE := Lib.hid hgE
        have HzwE := Lib.hid hO1.size
        obtain ⟨pE, qE, eE⟩ := Own.slice hoE
        subst eE
        clear hox herr hok hbk hsn hO1 hlE hdE hneE hgE hoE haE hOb
        generalize (hsk ++ [Value.slice px (key.length + la.length) cx]).length = nE at *
        generalize key.length + la.length = nx at *
        gi_wp2_with (gi_at_builtin; refine AtApp.of ?_)
        refine AtApp.goIn hrE rfl rfl rfl rfl ?_
        have ce := HbE.out.cells.c1
        have fe := HbE.out.free 0
        gi_wp2_with fail
        have hS : Only (· = w3.heap.size) wE (wE.setCell ⟨w3.heap.size, 0, none⟩ (.slice pE nE qE)) := Only.setCell (A := (· = w3.heap.size)) wE (p := ⟨w3.heap.size, 0, none⟩) rfl _
        have hlF := (hS.block L (heap_lt HlE.out) (show ¬ L = w3.heap.size by omega)).trans HlE.out
        have hdF := (hS.block W4.heap.size (heap_lt HdE.out) (show ¬ W4.heap.size = w3.heap.size by omega)).trans HdE.out
        have hsF := HsnE.out.onlyLow hS (fun b e => by have : b = w3.heap.size := e; omega)
        have hbF := HbE.out.set 0 (.slice pE nE qE)
        have hgF := (hS.block g (by have := HzwE.out; omega) (show ¬ g = w3.heap.size by omega)).trans HgE.out
        have hzF := hS.size
        have honF := HonE.out.trans (hS.mono (fun z _ hz => .inl hz))
        generalize wE.setCell ⟨w3.heap.size, 0, none⟩ (.slice pE nE qE) = wF at *
        have hp : Only (· = L) wF (wF.putObj L (.loop (RL .ready none))) := Only.putObj (A := (· = L)) _ (b := L) rfl _
        refine roundPost_normalR HRL.out hlF (.inl ⟨rfl, ⟨World.putObj_heap_same (heap_lt hlF), (hp.block W4.heap.size (heap_lt hdF) (show ¬ W4.heap.size = L by omega)).trans hdF, honF.trans (hp.mono (fun z _ hz => .inr hz)), hge, ⟨_, _, hp.blk hbF (show ¬ w3.heap.size = L by omega), by rw [Htk.out]; exact hsF.onlyLow hp (fun b e => by have : b = L := e; omega), HneE.out⟩, fun j hj => by
          by_cases e : j = k
          · subst e; exact HGk1.out
          · exact Hgood.out j (by omega)⟩, ?_⟩)
        exact (hp.block g (by have := HzwE.out; omega) (show ¬ g = L by omega)).trans (hgF.trans (Hho3.out.block g (by omega) (show ¬ g = L by omega)))
  case hend =>
    have HTl : Hid (T.length ≤ 1000000) := Lib.hid (by
      rw [HT.out, List.length_map]
      have : (keysL (fun x => pickL x at') l).length ≤ (l.map (fun x => pickL x at')).length := canon_len_le _
      rw [List.length_map] at this
      omega)
    have HTx : Hid (∀ x ∈ T, x.length ≤ 4000000000000) := Lib.hid (fun x hx => by
      rw [HT.out] at hx
      obtain ⟨kk, hkk, rfl⟩ := List.mem_map.1 hx
      obtain ⟨y, hy, hyk⟩ := List.mem_map.1 ((canon_mem cmpR_cmp (l.map (fun x => pickL x at')) _).1 hkk)
      unfold foldRow
      rw [List.length_append, List.length_map, ← hyk]
      show (pickL y at').length + la.length ≤ _
      unfold pickL
      rw [List.length_map]
      omega)
    have HTn : Hid ((keysL (fun x => pickL x at') l).length = T.length) := Lib.hid (by rw [HT.out, List.length_map])
    rintro e W6 ⟨⟨v, rfl⟩, ⟨g, hJ⟩ | hZ⟩
    · have hgood := HGood.out (fun j hj => hJ.good j hj)
      rw [HTn.out] at hJ
      refine ⟨⟨v, rfl⟩, .ready, none, by simp, hJ.lp, ?_⟩
      have hlt := heap_lt hJ.lp
      have h7 : Only (· = W4.heap.size + 1) W6 (W6.putObj (W4.heap.size + 1) (.loop (RL .exhausted none))) := Only.putObj (A := (· = W4.heap.size + 1)) _ (b := W4.heap.size + 1) rfl _
      show Exit.inBlock 1 _ Exit.normal _ (W6.putObj (W4.heap.size + 1) (.loop (RL .exhausted none)))
      generalize W6.putObj (W4.heap.size + 1) (.loop (RL .exhausted none)) = W7 at *
      obtain ⟨v7, hs7, hb7, ho7, -⟩ := hJ.out
      rw [List.take_of_length_le (Nat.le_refl _)] at ho7
      have hL7 := ho7.onlyLow h7 (fun b e => by have : b = W4.heap.size + 1 := e; omega)
      have hb77 := h7.blk hb7 (show ¬ w3.heap.size = W4.heap.size + 1 by omega)
      have hon7 : Only (fun z => z = w3.heap.size ∨ z = W4.heap.size + 1) W5 W7 := hJ.on.trans (h7.mono (fun z _ hz => .inr hz))
      have hB7 : Below w.heap.size w W7 := HBw5.out.trans (hon7.below HBw5.out.size (fun z hz => by rcases hz with rfl | rfl <;> omega))
      have h6b := hon7.blk Hb65.out (show ¬ (w.heap.size + 1 + 1 = w3.heap.size ∨ w.heap.size + 1 + 1 = W4.heap.size + 1) by omega)
      have h7b := hon7.blk Hb75.out (show ¬ (w.heap.size + 1 + 1 + 1 = w3.heap.size ∨ w.heap.size + 1 + 1 + 1 = W4.heap.size + 1) by omega)
      have hD7 := (hon7.block W4.heap.size (by omega) (show ¬ (W4.heap.size = w3.heap.size ∨ W4.heap.size = W4.heap.size + 1) by omega)).trans HlD.out
      have ht7 := Sl.agree Ht5.out Strs.loc (hon7.agree (hi := x4.heap.size) (lo := x3.heap.size) (by omega) (fun z hz => by rcases hz with rfl | rfl <;> omega))
      obtain ⟨p7, q7, e7⟩ := Own.slice hL7.own
      rw [hL7.len] at e7
      subst e7
      have c0 := hb77.cells.c1
      have HR2 := HR.out
      rw [He1.out, if_pos hgood, HTg.out] at HR2
      have HR2 := Lib.hid HR2
      have HL7 := Lib.hid hL7
      have Ht7 := Lib.hid ht7
      have HB7 := Lib.hid hB7
      have H6b := Lib.hid h6b
      have H7b := Lib.hid h7b
      have HD7 := Lib.hid hD7
      have hz57 := hon7.size
      clear hJ h7 hL7 hb77 hon7 hB7 h6b h7b hD7 hb7 ho7 hlt ht7 hgood
      go_wp2_with fail
      refine OfK_any W5.heap.size W7.heap.size x3.heap.size x4.heap.size (foldCols cols la) T _ _ W7 Ht7.out HL7.out.rws (Nat.le_refl _) (by omega) (by have := HTl.out; omega) HTx.out _ (fun W8 cv8 lv8 hs8 hB8 hT8 hR8 => ?_)
      have HR3 := HR2.out
      generalize ofErr (foldCols cols la) T = er at *
      generalize okL er (foldCols cols la) = oc at *
      generalize okL er (relCanon T) = ol at *
      have hz8 := hB8.size
      have h6 := H6b.out.below hB8 (by omega)
      have h7 := H7b.out.below hB8 (by omega)
      have hD8 := (hB8.block W4.heap.size (by omega)).trans HD7.out
      obtain ⟨p8, q8, rfl⟩ := Own.slice hT8
      obtain ⟨p9, q9, rfl⟩ := Own.slice hR8.own
      obtain ⟨q0, q1⟩ := h6.cells.c2
      simp only [Nat.zero_add] at q1
      have q2 := h7.cells.c1
      have f0 := h6.free 0
      have f1 := h6.free 1
      have f2 := h7.free 0
      have HTt := Lib.hid (fun (fn : Func) (tmps : Array Value) hfn ht6 ht7 => fdTail (n := 3) (fn := fn) (tmps := tmps) (R := R) (Ds := [W4.heap.size]) (err := er) hfn ht6 ht7 h6 h7 (by omega) (by omega) (by omega) (HB7.out.trans (hB8.mono (by omega))) hT8 hR8 (by omega) (by omega) (by omega) (by simp) (fun D hD => by rw [List.mem_singleton.1 hD]; exact ⟨by omega, by omega, hD8⟩) (fun w' hB' hT' hR' => HR3 w' _ _ _ hB' hT' hR'))
      clear h6 h7 hD8 hT8 hR8 HR3 hB8
      generalize oc.length = noc at *
      generalize hs8.length = nol at *
      go_wp2_with fail
      exact HTt.out _ _ rfl rfl rfl
    · obtain ⟨hbad, hl6, hd6, hB6, hb66, hb67⟩ := hZ
      have HR2 := HR.out
      rw [He1.out, if_neg (by rw [hbad]; simp)] at HR2
      refine ⟨⟨v, rfl⟩, .done, some .ret, by simp, hl6, ?_⟩
      have hlt := heap_lt hl6
      have h7 : Only (· = W4.heap.size + 1) W6 (W6.putObj (W4.heap.size + 1) (.loop (RL .exhausted (some .ret)))) := Only.putObj (A := (· = W4.heap.size + 1)) _ (b := W4.heap.size + 1) rfl _
      dsimp only
      generalize W6.putObj (W4.heap.size + 1) (.loop (RL .exhausted (some .ret))) = W7 at *
      have hz67 := h7.size
      have hd7 : W7.heap[W4.heap.size]? = some (.deferred (some [])) := (h7.block _ (by omega) (show ¬ W4.heap.size = W4.heap.size + 1 by omega)).trans hd6
      have hB7 := hB6.trans (h7.below (by have := hB6.size; omega) (fun k e => by have : k = W4.heap.size + 1 := e; omega))
      have hb76 := h7.blk hb66 (show ¬ w.heap.size + 1 + 1 = W4.heap.size + 1 by omega)
      have hb77 := h7.blk hb67 (show ¬ w.heap.size + 1 + 1 + 1 = W4.heap.size + 1 by omega)
      have HTt := Lib.hid (fun (fn : Func) (tmps : Array Value) hfn ht6 ht7 => fdLeave (n := 3) (fn := fn) (tmps := tmps) (R := R) (lo := W4.heap.size + 1) (cols := []) (rs := []) (hs := []) (Ds := [W4.heap.size]) (err := 160) hfn ht6 ht7 hb76 hb77 hB7 (Own.nil _ _ _ _ _) (OwnR.nil _ _) (by omega) (by simp) (fun D hD => by rw [List.mem_singleton.1 hD]; exact ⟨by omega, by omega, hd7⟩) (fun w' hB' hT' hR' => HR2 w' _ _ _ hB' (by rw [okL_no (by omega)]; exact hT') (by rw [okL_no (by omega)]; exact hR')))
      clear hbad hl6 hd6 hB6 hb66 hb67 h7 hd7 hB7 hb76 hb77 HR2 hlt
      go_wp2_with fail
      exact HTt.out _ _ rfl rfl rfl
end Go.Proofs.YtmconajkgjfplaaGreat
end

/- The law of layer 16: same, on relations alike. (Printed by r16.py.) -/
section
set_option linter.unusedVariables false
set_option linter.unusedSimpArgs false
namespace Go.Proofs.YtmconajkgjfplaaGreat
open Go.RowKit
set_option linter.unusedVariables false
set_option linter.unusedSimpArgs false
set_option maxRecDepth 100000 in
set_option maxHeartbeats 4000000 in
theorem lawSame16_any (lo hi lo2 hi2 lc hc lc2 hc2 : Nat) (cols : List S) (l : List (List V)) (ca cb la lb : Value) (w : World) (hca : Strs lc hc w ca cols) (hcb : Strs lc2 hc2 w cb cols) (hla : Rws lo hi w la l) (hlb : Rws lo2 hi2 w lb l) (h1 : hc ≤ w.heap.size) (h2 : hc2 ≤ w.heap.size) (h3 : hi ≤ w.heap.size) (h4 : hi2 ≤ w.heap.size) (hrs : ∀ x ∈ l, ∀ a ∈ x, a.s.length ≤ 9223372036854775807) (R : Ending → World → Prop)
    (hR : ∀ w', Below w.heap.size w w' → R (.returned (.bool true)) w') : Calls Tryz.prog 11 #[.agg #[ca, la], .agg #[cb, lb]] w R := by
  have HR := Lib.hid hR
  have HCa := Lib.hid hca
  have HCb := Lib.hid hcb
  have HLa := Lib.hid hla
  have HLb := Lib.hid hlb
  have Hrs := Lib.hid hrs
  obtain ⟨aca, cca, rfl, -, -, -, -⟩ := hca.form
  obtain ⟨acb, ccb, rfl, -, -, -, -⟩ := hcb.form
  obtain ⟨ala, cla, rfl, -, -, -, -⟩ := hla.form
  obtain ⟨alb, clb, rfl, -, -, -, -⟩ := hlb.form
  clear hR hca hcb hla hlb hrs
  go_enter Tryz.func11, Tryz.ntmps11
  go_upto_region 1 with fail
  obtain ⟨w0, hw0⟩ : ∃ w0, w0 = (w.alloc (.cells #[.slice aca cols.length cca, .slice ala l.length cla] 25)).alloc (.cells #[.slice acb cols.length ccb, .slice alb l.length clb] 25) := ⟨_, rfl⟩
  have s1 : (w.alloc (.cells #[.slice aca cols.length cca, .slice ala l.length cla] 25)).heap.size = w.heap.size + 1 := Array.size_push _
  have hB0 : Below w.heap.size w w0 := by
    rw [hw0]
    exact (alloc_below w _).alloc (by rw [s1]; omega) _
  have hz0 : w.heap.size + 1 < w0.heap.size := by
    rw [hw0]
    show _ < (Array.push _ _).size
    rw [Array.size_push, s1]; omega
  have hb1 : Blk w0 w.heap.size [.slice aca cols.length cca, .slice ala l.length cla] 25 := by
    rw [hw0]
    exact (Blk.new w [.slice aca cols.length cca, .slice ala l.length cla] _ rfl).alloc _
  have hb2 : Blk w0 (w.heap.size + 1) [.slice acb cols.length ccb, .slice alb l.length clb] 25 := by
    rw [hw0]
    exact Blk.new _ [.slice acb cols.length ccb, .slice alb l.length clb] _ s1.symm
  rw [← hw0]
  clear hw0 s1
  have HB0 := Lib.hid hB0
  have HA := Lib.hid hb1
  have HBb := Lib.hid hb2
  have hb1l : w.heap.size < w0.heap.size := by omega
  clear hB0 hb1 hb2
  have hS0 : Below w0.heap.size w0 w0.drew := (Below.refl _ _).drew
  refine wp_region_held_drew (S := fun w' => Below w0.heap.size w0 w') (by kernel_rfl) hS0 (fun hHeld => ?_)
  refine wpAnyH_take (i := 0) (v := .agg #[.slice aca cols.length cca, .slice ala l.length cla]) rfl (by kernel_rfl) (by kernel_rfl) (by kernel_rfl) (fun _ _ _ h => h) (Or.inl ⟨by rfl, ?_⟩) hHeld ?_
  · intro w' hSw; have kx := (HA.out.below hSw hb1l).cells.runVar (P := Tryz.prog) (t := 25) (fun _ => by kernel_rfl) (fun _ => by kernel_rfl); obtain ⟨z0, z1⟩ := (HA.out.below hSw hb1l).cells.c2; simp only [Nat.zero_add] at z1; go_simp
  try simp only [Act.put, List.getElem_toArray, List.getElem_cons_succ, List.getElem_cons_zero, List.setIfInBounds_toArray, List.set_cons_zero, List.set_cons_succ]
  refine wpAnyH_take (i := 2) (v := .agg #[.slice acb cols.length ccb, .slice alb l.length clb]) rfl (by kernel_rfl) (by kernel_rfl) (by kernel_rfl) (fun _ _ _ h => h) (Or.inl ⟨by rfl, ?_⟩) hHeld ?_
  · intro w' hSw; have kx := (HBb.out.below hSw hz0).cells.runVar (P := Tryz.prog) (t := 25) (fun _ => by kernel_rfl) (fun _ => by kernel_rfl); obtain ⟨z0, z1⟩ := (HBb.out.below hSw hz0).cells.c2; simp only [Nat.zero_add] at z1; go_simp
  try simp only [Act.put, List.getElem_toArray, List.getElem_cons_succ, List.getElem_cons_zero, List.setIfInBounds_toArray, List.set_cons_zero, List.set_cons_succ]
  refine wpAnyH_ready (rs := [1]) (by kernel_rfl) (by simp) ?_
  refine allCall (f := 17) (args := #[.agg #[.slice aca cols.length cca, .slice ala l.length cla]]) rfl (by kernel_rfl) (by kernel_rfl) ?_ AllReadyH.nil
  refine ref16_any _ _ _ _ _ _ w0.drew _ (fun wq1 hB => ?_)
  refine ⟨_, rfl, hHeld.trans (hB.mono hHeld.size), ?_⟩
  have hHeld2 := hHeld.trans (hB.mono hHeld.size)
  clear hHeld
  have hHeld := hHeld2
  clear hHeld2
  clear hB
  try simp only [Act.put, List.getElem_toArray, List.getElem_cons_succ, List.getElem_cons_zero, List.setIfInBounds_toArray, List.set_cons_zero, List.set_cons_succ]
  refine wpAnyH_ready (rs := [3]) (by kernel_rfl) (by simp) ?_
  refine allCall (f := 17) (args := #[.agg #[.slice acb cols.length ccb, .slice alb l.length clb]]) rfl (by kernel_rfl) (by kernel_rfl) ?_ AllReadyH.nil
  refine ref16_any _ _ _ _ _ _ wq1 _ (fun wq2 hB => ?_)
  refine ⟨_, rfl, hHeld.trans (hB.mono hHeld.size), ?_⟩
  have hHeld2 := hHeld.trans (hB.mono hHeld.size)
  clear hHeld
  have hHeld := hHeld2
  clear hHeld2
  clear hB
  try simp only [Act.put, List.getElem_toArray, List.getElem_cons_succ, List.getElem_cons_zero, List.setIfInBounds_toArray, List.set_cons_zero, List.set_cons_succ]
  refine wpAnyH_ready (rs := [4]) (by kernel_rfl) (by simp) ?_
  refine allCall (f := 18) (args := #[.agg #[.slice aca cols.length cca, .slice ala l.length cla], .agg #[.slice acb cols.length ccb, .slice alb l.length clb]]) rfl (by kernel_rfl) (by kernel_rfl) ?_ AllReadyH.nil
  refine Same_any lo hi lo2 hi2 lc hc lc2 hc2 cols l _ _ _ _ wq2 (Sl.below HCa.out Strs.loc (HB0.out.trans (hHeld.mono (by omega))) h1) (Sl.below HCb.out Strs.loc (HB0.out.trans (hHeld.mono (by omega))) h2) (Sl.below HLa.out rowE_loc (HB0.out.trans (hHeld.mono (by omega))) h3) (Sl.below HLb.out rowE_loc (HB0.out.trans (hHeld.mono (by omega))) h4) (by have := hHeld.size; omega) (by have := hHeld.size; omega) (by have := hHeld.size; omega) (by have := hHeld.size; omega) Hrs.out _ (fun wq3 hB => ?_)
  refine ⟨_, rfl, hHeld.trans (hB.mono hHeld.size), ?_⟩
  have hHeld2 := hHeld.trans (hB.mono hHeld.size)
  clear hHeld
  have hHeld := hHeld2
  clear hHeld2
  clear hB
  try simp only [Act.put, List.getElem_toArray, List.getElem_cons_succ, List.getElem_cons_zero, List.setIfInBounds_toArray, List.set_cons_zero, List.set_cons_succ]
  refine wpAnyH_take (i := 5) (v := .bool true) rfl (by kernel_rfl) (by kernel_rfl) (by kernel_rfl) (fun _ _ _ h => h) (Or.inl ⟨by rfl, ?_⟩) hHeld ?_
  · intro w' hSw; go_simp
  try simp only [Act.put, List.getElem_toArray, List.getElem_cons_succ, List.getElem_cons_zero, List.setIfInBounds_toArray, List.set_cons_zero, List.set_cons_succ]
  have HH2 := Lib.hid hHeld
  refine wpAnyH_done (by kernel_rfl) ?_ _
  clear hHeld
  have hr := HR.out _ (HB0.out.trans (HH2.out.mono (by omega)))
  go_wp2_with fail
  first | exact hr | exact fin hr rfl
end Go.Proofs.YtmconajkgjfplaaGreat
end

/- Relations in variables: what stays of them, and what the functions make of them. -/
section
set_option linter.unusedVariables false
set_option linter.unusedSimpArgs false
namespace Go.Proofs.YtmconajkgjfplaaGreat
open Go.RowKit
set_option linter.unusedVariables false
set_option linter.unusedSimpArgs false

/-- A relation's value. -/
structure RelH (w : World) (pc : Option Addr) (qc : Nat) (pl : Option Addr) (ql : Nat) (cols : List S) (l : List (List V)) : Prop where
  strs : Strs 0 w.heap.size w (.slice pc cols.length qc) cols
  rws : Rws 0 w.heap.size w (.slice pl l.length ql) l
theorem RelH.below {w w' : World} {pc pl : Option Addr} {qc ql : Nat} {cols : List S} {l : List (List V)} (h : RelH w pc qc pl ql cols l) (hB : Below w.heap.size w w') : RelH w' pc qc pl ql cols l :=
  ⟨(Sl.below h.strs Strs.loc hB (Nat.le_refl _)).mono Strs.loc (Nat.zero_le _) hB.size, (Sl.below h.rws rowE_loc hB (Nat.le_refl _)).mono rowE_loc (Nat.zero_le _) hB.size⟩
/-- A variable that holds a relation. -/
structure RelAt (w : World) (b : Nat) (pc : Option Addr) (qc : Nat) (pl : Option Addr) (ql : Nat) (cols : List S) (l : List (List V)) : Prop where
  blk : Blk w b [.slice pc cols.length qc, .slice pl l.length ql] 25
  rel : RelH w pc qc pl ql cols l
theorem RelAt.below {w w' : World} {b : Nat} {pc pl : Option Addr} {qc ql : Nat} {cols : List S} {l : List (List V)} (h : RelAt w b pc qc pl ql cols l) (hB : Below w.heap.size w w') : RelAt w' b pc qc pl ql cols l :=
  ⟨h.blk.below hB h.blk.lt, h.rel.below hB⟩
theorem RelH.box {w : World} {pc pl : Option Addr} {qc ql : Nat} {cols : List S} {l : List (List V)} (h : RelH w pc qc pl ql cols l) {n : Nat} (hn : n = w.heap.size) :
    RelAt (w.alloc (.cells #[.slice pc cols.length qc, .slice pl l.length ql] 25)) n pc qc pl ql cols l :=
  ⟨Blk.new w [.slice pc cols.length qc, .slice pl l.length ql] _ hn, h.below (alloc_below _ _)⟩
/-- What a function hands back. -/
def RelV (w : World) (v : Value) (cols : List S) (l : List (List V)) : Prop := ∃ pc qc pl ql, v = .agg #[.slice pc cols.length qc, .slice pl l.length ql] ∧ RelH w pc qc pl ql cols l
theorem RelV.of {lo : Nat} {w : World} {cv lv : Value} {hs : List Value} {cols : List S} {l : List (List V)} (hT : OwnT lo w cv cols) (hR : OwnR lo w lv hs l) : RelV w (.agg #[cv, lv]) cols l := by
  obtain ⟨p, q, rfl, -, -, -, -⟩ := (OwnT.sl hT).form
  obtain ⟨p2, q2, rfl, -, -, -, -⟩ := hR.rws.form
  exact ⟨p, q, p2, q2, rfl, (OwnT.sl hT).mono Strs.loc (Nat.zero_le _) (Nat.le_refl _), hR.rws.mono rowE_loc (Nat.zero_le _) (Nat.le_refl _)⟩
section
variable {w : World} {pa qb pb qa : Option Addr} {na nb ma mb : Nat} {ac bc : List S} {la lb : List (List V)}
theorem Project_K {cols : List S} {cv : Value} (ha : RelH w pa na qa ma ac la) (hcols : Strs 0 w.heap.size w cv cols) (hlen : cols.length ≤ 1000000000000) (hll : la.length ≤ 1000000000000) {e : Int} {co : List S} {lo : List (List V)} (he : projErr ac la cols = e) (hc : okL e cols = co) (hl : okL e (relCanon (la.map fun x => pickL x (placesL cols ac))) = lo) (R : Ending → World → Prop)
    (hR : ∀ w' v, Below w.heap.size w w' → RelV w' v co lo → R (.returned (.tuple #[v, .int .i64 e])) w') :
    Calls Tryz.prog 8 #[.agg #[.slice pa ac.length na, .slice qa la.length ma], cv] w R := by
  subst he hc hl
  exact Project_any 0 w.heap.size 0 w.heap.size 0 w.heap.size ac _ _ la _ cols cv w ha.strs (Nat.le_refl _) ha.rws (Nat.le_refl _) hcols (Nat.le_refl _) hlen hll R (fun w' cv lv hs hB hT hO => hR w' _ hB (.of hT hO))
end
end Go.Proofs.YtmconajkgjfplaaGreat
end

/- The chapter's relations: a row of numbers. (Printed by outa.py.) -/
section
set_option linter.unusedVariables false
set_option linter.unusedSimpArgs false
namespace Go.Proofs.YtmconajkgjfplaaGreat
open Go.RowKit
set_option linter.unusedVariables false
set_option linter.unusedSimpArgs false
attribute [local go_sem ↓] Go.wp_at_zero Go.wp_at_succ

end Go.Proofs.YtmconajkgjfplaaGreat
end
