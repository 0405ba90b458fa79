/- Rows of a call's own, sorted by the library. -/
import Derived.Test.YtpncblagjkbemaaRowC
import Derived.Test.YtpncblagjkbemaaRowP
import Derived.Test.YtpncblagjkbemaaRowS
import Derived.Test.YtpncblagjkbemaaOnly
import Derived.Shelf.SlSortCmp.NoneTotal
namespace Go.Proofs.Ytpncblagjkbemaa
open Go.RowKit Go.Sort Go.Shelf
set_option linter.unusedVariables false

/-- A header and its row, as they lie in a world, outside of block g. -/
abbrev HRow (lo g : Nat) (w : World) : Type := { p : Value × List V // OwnV lo w p.1 p.2 ∧ p.1.ownBlock ≠ some g }
instance (lo g : Nat) (w : World) : Inhabited (HRow lo g w) := ⟨⟨(.slice none 0 0, []), Own.nil _ _ _ _ _, by simp [Value.ownBlock]⟩⟩
def hrE {lo g : Nat} {w : World} (p : HRow lo g w) : Value := p.1.1
def hrC {lo g : Nat} {w : World} (p q : HRow lo g w) : Int := cmpR p.1.2 q.1.2
theorem hr_one {lo g : Nat} {w : World} : OneCell (hrE (lo := lo) (g := g) (w := w)) := fun p => by
  obtain ⟨a, c, h⟩ := Own.slice p.2.1
  unfold hrE
  rw [h]
  rfl
theorem hr_swo {lo g : Nat} {w : World} : SWO (ltOf (hrC (lo := lo) (g := g) (w := w))) where
  irrefl p := by
    unfold ltOf hrC
    rw [cmpR_cmp.self]
    simp
  trans p q r h1 h2 := by
    unfold ltOf hrC at *
    simp only [decide_eq_true_eq] at *
    exact cmpR_cmp.trans _ _ _ h1 h2
  ntrans p q r h1 h2 := by
    unfold ltOf hrC at *
    simp only [decide_eq_false_iff_not] at *
    intro h3
    have a1 := cmpR_cmp.three p.1.2 q.1.2
    have a2 := cmpR_cmp.three q.1.2 r.1.2
    by_cases e1 : cmpR p.1.2 q.1.2 = 0
    · rw [(cmpR_cmp.zero _ _).1 e1] at h3; omega
    · by_cases e2 : cmpR q.1.2 r.1.2 = 0
      · rw [← (cmpR_cmp.zero _ _).1 e2] at h3; omega
      · have b1 := cmpR_cmp.anti p.1.2 q.1.2
        have b2 := cmpR_cmp.anti q.1.2 r.1.2
        have := cmpR_cmp.trans r.1.2 q.1.2 p.1.2 (by omega) (by omega)
        have b3 := cmpR_cmp.anti p.1.2 r.1.2
        omega
theorem heap_sortRow {α : Type} [Inhabited α] {enc : α → Value} {w : World} {g n : Nat} {os : Array Obj} {cur : Array Value} {e : TypeId} {fr : Nat × Nat} (d : Array α) (hb : w.heap[g]? = some (.cells cur e fr)) :
    (sortWorld enc w g 0 n d os).heap[g]? = some (.cells (putCells enc 0 d cur) e fr) := by
  have hg : g < w.heap.size := (Array.getElem?_eq_some_iff.1 hb).1
  unfold sortWorld
  rw [heap_grow_old _ _ (by simpa using hg)]
  simp [putRow, mapBlock, Sort.ahead, Array.getElem?_modify, hb, onCells]
theorem heap_sortOther {α : Type} [Inhabited α] {enc : α → Value} {w : World} {g n : Nat} {os : Array Obj} (d : Array α) {k : Nat} (hk : k < w.heap.size) (hne : k ≠ g) : (sortWorld enc w g 0 n d os).heap[k]? = w.heap[k]? := by
  unfold sortWorld
  rw [heap_grow_old _ _ (by simpa using hk)]
  simp [putRow, mapBlock, Sort.ahead, Array.getElem?_modify]
  intro e
  exact absurd e.symm hne
theorem size_sort {α : Type} [Inhabited α] {enc : α → Value} {w : World} {g n : Nat} {os : Array Obj} (d : Array α) : w.heap.size ≤ (sortWorld enc w g 0 n d os).heap.size := by
  simp [sortWorld, grow, putRow, mapBlock, Sort.ahead]
theorem below_sort {α : Type} [Inhabited α] {enc : α → Value} {w : World} {g n lo : Nat} {os : Array Obj} (d : Array α) (hlo : lo ≤ g) (hg : g < w.heap.size) : Below lo w (sortWorld enc w g 0 n d os) :=
  ⟨rfl, rfl, rfl, size_sort d, fun k hk => heap_sortOther d (by omega) (by omega)⟩
theorem take_putCells' {α : Type} [Inhabited α] (enc : α → Value) (cur : Array Value) (d : Array α) (h : d.size ≤ cur.size) : (putCells enc 0 d cur).toList.take d.size = d.toList.map enc := by
  apply List.ext_getElem?
  intro j
  by_cases hj : j < d.size
  · rw [List.getElem?_take_of_lt hj, Array.getElem?_toList]
    simp [putCells, hj, show j < cur.size by omega]
  · rw [List.getElem?_take_eq_none (by omega), List.getElem?_eq_none (by simp; omega)]
theorem flat_vE (l : List Value) : l.flatMap vE = l := by
  induction l with
  | nil => rfl
  | cons x r ih => rw [List.flatMap_cons, ih]; rfl
theorem rowsCompare_sort {lo g n : Nat} {w : World} : CmpLays1 Try.prog 24 #[] (hrE (lo := lo) (g := g) (w := w)) hrC g 0 n w := by
  intro m os dk hs x y
  have keep : ∀ p : HRow lo g w, OwnV lo (sortWorld hrE w g 0 m dk os) (hrE p) p.1.2 := fun p =>
    Own.same p.2.1 (fun k hk => heap_sortOther dk (Own.lt p.2.1 k hk).2 (fun e => p.2.2 (e ▸ hk)))
  have h := rowsCompare_any lo _ lo _ x.1.2 y.1.2 (hrE x) (hrE y) (sortWorld hrE w g 0 m dk os) (OwnV.sl (keep x)) (OwnV.sl (keep y)) (Nat.le_refl _) (Nat.le_refl _)
    (fun e w' => e = .returned (.int .i64 (hrC x y)) ∧ ∃ q os', w' = grow ((sortWorld hrE w g 0 m dk os).drewN q) os') (fun w' hg => ⟨rfl, hg⟩)
  simpa using h
set_option maxRecDepth 100000 in
set_option maxHeartbeats 2000000 in
/-- slices.SortFunc of rows of a call's own. -/
theorem sortRows_any (lo : Nat) (v : Value) (hs : List Value) (xs : List (List V)) (w : World) (h : OwnR lo w v hs xs) (hlen : xs.length ≤ 1000000000000) (R : Ending → World → Prop)
    (hR : ∀ w' hs' xs', Only (fun z => v.ownBlock = some z) w w' → OwnR lo w' v hs' xs' → xs'.Perm xs → xs'.Pairwise (fun a b => ¬ cmpR b a < 0) → R (.returned (.tuple #[])) w') :
    Calls Try.prog 112 #[v, .func (.func 24) #[] #[]] w R := by
  have hl := h.len
  by_cases hx : hs = []
  · subst hx
    have hx2 : xs = [] := List.eq_nil_of_length_eq_zero (by rw [← hl]; rfl)
    subst hx2
    obtain ⟨p, cap, hv⟩ := Own.slice h.own
    have hv' : v = .slice p 0 cap := hv
    have hr := hR w [] [] (Only.refl _ _) h (List.Perm.refl _) List.Pairwise.nil
    subst hv'
    have hc := AnyF.slices_SortFunc_none (P := Try.prog) { sortRows with } p cap (.func (.func 24) #[] #[]) w
    exact hc.mono (fun e w' ⟨he, hw⟩ => by rw [he, hw]; exact hr)
  · rcases h.own.2 with ⟨-, hn⟩ | ⟨g, cap, cur, hv, hb, hg, hnc, hcm, hcs, htake⟩
    · exact absurd (List.eq_nil_of_length_eq_zero hn) hx
    rw [Nat.mul_one] at hcs htake
    rw [flat_vE] at htake
    have hgl : g < w.heap.size := (Array.getElem?_eq_some_iff.1 hg).1
    have hap : ∀ i (hi : i < hs.length), hs[i].ownBlock ≠ some g := fun i hi e => h.apart i hi g e (by rw [hv]; rfl)
    let d : Array (HRow lo g w) := Array.ofFn (n := hs.length) (fun i => ⟨(hs[i.1], xs[i.1]'(by rw [← hl]; exact i.2)), h.row i.1 i.2 (by rw [← hl]; exact i.2), hap i.1 i.2⟩)
    have hd : d.size = hs.length := Array.size_ofFn
    have hd1 : d.toList.map hrE = hs := by
      apply List.ext_getElem
      · simp [hd]
      · intro i h1 h2; simp [d, hrE]
    have hd2 : d.toList.map (fun p => p.1.2) = xs := by
      apply List.ext_getElem
      · simp [hd, hl]
      · intro i h1 h2; simp [d]
    have hH : Holds hrE w g 0 d := by
      intro j hj
      have hj' : j < hs.length := by rw [← hd]; exact hj
      refine ⟨?_, by simp [World.frozen?, hg]⟩
      have h1 : (cur.toList.take hs.length)[j]? = hs[j]? := by rw [htake]
      rw [List.getElem?_take_of_lt hj'] at h1
      simp only [World.cell?, hg, Nat.zero_add]
      simp only [Option.isSome_none, Bool.false_eq_true, if_false]
      rw [← Array.getElem?_toList, h1, List.getElem?_eq_getElem hj', getElem!_pos d j hj]
      simp [d, hrE]
    have hc := Any.slices_SortFunc (P := Try.prog) sortRows hrE hr_one hrC hr_swo 24 #[] g 0 cap d w (enters_of Try.func24 (by kernel_rfl) rfl) rowsCompare_sort hH hgl (by omega)
    rw [hd] at hc
    rw [hv]
    refine Calls.mono hc (fun e w' ⟨he, d', n, os, hp, hso, hw⟩ => ?_)
    subst he
    have hds : d'.size = hs.length := by rw [hp.1, hd]
    have hperm : d'.toList.Perm d.toList := by
      have := hp.2.2
      rwa [Array.extract_eq_self_of_le (by omega), Array.extract_eq_self_of_le (by omega)] at this
    have hl' : (d'.toList.map hrE).length = hs.length := by simp [hds]
    have hgl' := size_sort (enc := hrE) (w := w) (g := g) (n := n) (os := os) d'
    refine hR w' (d'.toList.map hrE) (d'.toList.map (fun p => p.1.2)) (by rw [hw, hv]; exact ⟨rfl, rfl, rfl, hgl', fun k hk hn => heap_sortOther d' hk (fun e => hn (by rw [e]; rfl))⟩) ?_ (by rw [← hd2]; exact hperm.map _) ?_
    · refine ⟨?_, by simp, fun i hi h2 => ?_, fun i hi k hk => ?_⟩
      · refine ⟨by rw [hl', flat_vE, Nat.mul_one, hl'], .inr ⟨g, cap, _, by rw [hl', hv], hb, by rw [hw]; exact heap_sortRow d' hg, by rw [hl']; exact hnc, hcm, by simp [putCells, hcs], ?_⟩⟩
        rw [hl', flat_vE, Nat.mul_one, ← hds]
        exact take_putCells' hrE cur d' (by omega)
      · simp only [List.getElem_map]
        rw [hw]
        exact Own.same (d'.toList[i]'(by simpa using hi)).2.1 (fun k hk => heap_sortOther d' (Own.lt (d'.toList[i]'(by simpa using hi)).2.1 k hk).2 (fun e => (d'.toList[i]'(by simpa using hi)).2.2 (e ▸ hk)))
      · simp only [List.getElem_map] at hk
        rw [hv]
        intro e
        have e2 : g = k := by simpa [Value.ownBlock] using e
        exact (d'.toList[i]'(by simpa using hi)).2.2 (hk.trans (congrArg some e2.symm))
    · rw [List.pairwise_map, List.pairwise_iff_getElem]
      intro i j hi hj hij
      have := hso i j (Nat.zero_le _) hij (by rw [← hds]; simpa using hj)
      rw [getElem!_pos d' i (by simpa using hi), getElem!_pos d' j (by simpa using hj)] at this
      unfold ltOf hrC at this
      simpa using this
end Go.Proofs.Ytpncblagjkbemaa
