/- Trees: pairs in memory of the call's own; what Range tells of a list. -/
import Derived.Test.YtmlcnfomiemdpaaTreeFr
import Derived.Test.YtmlcnfomiemdpaaOwnB
import Derived.Great.BuildSlice
namespace Go.Proofs.Ytmlcnfomiemdpaa
open Go.RowKit

theorem info_parts {i : Option TypeInfo} {z : Option Value} {s b : Nat} (h : i.map (fun i => (i.zero, i.size, i.bytes)) = some (z, s, b)) : ∃ i0, i = some i0 ∧ i0.zero = z ∧ i0.size = s ∧ i0.bytes = b := by
  cases i with
  | none => cases h
  | some i => simp only [Option.map_some, Option.some.injEq, Prod.mk.injEq] at h; exact ⟨i, rfl, h.1, h.2.1, h.2.2⟩
theorem infoPair : (Try.prog.info? 43).map (fun i => (i.zero, i.size, i.bytes)) = some (some (.agg #[.slice none 0 0, .slice none 0 0]), 2, 48) := by kernel_rfl
def pE (p : Value × Value) : List Value := [p.1, p.2]
abbrev OwnP := Own pE 43 2
def blks (ps : List (Value × Value)) : List Nat := ps.flatMap fun p => p.1.ownBlock.toList ++ p.2.ownBlock.toList
theorem blks_append (a b : List (Value × Value)) : blks (a ++ b) = blks a ++ blks b := List.flatMap_append ..
theorem Own.same {α : Type} {enc : α → List Value} {e : TypeId} {size lo : Nat} {w w' : World} {v : Value} {xs : List α} (h : Own enc e size lo w v xs) (hb : ∀ g, v.ownBlock = some g → w'.heap[g]? = w.heap[g]?) : Own enc e size lo w' v xs :=
  ⟨h.1, h.2.imp id fun ⟨g, cap, cur, h1, h2, h3, h4⟩ => ⟨g, cap, cur, h1, h2, (hb g (by rw [h1]; rfl)).trans h3, h4⟩⟩
/-- A slice of pairs of the call's own: each key and value has a block by itself. -/
structure Pairs (lo : Nat) (w : World) (v : Value) (ps : List (Value × Value)) (d : PL) : Prop where
  own : OwnP lo w v ps
  len : ps.length = d.length
  kv : ∀ i (h : i < ps.length) (h2 : i < d.length), OwnB lo w ps[i].1 d[i].1 ∧ OwnB lo w ps[i].2 d[i].2
  apart : (blks ps).Nodup
  hd : ∀ g, v.ownBlock = some g → g ∉ blks ps
theorem mem_blks {ps : List (Value × Value)} {i : Nat} (h : i < ps.length) {g : Nat} (hg : ps[i].1.ownBlock = some g ∨ ps[i].2.ownBlock = some g) : g ∈ blks ps := by
  refine List.mem_flatMap.2 ⟨ps[i], List.getElem_mem h, ?_⟩
  rcases hg with e | e <;> simp [e]
theorem of_mem_blks {ps : List (Value × Value)} {g : Nat} (hg : g ∈ blks ps) : ∃ i, ∃ h : i < ps.length, ps[i].1.ownBlock = some g ∨ ps[i].2.ownBlock = some g := by
  obtain ⟨p, hp, h⟩ := List.mem_flatMap.1 hg
  obtain ⟨i, hi, rfl⟩ := List.mem_iff_getElem.1 hp
  refine ⟨i, hi, ?_⟩
  rcases List.mem_append.1 h with h | h
  · exact .inl (by simpa using h)
  · exact .inr (by simpa using h)
theorem Pairs.nil (lo : Nat) (w : World) : Pairs lo w (.slice none 0 0) [] [] := ⟨Own.nil _ _ _ _ _, rfl, fun _ h => absurd h (Nat.not_lt_zero _), List.Pairwise.nil, fun g h => by cases h⟩
theorem Pairs.lt {lo : Nat} {w : World} {v : Value} {ps : List (Value × Value)} {d : PL} (h : Pairs lo w v ps d) : (∀ g, v.ownBlock = some g → lo ≤ g ∧ g < w.heap.size) ∧ ∀ g ∈ blks ps, lo ≤ g ∧ g < w.heap.size := by
  refine ⟨fun g hg => h.own.lt g hg, fun g hg => ?_⟩
  obtain ⟨i, hi, e⟩ := of_mem_blks hg
  have hk := h.kv i hi (by rw [← h.len]; exact hi)
  rcases e with e | e
  · exact hk.1.lt g e
  · exact hk.2.lt g e
theorem Pairs.same {lo : Nat} {w w' : World} {v : Value} {ps : List (Value × Value)} {d : PL} (h : Pairs lo w v ps d) (h1 : ∀ g, v.ownBlock = some g → w'.heap[g]? = w.heap[g]?) (h2 : ∀ g ∈ blks ps, w'.heap[g]? = w.heap[g]?) : Pairs lo w' v ps d where
  own := h.own.same h1
  len := h.len
  kv := fun i hi h3 => ⟨(h.kv i hi h3).1.same fun g e => h2 g (mem_blks hi (.inl e)), (h.kv i hi h3).2.same fun g e => h2 g (mem_blks hi (.inr e))⟩
  apart := h.apart
  hd := h.hd
theorem run_bsP (a c : Option Addr) (n m p q : Nat) (w : World) : (Instr.buildSlice 38 1 #[(0, .agg #[.slice a n p, .slice c m q])]).run Try.prog w = .ok (.slice (some ⟨w.heap.size, 0, none⟩) 1 1) (w.alloc (.cells #[.slice a n p, .slice c m q] 43)) := by
  obtain ⟨i0, hi, hz0, hz1, hz2⟩ := info_parts infoPair
  refine run_buildSlice w _ _ 1 _ #[.slice a n p, .slice c m q] i0 _ Try.underlying38 hi hz0 (by rw [hz1]; omega) (by rw [hz1]; omega) ?_
  rw [hz1]
  have := Great.fill_whole (s := 2) (by omega) [.agg #[.slice a n p, .slice c m q]] ((Array.range (1 * 2)).map ((Value.agg #[.slice none 0 0, .slice none 0 0]).cells[· % (Value.agg #[.slice none 0 0, .slice none 0 0]).cells.size]!)) (by simp [Value.cells]) (by simp)
  simpa [Value.cells] using this
/-- A pair more. -/
theorem Pairs.add {lo : Nat} {w w1 w2 : World} {v : Value} {ps : List (Value × Value)} {d : PL} (h : Pairs lo w v ps d) (hlo : lo ≤ w.heap.size) (hB : Below w.heap.size w w1) {x : List UInt8 × List UInt8} {k2 v2 : Value} (hk : OwnB w.heap.size w1 k2 x.1) (hv : OwnB w.heap.size w1 v2 x.2)
    (hkv : ∀ g, k2.ownBlock = some g → v2.ownBlock ≠ some g) (e2 : w2 = w1.alloc (.cells #[k2, v2] 43)) (hl : d.length ≤ 1000000000) {n : Nat} (hn : n = w1.heap.size) :
    ∃ p m cp w', (Builtin.append_ #[38, 38] 38 #[v, .slice (some ⟨n, 0, none⟩) 1 1]).run Try.prog w2 = .ok (.slice p m cp) w' ∧ Only (fun q => v.ownBlock = some q) w w' ∧ w1.heap.size ≤ w'.heap.size ∧
      Pairs lo w' (.slice p m cp) (ps ++ [(k2, v2)]) (d ++ [x]) ∧ ((Value.slice p m cp).ownBlock = v.ownBlock ∨ ∃ g, (Value.slice p m cp).ownBlock = some g ∧ w.heap.size ≤ g) := by
  subst hn
  obtain ⟨i0, hif, hz0, hz1, hz2⟩ := info_parts infoPair
  obtain ⟨a1, c1, e1, -, -, -⟩ := (OwnB.bytes hk).form
  obtain ⟨a2, c2, e3, -, -, -⟩ := (OwnB.bytes hv).form
  have hB2 : Below w1.heap.size w1 w2 := by rw [e2]; exact (Below.refl _ _).alloc (Nat.le_refl _) _
  have hB02 : Below w.heap.size w w2 := hB.trans (hB2.mono hB.size)
  have hc : CellsAt w2 w1.heap.size 0 [k2, v2] := by rw [e2]; exact CellsAt.new w1 [k2, v2] _
  have hsrc : Src Try.prog 2 38 (.slice (some ⟨w1.heap.size, 0, none⟩) 1 1) [(k2, v2)].length ([(k2, v2)].flatMap pE) w2 :=
    Src.ofSlice w2 Try.underlying38 _ 1 1 [k2, v2] rfl (fun j u hu => by rw [Addr.add_lit]; exact hc j u hu) (fun u hu => by
      rcases List.mem_cons.1 hu with rfl | hu
      · rw [e1]; rfl
      · rw [List.mem_singleton.1 hu, e3]; rfl)
  have hps : ps.length ≤ 1000000000 := by rw [h.len]; exact hl
  obtain ⟨v', w', hr, ho, ha⟩ := (h.own.kept hB02).app 38 38 38 i0 _ 48 Try.underlying38 hif hz0 hz1 hz2 rfl hsrc (by simp; omega) (by decide) (Nat.le_trans hlo hB02.size)
  obtain ⟨g, cap, rfl, -⟩ := ho.form (by simp)
  have hO : Only (fun q => v.ownBlock = some q) w w' := (Below.only hB02).trans ⟨ha.grown.os, ha.grown.tape, ha.grown.output, ha.grown.size, fun k hk hA => ha.grown.block k hk (fun e => hA e.symm)⟩
  have hlt := h.lt
  have hkb : ∀ q, k2.ownBlock = some q → w.heap.size ≤ q ∧ q < w1.heap.size := fun q e => hk.lt q e
  have hvb : ∀ q, v2.ownBlock = some q → w.heap.size ≤ q ∧ q < w1.heap.size := fun q e => hv.lt q e
  have hkeep : ∀ q, w.heap.size ≤ q → q < w1.heap.size → w'.heap[q]? = w1.heap[q]? := fun q h1 h2 => (ha.grown.block q (by have := hB2.size; omega) (fun e => by have := (hlt.1 q e.symm).2; omega)).trans (hB2.block q h2)
  have hmoved : (Value.slice (some ⟨g, 0, none⟩) (ps ++ [(k2, v2)]).length cap).ownBlock = v.ownBlock ∨ ∃ q, (Value.slice (some ⟨g, 0, none⟩) (ps ++ [(k2, v2)]).length cap).ownBlock = some q ∧ w2.heap.size ≤ q := ha.moved
  refine ⟨_, _, _, w', hr, hO, Nat.le_trans hB2.size ha.grown.size, ⟨ho, by simp [h.len], fun i hi hi2 => ?_, ?_, fun q hq => ?_⟩, hmoved.imp id fun ⟨q, e, hq⟩ => ⟨q, e, Nat.le_trans hB02.size hq⟩⟩
  · by_cases hil : i < ps.length
    · rw [List.getElem_append_left hil, List.getElem_append_left (by rw [← h.len]; exact hil)]
      have hkv := h.kv i hil (by rw [← h.len]; exact hil)
      have hne : ∀ q, ps[i].1.ownBlock = some q ∨ ps[i].2.ownBlock = some q → w'.heap[q]? = w.heap[q]? := fun q e => hO.block q (hlt.2 q (mem_blks hil e)).2 (fun e2 => h.hd q e2 (mem_blks hil e))
      exact ⟨hkv.1.same fun q e => hne q (.inl e), hkv.2.same fun q e => hne q (.inr e)⟩
    · have hil2 : i = ps.length := by simp at hi; omega
      subst hil2
      rw [List.getElem_append_right (Nat.le_refl _), List.getElem_append_right (by rw [h.len]; exact Nat.le_refl _)]
      simp only [Nat.sub_self, h.len, List.getElem_cons_zero]
      refine ⟨OwnB.mono (hk.same fun q e => hkeep q (hkb q e).1 (hkb q e).2) hlo, OwnB.mono (hv.same fun q e => hkeep q (hvb q e).1 (hvb q e).2) hlo⟩
  · rw [blks_append]
    refine List.nodup_append.2 ⟨h.apart, ?_, fun q hq q2 hq2 e => ?_⟩
    · simp only [blks, List.flatMap_cons, List.flatMap_nil, List.append_nil]
      refine List.nodup_append.2 ⟨?_, ?_, fun q hq q2 hq2 e => ?_⟩
      · cases k2.ownBlock <;> simp
      · cases v2.ownBlock <;> simp
      · subst e
        exact hkv q (by simpa using hq) (by simpa using hq2)
    · subst e
      have h1 := (hlt.2 q hq).2
      simp only [blks, List.flatMap_cons, List.flatMap_nil, List.append_nil] at hq2
      rcases List.mem_append.1 hq2 with e | e
      · have := (hkb q (by simpa using e)).1; omega
      · have := (hvb q (by simpa using e)).1; omega
  · rw [blks_append]
    intro hm
    rcases List.mem_append.1 hm with e | e
    · rcases hmoved with e2 | ⟨q2, e2, h2⟩
      · exact h.hd q (e2 ▸ hq) e
      · rw [hq] at e2
        injection e2 with e2
        have := (hlt.2 q e).2
        have := hB02.size
        omega
    · have hq1 : w.heap.size ≤ q ∧ q < w1.heap.size := by
        simp only [blks, List.flatMap_cons, List.flatMap_nil, List.append_nil] at e
        rcases List.mem_append.1 e with e | e
        · exact hkb q (by simpa using e)
        · exact hvb q (by simpa using e)
      rcases hmoved with e2 | ⟨q2, e2, h2⟩
      · have := (hlt.1 q (e2 ▸ hq)).2; omega
      · rw [hq] at e2
        injection e2 with e2
        have := hB2.size
        omega

theorem blks_add {lo : Nat} {w1 : World} {k2 v2 : Value} {a b : List UInt8} (hk : OwnB lo w1 k2 a) (hv : OwnB lo w1 v2 b) (ps : List (Value × Value)) : ∀ g ∈ blks (ps ++ [(k2, v2)]), g ∈ blks ps ∨ lo ≤ g := by
  intro g hg
  rw [blks_append] at hg
  rcases List.mem_append.1 hg with e | e
  · exact .inl e
  · simp only [blks, List.flatMap_cons, List.flatMap_nil, List.append_nil] at e
    rcases List.mem_append.1 e with e | e
    · exact .inr (hk.lt g (by simpa using e)).1
    · exact .inr (hv.lt g (by simpa using e)).1

/-! ### lists -/
def Within (to : List UInt8) (x : List UInt8 × List UInt8) : Prop := to = [] ∨ cmpB x.1 to < 0
instance (to : List UInt8) (x : List UInt8 × List UInt8) : Decidable (Within to x) := by unfold Within; exact inferInstance
theorem range_full {to : List UInt8} {most : Int} {d : PL} (h1 : ∀ x ∈ d, Within to x) (h2 : (d.length : Int) ≤ most ∨ d = []) : rangeL to most d = d := by
  have e : d.takeWhile (fun x => decide (to = [] ∨ cmpB x.1 to < 0)) = d := by
    clear h2
    induction d with
    | nil => rfl
    | cons x r ih =>
      rw [List.takeWhile_cons, if_pos (decide_eq_true (show to = [] ∨ cmpB x.1 to < 0 from h1 x List.mem_cons_self)), ih fun y hy => h1 y (List.mem_cons_of_mem _ hy)]
  rw [rangeL, e]
  rcases h2 with h2 | h2
  · exact List.take_of_length_le (by omega)
  · rw [h2]; simp
theorem range_stop {to : List UInt8} {most : Int} {d rest : PL} {x : List UInt8 × List UInt8} (h1 : ∀ x ∈ d, Within to x) (h2 : (d.length : Int) ≤ most ∨ d = []) (h3 : most ≤ (d.length : Int) ∨ ¬ Within to x) : rangeL to most (d ++ x :: rest) = d := by
  have e : ∀ d : PL, (∀ x ∈ d, Within to x) → (d ++ x :: rest).takeWhile (fun x => decide (to = [] ∨ cmpB x.1 to < 0)) = d ++ (x :: rest).takeWhile (fun x => decide (to = [] ∨ cmpB x.1 to < 0)) := by
    intro d h1
    induction d with
    | nil => rfl
    | cons y r ih =>
      rw [List.cons_append, List.takeWhile_cons, if_pos (decide_eq_true (show to = [] ∨ cmpB y.1 to < 0 from h1 y List.mem_cons_self)), ih fun z hz => h1 z (List.mem_cons_of_mem _ hz)]
      rfl
  rw [rangeL, e d h1]
  rcases h3 with h3 | h3
  · by_cases hm : (d.length : Int) ≤ most
    · rw [show most.toNat = d.length by omega, List.take_append_of_le_length (Nat.le_refl _), List.take_of_length_le (Nat.le_refl _)]
    · have hd : d = [] := h2.resolve_left hm
      subst hd
      rw [show most.toNat = 0 by simp at hm; omega]
      simp
  · rw [List.takeWhile_cons, if_neg (by simpa [Within] using h3), List.append_nil]
    rcases h2 with h2 | h2
    · exact List.take_of_length_le (by omega)
    · rw [h2]; simp
end Go.Proofs.Ytmlcnfomiemdpaa
