/- Rows of strings in memory: a list of heads, each an own row, apart. -/
import Derived.Test.YtfmpafheodpfoaaDiskSp
import Derived.Test.YtfmpafheodpfoaaDiskOp
import Derived.Test.YtfmpafheodpfoaaOwnO
namespace Go.Proofs.Ytfmpafheodpfoaa
open Go.RowKit

/-- A row of strings: none yet, or an own row. -/
def RowO (w : World) (v : Value) (xs : List (List UInt8)) : Prop := (xs = [] ∧ v = .slice none 0 0) ∨ OwnO 9 0 w v (xs.map sV)
theorem RowO.lt {w : World} {v : Value} {xs : List (List UInt8)} (h : RowO w v xs) : ∀ g, v.ownBlock = some g → g < w.heap.size := by
  rcases h with ⟨-, rfl⟩ | h
  · intro g hg; cases hg
  · exact fun g hg => (h.lt g hg).2
theorem RowO.same {w w' : World} {v : Value} {xs : List (List UInt8)} (h : RowO w v xs) (hb : ∀ g, v.ownBlock = some g → w'.heap[g]? = w.heap[g]?) : RowO w' v xs := h.imp id fun h => h.same hb
theorem RowO.own {w : World} {v : Value} {xs : List (List UInt8)} (h : RowO w v xs) (hx : xs ≠ []) : OwnO 9 0 w v (xs.map sV) := h.resolve_left fun e => hx e.1
structure RowsAt (w : World) (T : Nat → Prop) (rb : Nat) (hs : List Value) (rows : List (List (List UInt8))) : Prop where
  hb : Blk w rb hs 29
  len : hs.length = rows.length
  row : ∀ i (h : i < hs.length) (h2 : i < rows.length), RowO w hs[i] rows[i]
  apart : ∀ i j (h : i < hs.length) (h2 : j < hs.length) g, hs[i].ownBlock = some g → hs[j].ownBlock = some g → i = j
  mine : ∀ i (h : i < hs.length) g, hs[i].ownBlock = some g → T g ∧ g ≠ rb
  tb : T rb
theorem RowsAt.keep {w w' : World} {T T' : Nat → Prop} {rb : Nat} {hs : List Value} {rows : List (List (List UInt8))} (h : RowsAt w T rb hs rows) (hb : ∀ k, T k → k < w.heap.size → w'.heap[k]? = w.heap[k]?) (hT : ∀ k, T k → T' k) : RowsAt w' T' rb hs rows where
  hb := (hb rb h.tb h.hb.lt).trans h.hb
  len := h.len
  row := fun i h1 h2 => (h.row i h1 h2).same fun g hg => hb g (h.mine i h1 g hg).1 ((h.row i h1 h2).lt g hg)
  apart := h.apart
  mine := fun i h1 g hg => ⟨hT g (h.mine i h1 g hg).1, (h.mine i h1 g hg).2⟩
  tb := hT _ h.tb
/-- One head is turned: into a part of its row, or what came of an append to it. -/
theorem RowsAt.put {w w2 : World} {T : Nat → Prop} {rb : Nat} {hs : List Value} {rows : List (List (List UInt8))} (h : RowsAt w T rb hs rows) (i : Nat) (hi : i < hs.length) (v' : Value) (xs : List (List UInt8))
    (hb : ∀ k, k < w.heap.size → hs[i].ownBlock ≠ some k → w2.heap[k]? = w.heap[k]?) (ho : RowO w2 v' xs) (hm : v'.ownBlock = hs[i].ownBlock ∨ ∃ k, v'.ownBlock = some k ∧ w.heap.size ≤ k) (hsz : w.heap.size ≤ w2.heap.size) :
    RowsAt (w2.setCell ⟨rb, i, none⟩ v') (fun k => T k ∨ (w.heap.size ≤ k ∧ k < w2.heap.size)) rb (hs.set i v') (rows.set i xs) := by
  have hlr := h.hb.lt
  have hi2 : i < rows.length := by rw [← h.len]; exact hi
  have hne : ∀ k, k < w.heap.size → k ≠ rb → hs[i].ownBlock ≠ some k → (w2.setCell ⟨rb, i, none⟩ v').heap[k]? = w.heap[k]? := fun k h1 h2 h3 => (Below.heap_setCell _ _ _ _ h2).trans (hb k h1 h3)
  have hnr : v'.ownBlock ≠ some rb := by
    rcases hm with e | ⟨k, e, hk⟩
    · rw [e]; intro e2; exact (h.mine i hi rb e2).2 rfl
    · rw [e]; intro e2; injection e2 with e2; omega
  refine ⟨?_, by rw [List.length_set, List.length_set]; exact h.len, ?_, ?_, ?_, .inl h.tb⟩
  · have hw2 : Blk w2 rb hs 29 := (hb rb hlr (fun e => (h.mine i hi rb e).2 rfl)).trans h.hb
    exact hw2.set i v'
  · intro j hj hj2
    rw [List.length_set] at hj hj2
    by_cases hji : j = i
    · subst hji
      rw [List.getElem_set_self, List.getElem_set_self]
      exact ho.same fun g hg => Below.heap_setCell _ _ _ _ (fun e => hnr (by rw [hg, e]))
    · rw [List.getElem_set_ne (fun e => hji e.symm), List.getElem_set_ne (fun e => hji e.symm)]
      refine (h.row j hj hj2).same fun g hg => ?_
      exact hne g ((h.row j hj hj2).lt g hg) (h.mine j hj g hg).2 (fun e => hji (h.apart j i hj hi g hg e))
  · intro j k hj hk g e1 e2
    have hj' : j < hs.length := by simpa using hj
    have hk' : k < hs.length := by simpa using hk
    by_cases hji : j = i
    · by_cases hki : k = i
      · rw [hji, hki]
      · subst hji
        rw [List.getElem_set_self] at e1
        rw [List.getElem_set_ne (fun e => hki e.symm)] at e2
        rcases hm with e | ⟨q, e, hq⟩
        · exact h.apart j k hj' hk' g (e ▸ e1) e2
        · rw [e] at e1; injection e1 with e1; have := (h.row k hk' (by rw [← h.len]; exact hk')).lt g e2; omega
    · rw [List.getElem_set_ne (fun e => hji e.symm)] at e1
      by_cases hki : k = i
      · subst hki
        rw [List.getElem_set_self] at e2
        rcases hm with e | ⟨q, e, hq⟩
        · exact h.apart j k hj' hk' g e1 (e ▸ e2)
        · rw [e] at e2; injection e2 with e2; have := (h.row j hj' (by rw [← h.len]; exact hj')).lt g e1; omega
      · rw [List.getElem_set_ne (fun e => hki e.symm)] at e2
        exact h.apart j k hj' hk' g e1 e2
  · intro j hj g e1
    have hj' : j < hs.length := by simpa using hj
    by_cases hji : j = i
    · subst hji
      rw [List.getElem_set_self] at e1
      rcases hm with e | ⟨q, e, hq⟩
      · have := h.mine j hj' g (e ▸ e1)
        exact ⟨.inl this.1, this.2⟩
      · have hlt := ho.lt g e1
        rw [e] at e1; injection e1 with e1
        exact ⟨.inr ⟨by omega, by omega⟩, by omega⟩
    · rw [List.getElem_set_ne (fun e => hji e.symm)] at e1
      have := h.mine j hj' g e1
      exact ⟨.inl this.1, this.2⟩
/-- What an append to a row and the store of its head make. -/
theorem RowsAt.appd {w w2 : World} {T : Nat → Prop} {rb : Nat} {hs : List Value} {rows : List (List (List UInt8))} (h : RowsAt w T rb hs rows) (i : Nat) (hi : i < hs.length) (hi2 : i < rows.length) (hne : rows[i] ≠ []) (hl : rows[i].length ≤ 1000) (hB : Below w.heap.size w w2) (s : List UInt8) (b c : Nat) (hb : w2.cell? ⟨b, 0, none⟩ = some (sV s)) :
    ∃ p n cp w', (Builtin.append_ #[29, 29] 29 #[hs[i], .slice (some ⟨b, 0, none⟩) 1 c]).run Try.prog w2 = .ok (.slice p n cp) w' ∧ Only (fun q => hs[i].ownBlock = some q) w w' ∧ w'.cell? ⟨rb, i, none⟩ = some hs[i] ∧ w'.frozen? ⟨rb, i, none⟩ = false ∧ w.heap.size ≤ w'.heap.size ∧
      RowsAt (w'.setCell ⟨rb, i, none⟩ (.slice p n cp)) (fun k => T k ∨ (w.heap.size ≤ k ∧ k < w'.heap.size)) rb (hs.set i (.slice p n cp)) (rows.set i (rows[i] ++ [s])) := by
  have hro := h.row i hi hi2
  have ho := hro.own hne
  have ho2 : OwnO 9 0 w2 hs[i] (rows[i].map sV) := ho.same fun g hg => hB.block g (hro.lt g hg)
  obtain ⟨i0, hif, hz0, hz1, hz2⟩ := info_parts infoStr
  have hcs : (rows[i].map sV).length = rows[i].length := List.length_map ..
  obtain ⟨v', w', hr, hown, happ⟩ := ho2.app 29 29 i0 _ 16 Try.underlying29 hif hz0 hz1 hz2 rfl (sV s) rfl b c hb (by rw [hcs]; omega) (by rw [hcs]; exact Nat.le_trans (Nat.add_le_add_right hl 1) (by decide)) (Nat.zero_le _)
  have hO : Only (fun q => hs[i].ownBlock = some q) w w' := (Below.only hB).trans ⟨happ.grown.os, happ.grown.tape, happ.grown.output, happ.grown.size, fun k hk hA => happ.grown.block k hk (fun e => hA e.symm)⟩
  have hnr : ¬ hs[i].ownBlock = some rb := fun e => (h.mine i hi rb e).2 rfl
  have hbk := hO.block rb h.hb.lt hnr
  have hc := h.hb.cells i hs[i] (List.getElem?_eq_getElem hi)
  rw [Nat.zero_add] at hc
  obtain ⟨p, n, cp, rfl⟩ : ∃ p n cp, v' = .slice p n cp := by
    obtain ⟨g, o, cap, cur, hv, -⟩ := hown
    exact ⟨_, _, _, hv⟩
  refine ⟨p, n, cp, w', hr, hO, (World.cell?_of_block hbk).trans hc, (World.frozen?_of_block hbk).trans (h.hb.free i), hO.size, ?_⟩
  refine h.put i hi (.slice p n cp) _ (fun k hk hn => hO.block k hk hn) (.inr ?_) ?_ hO.size
  · rw [List.map_append]
    exact hown
  · rcases happ.moved with e | ⟨k, e, hk⟩
    · exact .inl e
    · exact .inr ⟨k, e, Nat.le_trans hB.size hk⟩
end Go.Proofs.Ytfmpafheodpfoaa
