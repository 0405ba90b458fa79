/- disk.Write. -/
import Derived.Test.YtfmpafheodpfoaaDiskRd
import Derived.Great.BuildSlice
import Derived.Deep.RegionHeld3
import Derived.Deep.DrawnRows
namespace Go.Proofs.Ytfmpafheodpfoaa
open Go.RowKit
attribute [local go_sem ↓] Go.wp_at_zero Go.wp_at_succ

theorem run_bsS (s : List UInt8) (hl : s.length = 128) (w : World) : (Instr.buildSlice 64 1 #[(0, .agg (secE s).toArray)]).run Try.prog w = .ok (.slice (some ⟨w.heap.size, 0, none⟩) 1 1) (w.alloc (.cells (secE s).toArray 73)) := by
  obtain ⟨i0, hi, hz0, hz1, hz2⟩ := info_parts infoS
  refine run_buildSlice w _ _ 1 _ (secE s).toArray i0 _ Try.underlying64 hi hz0 (by rw [hz1]; omega) (by rw [hz1]; omega) ?_
  rw [hz1]
  have := Great.fill_whole (s := 128) (by omega) [.agg (secE s).toArray] ((Array.range (1 * 128)).map ((Value.agg (secE zeroS).toArray).cells[· % (Value.agg (secE zeroS).toArray).cells.size]!)) (by simp [Value.cells, secE_length, hl]) (by simp)
  simpa [Value.cells] using this
theorem appS {w : World} {lo : Nat} {v : Value} {xs ys : List (List UInt8)} (h : Own secE 73 128 lo w v xs) {x : Value} {tx ty : TypeId} (hs : Src Try.prog 128 tx x ys.length (ys.flatMap secE) w) (hb : xs.length + ys.length ≤ 100000000) (hlo : lo ≤ w.heap.size) :
    ∃ v' w', (Builtin.append_ #[64, tx] ty #[v, x]).run Try.prog w = .ok v' w' ∧ Own secE 73 128 lo w' v' (xs ++ ys) ∧ Appended w v w' v' := by
  obtain ⟨i0, hi, hz0, hz1, hz2⟩ := info_parts infoS
  exact h.app _ _ _ i0 _ 128 Try.underlying64 hi hz0 hz1 hz2 (by simp [Value.cells, secE_length, zeroS]) hs (by omega) (by omega) hlo
theorem srcS {w : World} {b n c : Nat} {ys : List (List UInt8)} (h : CellsAt w b 0 (ys.flatMap secE)) (hy : ∀ s ∈ ys, s.length = 128) (hn : n = ys.length) : Src Try.prog 128 64 (.slice (some ⟨b, 0, none⟩) n c) ys.length (ys.flatMap secE) w := by
  subst hn
  refine Src.ofSlice w Try.underlying64 _ _ _ _ (secs_length ys hy) (fun j u hu => by rw [Addr.add_lit]; exact h j u hu) (fun u hu => ?_)
  obtain ⟨s, -, hs⟩ := List.mem_flatMap.1 hu
  rw [secE, flatMap_bE] at hs
  obtain ⟨c, -, rfl⟩ := List.mem_map.1 hs
  rfl
/-- One more write of a sector: the row's new head is stored. -/
theorem DkIn.wrote {w w2 : World} {S : Nat → Prop} {db sb wb kS kW : Nat} {ws : List Value} {d : Dk} (h : DkIn w S db sb wb kS kW ws d) (i : Nat) (hi : i < ws.length) (hi2 : i < d.writes.length) (s : List UInt8) (hs : s.length = 128) (v' : Value)
    (hb : ∀ k, k < w.heap.size → ws[i].ownBlock ≠ some k → w2.heap[k]? = w.heap[k]?) (ho : OwnS w2 v' (d.writes[i] ++ [s])) (hm : v'.ownBlock = ws[i].ownBlock ∨ ∃ k, v'.ownBlock = some k ∧ w.heap.size ≤ k) (hsz : w.heap.size ≤ w2.heap.size) :
    DkIn (w2.setCell ⟨wb, i, none⟩ v') (fun k => S k ∨ (w.heap.size ≤ k ∧ k < w2.heap.size)) db sb wb kS kW (ws.set i v') ⟨d.safe, d.writes.set i (d.writes[i] ++ [s]), d.fuse, d.down, d.ops⟩ := by
  have hlw := h.hw.lt
  have hne : ∀ k, k < w.heap.size → k ≠ wb → ws[i].ownBlock ≠ some k → (w2.setCell ⟨wb, i, none⟩ v').heap[k]? = w.heap[k]? := fun k h1 h2 h3 => (Below.heap_setCell _ _ _ _ h2).trans (hb k h1 h3)
  have hnw : v'.ownBlock ≠ some wb := by
    rcases hm with e | ⟨k, e, hk⟩
    · rw [e]; intro e2; exact (h.mine i hi wb e2).2.2.2 rfl
    · rw [e]; intro e2; injection e2 with e2; omega
  refine ⟨?_, ?_, ?_, by rw [List.length_set]; exact h.lw, by rw [List.length_set]; exact h.lr, ?_, ?_, ?_, .inl h.sd, .inl h.ss, .inl h.sw, h.ds, h.dw, h.sbw, h.ls, ?_, h.pos, h.cap⟩
  · exact (hne db h.hd.lt h.dw (fun e => (h.mine i hi db e).2.1 rfl)).trans h.hd
  · exact h.hs.keep (hne sb h.hs.lt h.sbw (fun e => (h.mine i hi sb e).2.2.1 rfl))
  · have hw2 : BlkP w2 wb ws 64 := h.hw.keep (hb wb hlw (fun e => (h.mine i hi wb e).2.2.2 rfl))
    exact hw2.set i hi v'
  · intro j hj hj2
    rw [List.length_set] at hj hj2
    by_cases hji : j = i
    · subst hji
      rw [List.getElem_set_self, List.getElem_set_self]
      exact ⟨fun e => absurd e (by simp), ho.setOther (p := ⟨wb, j, none⟩) hnw v'⟩
    · rw [List.getElem_set_ne (fun e => hji e.symm), List.getElem_set_ne (fun e => hji e.symm)]
      have hr := h.row j hj hj2
      refine ⟨hr.1, hr.2.same fun g hg => ?_⟩
      exact hne g (hr.2.lt g hg).2 (h.mine j hj g hg).2.2.2 (fun e => hji (h.apart j i hj hi g hg e))
  · intro j k hj hk g e1 e2
    have hj' : j < ws.length := by simpa using hj
    have hk' : k < ws.length := by simpa using hk
    by_cases hji : j = i
    · by_cases hki : k = i
      · rw [hji, hki]
      · subst hji
        rw [List.getElem_set_self] at e1
        rw [List.getElem_set_ne (fun e => hki e.symm)] at e2
        rcases hm with e | ⟨q, e, hq⟩
        · exact h.apart j k hj' hk' g (e ▸ e1) e2
        · rw [e] at e1; injection e1 with e1; have := ((h.row k hk' (by rw [h.lr, ← h.lw]; exact hk')).2.lt g e2).2; omega
    · rw [List.getElem_set_ne (fun e => hji e.symm)] at e1
      by_cases hki : k = i
      · subst hki
        rw [List.getElem_set_self] at e2
        rcases hm with e | ⟨q, e, hq⟩
        · exact h.apart j k hj' hk' g e1 (e ▸ e2)
        · rw [e] at e2; injection e2 with e2; have := ((h.row j hj' (by rw [h.lr, ← h.lw]; exact hj')).2.lt g e1).2; omega
      · rw [List.getElem_set_ne (fun e => hki e.symm)] at e2
        exact h.apart j k hj' hk' g e1 e2
  · intro j hj g e1
    have hj' : j < ws.length := by simpa using hj
    by_cases hji : j = i
    · subst hji
      rw [List.getElem_set_self] at e1
      rcases hm with e | ⟨q, e, hq⟩
      · have := h.mine j hj' g (e ▸ e1)
        exact ⟨.inl this.1, this.2⟩
      · have hlt := (ho.lt g e1).2
        rw [e] at e1; injection e1 with e1
        have := h.hd.lt; have := h.hs.lt
        exact ⟨.inr ⟨by omega, by omega⟩, by omega, by omega, by omega⟩
    · rw [List.getElem_set_ne (fun e => hji e.symm)] at e1
      have := h.mine j hj' g e1
      exact ⟨.inl this.1, this.2⟩
  · intro l hl t ht
    rcases List.mem_or_eq_of_mem_set hl with hl | rfl
    · exact h.lwr l hl t ht
    · rcases List.mem_append.1 ht with ht | ht
      · exact h.lwr _ (List.getElem_mem hi2) t ht
      · rw [List.mem_singleton.1 ht]; exact hs
end Go.Proofs.Ytfmpafheodpfoaa
