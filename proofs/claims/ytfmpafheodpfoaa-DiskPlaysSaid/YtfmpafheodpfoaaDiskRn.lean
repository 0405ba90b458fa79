/- The document's disk: New, Copy. -/
import Derived.Test.YtfmpafheodpfoaaDiskRu
import Derived.Test.YtfmpafheodpfoaaMk
namespace Go.Proofs.Ytfmpafheodpfoaa
open Go.RowKit
attribute [local go_sem ↓] Go.wp_at_zero Go.wp_at_succ
set_option linter.unusedVariables false
set_option linter.unusedSimpArgs false

theorem infoL : (Try.prog.info? 29).map (fun i => (i.zero, i.size, i.bytes)) = some (some (.slice none 0 0), 1, 24) := by kernel_rfl
/-- Rows of texts of the call's own. -/
structure RowsAt (lo : Nat) (w : World) (lv : Value) (ws : List Value) (ss : List (List (List UInt8))) : Prop where
  ol : Own vE 29 1 lo w lv ws
  len : ws.length = ss.length
  row : ∀ k (h : k < ws.length) (h2 : k < ss.length), Own strE 9 1 lo w ws[k] ss[k]
  ne : ∀ k (h : k < ws.length) g, ws[k].ownBlock = some g → lv.ownBlock ≠ some g
section
variable {lo : Nat} {w w' : World} {lv : Value} {ws : List Value} {ss : List (List (List UInt8))}
theorem RowsAt.nil (lo : Nat) (w : World) : RowsAt lo w (.slice none 0 0) [] [] := ⟨Own.nil _ _ _ _ _, rfl, fun _ h => absurd h (Nat.not_lt_zero _), fun _ h => absurd h (Nat.not_lt_zero _)⟩
theorem RowsAt.same (h : RowsAt lo w lv ws ss) (hb : ∀ k, lo ≤ k → k < w.heap.size → w'.heap[k]? = w.heap[k]?) : RowsAt lo w' lv ws ss where
  ol := Own.same h.ol (fun g e => hb g (Own.lt h.ol g e).1 (Own.lt h.ol g e).2)
  len := h.len
  row := fun k h1 h2 => Own.same (h.row k h1 h2) (fun g e => hb g (Own.lt (h.row k h1 h2) g e).1 (Own.lt (h.row k h1 h2) g e).2)
  ne := h.ne
theorem RowsAt.mono {lo' : Nat} (h : RowsAt lo w lv ws ss) (hl : lo' ≤ lo) : RowsAt lo' w lv ws ss where
  ol := Own.mono0 h.ol hl
  len := h.len
  row := fun k h1 h2 => Own.mono0 (h.row k h1 h2) hl
  ne := h.ne
theorem RowsAt.add (h : RowsAt lo w lv ws ss) (hlo : lo ≤ w.heap.size) {w1 : World} (hB : Below w.heap.size w w1) {v : Value} {s : List (List UInt8)} (hv : Own strE 9 1 w.heap.size w1 v s) {n : Nat} (hc : CellsAt w1 n 0 [v]) (hl : ws.length ≤ 100000) :
    ∃ lv' w', (Builtin.append_ #[43, 43] 43 #[lv, .slice (some ⟨n, 0, none⟩) 1 1]).run Try.prog w1 = .ok lv' w' ∧ RowsAt lo w' lv' (ws ++ [v]) (ss ++ [s]) ∧ Below lo w w' ∧ w1.heap.size ≤ w'.heap.size := by
  obtain ⟨i0, hi, hz0, hz1, hz2⟩ := info_parts infoL
  have hv1 : v.oneCell' = true := by obtain ⟨p, c, rfl⟩ := Own.slice hv; rfl
  have hs : Src Try.prog 1 43 (.slice (some ⟨n, 0, none⟩) 1 1) [v].length ([v].flatMap vE) w1 :=
    Src.ofSlice _ Try.underlying43 _ _ _ _ (by simp [vE]) (fun j u hu => by rw [Addr.add_lit]; exact hc j u (by simpa [vE] using hu)) (fun u hu => by
      simp only [List.flatMap_cons, List.flatMap_nil, vE, List.append_nil, List.mem_cons, List.not_mem_nil, or_false] at hu
      rw [hu]; exact hv1)
  have hs1 := hB.size
  obtain ⟨lv', w', hr, ho, ha⟩ := Own.app (Own.kept h.ol hB) 43 43 43 i0 _ 24 Try.underlying43 hi hz0 hz1 hz2 rfl hs (by simp; omega) (by decide) (Nat.le_trans hlo hs1)
  have hlt := Own.lt h.ol
  have hvl := Own.lt hv
  refine ⟨lv', w', hr, ⟨ho, by simp [h.len], fun k h1 h2 => ?_, fun k h1 g e => ?_⟩, (hB.mono hlo).trans (ha.below (Nat.le_trans hlo hs1) (fun k e => (hlt k e).1)), ha.grown.size⟩
  · by_cases hk : k < ws.length
    · rw [List.getElem_append_left hk, List.getElem_append_left (by rw [← h.len]; exact hk)]
      have hr0 := h.row k hk (by rw [← h.len]; exact hk)
      exact Own.same hr0 (fun g e => (ha.grown.block g (by have := (Own.lt hr0 g e).2; omega) (fun e2 => h.ne k hk g e e2.symm)).trans (hB.block g (Own.lt hr0 g e).2))
    · obtain rfl : k = ws.length := by simp at h1; omega
      rw [List.getElem_append_right (Nat.le_refl _), List.getElem_append_right (by rw [h.len]; exact Nat.le_refl _)]
      simp only [Nat.sub_self, h.len, List.getElem_cons_zero]
      exact Own.mono0 (Own.same hv (fun g e => ha.grown.block g (hvl g e).2 (fun e2 => by have := (hlt g e2.symm).2; have := (hvl g e).1; omega))) hlo
  · intro e2
    have hg : g < w1.heap.size := by
      by_cases hk : k < ws.length
      · rw [List.getElem_append_left hk] at e
        have := (Own.lt (h.row k hk (by rw [← h.len]; exact hk)) g e).2
        omega
      · obtain rfl : k = ws.length := by simp at h1; omega
        rw [List.getElem_append_right (Nat.le_refl _)] at e
        simp only [Nat.sub_self, List.getElem_cons_zero] at e
        exact (hvl g e).2
    rcases ha.moved with e3 | ⟨q, e3, hq⟩
    · rw [e3] at e2
      by_cases hk : k < ws.length
      · rw [List.getElem_append_left hk] at e
        exact h.ne k hk g e e2
      · obtain rfl : k = ws.length := by simp at h1; omega
        rw [List.getElem_append_right (Nat.le_refl _)] at e
        simp only [Nat.sub_self, List.getElem_cons_zero] at e
        have := (hvl g e).1
        have := (hlt g e2).2
        omega
    · rw [e2] at e3
      injection e3 with e3
      omega
/-- Its rows, of the document's disk. -/
def rowsOf (d : Dk) : List (List (List UInt8)) := (List.range d.safe.length).map (fun i => d.safe.getD i [] :: d.writes.getD i [])
theorem rowsOf_len (d : Dk) : (rowsOf d).length = d.safe.length := by simp [rowsOf]
theorem RowsAt.rf {d : Dk} (h : RowsAt lo w lv ws (rowsOf d)) (hlr : d.writes.length = d.safe.length) (hpos : 0 < d.safe.length) (hcap : d.safe.length ≤ 65536) (hB : Below w.heap.size w w') {rb : Nat} (hrb : w.heap.size ≤ rb) (hlo : lo ≤ w.heap.size)
    (hb : Blk w' rb [lv, .int .i64 d.fuse, .bool d.down, .int .i64 d.ops] 49) : RfAt w' (fun k => lo ≤ k ∧ k < w'.heap.size) rb d := by
  have hl : ws.length = d.safe.length := by rw [h.len, rowsOf_len]
  obtain ⟨lb, c, e, k1, k2, -, -, -, -⟩ := Own.form h.ol (fun e => by rw [e] at hl; simp at hl; omega)
  have hs := hB.size
  have h' := h.same (w' := w') (fun k _ hk => hB.block k hk)
  subst e
  exact ⟨lb, c, ws, {
    hd := by rw [hl] at hb; exact hb
    hl := by have := Own.mono0 h'.ol (Nat.zero_le lo); rw [hl] at this; exact this
    lw := hl
    lr := hlr
    row := fun i hi => by
      have := h'.row i hi (by rw [← h.len]; exact hi)
      have e2 : (rowsOf d)[i]'(by rw [← h.len]; exact hi) = d.safe.getD i [] :: d.writes.getD i [] := by simp [rowsOf]
      rw [e2] at this
      exact Own.mono0 this (Nat.zero_le lo)
    mine := fun i hi g e => by
      have h2 := h.row i hi (by rw [← h.len]; exact hi)
      have h3 := Own.lt h2 g e
      exact ⟨⟨h3.1, by omega⟩, by omega, fun e2 => h.ne i hi g e (by rw [e2]; rfl)⟩
    sr := ⟨by omega, hb.lt⟩
    sl := ⟨k1, by omega⟩
    rl := by omega
    pos := hpos
    cap := hcap }⟩
end
end Go.Proofs.Ytfmpafheodpfoaa
