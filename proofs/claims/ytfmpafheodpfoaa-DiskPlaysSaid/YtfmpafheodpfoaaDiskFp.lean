/- A disk whose first sectors are settled; stores of a sector and of no writes. -/
import Derived.Test.YtfmpafheodpfoaaDiskIt
namespace Go.Proofs.Ytfmpafheodpfoaa
open Go.RowKit

/-- The sectors ahead of i are settled as f says. -/
def Dk.upTo (d : Dk) (f : Nat → List UInt8) (i : Nat) : Dk :=
  ⟨(List.range d.safe.length).map fun j => if j < i then f j else d.safe.getD j [], (List.range d.safe.length).map fun j => if j < i then [] else d.writes.getD j [], d.fuse, d.down, d.ops⟩
theorem Dk.upTo_len (d : Dk) (f : Nat → List UInt8) (i : Nat) : (d.upTo f i).safe.length = d.safe.length := by simp [Dk.upTo]
theorem Dk.upTo_lenW (d : Dk) (f : Nat → List UInt8) (i : Nat) : (d.upTo f i).writes.length = d.safe.length := by simp [Dk.upTo]
theorem Dk.upTo_zero (d : Dk) (f : Nat → List UInt8) (h : d.writes.length = d.safe.length) : d.upTo f 0 = d := by
  obtain ⟨s, w, a, b, c⟩ := d
  simp only [Dk.upTo] at *
  congr 1
  · refine List.ext_getElem (by simp) fun j h1 h2 => ?_
    simp [List.getD, List.getElem?_eq_getElem h2]
  · refine List.ext_getElem (by simp [h]) fun j h1 h2 => ?_
    simp [List.getD, List.getElem?_eq_getElem h2]
theorem Dk.upTo_step (d : Dk) (f : Nat → List UInt8) (i : Nat) : d.upTo f (i + 1) = ⟨(d.upTo f i).safe.set i (f i), (d.upTo f i).writes.set i [], d.fuse, d.down, d.ops⟩ := by
  simp only [Dk.upTo]
  congr 1
  · refine List.ext_getElem (by simp) fun j h1 h2 => ?_
    simp only [List.getElem_set, List.getElem_map, List.getElem_range]
    by_cases hj : i = j
    · subst hj; simp
    · rw [if_neg hj]
      by_cases h3 : j < i
      · rw [if_pos h3, if_pos (by omega)]
      · rw [if_neg h3, if_neg (by omega)]
  · refine List.ext_getElem (by simp) fun j h1 h2 => ?_
    simp only [List.getElem_set, List.getElem_map, List.getElem_range]
    by_cases hj : i = j
    · subst hj; simp
    · rw [if_neg hj]
      by_cases h3 : j < i
      · rw [if_pos h3, if_pos (by omega)]
      · rw [if_neg h3, if_neg (by omega)]
theorem Dk.upTo_skip (d : Dk) (f : Nat → List UInt8) (i : Nat) (hw : d.writes.getD i [] = []) (hf : f i = d.safe.getD i []) : d.upTo f (i + 1) = d.upTo f i := by
  simp only [Dk.upTo]
  congr 1
  · refine List.map_congr_left fun j _ => ?_
    by_cases hj : j = i
    · subst hj; rw [if_pos (by omega), if_neg (by omega), hf]
    · by_cases h3 : j < i
      · rw [if_pos h3, if_pos (by omega)]
      · rw [if_neg h3, if_neg (by omega)]
  · refine List.map_congr_left fun j _ => ?_
    by_cases hj : j = i
    · subst hj; rw [if_pos (by omega), if_neg (by omega), hw]
    · by_cases h3 : j < i
      · rw [if_pos h3, if_pos (by omega)]
      · rw [if_neg h3, if_neg (by omega)]
theorem Dk.upTo_w (d : Dk) (f : Nat → List UInt8) (i : Nat) : (d.upTo f i).writes.getD i [] = d.writes.getD i [] ∨ d.safe.length ≤ i := by
  by_cases hi : i < d.safe.length
  · left
    simp [Dk.upTo, List.getD, hi]
  · exact .inr (by omega)
theorem Dk.upTo_s (d : Dk) (f : Nat → List UInt8) (i : Nat) (hi : i < d.safe.length) : (d.upTo f i).safe.getD i [] = d.safe.getD i [] := by
  simp [Dk.upTo, List.getD, hi]
theorem Dk.upTo_last (d : Dk) (f : Nat → List UInt8) (i : Nat) (hi : i < d.safe.length) : (d.upTo f i).last i = d.last i := by
  rcases d.upTo_w f i with e | e
  · rw [Dk.last, Dk.last, e, d.upTo_s f i hi]
  · omega

/-- A sector is stored. -/
theorem DkIn.store {w : World} {S : Nat → Prop} {db sb wb kS kW : Nat} {ws : List Value} {d : Dk} (h : DkIn w S db sb wb kS kW ws d) (i : Nat) (hi : i < d.safe.length) (s : List UInt8) (hs : s.length = 128) :
    DkIn (w.setCells sb (i * 128) (secE s)) S db sb wb kS kW ws ⟨d.safe.set i s, d.writes, d.fuse, d.down, d.ops⟩ := by
  have hne : ∀ k, k ≠ sb → (w.setCells sb (i * 128) (secE s)).heap[k]? = w.heap[k]? := fun k hk => setCells_heap sb _ _ _ _ hk
  exact {
    hd := by
      have e := (hne db h.ds).trans h.hd
      show Hd _ db (.slice (some ⟨sb, 0, none⟩) (d.safe.set i s).length kS) (.slice (some ⟨wb, 0, none⟩) (d.safe.set i s).length kW) d.fuse d.down d.ops
      rw [List.length_set]
      exact e
    hs := blk_setP h.hs h.ls i hi s hs
    hw := h.hw.keep (hne wb (Ne.symm h.sbw))
    lw := by rw [List.length_set]; exact h.lw
    lr := by rw [List.length_set]; exact h.lr
    row := fun j h1 h2 => ⟨(h.row j h1 h2).1, (h.row j h1 h2).2.same fun g hg => hne g (h.mine j h1 g hg).2.2.1⟩
    apart := h.apart
    mine := h.mine
    sd := h.sd
    ss := h.ss
    sw := h.sw
    ds := h.ds
    dw := h.dw
    sbw := h.sbw
    ls := fun t ht => by
      rcases List.mem_or_eq_of_mem_set ht with e | e
      · exact h.ls t e
      · rw [e]; exact hs
    lwr := h.lwr
    pos := by rw [List.length_set]; exact h.pos
    cap := by rw [List.length_set]; exact h.cap }
/-- A sector's writes are dropped. -/
theorem DkIn.drop {w : World} {S : Nat → Prop} {db sb wb kS kW : Nat} {ws : List Value} {d : Dk} (h : DkIn w S db sb wb kS kW ws d) (i : Nat) (hi : i < ws.length) :
    DkIn (w.setCell ⟨wb, i, none⟩ (.slice none 0 0)) S db sb wb kS kW (ws.set i (.slice none 0 0)) ⟨d.safe, d.writes.set i [], d.fuse, d.down, d.ops⟩ := by
  have hne : ∀ k, k ≠ wb → (w.setCell ⟨wb, i, none⟩ (.slice none 0 0)).heap[k]? = w.heap[k]? := fun k hk => Below.heap_setCell _ _ _ _ hk
  exact {
    hd := (hne db h.dw).trans h.hd
    hs := h.hs.keep (hne sb h.sbw)
    hw := h.hw.set i hi _
    lw := by rw [List.length_set]; exact h.lw
    lr := by rw [List.length_set]; exact h.lr
    row := fun j h1 h2 => by
      rw [List.length_set] at h1 h2
      by_cases hj : j = i
      · subst hj
        rw [List.getElem_set_self, List.getElem_set_self]
        exact ⟨fun _ => rfl, Own.nil _ _ _ _ _⟩
      · rw [List.getElem_set_ne (fun e => hj e.symm), List.getElem_set_ne (fun e => hj e.symm)]
        exact ⟨(h.row j h1 h2).1, (h.row j h1 h2).2.same fun g hg => hne g (h.mine j h1 g hg).2.2.2⟩
    apart := fun j k hj hk g e1 e2 => by
      have hj' : j < ws.length := by simpa using hj
      have hk' : k < ws.length := by simpa using hk
      by_cases hji : j = i
      · subst hji; rw [List.getElem_set_self] at e1; cases e1
      · by_cases hki : k = i
        · subst hki; rw [List.getElem_set_self] at e2; cases e2
        · rw [List.getElem_set_ne (fun e => hji e.symm)] at e1
          rw [List.getElem_set_ne (fun e => hki e.symm)] at e2
          exact h.apart j k hj' hk' g e1 e2
    mine := fun j hj g e1 => by
      have hj' : j < ws.length := by simpa using hj
      by_cases hji : j = i
      · subst hji; rw [List.getElem_set_self] at e1; cases e1
      · rw [List.getElem_set_ne (fun e => hji e.symm)] at e1
        exact h.mine j hj' g e1
    sd := h.sd
    ss := h.ss
    sw := h.sw
    ds := h.ds
    dw := h.dw
    sbw := h.sbw
    ls := h.ls
    lwr := fun l hl t ht => by
      rcases List.mem_or_eq_of_mem_set hl with e | e
      · exact h.lwr l e t ht
      · rw [e] at ht; cases ht
    pos := h.pos
    cap := h.cap }
/-- A head of writes, as a slice. -/
theorem DkIn.headW {w : World} {S : Nat → Prop} {db sb wb kS kW : Nat} {ws : List Value} {d : Dk} (h : DkIn w S db sb wb kS kW ws d) (i : Nat) (hi : i < d.safe.length) : ∃ ao cap, w.cell? ⟨wb, i, none⟩ = some (.slice ao (d.writes.getD i []).length cap) := by
  have h1 : i < ws.length := by rw [h.lw]; exact hi
  have h2 : i < d.writes.length := by rw [h.lr]; exact hi
  have hc := h.hw.cells i ws[i] (List.getElem?_eq_getElem h1)
  rw [Nat.zero_add] at hc
  have e : d.writes.getD i [] = d.writes[i] := by simp [List.getD, List.getElem?_eq_getElem h2]
  obtain ⟨ho0, ho⟩ := h.row i h1 h2
  rw [e]
  by_cases hz : d.writes[i] = []
  · rw [ho0 hz] at hc
    exact ⟨none, 0, by rw [hz]; exact hc⟩
  · obtain ⟨g, cap, e2, -⟩ := ho.form hz
    rw [e2] at hc
    exact ⟨_, cap, hc⟩
end Go.Proofs.Ytfmpafheodpfoaa
