/- The document's disk in memory: of each sector a row of texts. -/
import Derived.Test.YtfmpafheodpfoaaDiskOp
import Derived.Test.YtfmpafheodpfoaaDiskFp
import Derived.Test.YtfmpafheodpfoaaDiskDi
namespace Go.Proofs.Ytfmpafheodpfoaa
open Go.RowKit
set_option linter.unusedVariables false

def strE (s : List UInt8) : List Value := [sV s]
def vE (p : Value) : List Value := [p]
abbrev OwnG := Own strE 9 1 0
abbrev OwnL := Own vE 29 1 0
theorem flat_vE (l : List Value) : l.flatMap vE = l := by
  induction l with
  | nil => rfl
  | cons x r ih => simp [vE, ih]
theorem flat_strE (l : List (List UInt8)) : l.flatMap strE = l.map sV := by
  induction l with
  | nil => rfl
  | cons x r ih => simp [strE, ih]
/-- A cell of a row of one-celled things is written over. -/
theorem Own.set1 {e : TypeId} {lo g n c k : Nat} {w : World} {l : List Value} (h : Own vE e 1 lo w (.slice (some ⟨g, 0, none⟩) n c) l) (hk : k < l.length) (x : Value) : Own vE e 1 lo (w.setCell ⟨g, k, none⟩ x) (.slice (some ⟨g, 0, none⟩) n c) (l.set k x) := by
  obtain ⟨h1, h2⟩ := h
  rcases h2 with ⟨ee, hn⟩ | ⟨g', cap, cur, ee, hb, hg, hnc, hcm, hcs, htake⟩
  · cases ee
  · injection ee with e1 e2 e3
    injection e1 with e1
    injection e1 with e1
    subst e1 e2 e3
    have hB : Blk w g cur.toList e := by unfold Blk; simpa using hg
    have hB2 := hB.set k x
    refine ⟨by simp [flat_vE], .inr ⟨g, c, (cur.toList.set k x).toArray, by simp, hb, hB2, by simpa using hnc, hcm, by simpa using hcs, ?_⟩⟩
    rw [List.length_set, List.toList_toArray, List.take_set, htake, flat_vE, flat_vE]
theorem Own.slice {α : Type} {enc : α → List Value} {e : TypeId} {size lo : Nat} {w : World} {v : Value} {xs : List α} (h : Own enc e size lo w v xs) : ∃ p cap, v = .slice p xs.length cap := by
  rcases h.2 with ⟨e1, e2⟩ | ⟨g, cap, cur, e1, -⟩
  · exact ⟨none, 0, by rw [e1, e2]⟩
  · exact ⟨_, cap, e1⟩
/-- The document's disk, in blocks of which S holds. -/
structure RfIn (w : World) (S : Nat → Prop) (rb lb c : Nat) (ws : List Value) (d : Dk) : Prop where
  hd : Blk w rb [.slice (some ⟨lb, 0, none⟩) d.safe.length c, .int .i64 d.fuse, .bool d.down, .int .i64 d.ops] 49
  hl : OwnL w (.slice (some ⟨lb, 0, none⟩) d.safe.length c) ws
  lw : ws.length = d.safe.length
  lr : d.writes.length = d.safe.length
  row : ∀ i (h : i < ws.length), OwnG w ws[i] (d.safe.getD i [] :: d.writes.getD i [])
  mine : ∀ i (h : i < ws.length) g, ws[i].ownBlock = some g → S g ∧ g ≠ rb ∧ g ≠ lb
  sr : S rb
  sl : S lb
  rl : rb ≠ lb
  pos : 0 < d.safe.length
  cap : d.safe.length ≤ 65536
def RfAt (w : World) (S : Nat → Prop) (rb : Nat) (d : Dk) : Prop := ∃ lb c ws, RfIn w S rb lb c ws d
section
variable {w w' : World} {S S' A : Nat → Prop} {rb lb c : Nat} {ws : List Value} {d : Dk}
theorem RfIn.lt (h : RfIn w S rb lb c ws d) : rb < w.heap.size ∧ lb < w.heap.size := ⟨h.hd.lt, (Own.lt h.hl lb rfl).2⟩
theorem RfIn.keep (h : RfIn w S rb lb c ws d) (hb : ∀ k, S k → k < w.heap.size → w'.heap[k]? = w.heap[k]?) (hS : ∀ k, S k → S' k) : RfIn w' S' rb lb c ws d where
  hd := (hb rb h.sr h.lt.1).trans h.hd
  hl := Own.same h.hl (fun g e => by
    have : lb = g := by simpa [Value.ownBlock] using e
    subst this
    exact hb lb h.sl h.lt.2)
  lw := h.lw
  lr := h.lr
  row := fun i h1 => Own.same (h.row i h1) (fun g e => hb g (h.mine i h1 g e).1 (Own.lt (h.row i h1) g e).2)
  mine := fun i h1 g e => ⟨hS g (h.mine i h1 g e).1, (h.mine i h1 g e).2⟩
  sr := hS _ h.sr
  sl := hS _ h.sl
  rl := h.rl
  pos := h.pos
  cap := h.cap
theorem RfAt.keep (h : RfAt w S rb d) (hb : ∀ k, S k → k < w.heap.size → w'.heap[k]? = w.heap[k]?) (hS : ∀ k, S k → S' k) : RfAt w' S' rb d := by
  obtain ⟨lb, c, ws, h⟩ := h
  exact ⟨lb, c, ws, h.keep hb hS⟩
theorem RfAt.below (h : RfAt w S rb d) (hB : Below w.heap.size w w') : RfAt w' S rb d := h.keep (fun k _ hk => hB.block k hk) (fun _ h => h)
theorem RfAt.only (h : RfAt w S rb d) (hO : Only A w w') (hA : ∀ k, S k → k < w.heap.size → ¬ A k) : RfAt w' S rb d := h.keep (fun k hs hk => hO.block k hk (hA k hs hk)) (fun _ h => h)
/-- Its head is written over. -/
theorem RfIn.head (h : RfIn w S rb lb c ws d) (hO : Only (· = rb) w w') (f ops : Int) (dn : Bool) (hb : Blk w' rb [.slice (some ⟨lb, 0, none⟩) d.safe.length c, .int .i64 f, .bool dn, .int .i64 ops] 49) : RfIn w' S rb lb c ws ⟨d.safe, d.writes, f, dn, ops⟩ where
  hd := hb
  hl := Own.same h.hl (fun g e => by
    have : lb = g := by simpa [Value.ownBlock] using e
    subst this
    exact hO.block lb h.lt.2 (fun e => h.rl e.symm))
  lw := h.lw
  lr := h.lr
  row := fun i h1 => Own.same (h.row i h1) (fun g e => hO.block g (Own.lt (h.row i h1) g e).2 (h.mine i h1 g e).2.1)
  mine := h.mine
  sr := h.sr
  sl := h.sl
  rl := h.rl
  pos := h.pos
  cap := h.cap
/-- A sector's row is another one. -/
theorem RfIn.setRow (h : RfIn w S rb lb c ws d) (i : Nat) (hi : i < ws.length) {wx : World} (hB : Below w.heap.size w wx) {v' : Value} {s' : List UInt8} {l' : List (List UInt8)} (ho : OwnG wx v' (s' :: l')) (hg : ∀ g, v'.ownBlock = some g → w.heap.size ≤ g) :
    RfIn (wx.setCell ⟨lb, i, none⟩ v') (fun k => S k ∨ (w.heap.size ≤ k ∧ k < wx.heap.size)) rb lb c (ws.set i v') ⟨d.safe.set i s', d.writes.set i l', d.fuse, d.down, d.ops⟩ := by
  have hr := h.lt
  have hoth : ∀ k, k ≠ lb → (wx.setCell ⟨lb, i, none⟩ v').heap[k]? = wx.heap[k]? := fun k hk => Below.heap_setCell _ _ _ _ hk
  have hsz : (wx.setCell ⟨lb, i, none⟩ v').heap.size = wx.heap.size := by simp [World.setCell]
  have hgl : ∀ g, v'.ownBlock = some g → g < wx.heap.size := fun g e => (Own.lt ho g e).2
  exact {
    hd := by
      have := (hoth rb h.rl).trans ((hB.block rb hr.1).trans h.hd)
      simpa [Blk] using this
    hl := by
      have h1 : OwnL wx (.slice (some ⟨lb, 0, none⟩) d.safe.length c) ws := Own.kept h.hl hB
      have := Own.set1 h1 hi v'
      simpa using this
    lw := by simp [h.lw]
    lr := by simp [h.lr]
    row := fun j hj => by
      rw [List.length_set] at hj
      by_cases e : j = i
      · subst e
        have e1 : (d.safe.set j s').getD j [] = s' := by simp [List.getD, show j < d.safe.length by rw [← h.lw]; exact hi]
        have e2 : (d.writes.set j l').getD j [] = l' := by simp [List.getD, show j < d.writes.length by rw [h.lr, ← h.lw]; exact hi]
        rw [List.getElem_set_self]
        simp only [e1, e2]
        exact Own.same ho (fun g e => hoth g (by have := hg g e; omega))
      · have e1 : (d.safe.set i s').getD j [] = d.safe.getD j [] := by simp [List.getD, List.getElem?_set_ne (Ne.symm e)]
        have e2 : (d.writes.set i l').getD j [] = d.writes.getD j [] := by simp [List.getD, List.getElem?_set_ne (Ne.symm e)]
        rw [List.getElem_set_ne (Ne.symm e)]
        simp only [e1, e2]
        exact Own.same (h.row j hj) (fun g e2 => (hoth g (h.mine j hj g e2).2.2).trans (hB.block g (Own.lt (h.row j hj) g e2).2))
    mine := fun j hj g e2 => by
      rw [List.length_set] at hj
      by_cases e : j = i
      · subst e
        rw [List.getElem_set_self] at e2
        have := hg g e2
        exact ⟨.inr ⟨this, hgl g e2⟩, by omega, by omega⟩
      · rw [List.getElem_set_ne (Ne.symm e)] at e2
        exact ⟨.inl (h.mine j hj g e2).1, (h.mine j hj g e2).2⟩
    sr := .inl h.sr
    sl := .inl h.sl
    rl := h.rl
    pos := by simpa using h.pos
    cap := by simpa using h.cap }
theorem RfIn.at (h : RfIn w S rb lb c ws d) (i : Nat) (hi : i < d.safe.length) : ∃ g c1, w.cell? ⟨lb, i, none⟩ = some (.slice (some ⟨g, 0, none⟩) ((d.writes.getD i []).length + 1) c1) ∧ (d.writes.getD i []).length + 1 ≤ c1 ∧ c1 ≤ 9223372036854775807 ∧ S g ∧ g ≠ rb ∧ g ≠ lb ∧ g < w.heap.size ∧
    OwnG w (.slice (some ⟨g, 0, none⟩) ((d.writes.getD i []).length + 1) c1) (d.safe.getD i [] :: d.writes.getD i []) ∧ ∀ j (hj : j < (d.safe.getD i [] :: d.writes.getD i []).length), w.cell? ⟨g, j, none⟩ = some (sV (d.safe.getD i [] :: d.writes.getD i [])[j]) := by
  have hiw : i < ws.length := by rw [h.lw]; exact hi
  obtain ⟨g, c1, e, -, h2, h3, h4, h5, -⟩ := Own.form (h.row i hiw) (by simp)
  obtain ⟨g2, c2, e2, -, -, -, -, h6, -⟩ := Own.form h.hl (fun e => by rw [e] at hiw; exact absurd hiw (Nat.not_lt_zero _))
  injection e2 with e2 e3 e4
  injection e2 with e2
  injection e2 with e2
  subst e2
  have hc := h6 i ws[i] (by rw [flat_vE]; exact List.getElem?_eq_getElem hiw)
  rw [Nat.zero_add, e, List.length_cons] at hc
  have hm := h.mine i hiw g (by rw [e]; rfl)
  have ho := h.row i hiw
  rw [e, List.length_cons] at ho
  refine ⟨g, c1, hc, by simpa using h3, h4, hm.1, hm.2.1, hm.2.2, h2, ho, fun j hj => ?_⟩
  have := h5 j (sV (d.safe.getD i [] :: d.writes.getD i [])[j]) (by rw [flat_strE, List.getElem?_map, List.getElem?_eq_getElem hj]; rfl)
  simpa using this
theorem last_cons (a : List UInt8) (l : List (List UInt8)) (hj : l.length < (a :: l).length) : (a :: l)[l.length] = l.getLast?.getD a := by
  cases l with
  | nil => rfl
  | cons x r => simp [List.getLast?_eq_getElem?]
theorem last_at (d : Dk) (i : Nat) (hj : (d.writes.getD i []).length < (d.safe.getD i [] :: d.writes.getD i []).length) : (d.safe.getD i [] :: d.writes.getD i [])[(d.writes.getD i []).length] = d.last i := last_cons _ _ hj
end
end Go.Proofs.Ytfmpafheodpfoaa
