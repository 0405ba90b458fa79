/- TreePlays: trees and the document's, many of each. -/
import Derived.Test.YtmlcnfomiemdpaaTreeTe
import Derived.Test.YtmlcnfomiemdpaaTreeEq
import Derived.Test.YtmlcnfomiemdpaaTreeRe
namespace Go.Proofs.Ytmlcnfomiemdpaa
open Go.RowKit
set_option linter.unusedVariables false

/-- A tree that stays where only A's blocks turn. -/
def TrK (A : Nat → Prop) (w : World) (t : T) (p : Value) : Prop := Tr (fun b => b < w.heap.size ∧ ¬ A b) w.heap.size w t p
theorem TrK.step {A A' A2 : Nat → Prop} {w w' : World} {t : T} {p : Value} (h : TrK A w t p) (hO : Only A2 w w') (h2 : ∀ k, A2 k → A k) (ha : ∀ k, A' k → A k ∨ w.heap.size ≤ k) : TrK A' w' t p := by
  have ho : On (Xs (fun b => b < w.heap.size ∧ ¬ A b) w.heap.size w) w w' := fun k hk => by
    rcases hk with hk | hk
    · exact hO.block k hk.1 (fun e => hk.2 (h2 k e))
    · omega
  have hB : ∀ b, Xs (fun b => b < w.heap.size ∧ ¬ A b) w.heap.size w b → Xs (fun b => b < w'.heap.size ∧ ¬ A' b) w'.heap.size w' b := fun b hb => by
    rcases hb with hb | hb
    · exact .inl ⟨Nat.lt_of_lt_of_le hb.1 hO.size, fun e => (ha b e).elim hb.2 (fun e => by omega)⟩
    · omega
  rcases h with ⟨e1, e2⟩ | ⟨b, q, e1, h1, h3, h4⟩
  · exact .inl ⟨e1, e2⟩
  · exact .inr ⟨b, q, e1, hB b h1, (World.cell?_of_block (ho b h1)).trans h3, Nd.on ho hB t h4⟩
theorem TrK.nn {A : Nat → Prop} {w : World} {t : T} {p : Value} (h : TrK A w t p) : Tr Nn 0 w t p := by
  have ho : On (Xs (fun b => b < w.heap.size ∧ ¬ A b) w.heap.size w) w w := fun k hk => rfl
  have hB : ∀ b, Xs (fun b => b < w.heap.size ∧ ¬ A b) w.heap.size w b → Xs Nn 0 w b := fun b hb => by
    rcases hb with hb | hb
    · exact .inr ⟨Nat.zero_le _, hb.1⟩
    · omega
  rcases h with ⟨e1, e2⟩ | ⟨b, q, e1, h1, h3, h4⟩
  · exact .inl ⟨e1, e2⟩
  · exact .inr ⟨b, q, e1, hB b h1, h3, Nd.on ho hB t h4⟩
theorem TrK.of {A A' : Nat → Prop} {w w' : World} {t : T} {p : Value} (h : Tr (fun b => b < w.heap.size ∧ ¬ A b) w.heap.size w' t p) (hs : w.heap.size ≤ w'.heap.size) (ha : ∀ k, A' k → A k ∧ k < w.heap.size) : TrK A' w' t p := by
  have ho : On (Xs (fun b => b < w.heap.size ∧ ¬ A b) w.heap.size w') w' w' := fun k hk => rfl
  have hB : ∀ b, Xs (fun b => b < w.heap.size ∧ ¬ A b) w.heap.size w' b → Xs (fun b => b < w'.heap.size ∧ ¬ A' b) w'.heap.size w' b := fun b hb => by
    rcases hb with hb | hb
    · exact .inl ⟨Nat.lt_of_lt_of_le hb.1 hs, fun e => hb.2 (ha b e).1⟩
    · exact .inl ⟨hb.2, fun e => by have := (ha b e).2; omega⟩
  rcases h with ⟨e1, e2⟩ | ⟨b, q, e1, h1, h3, h4⟩
  · exact .inl ⟨e1, e2⟩
  · exact .inr ⟨b, q, e1, hB b h1, h3, Nd.on ho hB t h4⟩
theorem TrK.ptr {A : Nat → Prop} {w : World} {t : T} {p : Value} (h : TrK A w t p) : ∃ q, p = .pointer q := h.nn.ptr2
/-- The document's list that stays where only A's blocks turn. -/
def RsK (A : Nat → Prop) (w : World) (v : Value) (l : PL) : Prop := ∀ w', Only A w w' → Rs 0 w.heap.size w' v l
theorem RsK.here {A : Nat → Prop} {w : World} {v : Value} {l : PL} (h : RsK A w v l) : Rs 0 w.heap.size w v l := h w (Only.refl _ _)
theorem RsK.step {A A' A2 : Nat → Prop} {w w' : World} {v : Value} {l : PL} (h : RsK A w v l) (hO : Only A2 w w') (h2 : ∀ k, A2 k → A k) (ha : ∀ k, A' k → A k ∨ w.heap.size ≤ k) : RsK A' w' v l := fun x hx =>
  Sl.mono (h x ⟨hx.os.trans hO.os, hx.tape.trans hO.tape, hx.output.trans hO.output, Nat.le_trans hO.size hx.size, fun k hk hn =>
    (hx.block k (Nat.lt_of_lt_of_le hk hO.size) (fun e => (ha k e).elim hn (fun e => by omega))).trans (hO.block k hk (fun e => hn (h2 k e)))⟩) (flat_loc _) (Nat.le_refl _) hO.size
theorem RsK.of {A : Nat → Prop} {w : World} {v : Value} {l : PL} {lo : Nat} (h : OwnR lo w v l) (ha : ∀ k, A k → k < lo) : RsK A w v l := fun x hx =>
  Sl.mono (Sl.agree (OwnR.rs h) (flat_loc _) (hx.agree (Nat.le_refl _) (fun k hk => .inl (ha k hk)))) (flat_loc _) (Nat.zero_le _) (Nat.le_refl _)
theorem RsK.nil (A : Nat → Prop) (w : World) : RsK A w (.slice none 0 0) [] := fun x hx => Sl.nil _ _ _ _ _
theorem RsK.form {A : Nat → Prop} {w : World} {v : Value} {l : PL} (h : RsK A w v l) : ∃ a c, v = .slice a l.length c := by
  obtain ⟨a, c, e, -⟩ := Sl.form h.here
  exact ⟨a, c, e⟩

def vE (p : Value) : List Value := [p]
abbrev OwnT := Own vE 25 1
abbrev OwnU := Own vE 56 1
theorem infoT : (Try.prog.info? 25).map (fun i => (i.zero, i.size, i.bytes)) = some (some (.pointer none), 1, 8) := by kernel_rfl
theorem infoU : (Try.prog.info? 56).map (fun i => (i.zero, i.size, i.bytes)) = some (some (.agg #[.slice none 0 0]), 1, 24) := by kernel_rfl
theorem flat_vE (l : List Value) : l.flatMap vE = l := by
  induction l with
  | nil => rfl
  | cons x r ih => simp [vE, ih]
def Av (v3 v4 : Value) (k : Nat) : Prop := v3.ownBlock = some k ∨ v4.ownBlock = some k
/-- The trees that there are, and the document's. -/
structure St (A : Nat → Prop) (B : Nat) (w : World) (v3 v4 : Value) (ps rs : List Value) (ts : List T) (m : Nat) : Prop where
  o3 : OwnT B w v3 ps
  o4 : OwnU B w v4 rs
  ne : ∀ q, v3.ownBlock = some q → v4.ownBlock ≠ some q
  l3 : ps.length = ts.length
  l4 : rs.length = ts.length
  n2 : 2 ≤ ts.length
  nm : ts.length ≤ m + 2
  av : ∀ k, Av v3 v4 k → A k
  tr : ∀ k (h1 : k < ts.length) (h : k < ps.length), TrK A w ts[k] ps[k]
  ls : ∀ k (h1 : k < ts.length) (h : k < rs.length), RsK A w rs[k] ts[k].toL
  gr : ∀ k (h : k < ts.length), Gr ts[k] m
section
variable {A A' A2 : Nat → Prop} {B : Nat} {w w' : World} {v3 v4 : Value} {ps rs : List Value} {ts : List T} {m : Nat}
theorem St.step (h : St A B w v3 v4 ps rs ts m) (hO : Only A2 w w') (h2 : ∀ k, A2 k → A k ∧ v3.ownBlock ≠ some k ∧ v4.ownBlock ≠ some k) (ha : ∀ k, A' k → A k ∨ w.heap.size ≤ k) (hv : ∀ k, Av v3 v4 k → A' k) : St A' B w' v3 v4 ps rs ts m where
  o3 := Own.same h.o3 (fun g e => hO.block g (Own.lt h.o3 g e).2 (fun e2 => (h2 g e2).2.1 e))
  o4 := Own.same h.o4 (fun g e => hO.block g (Own.lt h.o4 g e).2 (fun e2 => (h2 g e2).2.2 e))
  ne := h.ne
  l3 := h.l3
  l4 := h.l4
  n2 := h.n2
  nm := h.nm
  av := hv
  tr := fun k h1 h3 => (h.tr k h1 h3).step hO (fun k e => (h2 k e).1) ha
  ls := fun k h1 h3 => (h.ls k h1 h3).step hO (fun k e => (h2 k e).1) ha
  gr := h.gr
theorem St.below (h : St A B w v3 v4 ps rs ts m) (hB : Below w.heap.size w w') : St A B w' v3 v4 ps rs ts m :=
  h.step (A2 := fun _ => False) (Below.only hB) (fun _ e => e.elim) (fun _ e => .inl e) h.av
theorem St.up (h : St A B w v3 v4 ps rs ts m) : St A B w v3 v4 ps rs ts (m + 1) :=
  ⟨h.o3, h.o4, h.ne, h.l3, h.l4, h.n2, Nat.le_succ_of_le h.nm, h.av, h.tr, h.ls, fun k hk => (h.gr k hk).mono (Nat.le_succ _)⟩
/-- One more of each. -/
theorem St.grow (h : St A B w v3 v4 ps rs ts m) (hO : Only (Av v3 v4) w w') {v3' v4' p r : Value} {t : T} (o3 : OwnT B w' v3' (ps ++ [p])) (o4 : OwnU B w' v4' (rs ++ [r])) (ne : ∀ q, v3'.ownBlock = some q → v4'.ownBlock ≠ some q)
    (ha : ∀ k, A' k → A k ∨ w.heap.size ≤ k) (hv : ∀ k, Av v3' v4' k → A' k) (ht : TrK A' w' t p) (hr : RsK A' w' r t.toL) (hg : Gr t (m + 1)) : St A' B w' v3' v4' (ps ++ [p]) (rs ++ [r]) (ts ++ [t]) (m + 1) where
  o3 := o3
  o4 := o4
  ne := ne
  l3 := by simp [h.l3]
  l4 := by simp [h.l4]
  n2 := by have := h.n2; simp; omega
  nm := by have := h.nm; simp; omega
  av := hv
  tr := fun k h1 h3 => by
    by_cases hk : k < ts.length
    · have hp : k < ps.length := by rw [h.l3]; exact hk
      rw [List.getElem_append_left hk, List.getElem_append_left hp]
      exact (h.tr k hk hp).step hO h.av ha
    · obtain rfl : k = ts.length := by simp at h1; omega
      rw [List.getElem_append_right (Nat.le_refl _), List.getElem_append_right (by rw [h.l3]; exact Nat.le_refl _)]
      simpa using ht
  ls := fun k h1 h3 => by
    by_cases hk : k < ts.length
    · have hp : k < rs.length := by rw [h.l4]; exact hk
      rw [List.getElem_append_left hk, List.getElem_append_left hp]
      exact (h.ls k hk hp).step hO h.av ha
    · obtain rfl : k = ts.length := by simp at h1; omega
      rw [List.getElem_append_right (Nat.le_refl _), List.getElem_append_right (by rw [h.l4]; exact Nat.le_refl _)]
      simpa using hr
  gr := fun k hk => by
    by_cases hk2 : k < ts.length
    · rw [List.getElem_append_left hk2]
      exact (h.gr k hk2).mono (Nat.le_succ _)
    · rw [List.getElem_append_right (by omega)]
      simpa using hg
theorem St.fin {X : Nat → Prop} (h : St (fun j => Av v3 v4 j ∨ X j) B w v3 v4 ps rs ts m) (hO : Only (Av v3 v4) w w') {v3' v4' p r : Value} {t : T} (o3 : OwnT B w' v3' (ps ++ [p])) (o4 : OwnU B w' v4' (rs ++ [r])) (ne : ∀ q, v3'.ownBlock = some q → v4'.ownBlock ≠ some q)
    (m3 : ∀ j, v3'.ownBlock = some j → v3.ownBlock = some j ∨ w.heap.size ≤ j) (m4 : ∀ j, v4'.ownBlock = some j → v4.ownBlock = some j ∨ w.heap.size ≤ j) (ht : TrK (fun j => Av v3 v4 j ∨ X j) w t p) (hr : RsK (fun j => Av v3 v4 j ∨ X j) w r t.toL) (hg : Gr t (m + 1)) :
    St (fun j => Av v3' v4' j ∨ X j) B w' v3' v4' (ps ++ [p]) (rs ++ [r]) (ts ++ [t]) (m + 1) := by
  have ha : ∀ k, (Av v3' v4' k ∨ X k) → (Av v3 v4 k ∨ X k) ∨ w.heap.size ≤ k := fun k hk => by
    rcases hk with (e | e) | e
    · exact (m3 k e).imp (fun e => .inl (.inl e)) id
    · exact (m4 k e).imp (fun e => .inl (.inr e)) id
    · exact .inl (.inr e)
  exact h.grow hO o3 o4 ne ha (fun _ e => .inl e) (ht.step hO (fun _ e => .inl e) ha) (hr.step hO (fun _ e => .inl e) ha) hg
/-- A row of one, appended. -/
theorem half3 (o3 : OwnT B w v3 ps) {n : Nat} {p : Value} (hc : CellsAt w n 0 [p]) (hp : p.oneCell' = true) (hl : ps.length ≤ 1000) (hB : B ≤ w.heap.size) :
    ∃ v' w', (Builtin.append_ #[53, 53] 53 #[v3, .slice (some ⟨n, 0, none⟩) 1 1]).run Try.prog w = .ok v' w' ∧ OwnT B w' v' (ps ++ [p]) ∧ Only (fun k => v3.ownBlock = some k) w w' ∧ ∀ k, v'.ownBlock = some k → v3.ownBlock = some k ∨ w.heap.size ≤ k := by
  obtain ⟨i0, hi, hz0, hz1, hz2⟩ := info_parts infoT
  have hs : Src Try.prog 1 53 (.slice (some ⟨n, 0, none⟩) 1 1) [p].length ([p].flatMap vE) w :=
    Src.ofSlice _ Try.underlying53 _ _ _ _ (by simp [vE]) (fun j u hu => by rw [Addr.add_lit]; exact hc j u (by simpa [vE] using hu)) (fun u hu => by
      simp only [List.flatMap_cons, List.flatMap_nil, vE, List.append_nil, List.mem_cons, List.not_mem_nil, or_false] at hu
      rw [hu]; exact hp)
  obtain ⟨v', w', hr, ho, ha⟩ := Own.app o3 53 53 53 i0 _ 8 Try.underlying53 hi hz0 hz1 hz2 rfl hs (by simp; omega) (by decide) hB
  exact ⟨v', w', hr, ho, ⟨ha.grown.os, ha.grown.tape, ha.grown.output, ha.grown.size, fun k hk hA => ha.grown.block k hk (fun e => hA e.symm)⟩, fun k e => by
    rcases ha.moved with e2 | ⟨k2, e2, h2⟩
    · exact .inl (e2 ▸ e)
    · rw [e] at e2; injection e2 with e2; exact .inr (by omega)⟩
theorem half4 (o4 : OwnU B w v4 rs) {n : Nat} {p : Value} (hc : CellsAt w n 0 [p]) (hp : p.oneCell' = true) (hl : rs.length ≤ 1000) (hB : B ≤ w.heap.size) :
    ∃ v' w', (Builtin.append_ #[57, 57] 57 #[v4, .slice (some ⟨n, 0, none⟩) 1 1]).run Try.prog w = .ok v' w' ∧ OwnU B w' v' (rs ++ [p]) ∧ Only (fun k => v4.ownBlock = some k) w w' ∧ ∀ k, v'.ownBlock = some k → v4.ownBlock = some k ∨ w.heap.size ≤ k := by
  obtain ⟨i0, hi, hz0, hz1, hz2⟩ := info_parts infoU
  have hs : Src Try.prog 1 57 (.slice (some ⟨n, 0, none⟩) 1 1) [p].length ([p].flatMap vE) w :=
    Src.ofSlice _ Try.underlying57 _ _ _ _ (by simp [vE]) (fun j u hu => by rw [Addr.add_lit]; exact hc j u (by simpa [vE] using hu)) (fun u hu => by
      simp only [List.flatMap_cons, List.flatMap_nil, vE, List.append_nil, List.mem_cons, List.not_mem_nil, or_false] at hu
      rw [hu]; exact hp)
  obtain ⟨v', w', hr, ho, ha⟩ := Own.app o4 57 57 57 i0 _ 24 Try.underlying57 hi hz0 hz1 hz2 rfl hs (by simp; omega) (by decide) hB
  exact ⟨v', w', hr, ho, ⟨ha.grown.os, ha.grown.tape, ha.grown.output, ha.grown.size, fun k hk hA => ha.grown.block k hk (fun e => hA e.symm)⟩, fun k e => by
    rcases ha.moved with e2 | ⟨k2, e2, h2⟩
    · exact .inl (e2 ▸ e)
    · rw [e] at e2; injection e2 with e2; exact .inr (by omega)⟩
/-- On the way: each of the two slices may have grown. -/
structure Two (B : Nat) (v3 v4 : Value) (w0 w : World) (x3 x4 : Value) (ps rs : List Value) : Prop where
  o3 : OwnT B w x3 ps
  o4 : OwnU B w x4 rs
  ne : ∀ q, x3.ownBlock = some q → x4.ownBlock ≠ some q
  m3 : ∀ j, x3.ownBlock = some j → v3.ownBlock = some j ∨ w0.heap.size ≤ j
  m4 : ∀ j, x4.ownBlock = some j → v4.ownBlock = some j ∨ w0.heap.size ≤ j
  on : Only (Av v3 v4) w0 w
  bz : B ≤ w0.heap.size
theorem Two.start (h : St A B w v3 v4 ps rs ts m) (hB : B ≤ w.heap.size) {w0 : World} (e : w0.heap = w.heap := by rfl) : Two B v3 v4 w0 w0 v3 v4 ps rs where
  o3 := Own.same h.o3 (fun g _ => by rw [e])
  o4 := Own.same h.o4 (fun g _ => by rw [e])
  ne := h.ne
  m3 := fun _ e => .inl e
  m4 := fun _ e => .inl e
  on := Only.refl _ _
  bz := by rw [e]; exact hB
theorem Two.below {w0 : World} {x3 x4 : Value} (h : Two B v3 v4 w0 w x3 x4 ps rs) (hB : Below w.heap.size w w') : Two B v3 v4 w0 w' x3 x4 ps rs where
  o3 := Own.kept h.o3 hB
  o4 := Own.kept h.o4 hB
  ne := h.ne
  m3 := h.m3
  m4 := h.m4
  on := h.on.trans (Below.only hB)
  bz := h.bz
theorem Two.ap3 {w0 : World} {x3 x4 : Value} (h : Two B v3 v4 w0 w x3 x4 ps rs) {n : Nat} {p : Value} (hc : CellsAt w n 0 [p]) (hp : p.oneCell' = true) (hl : ps.length ≤ 1000) :
    ∃ v' w', (Builtin.append_ #[53, 53] 53 #[x3, .slice (some ⟨n, 0, none⟩) 1 1]).run Try.prog w = .ok v' w' ∧ Two B v3 v4 w0 w' v' x4 (ps ++ [p]) rs ∧ Only (fun k => x3.ownBlock = some k) w w' := by
  obtain ⟨v', w', hr, ho, hO, hm⟩ := half3 h.o3 hc hp hl (Nat.le_trans h.bz h.on.size)
  refine ⟨v', w', hr, ⟨ho, Own.same h.o4 (fun g e => hO.block g (Own.lt h.o4 g e).2 (fun e2 => h.ne g e2 e)), fun q e1 e2 => ?_, fun j e => ?_, h.m4, ?_, h.bz⟩, hO⟩
  · rcases hm q e1 with e3 | e3
    · exact h.ne q e3 e2
    · have := (Own.lt h.o4 q e2).2; omega
  · rcases hm j e with e3 | e3
    · exact h.m3 j e3
    · exact .inr (Nat.le_trans h.on.size e3)
  · refine ⟨hO.os.trans h.on.os, hO.tape.trans h.on.tape, hO.output.trans h.on.output, Nat.le_trans h.on.size hO.size, fun k hk hn => (hO.block k (Nat.lt_of_lt_of_le hk h.on.size) (fun e => ?_)).trans (h.on.block k hk hn)⟩
    rcases h.m3 k e with e3 | e3
    · exact hn (.inl e3)
    · omega
theorem Two.ap4 {w0 : World} {x3 x4 : Value} (h : Two B v3 v4 w0 w x3 x4 ps rs) {n : Nat} {p : Value} (hc : CellsAt w n 0 [p]) (hp : p.oneCell' = true) (hl : rs.length ≤ 1000) :
    ∃ v' w', (Builtin.append_ #[57, 57] 57 #[x4, .slice (some ⟨n, 0, none⟩) 1 1]).run Try.prog w = .ok v' w' ∧ Two B v3 v4 w0 w' x3 v' ps (rs ++ [p]) ∧ Only (fun k => x4.ownBlock = some k) w w' ∧ ∀ j, v'.ownBlock = some j → x4.ownBlock = some j ∨ w.heap.size ≤ j := by
  obtain ⟨v', w', hr, ho, hO, hm⟩ := half4 h.o4 hc hp hl (Nat.le_trans h.bz h.on.size)
  refine ⟨v', w', hr, ⟨Own.same h.o3 (fun g e => hO.block g (Own.lt h.o3 g e).2 (fun e2 => h.ne g e e2)), ho, fun q e1 e2 => ?_, h.m3, fun j e => ?_, ?_, h.bz⟩, hO, hm⟩
  · rcases hm q e2 with e3 | e3
    · exact h.ne q e1 e3
    · have := (Own.lt h.o3 q e1).2; omega
  · rcases hm j e with e3 | e3
    · exact h.m4 j e3
    · exact .inr (Nat.le_trans h.on.size e3)
  · refine ⟨hO.os.trans h.on.os, hO.tape.trans h.on.tape, hO.output.trans h.on.output, Nat.le_trans h.on.size hO.size, fun k hk hn => (hO.block k (Nat.lt_of_lt_of_le hk h.on.size) (fun e => ?_)).trans (h.on.block k hk hn)⟩
    rcases h.m4 k e with e3 | e3
    · exact hn (.inr e3)
    · omega
theorem Two.fin {X : Nat → Prop} {w0 : World} {x3 x4 p r : Value} {t : T} (k : Two B v3 v4 w0 w' x3 x4 (ps ++ [p]) (rs ++ [r])) (h : St (fun j => Av v3 v4 j ∨ X j) B w v3 v4 ps rs ts m) (e : w0.heap = w.heap) (ho : Only (Av v3 v4) w w') (ht : TrK (fun j => Av v3 v4 j ∨ X j) w t p) (hr : RsK (fun j => Av v3 v4 j ∨ X j) w r t.toL) (hg : Gr t (m + 1)) :
    St (fun j => Av x3 x4 j ∨ X j) B w' x3 x4 (ps ++ [p]) (rs ++ [r]) (ts ++ [t]) (m + 1) :=
  h.fin ho k.o3 k.o4 k.ne (fun j e2 => by have := k.m3 j e2; rw [e] at this; exact this) (fun j e2 => by have := k.m4 j e2; rw [e] at this; exact this) ht hr hg
theorem cells_only {A : Nat → Prop} {n : Nat} {p : Value} (hc : CellsAt w n 0 [p]) (hO : Only A w w') (hn : n < w.heap.size) (hA : ¬ A n) : CellsAt w' n 0 [p] :=
  hc.agree (lo := n) (hi := n + 1) (hO.agree (by omega) (fun k hk => by
    have : k ≠ n := fun e => hA (e ▸ hk)
    omega)) (Nat.le_refl _) (Nat.lt_succ_self _)
theorem two_a (h : Two B v3 v4 w w v3 v4 ps rs) {p r : Value} (hp : p.oneCell' = true) (hr : r.oneCell' = true) (hl : ps.length ≤ 1000) (hl2 : rs.length ≤ 1000) :
    ∃ x3 W2 x4 W4, (Builtin.append_ #[53, 53] 53 #[v3, .slice (some ⟨w.heap.size, 0, none⟩) 1 1]).run Try.prog (w.alloc (.cells #[p] 25)) = .ok x3 W2 ∧
      (Builtin.append_ #[57, 57] 57 #[v4, .slice (some ⟨W2.heap.size, 0, none⟩) 1 1]).run Try.prog (W2.alloc (.cells #[r] 56)) = .ok x4 W4 ∧
      Only (Av v3 v4) w W2 ∧ Two B v3 v4 w W4 x3 x4 (ps ++ [p]) (rs ++ [r]) := by
  obtain ⟨x3, W2, r1, t2, -⟩ := (h.below (alloc_below w (.cells #[p] 25))).ap3 (CellsAt.newAt w [p] _ rfl) hp hl
  obtain ⟨x4, W4, r2, t4, -, -⟩ := (t2.below (alloc_below W2 (.cells #[r] 56))).ap4 (CellsAt.newAt W2 [r] _ rfl) hr hl2
  exact ⟨x3, W2, x4, W4, r1, r2, t2.on, t4⟩
theorem two_b (h : Two B v3 v4 w w v3 v4 ps rs) {p r : Value} (hp : p.oneCell' = true) (hr : r.oneCell' = true) (hl : ps.length ≤ 1000) (hl2 : rs.length ≤ 1000) :
    ∃ x3 W3 x4 W4, (Builtin.append_ #[53, 53] 53 #[v3, .slice (some ⟨w.heap.size, 0, none⟩) 1 1]).run Try.prog ((w.alloc (.cells #[p] 25)).alloc (.cells #[r] 56)) = .ok x3 W3 ∧
      (Builtin.append_ #[57, 57] 57 #[v4, .slice (some ⟨(w.alloc (.cells #[p] 25)).heap.size, 0, none⟩) 1 1]).run Try.prog W3 = .ok x4 W4 ∧
      Only (Av v3 v4) w W3 ∧ Two B v3 v4 w W4 x3 x4 (ps ++ [p]) (rs ++ [r]) := by
  have a1 := alloc_below w (.cells #[p] 25)
  have a2 := alloc_below (w.alloc (.cells #[p] 25)) (.cells #[r] 56)
  have c1 := (CellsAt.newAt w [p] 25 rfl).agree (Agree.below a2 (Nat.le_refl _)) (Nat.zero_le _) (by simp)
  have c2 := CellsAt.newAt (w.alloc (.cells #[p] 25)) [r] 56 rfl
  obtain ⟨x3, W3, r1, t2, hO⟩ := ((h.below a1).below a2).ap3 c1 hp hl
  have hlt := Own.lt h.o3
  obtain ⟨x4, W4, r2, t4, -, -⟩ := t2.ap4 (cells_only c2 hO (by simp) (fun e => by have := (hlt _ e).2; simp at this; omega)) hr hl2
  exact ⟨x3, W3, x4, W4, r1, r2, t2.on, t4⟩
theorem two_c (h : Two B v3 v4 w w v3 v4 ps rs) {p r : Value} (hp : p.oneCell' = true) (hr : r.oneCell' = true) (hl : ps.length ≤ 1000) (hl2 : rs.length ≤ 1000) :
    ∃ x3 W3 x4 W4, (Builtin.append_ #[53, 53] 53 #[v3, .slice (some ⟨(w.alloc (.cells #[r] 56)).heap.size, 0, none⟩) 1 1]).run Try.prog ((w.alloc (.cells #[r] 56)).alloc (.cells #[p] 25)) = .ok x3 W3 ∧
      (Builtin.append_ #[57, 57] 57 #[v4, .slice (some ⟨w.heap.size, 0, none⟩) 1 1]).run Try.prog W3 = .ok x4 W4 ∧
      Only (Av v3 v4) w W3 ∧ Two B v3 v4 w W4 x3 x4 (ps ++ [p]) (rs ++ [r]) := by
  have a1 := alloc_below w (.cells #[r] 56)
  have a2 := alloc_below (w.alloc (.cells #[r] 56)) (.cells #[p] 25)
  have c2 := (CellsAt.newAt w [r] 56 rfl).agree (Agree.below a2 (Nat.le_refl _)) (Nat.zero_le _) (by simp)
  have c1 := CellsAt.newAt (w.alloc (.cells #[r] 56)) [p] 25 rfl
  obtain ⟨x3, W3, r1, t2, hO⟩ := ((h.below a1).below a2).ap3 c1 hp hl
  have hlt := Own.lt h.o3
  obtain ⟨x4, W4, r2, t4, -, -⟩ := t2.ap4 (cells_only c2 hO (by simp; omega) (fun e => by have := (hlt _ e).2; omega)) hr hl2
  exact ⟨x3, W3, x4, W4, r1, r2, t2.on, t4⟩
theorem RsK.grown {A5 A' : Nat → Prop} {w5 : World} {v : Value} {l : PL} (h : RsK A5 w5 v l) (hO : Only A5 w5 w') (ha : ∀ k, A' k → A5 k ∨ w5.heap.size ≤ k) : RsK A' w' v l := h.step hO (fun _ e => e) ha
/-- What stands at a place. -/
theorem St.at (h : St A B w v3 v4 ps rs ts m) (k : Nat) (hk : k < ts.length) : ∃ g3 n3 c3 g4 n4 c4 q a c, v3 = .slice (some ⟨g3, 0, none⟩) n3 c3 ∧ n3 = ts.length ∧ v4 = .slice (some ⟨g4, 0, none⟩) n4 c4 ∧ n4 = ts.length ∧ B ≤ g3 ∧ g3 < w.heap.size ∧ B ≤ g4 ∧ g4 < w.heap.size ∧
    w.cell? ⟨g3, k, none⟩ = some (.pointer q) ∧ w.cell? ⟨g4, k, none⟩ = some (.slice a ts[k].toL.length c) ∧ TrK A w ts[k] (.pointer q) ∧ RsK A w (.slice a ts[k].toL.length c) ts[k].toL ∧ Gr ts[k] m ∧
    ps[k]? = some (.pointer q) ∧ rs[k]? = some (.slice a ts[k].toL.length c) := by
  have hp : k < ps.length := by rw [h.l3]; exact hk
  have hr : k < rs.length := by rw [h.l4]; exact hk
  obtain ⟨g3, c3, e3, b3, s3, -, -, z3, -⟩ := Own.form h.o3 (fun e => by rw [e] at hp; exact absurd hp (Nat.not_lt_zero _))
  obtain ⟨g4, c4, e4, b4, s4, -, -, z4, -⟩ := Own.form h.o4 (fun e => by rw [e] at hr; exact absurd hr (Nat.not_lt_zero _))
  have t0 := h.tr k hk hp
  have r0 := h.ls k hk hr
  obtain ⟨q, eq⟩ := t0.ptr
  obtain ⟨a, c, ea⟩ := r0.form
  rw [flat_vE] at z3 z4
  have y3 := z3 k _ (List.getElem?_eq_getElem hp)
  have y4 := z4 k _ (List.getElem?_eq_getElem hr)
  rw [Nat.zero_add, eq] at y3
  rw [Nat.zero_add, ea] at y4
  rw [eq] at t0
  rw [ea] at r0
  exact ⟨g3, _, c3, g4, _, c4, q, a, c, e3, h.l3, e4, h.l4, b3, s3, b4, s4, y3, y4, t0, r0, h.gr k hk, by rw [List.getElem?_eq_getElem hp, eq], by rw [List.getElem?_eq_getElem hr, ea]⟩
end
theorem get_mem : ∀ (l : PL), Rises l → ∀ k v, getL k l = some v → (k, v) ∈ l
  | [], _, k, v, h => by cases h
  | (a, b) :: r, hr, k, v, h => by
    simp only [getL] at h
    split at h
    · rename_i h0
      injection h with h
      rw [cmpB_eq k a h0, ← h]
      exact List.mem_cons_self
    · exact List.mem_cons_of_mem _ (get_mem r (List.pairwise_cons.1 hr).2 k v h)
/-- The trees at the beginning: none, and one without pairs. -/
theorem st_init (w W : World) (e : W = ((w.alloc (.cells #[.pointer none] 52)).alloc (.cells #[.pointer none, .pointer (some ⟨w.heap.size, 0, none⟩)] 25)).alloc (.cells #[.slice none 0 0, .slice none 0 0] 56)) :
    Below w.heap.size w W ∧ St (Av (.slice (some ⟨w.heap.size + 1, 0, none⟩) 2 2) (.slice (some ⟨w.heap.size + 1 + 1, 0, none⟩) 2 2)) w.heap.size W (.slice (some ⟨w.heap.size + 1, 0, none⟩) 2 2) (.slice (some ⟨w.heap.size + 1 + 1, 0, none⟩) 2 2)
      [.pointer none, .pointer (some ⟨w.heap.size, 0, none⟩)] [.slice none 0 0, .slice none 0 0] [.nil, .nil] 0 := by
  have s1 : (w.alloc (.cells #[.pointer none] 52)).heap.size = w.heap.size + 1 := by simp
  have s2 : ((w.alloc (.cells #[.pointer none] 52)).alloc (.cells #[.pointer none, .pointer (some ⟨w.heap.size, 0, none⟩)] 25)).heap.size = w.heap.size + 1 + 1 := by simp
  have s3 : W.heap.size = w.heap.size + 1 + 1 + 1 := by rw [e]; simp
  have b1 := Blk.new w [.pointer none] 52 rfl
  have b2 := (b1.alloc (.cells #[.pointer none, .pointer (some ⟨w.heap.size, 0, none⟩)] 25)).alloc (.cells #[.slice none 0 0, .slice none 0 0] 56)
  rw [← e] at b2
  have h3 := World.ownsRow_lit (base := w.heap.size) (e := 25) (size := 1) (w.alloc (.cells #[.pointer none] 52)) #[.pointer none, .pointer (some ⟨w.heap.size, 0, none⟩)] 2 (by omega) (by simp [maxLen]) rfl
  rw [s1] at h3
  have o3 : OwnT w.heap.size ((w.alloc (.cells #[.pointer none] 52)).alloc (.cells #[.pointer none, .pointer (some ⟨w.heap.size, 0, none⟩)] 25)) (.slice (some ⟨w.heap.size + 1, 0, none⟩) 2 2) [.pointer none, .pointer (some ⟨w.heap.size, 0, none⟩)] := h3
  replace o3 := Own.kept o3 ((Below.refl _ _).alloc (Nat.le_refl _) (.cells #[.slice none 0 0, .slice none 0 0] 56))
  rw [← e] at o3
  have h4 := World.ownsRow_lit (base := w.heap.size) (e := 56) (size := 1) ((w.alloc (.cells #[.pointer none] 52)).alloc (.cells #[.pointer none, .pointer (some ⟨w.heap.size, 0, none⟩)] 25)) #[.slice none 0 0, .slice none 0 0] 2 (by omega) (by simp [maxLen]) rfl
  rw [s2, ← e] at h4
  have hz : TrK (Av (.slice (some ⟨w.heap.size + 1, 0, none⟩) 2 2) (.slice (some ⟨w.heap.size + 1 + 1, 0, none⟩) 2 2)) W .nil (.pointer (some ⟨w.heap.size, 0, none⟩)) :=
    .inr ⟨w.heap.size, none, rfl, .inl ⟨by omega, fun h => by
      rcases h with h | h
      · have h2 : some (w.heap.size + 1) = some w.heap.size := h
        injection h2 with h2
        omega
      · have h2 : some (w.heap.size + 1 + 1) = some w.heap.size := h
        injection h2 with h2
        omega⟩, b2.cells.c1, rfl⟩
  refine ⟨by rw [e]; exact (((Below.refl _ _).alloc (Nat.le_refl _) _).alloc (by simp) _).alloc (by simp; omega) _, o3, h4, fun q h1 h2 => ?_, rfl, rfl, Nat.le_refl _, Nat.le_refl _, fun _ h => h, fun k h1 h2 => ?_, fun k h1 h2 => ?_, fun k h => ?_⟩
  · have e1 : w.heap.size + 1 = q := by simpa [Value.ownBlock] using h1
    have e2 : w.heap.size + 1 + 1 = q := by simpa [Value.ownBlock] using h2
    omega
  · match k, h1 with
    | 0, _ => exact .inl ⟨rfl, rfl⟩
    | 1, _ => exact hz
  · match k, h1 with
    | 0, _ => exact RsK.nil _ _
    | 1, _ => exact RsK.nil _ _
  · match k, h with
    | 0, _ => exact Gr.nil
    | 1, _ => exact Gr.nil
/-- 'append([]byte{}, x...)'. -/
theorem copyB {w : World} {blo bhi : Nat} {x : Value} {l : List UInt8} (h : Bytes blo bhi w x l) (hh : bhi ≤ w.heap.size) (hl : l.length ≤ 100000) {n : Nat} (hn : n = w.heap.size) :
    ∃ p c w', (Builtin.append_ #[30, 30] 30 #[.slice (some ⟨n, 0, none⟩) 0 0, x]).run Try.prog (w.alloc (.cells #[] 5)) = .ok (.slice p l.length c) w' ∧ OwnB w.heap.size w' (.slice p l.length c) l ∧ Below w.heap.size w w' := by
  subst hn
  have hal := alloc_below w (.cells #[] 5)
  have hs := Src.ofSl (P := Try.prog) (Sl.below h (flat_loc _) hal hh) (fun _ => rfl) (fun x u hu => by simp only [bE, List.mem_cons, List.not_mem_nil, or_false] at hu; rw [hu]; rfl) Try.underlying30
  obtain ⟨v', w', hr, ho, ha⟩ := appB (ty := 30) (Own.made bE 5 1 w.heap.size w rfl (Nat.le_refl _)) hs (by simp; omega) hal.size
  rw [List.nil_append] at ho
  obtain ⟨p, c, rfl⟩ := Own.slice ho
  refine ⟨p, c, w', hr, ho, hal.trans (ha.below hal.size (fun k hk => ?_))⟩
  have : w.heap.size = k := by simpa [Value.ownBlock] using hk
  omega
/-- What another tree has not so: the same as the document's. -/
theorem diff_doc {t u : T} {n m : Nat} (gt : Gr t n) (gu : Gr u m) : (t.from []).filter (dfP u) = t.toL.filter (noP u.toL) := by
  rw [from_nil t gt.rises]
  refine List.filter_congr (fun x _ => ?_)
  unfold dfP noP
  rw [T.get_eq _ _ gu.rises]
  rw [Bool.eq_iff_iff]
  simp only [decide_eq_true_eq, Bool.not_eq_true', List.any_eq_false, ne_eq]
  constructor
  · intro h y hy e
    have : y = x := eq_of_beq e
    subst this
    exact h (getL_self _ gu.rises _ hy)
  · intro h e
    have hm := get_mem _ gu.rises x.1 x.2 e
    have := h (x.1, x.2) hm
    exact this (beq_self_eq_true _)
end Go.Proofs.Ytmlcnfomiemdpaa
