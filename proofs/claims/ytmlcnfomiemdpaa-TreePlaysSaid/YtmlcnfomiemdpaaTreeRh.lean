/- Trees: the word of a loop that gathers pairs of a tree. -/
import Derived.Test.YtmlcnfomiemdpaaTreeRg
namespace Go.Proofs.Ytmlcnfomiemdpaa
open Go.RowKit

theorem By.ofBytes {lo hi N : Nat} {w : World} {v : Value} {l : List UInt8} (h : Bytes lo hi w v l) (hh : hi ≤ N) : By (· < N) w v l := by
  rcases h.cases with ⟨rfl, ao, cap, rfl, h1, h2⟩ | ⟨hp, b, off, cap, rfl, h1, h2, h3, h4, h5⟩
  · exact ⟨0, fun e => absurd rfl e, h.ofNil⟩
  · exact ⟨b, fun _ => by show b < N; omega, ⟨_, cap, rfl, h1, by simpa [maxLen] using h2, fun e => (by cases e), fun _ => ⟨b, off, rfl, Nat.le_refl _, Nat.lt_succ_self _, h5⟩⟩⟩
theorem Pairs.mono {lo lo' : Nat} {w : World} {v : Value} {ps : List (Value × Value)} {d : PL} (h : Pairs lo w v ps d) (hb : lo' ≤ lo) : Pairs lo' w v ps d where
  own := ⟨h.own.1, h.own.2.imp id fun ⟨g, cp, cur, e, hg, hh⟩ => ⟨g, cp, cur, e, Nat.le_trans hb hg, hh⟩⟩
  len := h.len
  kv := fun i h1 h2 => ⟨OwnB.mono (h.kv i h1 h2).1 hb, OwnB.mono (h.kv i h1 h2).2 hb⟩
  apart := h.apart
  hd := h.hd
/-- What a loop that gathers pairs holds: variables that stay, the loop's record, the slice of pairs. C: its blocks. -/
structure OutV (b0 L ob : Nat) (boxes : List (Nat × Value × TypeId)) (o : Obj) (C : Nat → Prop) (d : PL) (W : World) (v : Value) (ps : List (Value × Value)) : Prop where
  cl : ∀ k, C k → b0 ≤ k ∧ k < W.heap.size
  bx : ∀ x ∈ boxes, x.1 < ob ∧ C x.1 ∧ Blk W x.1 [x.2.1] x.2.2
  co : C ob
  ol : ob < L
  cL : C L
  rcd : HeapAt W L o
  out : Blk W ob [v] 38
  prs : Pairs (L + 1) W v ps d
  cv : ∀ g, v.ownBlock = some g → C g
  cb : ∀ g ∈ blks ps, C g
def OutC (b0 L ob : Nat) (boxes : List (Nat × Value × TypeId)) (o : Obj) (C : Nat → Prop) (d : PL) (W : World) : Prop := ∃ v ps, OutV b0 L ob boxes o C d W v ps
theorem OutC.on {b0 L ob : Nat} {boxes : List (Nat × Value × TypeId)} {o : Obj} {C : Nat → Prop} {d : PL} {W W' : World} (h : OutC b0 L ob boxes o C d W) (hO : Only (fun k => ¬ C k) W W') : OutC b0 L ob boxes o C d W' := by
  obtain ⟨v, ps, h⟩ := h
  have hb : ∀ k, C k → W'.heap[k]? = W.heap[k]? := fun k hk => hO.block k (h.cl k hk).2 (fun e => e hk)
  exact ⟨v, ps, fun k hk => ⟨(h.cl k hk).1, Nat.lt_of_lt_of_le (h.cl k hk).2 hO.size⟩, fun x hx => ⟨(h.bx x hx).1, (h.bx x hx).2.1, (hb _ (h.bx x hx).2.1).trans (h.bx x hx).2.2⟩, h.co, h.ol, h.cL, (hb L h.cL).trans h.rcd, (hb ob h.co).trans h.out, h.prs.same (fun g e => hb g (h.cv g e)) (fun g e => hb g (h.cb g e)), h.cv, h.cb⟩
/-- Nothing is told: the record alone turns. -/
theorem OutV.rec2 {b0 L ob : Nat} {boxes : List (Nat × Value × TypeId)} {o o2 : Obj} {C : Nat → Prop} {d : PL} {W W3 : World} {v : Value} {ps : List (Value × Value)} (h : OutV b0 L ob boxes o C d W v ps) (h3 : Only (· = L) W W3) (hl : HeapAt W3 L o2) : OutV b0 L ob boxes o2 C d W3 v ps := by
  have hb : ∀ k, C k → k ≠ L → W3.heap[k]? = W.heap[k]? := fun k hk hn => h3.block k (h.cl k hk).2 hn
  have hlt := h.prs.lt
  exact ⟨fun k hk => ⟨(h.cl k hk).1, Nat.lt_of_lt_of_le (h.cl k hk).2 h3.size⟩, fun x hx => ⟨(h.bx x hx).1, (h.bx x hx).2.1, (hb _ (h.bx x hx).2.1 (by have := (h.bx x hx).1; have := h.ol; omega)).trans (h.bx x hx).2.2⟩, h.co, h.ol, h.cL, hl, (hb ob h.co (by have := h.ol; omega)).trans h.out,
    h.prs.same (fun g e => hb g (h.cv g e) (by have := (hlt.1 g e).1; omega)) (fun g e => hb g (h.cb g e) (by have := (hlt.2 g e).1; omega)), h.cv, h.cb⟩
/-- One is told more. -/
theorem OutV.told {b0 L ob : Nat} {boxes : List (Nat × Value × TypeId)} {o o2 : Obj} {C : Nat → Prop} {d : PL} {W w' : World} {v : Value} {ps : List (Value × Value)} (h : OutV b0 L ob boxes o C d W v ps) (hb0 : b0 ≤ W.heap.size) {p : Option Addr} {m cp : Nat} {ps2 : List (Value × Value)} {d2 : PL}
    (hO : Only (fun q => v.ownBlock = some q) W w') (hP : Pairs (L + 1) w' (.slice p m cp) ps2 d2) (hm : (Value.slice p m cp).ownBlock = v.ownBlock ∨ ∃ g, (Value.slice p m cp).ownBlock = some g ∧ W.heap.size ≤ g) (hps : ∀ g ∈ blks ps2, g ∈ blks ps ∨ W.heap.size ≤ g) :
    OutV b0 L ob boxes o2 (fun k => C k ∨ (W.heap.size ≤ k ∧ k < w'.heap.size)) d2 ((w'.setCell ⟨ob, 0, none⟩ (.slice p m cp)).putObj L o2) (.slice p m cp) ps2 ∧ Only C W ((w'.setCell ⟨ob, 0, none⟩ (.slice p m cp)).putObj L o2) := by
  have hlt := h.prs.lt
  have hol := h.ol
  have hco := (h.cl ob h.co).2
  have hcL := (h.cl L h.cL).2
  have hvne : ∀ k, k ≤ L → ¬ v.ownBlock = some k := fun k hk e => by have := (hlt.1 k e).1; omega
  have hs : ((w'.setCell ⟨ob, 0, none⟩ (.slice p m cp)).putObj L o2).heap.size = w'.heap.size := by rw [World.putObj_size]; simp [World.setCell]
  have hL2 : HeapAt ((w'.setCell ⟨ob, 0, none⟩ (.slice p m cp)).putObj L o2) L o2 := World.putObj_heap_same (by have := hO.size; simp [World.setCell]; omega)
  have hoth : ∀ k, k ≠ ob → k ≠ L → ((w'.setCell ⟨ob, 0, none⟩ (.slice p m cp)).putObj L o2).heap[k]? = w'.heap[k]? := fun k h1 h2 => (World.putObj_heap_other h2).trans (Below.heap_setCell _ _ _ _ h1)
  have hob : Blk ((w'.setCell ⟨ob, 0, none⟩ (.slice p m cp)).putObj L o2) ob [.slice p m cp] 38 := by
    have h1 : Blk w' ob [v] 38 := hO.blk h.out (hvne ob (by omega))
    exact (World.putObj_heap_other (by omega)).trans (h1.set 0 (.slice p m cp))
  have hlt2 := hP.lt
  refine ⟨⟨fun k hk => ?_, fun x hx => ⟨(h.bx x hx).1, .inl (h.bx x hx).2.1, ?_⟩, .inl h.co, hol, .inl h.cL, hL2, hob, hP.same (fun g e => hoth g (by have := (hlt2.1 g e).1; omega) (by have := (hlt2.1 g e).1; omega)) (fun g e => hoth g (by have := (hlt2.2 g e).1; omega) (by have := (hlt2.2 g e).1; omega)), fun g e => ?_, fun g e => ?_⟩, ?_⟩
  · rw [hs]
    rcases hk with hk | hk
    · exact ⟨(h.cl k hk).1, Nat.lt_of_lt_of_le (h.cl k hk).2 hO.size⟩
    · exact ⟨by omega, hk.2⟩
  · have hx1 := (h.bx x hx).1
    exact (hoth _ (by omega) (by omega)).trans ((hO.block _ (by omega) (hvne _ (by omega))).trans (h.bx x hx).2.2)
  · rcases hm with e2 | ⟨g2, e2, h2⟩
    · exact .inl (h.cv g (e2 ▸ e))
    · rw [e] at e2
      injection e2 with e2
      exact .inr ⟨by omega, (hlt2.1 g e).2⟩
  · rcases hps g e with e2 | e2
    · exact .inl (h.cb g e2)
    · exact .inr ⟨e2, (hlt2.2 g e).2⟩
  · refine ⟨hO.os, hO.tape, hO.output, by rw [hs]; exact hO.size, fun k hk hn => ?_⟩
    exact (hoth k (fun e => hn (e ▸ h.co)) (fun e => hn (e ▸ h.cL))).trans (hO.block k hk (fun e => hn (h.cv k e)))
/-- The end of a round that breaks the loop. -/
theorem roundPost_exitR {P : Program} {RL : LoopState → Option Code → Loop} {l : Nat} {fn : FuncId} {tmps : Array Value} {ps : Array Tmp} {assign body : Code} {D : Nat} {W : World} {R : Ending → World → Prop} {a : Act} {i : Nat}
    (hRL : RL = recL fn tmps ps assign body D) (hl : W.heap[l]? = some (.loop (RL .busy none)))
    (h : R (.returned (.bool false)) (W.putObj l (.loop (RL .done (some (.exit i)))))) : roundPost P l R (.exit i) a W := by
  subst hRL
  exact ⟨_, _, run_endRound (some (.exit i)) hl, h⟩
end Go.Proofs.Ytmlcnfomiemdpaa
