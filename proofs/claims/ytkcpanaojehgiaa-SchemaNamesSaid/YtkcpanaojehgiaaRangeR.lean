/- Rounds of a range over a function, for other texts; a region of a round that draws its order. -/
import Derived.Test.YtkcpanaojehgiaaRange
import Derived.OrdersIn
import Derived.OrdersHeld
import Derived.Deep.RegionHeld3
namespace Go.Proofs.Ytkcpanaojehgiaa
open Go.RowKit Go.Shelf
attribute [local go_sem] Oper.semAt_some

/-- An append, in a fenced walk. -/
theorem AtApp.goIn {P : Program} {F : Fence} {n : Nat} {w : World} {ops : Array Oper} {rest : List Oper} {o : Oper} {a : Act} {Q : Exit → Act → World → Prop} {s x : Operand} {t tx : TypeId} {v' : Value} {w' : World} {sv xv : Value}
    (hrun : (Builtin.append_ #[t, tx] o.type #[sv, xv]).run P w = .ok v' w') (hgd : o.guard = none) (ho : o.op = .call { callee := .builtin .append, args := #[s, x], argTypes := #[t, tx] }) (hs : a.eval s = sv) (hx : a.eval x = xv)
    (hK : wpListIn F n P ops Q rest (a.put o.dst v') w') : AtApp (wpListIn F n P ops Q (o :: rest) a w) := by
  refine wpListIn_plain hgd fun K hK' => ?_
  unfold Oper.wpIn
  refine ⟨by simp [Oper.about, ho, resolve, Target.leads, Sem.run_pure], ?_⟩
  rw [Oper.semAt_plain F _ _ (by rw [ho]; intro c hc'; cases hc')]
  simp [execOp, ho, resolve, invoke, builtin, hs, hx, hrun, Result.andThen]
  exact hK' _ _ hK
/-- Block l holds o. -/
def HeapAt (w : World) (l : Nat) (o : Obj) : Prop := w.heap[l]? = some o
/-- The statement, its record under a name. -/
theorem wp_rangeFuncR {P : Program} {g : Operand} {ps : Array Tmp} {assign body : Code} {Q : Exit → Act → World → Prop} {a : Act} {w : World} {gf : Nat} {lb : Array Value} (n : Nat)
    (hg : a.eval g = .func (.func gf) #[] lb) (eg : ∀ args w, (callFunc gf args).run P w = .ok (.enter gf args) w)
    (h : ∀ fn (RL : LoopState → Option Code → Loop), RL = recL fn a.tmps ps assign body w.heap.size → CallsIn Fence.wide n P gf (#[.func (.yield (w.heap.size + 1)) #[] #[]] ++ lb)
      ((w.alloc (.deferred (some []))).alloc (.loop (RL .ready none)))
      (fun e W2 => (∃ v, e = .returned v) ∧ ∃ st pe, st ≠ .busy ∧ W2.heap[w.heap.size + 1]? = some (.loop (RL st pe)) ∧
        (match pe with
         | none => Q .normal { a with defers := markD w.heap.size :: a.defers } (W2.putObj (w.heap.size + 1) (.loop (RL .exhausted none)))
         | some c => c.wp P Q { a with defers := markD w.heap.size :: a.defers } (W2.putObj (w.heap.size + 1) (.loop (RL .exhausted (some c))))))) :
    (Code.rangeFunc g ps assign body).wp P Q a w := wp_rangeFunc n hg eg (fun fn => h fn _ rfl)
theorem yieldAt_recR {P : Program} {RL : LoopState → Option Code → Loop} {l : Nat} {fn : FuncId} {tmps : Array Value} {ps : Array Tmp} {assign body : Code} {D : Nat} {W : World} {xs : Array Value} {R : Ending → World → Prop} {n : Nat}
    (hRL : RL = recL fn tmps ps assign body D) (hl : W.heap[l]? = some (.loop (RL .ready none))) (hs : xs.size = ps.size)
    (h : assign.wpIn (Fence.wide.inRound l) n P (Exit.then (fun a₁ w₁ => HeapAt w₁ l (.loop (RL .ready none)) ∧
      body.wpIn (Fence.wide.inRound l) n P (roundPost P l R) a₁ (w₁.putObj l (.loop (RL .busy none)))) (fun _ _ _ => False))
      { tmps := (ps.zip xs).foldl (fun t (p, v) => t.setIfInBounds p v) tmps, defers := [] } W) :
    YieldAt Fence.wide n P l xs W R := by subst hRL; exact yieldAt_rec hl hs (wpIn_mono h (fun e a w h => by cases e <;> first | exact ⟨h.1, h.2⟩ | exact h))
theorem roundPost_normalR {P : Program} {RL : LoopState → Option Code → Loop} {l : Nat} {fn : FuncId} {tmps : Array Value} {ps : Array Tmp} {assign body : Code} {D : Nat} {W : World} {R : Ending → World → Prop} {a : Act}
    (hRL : RL = recL fn tmps ps assign body D) (hl : W.heap[l]? = some (.loop (RL .busy none)))
    (h : R (.returned (.bool true)) (W.putObj l (.loop (RL .ready none)))) : roundPost P l R .normal a W := by subst hRL; exact roundPost_normal hl h

section
variable {P : Program} {ops : Array Oper} {Q : Exit → Act → World → Prop} {S : World → Prop} {l n : Nat}
def noDefer (o : Oper) : Bool := match o.op with | .defer _ => false | _ => true
theorem wpIn_of_wp_op {o : Oper} {a : Act} {w : World} {K : Act → World → Prop} (hd : noDefer o = true) (h : o.wp P a w K Q) : o.wpIn (Fence.wide.inRound l) n P a w K Q := by
  have hd' : ∀ c, o.op ≠ .defer c := fun c e => by simp [noDefer, e] at hd
  refine ⟨fun f _ => trivial, ?_⟩
  rw [Oper.semAt_eq _ _ _ hd']
  unfold Oper.wp at h
  generalize (execOp a.eval o).run P w = r at *
  cases r with
  | ok x w' =>
    cases x with
    | value v => exact h
    | skip => exact h
    | defer d => exact h
    | enter f args => exact ⟨fun h => (by cases h), callsIn_wide.2 h⟩
    | row row args =>
      refine ⟨fun h => (by cases h), fun c cs _ => ?_⟩
      obtain ⟨v, w'', h1, h2⟩ := h c cs
      exact ⟨v, w'', h1, stepsIn_wide.2 h2⟩
    | _ => exact h.elim
  | halt x w' =>
    cases x <;> first | exact h | exact h.elim
theorem wpOpsIn_of_wpOps (hd : ops.all noDefer = true) (hQ : ¬ LetsOut Q) : ∀ (L : List Nat) (a : Act) (w : World), wpOps P ops Q L a w → wpOpsIn (Fence.wide.inRound l) n P ops Q L a w := by
  intro L
  induction L with
  | nil => exact fun _ _ h => h
  | cons i rest ih =>
    intro a w h
    unfold wpOps at h
    unfold wpOpsIn
    cases ho : ops[i]? with
    | none => rw [ho] at h; exact ih _ _ h
    | some o =>
      rw [ho] at h
      have hdo : noDefer o = true := by
        obtain ⟨hi, e⟩ := Array.getElem?_eq_some_iff.1 ho
        rw [← e]
        exact (Array.all_eq_true.1 hd) i hi
      simp only at h ⊢
      by_cases hw : Region.wanted o (yielded ops a.tmps) = true
      · rw [if_pos hw] at h ⊢
        rcases h with h | ⟨-, h⟩
        · exact wpIn_of_wp_op hdo (Oper.wp_mono (fun a w => ih a w) h)
        · exact absurd h hQ
      · rw [if_neg hw] at h ⊢
        exact ⟨fun f _ => trivial, ih _ _ h⟩
/-- A region of a round that draws its order: under S, as one outside of rounds. -/
theorem wpIn_region_held {id : Nat} {a : Act} {w : World} (hd : ops.all noDefer = true) (hQ : ¬ LetsOut Q) (hm : P.follows .mixedOrders = true) (hS : S w.drew)
    (h : S w.drew → wpAnyH P .any ops Q S ops.size (Array.replicate ops.size false) a w.drew) : (Code.region id ops true).wpIn (Fence.wide.inRound l) n P Q a w :=
  wpIn_region_draw fun t => by
    simp only [Region.schedule, hm, Bool.true_or, if_true]
    exact wpOpsIn_of_wpOps hd hQ _ _ _ (wpAny_sound ops.size t _ a _ (wpAny_of_held _ _ _ _ (h hS)))
end
end Go.Proofs.Ytkcpanaojehgiaa
