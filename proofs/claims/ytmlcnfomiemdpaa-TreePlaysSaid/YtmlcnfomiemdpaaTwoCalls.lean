/- A region that draws its order: what is left of it, once nothing in it turns the world any more. -/
import Derived.Test.YtmlcnfomiemdpaaBase
import Derived.Deep.RegionHeld3
import Derived.Deep.QuietTactic
import Derived.Deep.DrawnRows
namespace Go.Proofs.Ytmlcnfomiemdpaa
open Go.RowKit
section
variable {P : Program} {md : Region.Mode} {Q : Exit → Act → World → Prop}
/-- What goes under a stronger condition goes under a weaker one. -/
theorem wpAnyH_imp {ops : Array Oper} {S S' : World → Prop} (h : ∀ w, S w → S' w) : ∀ (fuel : Nat) (listed : Array Bool) (a : Act) (w : World), wpAnyH P md ops Q S fuel listed a w → wpAnyH P md ops Q S' fuel listed a w
  | 0, _, _, _, hh => hh
  | fuel + 1, _, _, _, hh => ⟨hh.1, fun i hi => wpOp_mono (fun a' w' h' => ⟨h w' h'.1, wpAnyH_imp h fuel _ a' w' h'.2⟩) (hh.2 i hi)⟩
theorem wpAnyH_quiet {ops : Array Oper} {C S : World → Prop} {Q' : Act → Prop} (hCS : ∀ w, C w → S w) (hQ : ∀ a w, C w → Q' a → Q .normal a w) : ∀ (fuel : Nat) (listed : Array Bool) (a : Act) (w : World), C w →
    wpAnyQ P md ops C Q' fuel listed a → wpAnyH P md ops Q S fuel listed a w
  | 0, _, _, _, hw, h => ⟨h.1, hQ _ _ hw h.2⟩
  | fuel + 1, _, _, _, hw, h => ⟨fun h0 => hQ _ _ hw (h.1 h0), fun i hi => wpOp_of_qOp hw (fun a' w' hw' hk => ⟨hCS w' hw', wpAnyH_quiet hCS hQ fuel _ a' w' hw' hk⟩) (h.2 i hi)⟩
/-- The rest of a region, in the order of the text, in one world. -/
theorem wpAnyH_rest {L : List Oper} {S : World → Prop} (k : Nat) {fuel : Nat} {listed : Array Bool} {a : Act} {w : World} (hs : Region.noSelect L.toArray = true) (hf : fuel = (L.drop k).length)
    (hB : Region.lexFrom md L.toArray (L.drop k).length k listed = true) (hS : S w)
    (h : wpQuiet P L.toArray (fun w' => w' = w) (fun a' => Q .normal a' w) (L.drop k) a) : wpAnyH P md L.toArray Q S fuel listed a w := by
  subst hf
  refine wpAnyH_quiet (C := fun w' => w' = w) (Q' := fun a' => Q .normal a' w) (fun w' e => by rw [e]; exact hS) (fun a w' e h => by rw [e]; exact h) _ _ _ _ rfl ?_
  exact wpAnyQ_lex hs (L.drop k) k listed a (fun j => by rw [List.getElem?_drop, List.getElem?_toArray]) hB h
end
end Go.Proofs.Ytmlcnfomiemdpaa
