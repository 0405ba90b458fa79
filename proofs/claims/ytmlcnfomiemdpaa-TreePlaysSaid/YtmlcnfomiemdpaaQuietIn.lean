/- A region of a round of a range over a function that draws its order and only reads. -/
import Derived.Test.YtmlcnfomiemdpaaTwoCalls
import Derived.Test.YtmlcnfomiemdpaaRangeR
namespace Go.Proofs.Ytmlcnfomiemdpaa
open Go.RowKit
theorem wpIn_region_quiet {P : Program} {Q : Exit → Act → World → Prop} {L : List Oper} {id l n : Nat} {a : Act} {w : World} (hd : L.toArray.all noDefer = true) (hQ : ¬ LetsOut Q) (hm : P.follows .mixedOrders = true) (hs : Region.noSelect L.toArray = true)
    (hB : Region.lexFrom .any L.toArray L.length 0 (Array.replicate L.length false) = true)
    (h : wpQuiet P L.toArray (fun w' => ∃ n, w' = w.drewN n) (fun a' => ∀ w', (∃ n, w' = w.drewN n) → Q .normal a' w') L a) : (Code.region id L.toArray true).wpIn (Fence.wide.inRound l) n P Q a w := by
  refine wpIn_region_held (S := fun w' => ∃ n, w' = w.drewN n) hd hQ hm ⟨1, rfl⟩ (fun _ => ?_)
  have hz : L.toArray.size = L.length := by simp
  rw [hz]
  exact wpAnyH_quiet (C := fun w' => ∃ n, w' = w.drewN n) (Q' := fun a' => ∀ w', (∃ n, w' = w.drewN n) → Q .normal a' w') (fun _ h => h) (fun a w' hc hq => hq w' hc) L.length _ a w.drew ⟨1, rfl⟩
    (wpAnyQ_lex hs L 0 _ a (fun j => by rw [Nat.zero_add, List.getElem?_toArray]) hB h)
end Go.Proofs.Ytmlcnfomiemdpaa
