/- RowsPicks' walk, of a relation as an argument lays it. -/
import Derived.Test.YtpncblagjkbemaaRowPk
import Derived.Test.YtpncblagjkbemaaLiftRel
namespace Go.Proofs.Ytpncblagjkbemaa
open Go.RowKit
theorem RowsPicks_rel (p : List S × List (List V)) (v : Value) (cols : List S) (cv : Value) (x : List V) (xv : Value) (w : World) (hp : RelIn w v p) (ho : relOk p) (hcols : Strs 0 w.heap.size w cv cols) (hx : Row1 0 w.heap.size w xv x) (hxs : ∀ a ∈ x, valOk a) (R : Ending → World → Prop)
    (hR : ∀ w', Below w.heap.size w w' → R (.returned (.bool true)) w') : Calls Try.prog 6 #[v, cv, xv] w R := by
  obtain ⟨ac, cc, lv, rfl, h1, h2⟩ := hp
  exact RowsPicks_any 0 w.heap.size 0 w.heap.size 0 w.heap.size 0 w.heap.size p.1 ac cc p.2 lv cols cv x xv w h1 (Nat.le_refl _) h2 (Nat.le_refl _) hcols (Nat.le_refl _) hx (Nat.le_refl _) (fun x hx a ha => ho x hx a ha) (fun a ha => hxs a ha) R hR
end Go.Proofs.Ytpncblagjkbemaa
