/- Worlds that differ in some blocks alone. -/
import Derived.Test.YtkcpanaojehgiaaBase
import Derived.RangeFuncRecord
namespace Go.Proofs.Ytkcpanaojehgiaa
open Go.RowKit

/-- Of what was there nothing has turned but blocks of which A holds. -/
structure Only (A : Nat → Prop) (w w' : World) : Prop where
  os : w'.os = w.os
  tape : w'.tape = w.tape
  output : w'.output = w.output
  size : w.heap.size ≤ w'.heap.size
  block : ∀ k, k < w.heap.size → ¬ A k → w'.heap[k]? = w.heap[k]?
theorem Only.refl (A : Nat → Prop) (w : World) : Only A w w := ⟨rfl, rfl, rfl, Nat.le_refl _, fun _ _ _ => rfl⟩
theorem Only.trans {A : Nat → Prop} {a b c : World} (h : Only A a b) (k : Only A b c) : Only A a c :=
  ⟨k.os.trans h.os, k.tape.trans h.tape, k.output.trans h.output, Nat.le_trans h.size k.size, fun i hi hA => (k.block i (Nat.lt_of_lt_of_le hi h.size) hA).trans (h.block i hi hA)⟩
theorem Only.mono {A A' : Nat → Prop} {a b : World} (h : Only A a b) (hA : ∀ k, k < a.heap.size → A k → A' k) : Only A' a b := ⟨h.os, h.tape, h.output, h.size, fun k hk hn => h.block k hk (fun e => hn (hA k hk e))⟩
theorem Below.only {A : Nat → Prop} {w w' : World} (h : Below w.heap.size w w') : Only A w w' := ⟨h.os, h.tape, h.output, h.size, fun k hk _ => h.block k hk⟩
theorem Below.onlyGe {B : Nat} {w w' : World} (h : Below B w w') : Only (fun k => B ≤ k) w w' := ⟨h.os, h.tape, h.output, h.size, fun k _ hn => h.block k (by omega)⟩
theorem Only.below {A : Nat → Prop} {B : Nat} {w w' : World} (h : Only A w w') (hB : B ≤ w.heap.size) (hA : ∀ k, A k → B ≤ k) : Below B w w' := ⟨h.os, h.tape, h.output, h.size, fun k hk => h.block k (by omega) (fun e => by have := hA k e; omega)⟩
theorem Only.agree {A : Nat → Prop} {lo hi : Nat} {w w' : World} (h : Only A w w') (hh : hi ≤ w.heap.size) (hA : ∀ k, A k → k < lo ∨ hi ≤ k) : Agree lo hi w w' := fun k h1 h2 => h.block k (by omega) (fun e => by have := hA k e; omega)
theorem Only.blk {A : Nat → Prop} {w w' : World} {b : Nat} {cs : List Value} {t : TypeId} (h : Only A w w') (hb : Blk w b cs t) (hA : ¬ A b) : Blk w' b cs t := (h.block b hb.lt hA).trans hb
theorem Only.setCell {A : Nat → Prop} (w : World) {p : Addr} (hp : A p.block) (u : Value) : Only A w (w.setCell p u) := ⟨rfl, rfl, rfl, by simp [World.setCell], fun k _ hn => Below.heap_setCell _ _ _ _ (fun e => hn (e ▸ hp))⟩
theorem Only.alloc {A : Nat → Prop} (w : World) (o : Obj) : Only A w (w.alloc o) := ⟨rfl, rfl, rfl, by simp, fun k hk _ => Below.heap_alloc w o k hk⟩
theorem Only.drew {A : Nat → Prop} (w : World) : Only A w w.drew := ⟨rfl, rfl, rfl, Nat.le_refl _, fun _ _ _ => rfl⟩
theorem Only.putObj {A : Nat → Prop} (w : World) {b : Nat} (hb : A b) (o : Obj) : Only A w (w.putObj b o) := ⟨rfl, rfl, rfl, by simp [World.putObj], fun k _ hn => World.putObj_heap_other (fun e => hn (by subst e; exact hb))⟩
end Go.Proofs.Ytkcpanaojehgiaa
