/- Facts that stay where blocks are only added: each is carried from world to world in one step. -/
import Derived.Test.YtmlcnfomiemdpaaTreeAl
import Derived.Test.YtmlcnfomiemdpaaTreePt
namespace Go.Proofs.Ytmlcnfomiemdpaa
open Go.RowKit
set_option linter.unusedVariables false

def Kp (P : World → Prop) (w : World) : Prop := ∀ w', Below w.heap.size w w' → P w'
theorem Kp.here {P : World → Prop} {w : World} (h : Kp P w) : P w := h w (Below.refl _ _)
theorem Kp.step {P : World → Prop} {w w' : World} (h : Kp P w) (hB : Below w.heap.size w w') : Kp P w' := fun x hx => h x (hB.trans (hx.mono hB.size))
theorem Kp.imp {P Q : World → Prop} {w : World} (h : Kp P w) (hi : ∀ w, P w → Q w) : Kp Q w := fun x hx => hi x (h x hx)
theorem Tr.kp {lo : Nat} {w : World} {t : T} {p : Value} (h : Tr Nn lo w t p) (hlo : lo ≤ w.heap.size) : Kp (fun w => Tr Nn lo w t p) w := fun x hx => h.step (Nn.lt _) hlo hx
theorem Bytes.kp {lo hi : Nat} {w : World} {v : Value} {l : List UInt8} (h : Bytes lo hi w v l) (hhi : hi ≤ w.heap.size) : Kp (fun w => Bytes lo hi w v l) w := fun x hx => Sl.below h (flat_loc _) hx hhi
theorem Bytes.kz {lo hi : Nat} {w : World} {v : Value} {l : List UInt8} (h : Bytes lo hi w v l) (hhi : hi ≤ w.heap.size) : Kp (fun w => Bytes 0 w.heap.size w v l) w := fun x hx =>
  Sl.mono (Sl.below h (flat_loc _) hx hhi) (flat_loc _) (Nat.zero_le _) (Nat.le_trans hhi hx.size)
theorem Pairs.kp {lo : Nat} {w : World} {v : Value} {ps : List (Value × Value)} {d : PL} (h : Pairs lo w v ps d) : Kp (fun w => Pairs lo w v ps d) w := fun x hx => h.below hx
theorem cell_kp {w : World} {a : Addr} {v : Value} (h : w.cell? a = some v) (hb : a.block < w.heap.size) : Kp (fun w => w.cell? a = some v) w := fun x hx => (World.cell?_of_block (hx.block _ hb)).trans h
theorem Below.kp {B : Nat} {w w' : World} (h : Below B w w') (hB : B ≤ w'.heap.size) : Kp (fun x => Below B w x) w' := fun x hx => h.trans (hx.mono hB)
theorem size_kp {n : Nat} {w : World} (h : n ≤ w.heap.size) : Kp (fun w => n ≤ w.heap.size) w := fun x hx => Nat.le_trans h hx.size
theorem lt_kp {n : Nat} {w : World} (h : n < w.heap.size) : Kp (fun w => n < w.heap.size) w := fun x hx => Nat.lt_of_lt_of_le h hx.size
theorem alloc_below (w : World) (o : Obj) : Below w.heap.size w (w.alloc o) := (Below.refl _ _).alloc (Nat.le_refl _) _
/-- '[]byte("c")', with the place said outright. -/
theorem constB' (w : World) (n : Nat) (hn : n = w.heap.size) (c : UInt8) (x : Int) (hx : x = c.toNat) : ∃ w', (convert 30 30 (.slice (some ⟨n, 0, none⟩) 1 1)).run Try.prog (w.alloc (.cells #[.int .u8 x] 5)) = .ok (.slice (some ⟨n, 0, none⟩) 1 1) w' ∧
    Below w.heap.size w w' ∧ Bytes n (n + 1) w' (.slice (some ⟨n, 0, none⟩) 1 1) [c] ∧ n + 1 ≤ w'.heap.size := by
  subst hn hx
  obtain ⟨w', h1, h2, h3, h4⟩ := constB w c
  exact ⟨w', h1, h2, h4, by omega⟩
/-- A pair laid into a variable. -/
theorem pair_new (w : World) (a b : Value) (n : Nat) (hn : n = w.heap.size) : (w.alloc (.cells #[a, b] 43)).cell? ⟨n, 0, none⟩ = some a ∧ (w.alloc (.cells #[a, b] 43)).cell? ⟨n, 1, none⟩ = some b ∧ n < (w.alloc (.cells #[a, b] 43)).heap.size := by
  subst hn
  obtain ⟨h0, h1⟩ := (Blk.new w [a, b] 43 rfl).cells.c2
  exact ⟨h0, h1, by simp⟩
end Go.Proofs.Ytmlcnfomiemdpaa
