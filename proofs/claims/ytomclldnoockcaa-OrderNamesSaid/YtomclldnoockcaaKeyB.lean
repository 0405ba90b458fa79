/- Keys and values as bytes, in one form each. -/
import Derived.Test.YtomclldnoockcaaKey
namespace Go.Proofs.Ytomclldnoockcaa
open Go.RowKit

def keyB (l : List Pt) : List UInt8 := if l.all Pt.ok then encK l else []
def keyE (l : List Pt) : Int := if l.all Pt.ok then 0 else 10
def valB (v : V) : List UInt8 := if mayB v then encV v else []
def valE (v : V) : Int := if mayB v then 0 else 10
theorem Key_b (lo hi : Nat) (l : List Pt) (v : Value) (w : World) (hv : Pts lo hi w v l) (hhi : hi ≤ w.heap.size) (hs : sumP l ≤ 1000000) (R : Ending → World → Prop)
    (hR : ∀ w' v', Below w.heap.size w w' → OwnB w.heap.size w' v' (keyB l) → R (.returned (.tuple #[v', .int .i64 (keyE l)])) w') : Calls Try.prog 13 #[v] w R :=
  Key_any lo hi l v w hv hhi hs R (fun h w' v' hB ho => fin (hR w' v' hB (by rw [keyB, if_pos h]; exact ho)) (by rw [keyE, if_pos h]))
    (fun h w' hB => fin (hR w' (.slice none 0 0) hB (by rw [keyB, if_neg (by simp [h])]; exact Own.nil _ _ _ _ _)) (by rw [keyE, if_neg (by simp [h])]))
theorem Value_b (v : V) (w : World) (hs : v.s.length ≤ 10000000) (R : Ending → World → Prop)
    (hR : ∀ w' v', Below w.heap.size w w' → OwnB w.heap.size w' v' (valB v) → R (.returned (.tuple #[v', .int .i64 (valE v)])) w') :
    Calls Try.prog 16 #[.agg #[.int .i64 v.kind, .int .i64 v.n, .string ⟨v.s.toArray⟩]] w R :=
  Value_any v w hs R (fun h w' v' hB ho => fin (hR w' v' hB (by rw [valB, if_pos h]; exact ho)) (by rw [valE, if_pos h]))
    (fun h w' hB => fin (hR w' (.slice none 0 0) hB (by rw [valB, if_neg (by simp [h])]; exact Own.nil _ _ _ _ _)) (by rw [valE, if_neg (by simp [h])]))
theorem stepS {w W W' : World} {C : Prop} (h : Below w.heap.size w W ∧ C) (h2 : Below W.heap.size W W') : Below w.heap.size w W' := h.1.trans (h2.mono h.1.size)
theorem stepW {w w4 W : World} {C : Prop} (h1 : Below w.heap.size w w4) (h : Below w4.heap.size w4 W ∧ C) : Below w.heap.size w W := h1.trans (h.1.mono h1.size)
/-- Bytes of the call's own, in a later world. -/
theorem OwnB.later {lo : Nat} {w w' : World} {v : Value} {xs : List UInt8} (h : OwnB lo w v xs) (hB : Below w.heap.size w w') : Bytes 0 w'.heap.size w' v xs :=
  (Sl.below (OwnB.bytes h) (flat_loc _) hB (Nat.le_refl _)).mono (flat_loc _) (Nat.zero_le _) hB.size

end Go.Proofs.Ytomclldnoockcaa
