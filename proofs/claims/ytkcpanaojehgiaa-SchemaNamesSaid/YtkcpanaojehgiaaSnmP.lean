/- SchemaNames: what Holds says of the table's rows; facts that stay; facts of a literal. -/
import Derived.Test.YtkcpanaojehgiaaInsB
namespace Go.Proofs.Ytkcpanaojehgiaa
open Go.RowKit
set_option linter.unusedVariables false

def Kp (P : World → Prop) (w : World) : Prop := ∀ w', Below w.heap.size w w' → P w'
theorem Kp.here {P : World → Prop} {w : World} (h : Kp P w) : P w := h w (Below.refl _ _)
theorem Kp.step {P : World → Prop} {w w' : World} (h : Kp P w) (hB : Below w.heap.size w w') : Kp P w' := fun x hx => h x (hB.trans (hx.mono hB.size))
theorem Below.kp {B : Nat} {w w' : World} (h : Below B w w') (hB : B ≤ w'.heap.size) : Kp (fun x => Below B w x) w' := fun x hx => h.trans (hx.mono hB)
theorem Blk.kp {w : World} {b : Nat} {cs : List Value} {t : TypeId} (h : Blk w b cs t) : Kp (fun w => Blk w b cs t) w := fun x hx => h.below hx h.lt
theorem size_kp {n : Nat} {w : World} (h : n ≤ w.heap.size) : Kp (fun w => n ≤ w.heap.size) w := fun x hx => Nat.le_trans h hx.size
theorem Attrs.kp {lo : Nat} {w : World} {v : Value} {xs : List Attr} (h : OwnA lo w v xs) : Kp (fun w => OwnA lo w v xs) w := fun x hx => Own.kept h hx
theorem Fts.kp {lo hi : Nat} {w : World} {v : Value} {xs : List Ft} (h : Fts lo hi w v xs) (hh : hi ≤ w.heap.size) : Kp (fun w => Fts lo hi w v xs) w := fun x hx => Sl.below h ftE_loc hx hh

theorem Own.kz {lo : Nat} {w : World} {v : Value} {xs : List Attr} (h : OwnA lo w v xs) : Attrs 0 w.heap.size w v xs := Sl.mono (OwnA.attrs h) Attrs.loc (Nat.zero_le _) (Nat.le_refl _)

/-- Facts of a literal. -/
theorem lit_fts (ps : List FR) (w : World) (hn : ps.length ≤ 1000) (hs : ∀ p ∈ ps, Spans 0 w.heap.size w p.sl p.x.sp) :
    Fts 0 (w.alloc (.cells (ps.flatMap FR.enc).toArray 49)).heap.size (w.alloc (.cells (ps.flatMap FR.enc).toArray 49)) (.slice (some ⟨w.heap.size, 0, none⟩) ps.length ps.length) (ps.map FR.x) := by
  have hlen : (ps.flatMap FR.enc).length = ps.length * 6 := by
    clear hn hs
    induction ps with
    | nil => rfl
    | cons a r ih => simp only [List.flatMap_cons, List.length_append, List.length_cons, ih]; simp [FR.enc]; omega
  have hB3 := alloc_below w (.cells (ps.flatMap FR.enc).toArray 49)
  have ho3 : OwnFR w.heap.size (w.alloc (.cells (ps.flatMap FR.enc).toArray 49)) (.slice (some ⟨w.heap.size, 0, none⟩) ps.length ps.length) ps :=
    World.ownsRow_lit (base := w.heap.size) (e := 49) (size := 6) w (ps.flatMap FR.enc).toArray ps.length (Nat.le_refl _) (by simp [maxLen]; omega) (by rw [List.size_toArray, hlen])
  have hz := hB3.size
  exact (show OwnFs w.heap.size _ _ (ps.map FR.x) from ⟨ps, rfl, ho3, fun p hp => ⟨0, w.heap.size, (hs p hp).below Sp.loc hB3 (Nat.le_refl _), hz, fun k hk => by
    have : k = w.heap.size := by simpa [Value.ownBlock, eq_comm] using hk
    omega⟩⟩).fts
theorem spans_one {w : World} {b : Nat} {f t : Int} {ty : TypeId} (h : Blk w b [.int .i64 f, .int .i64 t] ty) : Spans 0 w.heap.size w (.slice (some ⟨b, 0, none⟩) 1 1) [⟨f, t⟩] := by
  have hl := h.lt
  refine ⟨some ⟨b, 0, none⟩, 1, rfl, Nat.le_refl _, by simp [maxLen], (fun e => by cases e), fun _ => ⟨b, 0, rfl, Nat.zero_le _, hl, fun k hk => ?_⟩⟩
  obtain rfl : k = 0 := by simp at hk; omega
  exact ⟨_, rfl, by simpa [Sp.enc] using h.cells, rfl⟩
def ageN : List UInt8 := [117, 115, 101, 114, 47, 97, 103, 101]
def nmA : Ft := ⟨11, 10, ⟨1, 5, []⟩, [⟨0, 9⟩]⟩
def nmB (e n f : Int) : Ft := ⟨e, 10, ⟨1, n, []⟩, [⟨f, 20⟩]⟩
def nmU : Ft := ⟨10, 4, ⟨1, 1, []⟩, wholeL⟩
theorem nm1 : holdsC (fewL ++ [⟨11, 10, ⟨1, 5, []⟩, wholeL⟩]) = 0 := by decide +kernel
theorem nm2 : holdsC (fewL ++ [⟨11, 10, ⟨3, 0, [120]⟩, wholeL⟩]) = 72 := by decide +kernel
theorem nm3 : holdsC (fewL ++ [nmA, nmB 11 6 8]) = 73 := by decide +kernel
theorem nm4 : holdsC (fewL ++ [⟨11, 99, ⟨1, 5, []⟩, wholeL⟩]) = 71 := by decide +kernel
theorem nm5 : holdsC (fewL ++ [nmA, nmB 11 6 9]) = 0 := by decide +kernel
theorem nm6 : holdsC (fewL ++ [nmU, nmA, nmB 12 5 9]) = 0 := by decide +kernel
theorem nm7 : holdsC (fewL ++ [nmU, nmA, nmB 12 5 8]) = 74 := by decide +kernel
theorem nm8 : holdsC (fewL ++ [⟨10, 7, ⟨3, 0, []⟩, [⟨0, 9⟩]⟩]) = 75 := by decide +kernel
theorem nm9 : holdsC (fewL ++ [⟨10, 5, ⟨2, 1, []⟩, wholeL⟩]) = 76 := by decide +kernel
theorem nm10 : holdsC (fewL ++ [⟨11, 1, ⟨7, 0, ageN⟩, wholeL⟩, ⟨11, 2, ⟨1, 2, []⟩, wholeL⟩]) = 70 := by decide +kernel
theorem nm11 : holdsC [⟨0, 0, ⟨0, 0, []⟩, []⟩] = 60 := by decide +kernel
theorem nmN : ((builtinL ++ [ageA]).findIdx? (byName [117, 115, 101, 114, 47, 110, 97, 109, 101])) = none := by decide +kernel
theorem nmY : ((builtinL ++ [ageA]).findIdx? (byName ageN)) = some 7 := by decide +kernel
theorem nmX : findA (builtinL ++ [ageA]) (some 7) = ageA := by kernel_rfl
theorem nmZ : findA (builtinL ++ [ageA]) none = zeroA := by kernel_rfl
theorem nm77 : altered (builtinL ++ [ageA]) builtinL = 77 := by decide +kernel
theorem nm0 : altered builtinL (builtinL ++ [ageA]) = 0 := by decide +kernel
end Go.Proofs.Ytkcpanaojehgiaa
