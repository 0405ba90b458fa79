/- 'make([]byte, n)'. -/
import Derived.Test.YtfmpafheodpfoaaOwnB
import Derived.Laws.OwnMore
namespace Go.Proofs.Ytfmpafheodpfoaa
open Go.RowKit
theorem run_mk (n : Nat) (hn : n ≤ 70000) (w : World) : (Instr.makeSlice 30 (.int .i64 (n : Int)) (.int .i64 (n : Int))).run Try.prog w =
    .ok (.slice (some ⟨w.heap.size, 0, none⟩) n n) (w.alloc (.cells ((List.replicate n (0 : UInt8)).flatMap bE).toArray 5)) := by
  obtain ⟨i0, hi, hz0, hz1, hz2⟩ := info_parts infoB
  have := run_makeSlice (P := Try.prog) w 30 5 i0 (.int .u8 0) Try.underlying30 hi hz0 .i64 .i64 (n : Int) (n : Int) (by omega) (Int.le_refl _) (by rw [hz1]; simp; omega) (by rw [hz2]; omega) (by omega)
  rw [this, hz1]
  simp only [Int.toNat_natCast, Nat.mul_one]
  have e : madeCells (Value.int IntKind.u8 0).cells n = ((List.replicate n (0 : UInt8)).flatMap bE).toArray := by
    apply Array.ext'
    rw [flatMap_bE, List.map_replicate]
    exact toList_madeCells_one _ n
  rw [e]
/-- A row of bytes with one turned. -/
theorem blk_byte {w : World} {g : Nat} {xs : List UInt8} {t : TypeId} (h : Blk w g (xs.flatMap bE) t) (k : Nat) (c : UInt8) : Blk (w.setCell ⟨g, k, none⟩ (.int .u8 c.toNat)) g ((xs.set k c).flatMap bE) t := by
  have := h.set k (.int .u8 c.toNat)
  have e : (xs.flatMap bE).set k (.int .u8 c.toNat) = (xs.set k c).flatMap bE := by
    rw [flatMap_bE, flatMap_bE, List.map_set]
  rwa [e] at this
theorem blk_at {w : World} {g : Nat} {xs : List UInt8} {t : TypeId} (h : Blk w g (xs.flatMap bE) t) (k : Nat) (hk : k < xs.length) : w.cell? ⟨g, k, none⟩ = some (.int .u8 xs[k].toNat) := by
  have := h.cells k (.int .u8 xs[k].toNat) (by rw [flatMap_bE]; simp [hk])
  rwa [Nat.zero_add] at this
end Go.Proofs.Ytfmpafheodpfoaa
