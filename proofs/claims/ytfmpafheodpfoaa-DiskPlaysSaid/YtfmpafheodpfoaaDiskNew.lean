/- disk.New. -/
import Derived.Test.YtfmpafheodpfoaaDisk
import Derived.Deep.RegionHeld3
import Derived.Deep.DrawnRows
namespace Go.Proofs.Ytfmpafheodpfoaa
open Go.RowKit
attribute [local go_sem ↓] Go.wp_at_zero Go.wp_at_succ

def secE (s : List UInt8) : List Value := s.flatMap bE
def zeroS : List UInt8 := List.replicate 128 0
theorem infoS : (Try.prog.info? 73).map (fun i => (i.zero, i.size, i.bytes)) = some (some (.agg (secE zeroS).toArray), 128, 128) := by kernel_rfl
theorem infoW : (Try.prog.info? 64).map (fun i => (i.zero, i.size, i.bytes)) = some (some (.slice none 0 0), 1, 24) := by kernel_rfl
theorem madeCells_rep (z : List Value) (n : Nat) (hz : 0 < z.length) : madeCells z.toArray (n * z.length) = ((List.replicate n z).flatMap id).toArray := by
  apply Array.ext'
  apply List.ext_getElem?
  intro j
  have hl : ∀ n : Nat, ((List.replicate n z).flatMap id).length = n * z.length := by
    intro n
    induction n with
    | zero => simp
    | succ n ih => rw [List.replicate_succ, List.flatMap_cons, List.length_append, ih, Nat.succ_mul]; simp; omega
  have hg : ∀ (n j : Nat), j < n * z.length → ((List.replicate n z).flatMap id)[j]? = z[j % z.length]? := by
    intro n
    induction n with
    | zero => intro j hj; simp at hj
    | succ n ih =>
      intro j hj
      rw [List.replicate_succ, List.flatMap_cons]
      by_cases h : j < z.length
      · rw [List.getElem?_append_left (by simpa using h), Nat.mod_eq_of_lt h]; rfl
      · rw [List.getElem?_append_right (by simp; omega)]
        have : j - z.length < n * z.length := by rw [Nat.succ_mul] at hj; omega
        rw [show (id z).length = z.length from rfl, ih _ this]
        congr 1
        rw [← Nat.mod_eq_sub_mod (by omega)]
  by_cases hj : j < n * z.length
  · simp only [madeCells, Array.toList_map, Array.toList_range, List.getElem?_map, List.getElem?_range hj, Option.map_some, List.toList_toArray]
    rw [hg n j hj]
    have hm : j % z.length < z.length := Nat.mod_lt _ hz
    simp [hm]
  · rw [List.getElem?_eq_none (by simp [madeCells]; omega), List.getElem?_eq_none (by simp only [List.toList_toArray]; rw [hl]; omega)]
theorem run_mkS (n : Nat) (hn : n ≤ 65536) (w : World) : (Instr.makeSlice 64 (.int .i64 (n : Int)) (.int .i64 (n : Int))).run Try.prog w =
    .ok (.slice (some ⟨w.heap.size, 0, none⟩) n n) (w.alloc (.cells ((List.replicate n zeroS).flatMap secE).toArray 73)) := by
  obtain ⟨i0, hi, hz0, hz1, hz2⟩ := info_parts infoS
  have := run_make (P := Try.prog) w 64 73 i0 (.agg (secE zeroS).toArray) Try.underlying64 hi hz0 .i64 .i64 (n : Int) (n : Int) (by omega) (Int.le_refl _) (by rw [hz2]; omega) (by omega)
  rw [this, hz1]
  simp only [Int.toNat_natCast]
  have hl : (secE zeroS).length = 128 := by rw [secE, flatMap_bE, List.length_map, zeroS, List.length_replicate]
  have e : madeCells (Value.agg (secE zeroS).toArray).cells (n * 128) = ((List.replicate n zeroS).flatMap secE).toArray := by
    have h := madeCells_rep (secE zeroS) n (by rw [hl]; omega)
    rw [hl] at h
    show madeCells (secE zeroS).toArray (n * 128) = _
    rw [h]
    congr 1
    have : ∀ n : Nat, (List.replicate n (secE zeroS)).flatMap id = (List.replicate n zeroS).flatMap secE := by
      intro n
      induction n with
      | zero => rfl
      | succ n ih => rw [List.replicate_succ, List.replicate_succ, List.flatMap_cons, List.flatMap_cons, ih]; rfl
    exact this n
  rw [e]
theorem run_mkW (n : Nat) (hn : n ≤ 65536) (w : World) : (Instr.makeSlice 65 (.int .i64 (n : Int)) (.int .i64 (n : Int))).run Try.prog w =
    .ok (.slice (some ⟨w.heap.size, 0, none⟩) n n) (w.alloc (.cells (List.replicate n (.slice none 0 0)).toArray 64)) := by
  obtain ⟨i0, hi, hz0, hz1, hz2⟩ := info_parts infoW
  have := run_make (P := Try.prog) w 65 64 i0 (.slice none 0 0) Try.underlying65 hi hz0 .i64 .i64 (n : Int) (n : Int) (by omega) (Int.le_refl _) (by rw [hz2]; omega) (by omega)
  rw [this, hz1]
  simp only [Int.toNat_natCast, Nat.mul_one]
  have e : madeCells (Value.slice none 0 0).cells n = (List.replicate n (Value.slice none 0 0)).toArray := by
    apply Array.ext'
    exact toList_madeCells_one _ n
  rw [e]

set_option maxRecDepth 100000 in
set_option maxHeartbeats 4000000 in
theorem New_any (n : Nat) (hn0 : 1 ≤ n) (hn : n ≤ 65536) (w : World) (R : Ending → World → Prop)
    (hR : ∀ w' db sb wb, Below w.heap.size w w' → w.heap.size ≤ db → w.heap.size ≤ sb → w.heap.size ≤ wb → db ≠ sb → db ≠ wb → sb ≠ wb → Hd w' db (.slice (some ⟨sb, 0, none⟩) n n) (.slice (some ⟨wb, 0, none⟩) n n) (-1) false 0 →
      Blk w' sb ((List.replicate n zeroS).flatMap secE) 73 → Blk w' wb (List.replicate n (.slice none 0 0)) 64 → R (.returned (.tuple #[.pointer (some ⟨db, 0, none⟩), .int .i64 0])) w') :
    Calls Try.prog 9 #[.int .i64 n] w R := by
  have HR := Lib.hid hR
  have hm1 := fun w => run_mkS n hn w
  have hm2 := fun w => run_mkW n hn w
  clear hR
  go_enter Try.func9, Try.ntmps9
  go_wp2_with fail
  go_region_held3 (fun w' => Below w.heap.size w w')
    ((first | exact Below.drew (Below.refl _ _) | exact Below.alloc (by assumption) (Below.size (by assumption)) _ | assumption))
    (fail)
  all_goals go_wp2_with fail
  all_goals have er : Array.replicate n (Value.slice none 0 0) = (List.replicate n (Value.slice none 0 0)).toArray := by simp
  · rw [er]
    refine fin (HR.out _ (w.heap.size + 1 + 1) w.heap.size (w.heap.size + 1) (Below.drew ((((Below.refl _ _).alloc (Nat.le_refl _) _).alloc (by simp) _).alloc (by simp; omega) _)) (by omega) (by omega) (by omega) (by omega) (by omega) (by omega) ?_ ?_ ?_) rfl
    · exact (Blk.new _ [.slice (some ⟨w.heap.size, 0, none⟩) n n, .slice (some ⟨w.heap.size + 1, 0, none⟩) n n, .int .i64 (-1), .bool false, .int .i64 0] 67 (by simp)).drew
    · exact (((Blk.new w ((List.replicate n zeroS).flatMap secE) 73 rfl).alloc _).alloc _).drew
    · exact ((Blk.new _ (List.replicate n (.slice none 0 0)) 64 (by simp)).alloc _).drew
  · rw [er]
    refine fin (HR.out _ (w.heap.size + 1 + 1) (w.heap.size + 1) w.heap.size (Below.drew ((((Below.refl _ _).alloc (Nat.le_refl _) _).alloc (by simp) _).alloc (by simp; omega) _)) (by omega) (by omega) (by omega) (by omega) (by omega) (by omega) ?_ ?_ ?_) rfl
    · exact (Blk.new _ [.slice (some ⟨w.heap.size + 1, 0, none⟩) n n, .slice (some ⟨w.heap.size, 0, none⟩) n n, .int .i64 (-1), .bool false, .int .i64 0] 67 (by simp)).drew
    · exact ((Blk.new _ ((List.replicate n zeroS).flatMap secE) 73 (by simp)).alloc _).drew
    · exact (((Blk.new w (List.replicate n (.slice none 0 0)) 64 rfl).alloc _).alloc _).drew
end Go.Proofs.Ytfmpafheodpfoaa
