/- Calls of a disk's law: where they lie; are they too great? -/
import Derived.Test.YtfmpafheodpfoaaDiskAl
namespace Go.Proofs.Ytfmpafheodpfoaa
open Go.RowKit
attribute [local go_sem ↓] Go.wp_at_zero Go.wp_at_succ

structure DOp where
  kind : Int
  i : Int
  n : Int
  data : List UInt8
  raw : Bool
  keep : List UInt8
  tn : Int
  at' : Int
instance : Inhabited DOp := ⟨⟨0, 0, 0, [], false, [], 0, 0⟩⟩
def opE : El DOp := fun lo hi w cs o => ∃ dv kv, cs = [.int .i64 o.kind, .int .i64 o.i, .int .i64 o.n, dv, .bool o.raw, kv, .int .i64 o.tn, .int .i64 o.at'] ∧ Bytes lo hi w dv o.data ∧ Bytes lo hi w kv o.keep
theorem opE_loc : Loc opE where
  agree := fun ⟨dv, kv, e, h1, h2⟩ ha => ⟨dv, kv, e, h1.agree (flat_loc _) ha, h2.agree (flat_loc _) ha⟩
  mono := fun ⟨dv, kv, e, h1, h2⟩ k1 k2 => ⟨dv, kv, e, h1.mono (flat_loc _) k1 k2, h2.mono (flat_loc _) k1 k2⟩
def DOp.great (o : DOp) : Bool := decide (300 < o.data.length) || decide (200 < o.keep.length)
theorem CellsAt.c8 {w : World} {b o : Nat} {v0 v1 v2 v3 v4 v5 v6 v7 : Value} (h : CellsAt w b o [v0, v1, v2, v3, v4, v5, v6, v7]) :
    w.cell? ⟨b, o, none⟩ = some v0 ∧ w.cell? ⟨b, o + 1, none⟩ = some v1 ∧ w.cell? ⟨b, o + 2, none⟩ = some v2 ∧ w.cell? ⟨b, o + 3, none⟩ = some v3 ∧ w.cell? ⟨b, o + 4, none⟩ = some v4 ∧ w.cell? ⟨b, o + 5, none⟩ = some v5 ∧ w.cell? ⟨b, o + 6, none⟩ = some v6 ∧ w.cell? ⟨b, o + 7, none⟩ = some v7 :=
  ⟨h 0 v0 rfl, h 1 v1 rfl, h 2 v2 rfl, h 3 v3 rfl, h 4 v4 rfl, h 5 v5 rfl, h 6 v6 rfl, h 7 v7 rfl⟩
set_option maxRecDepth 100000 in
set_option maxHeartbeats 2000000 in
theorem great_any (lo hi : Nat) (l : List DOp) (v : Value) (w : World) (hv : Sl opE 8 lo hi w v l) (R : Ending → World → Prop)
    (hR : R (.returned (.bool (decide (150 < l.length) || l.any DOp.great))) w) : Calls Try.prog 8 #[v] w R := by
  obtain ⟨ao, cap, rfl, hl1, hl2, -, hc⟩ := hv.form
  have Hc := Lib.hid hc
  clear hc
  by_cases g : 150 < l.length
  · have hr : R (.returned (.bool true)) w := by simpa [g] using hR
    go_enter Try.func8, Try.ntmps8
    go_wp2
    first | exact hr | exact fin hr rfl
  rw [decide_eq_false g, Bool.false_or] at hR
  go_enter Try.func8, Try.ntmps8
  go_wp2
  go_loopw [9] (fun t9 wr => ∃ k : Nat, k ≤ l.length ∧ t9 = .int .i64 k ∧ wr = w ∧ (l.take k).any DOp.great = false) (fun t9 _ => l.length - (intOf t9).toNat)
  case atStart => exact ⟨0, Nat.zero_le _, rfl, rfl, rfl⟩
  case round =>
    obtain ⟨k, hk, rfl, rfl, hf⟩ := hrel
    have Hf := Lib.hid hf
    clear hf
    by_cases hlt : k < l.length
    · obtain ⟨b, off, rfl, hb1, hb2, hcc⟩ := Hc.out k hlt
      obtain ⟨cs, -, hcs, dv, kv, rfl, h1, h2⟩ := hcc k hlt
      obtain ⟨c0, c1, c2, c3, c4, c5, c6, c7⟩ := hcs.c8
      clear hcs hcc
      obtain ⟨a1, p1, rfl, -, -, -⟩ := h1.form
      obtain ⟨a2, p2, rfl, -, -, -⟩ := h2.form
      have hs := any_take_succ l DOp.great k hlt
      rw [Hf.out, Bool.false_or] at hs
      by_cases hg : DOp.great l[k] = true
      · have hr : R (.returned (.bool true)) wr := by
          have : l.any DOp.great = true := List.any_eq_true.2 ⟨l[k], List.getElem_mem hlt, hg⟩
          rwa [this] at hR
        have hg' := hg
        simp only [DOp.great, Bool.or_eq_true, decide_eq_true_eq] at hg'
        clear hs hR
        by_cases q1 : 300 < l[k].data.length
        · go_wp2
          all_goals first | exact hr | exact fin hr rfl | (exfalso; omega)
        have q3 : 200 < l[k].keep.length := by omega
        go_wp2
        all_goals first | exact hr | exact fin hr rfl | (exfalso; omega)
      · rw [Bool.not_eq_true] at hg
        rw [hg] at hs
        have Hs := Lib.hid hs
        have hg' := hg
        simp only [DOp.great, Bool.or_eq_false_iff, decide_eq_false_iff_not] at hg'
        obtain ⟨q1, q3⟩ := hg'
        clear hs hg
        go_wp2
        go_roundw
        case rel => exact ⟨k + 1, by omega, by go_num, by first | rfl | trivial, Hs.out⟩
        case measure => simp [intOf]; omega
    · have hr : R (.returned (.bool false)) wr := by
        have h := Hf.out
        rw [List.take_of_length_le (by omega)] at h
        rwa [h] at hR
      go_wp2
      first | exact hr | exact fin hr rfl

theorem infoStr : (Try.prog.info? 9).map (fun i => (i.zero, i.size, i.bytes)) = some (some (.string .empty), 1, 16) := by kernel_rfl
def sV (s : List UInt8) : Value := .string ⟨s.toArray⟩
theorem run_mkStr (n : Nat) (hn : n ≤ 65536) (w : World) : (Instr.makeSlice 29 (.int .i64 (n : Int)) (.int .i64 (n : Int))).run Try.prog w =
    .ok (.slice (some ⟨w.heap.size, 0, none⟩) n n) (w.alloc (.cells ((List.replicate n ([] : List UInt8)).map sV).toArray 9)) := by
  obtain ⟨i0, hi, hz0, hz1, hz2⟩ := info_parts infoStr
  have := run_makeSlice (P := Try.prog) w 29 9 i0 (.string .empty) Try.underlying29 hi hz0 .i64 .i64 (n : Int) (n : Int) (by omega) (Int.le_refl _) (by rw [hz1]; simp; omega) (by rw [hz2]; omega) (by omega)
  rw [this, hz1]
  simp only [Int.toNat_natCast, Nat.mul_one]
  have e : madeCells (Value.string .empty).cells n = ((List.replicate n ([] : List UInt8)).map sV).toArray := by
    apply Array.ext'
    rw [List.map_replicate]
    exact toList_madeCells_one _ n
  rw [e]
end Go.Proofs.Ytfmpafheodpfoaa
