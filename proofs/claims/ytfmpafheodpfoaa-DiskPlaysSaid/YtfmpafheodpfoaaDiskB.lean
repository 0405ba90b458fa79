/- Sectors' bytes: of a byte, and of any bytes. -/
import Derived.Test.YtfmpafheodpfoaaMk
namespace Go.Proofs.Ytfmpafheodpfoaa
open Go.RowKit

set_option maxRecDepth 100000 in
set_option maxHeartbeats 4000000 in
theorem of_any (c : UInt8) (w : World) (R : Ending → World → Prop)
    (hR : ∀ w', Below w.heap.size w w' → Blk w' w.heap.size ((List.replicate 128 c).flatMap bE) 5 → R (.returned (.slice (some ⟨w.heap.size, 0, none⟩) 128 128)) w') : Calls Try.prog 10 #[.int .u8 c.toNat] w R := by
  have HR := Lib.hid hR
  clear hR
  have hmk : (Instr.makeSlice 30 (.int .i64 128) (.int .i64 128)).run Try.prog w = .ok (.slice (some ⟨w.heap.size, 0, none⟩) 128 128) (w.alloc (.cells ((List.replicate 128 (0 : UInt8)).flatMap bE).toArray 5)) := run_mk 128 (by omega) w
  have hb0 : Blk (w.alloc (.cells ((List.replicate 128 (0 : UInt8)).flatMap bE).toArray 5)) w.heap.size ((List.replicate 128 (0 : UInt8)).flatMap bE) 5 := Blk.new _ _ _ rfl
  have hB0 : Below w.heap.size w (w.alloc (.cells ((List.replicate 128 (0 : UInt8)).flatMap bE).toArray 5)) := (Below.refl _ _).alloc (Nat.le_refl _) _
  have Hb0 := Lib.hid hb0
  clear hb0
  generalize hw1 : w.alloc (.cells ((List.replicate 128 (0 : UInt8)).flatMap bE).toArray 5) = w1 at *
  clear hw1
  go_enter Try.func10, Try.ntmps10
  go_wp2_with fail
  go_loopw [8] (fun t8 wr => ∃ (k : Nat) (xs : List UInt8), k ≤ 128 ∧ t8 = .int .i64 k ∧ Below w.heap.size w wr ∧ Blk wr w.heap.size (xs.flatMap bE) 5 ∧ xs = List.replicate k c ++ List.replicate (128 - k) 0) (fun t8 _ => 128 - (intOf t8).toNat)
  case atStart => exact ⟨0, _, Nat.zero_le _, rfl, hB0, Hb0.out, by simp⟩
  case round =>
    obtain ⟨k, xs, hk, rfl, hB, hb, hx⟩ := hrel
    have Hb := Lib.hid hb
    have Hx := Lib.hid hx
    have hlt0 := hb.lt
    have hxl : xs.length = 128 := by rw [hx]; simp; omega
    have f0 := hb.free k
    clear hb hx
    by_cases hlt : k < 128
    · have g0 := blk_at Hb.out k (by omega)
      have hset : xs.set k c = List.replicate (k + 1) c ++ List.replicate (128 - (k + 1)) 0 := by
        rw [Hx.out, show 128 - k = 128 - (k + 1) + 1 by omega, List.replicate_succ, List.set_append_right _ _ (by simp)]
        simp [List.replicate_succ']
      have Hset := Lib.hid hset
      generalize hck : xs[k] = y at *
      clear hset hxl hck
      go_wp2_with fail
      go_roundw
      case rel => exact ⟨k + 1, xs.set k c, by omega, by go_num, hB.setCell (p := ⟨w.heap.size, k, none⟩) (Nat.le_refl _) _, blk_byte Hb.out k c, Hset.out⟩
      case measure => simp [intOf]; omega
    · have e : xs = List.replicate 128 c := by rw [Hx.out, show k = 128 by omega]; simp
      have hb := Hb.out
      rw [e] at hb
      have hr := HR.out wr hB hb
      clear e hb
      go_wp2_with fail
      first | exact hr | exact fin hr rfl

def full (b : List UInt8) : List UInt8 := b.take 128 ++ List.replicate (128 - b.length) 0
theorem full_length (b : List UInt8) : (full b).length = 128 := by simp [full]; omega
theorem set_split (a : List UInt8) (c y : UInt8) (r : List UInt8) : (a ++ y :: r).set a.length c = a ++ c :: r := by rw [List.set_append_right _ _ (Nat.le_refl _), Nat.sub_self]; rfl

set_option maxRecDepth 100000 in
set_option maxHeartbeats 4000000 in
theorem Full_any (lo hi : Nat) (v : Value) (b : List UInt8) (w : World) (hv : Bytes lo hi w v b) (hhi : hi ≤ w.heap.size) (R : Ending → World → Prop)
    (hR : ∀ w', Below w.heap.size w w' → Blk w' w.heap.size ((full b).flatMap bE) 5 → R (.returned (.slice (some ⟨w.heap.size, 0, none⟩) 128 128)) w') : Calls Try.prog 12 #[v] w R := by
  have HR := Lib.hid hR
  have Hv := Lib.hid hv
  obtain ⟨ao, cap, rfl, h1, h2, -, hc⟩ := hv.form
  have Hc := Lib.hid hc
  clear hR hv hc
  have hmk : (Instr.makeSlice 30 (.int .i64 128) (.int .i64 128)).run Try.prog w = .ok (.slice (some ⟨w.heap.size, 0, none⟩) 128 128) (w.alloc (.cells ((List.replicate 128 (0 : UInt8)).flatMap bE).toArray 5)) := run_mk 128 (by omega) w
  have hb0 : Blk (w.alloc (.cells ((List.replicate 128 (0 : UInt8)).flatMap bE).toArray 5)) w.heap.size ((List.replicate 128 (0 : UInt8)).flatMap bE) 5 := Blk.new _ _ _ rfl
  have hB0 : Below w.heap.size w (w.alloc (.cells ((List.replicate 128 (0 : UInt8)).flatMap bE).toArray 5)) := (Below.refl _ _).alloc (Nat.le_refl _) _
  have Hb0 := Lib.hid hb0
  clear hb0
  generalize hw1 : w.alloc (.cells ((List.replicate 128 (0 : UInt8)).flatMap bE).toArray 5) = w1 at *
  clear hw1
  go_enter Try.func12, Try.ntmps12
  go_wp2_with fail
  go_loopw [4] (fun t4 wr => ∃ (k : Nat) (xs : List UInt8), k ≤ 128 ∧ k ≤ b.length ∧ t4 = .int .i64 k ∧ Below w.heap.size w wr ∧ Blk wr w.heap.size (xs.flatMap bE) 5 ∧ xs = b.take k ++ List.replicate (128 - k) 0) (fun t4 _ => 128 - (intOf t4).toNat)
  case atStart => exact ⟨0, _, Nat.zero_le _, Nat.zero_le _, rfl, hB0, Hb0.out, by simp⟩
  case round =>
    obtain ⟨k, xs, hk, hkb, rfl, hB, hb, hx⟩ := hrel
    have Hb := Lib.hid hb
    have Hx := Lib.hid hx
    have hlt0 := hb.lt
    have hxl : xs.length = 128 := by rw [hx]; simp; omega
    have f0 := hb.free k
    clear hb hx
    by_cases hlt : k < 128
    · by_cases hlb : k < b.length
      · obtain ⟨blk, off, rfl, p1, p2, q1⟩ := Hc.out k hlb
        obtain ⟨cs, -, hcs, e⟩ := q1 k hlb
        subst e
        have c0 := (hcs.agree (.below hB hhi) p1 p2).c1
        rw [Nat.mul_one] at c0
        have hne : w.heap.size ≠ blk := by omega
        have g0 := blk_at Hb.out k (by omega)
        have hset : xs.set k b[k] = b.take (k + 1) ++ List.replicate (128 - (k + 1)) 0 := by
          have h := set_split (b.take k) b[k] 0 (List.replicate (128 - (k + 1)) 0)
          rw [List.length_take, Nat.min_eq_left (by omega)] at h
          rw [Hx.out, show 128 - k = 128 - (k + 1) + 1 by omega, List.replicate_succ, h, List.take_succ_eq_append_getElem hlb, List.append_assoc]
          rfl
        have Hset := Lib.hid hset
        generalize hck : xs[k] = y at *
        generalize b[k] = c at *
        clear hset hxl hck hcs q1
        go_wp2_with fail
        go_roundw
        case rel => exact ⟨k + 1, xs.set k c, by omega, by omega, by go_num, hB.setCell (p := ⟨w.heap.size, k, none⟩) (Nat.le_refl _) _, blk_byte Hb.out k c, Hset.out⟩
        case measure => simp [intOf]; omega
      · have e : xs = full b := by rw [Hx.out, full, show k = b.length by omega, List.take_of_length_le (Nat.le_refl _), List.take_of_length_le (show b.length ≤ 128 by omega)]
        have hb := Hb.out
        rw [e] at hb
        have hr := HR.out wr hB hb
        clear e hb
        go_wp2_with fail
        first | exact hr | exact fin hr rfl
    · have e : xs = full b := by rw [Hx.out, full, show k = 128 by omega, show 128 - b.length = 0 by omega]
      have hb := Hb.out
      rw [e] at hb
      have hr := HR.out wr hB hb
      clear e hb
      go_wp2_with fail
      first | exact hr | exact fin hr rfl
end Go.Proofs.Ytfmpafheodpfoaa
