/- order.number, order.Number: a number's eight bytes. -/
import Derived.Test.YtomclldnoockcaaOrder
namespace Go.Proofs.Ytomclldnoockcaa
open Go.RowKit

set_option maxRecDepth 100000 in
set_option maxHeartbeats 1000000 in
theorem number_any (n : Int) (w : World) (R : Ending → World → Prop) (hR : ∀ w', Below w.heap.size w w' → R (.returned (.agg ((num8 n).flatMap bE).toArray)) w') : Calls Try.prog 30 #[.int .i64 n] w R := by
  go_enter Try.func30, Try.ntmps30
  go_wp2_with fail
  rw [xor_u64 n]
  have hv := u64_lt n
  have Hnum : Hid (num8 n = (List.range 8).map (dig8 (u64 n))) := rfl
  generalize u64 n = v at *
  have Hv := Lib.hid hv
  clear hv
  go_loopw [5, 9] (fun _ t9 wr => ∃ k : Nat, k ≤ 8 ∧ t9 = .int .i64 k ∧ Below w.heap.size w wr ∧ Blk wr w.heap.size (List.replicate 8 (.int .u8 0)) 58 ∧
      Blk wr (w.heap.size + 1) (((List.range k).map (dig8 v)).flatMap bE ++ List.replicate (8 - k) (.int .u8 0)) 58) (fun _ t9 _ => 8 - (intOf t9).toNat)
  case atStart => 
    refine ⟨0, by omega, rfl, ((Below.refl _ _).alloc (Nat.le_refl _) _).alloc (by simp) _, (Blk.new _ _ _ rfl).alloc _, Blk.new _ _ _ (by simp)⟩
  case round =>
    obtain ⟨k, hk, rfl, hB, h2, h3⟩ := hrel
    by_cases hlt : k < 8
    · have hfree := h3.free k
      have hc := h3.cells k (.int .u8 0) (by
        rw [flatMap_bE, List.getElem?_append_right (by simp), List.getElem?_replicate, if_pos (by simp; omega)])
      rw [Nat.zero_add] at hc
      go_wp2
      go_roundw
      case rel =>
        refine ⟨k + 1, by omega, by go_num, hB.setCell (by simp) _, h2.other (by simp) _, ?_⟩
        have h4 := h3.set k (.int .u8 ((v : Int) / 2 ^ (56 - 8 * k) % 256))
        have e : (((List.range k).map (dig8 v)).flatMap bE ++ List.replicate (8 - k) (Value.int .u8 0)).set k (.int .u8 ((v : Int) / 2 ^ (56 - 8 * k) % 256)) =
            ((List.range (k + 1)).map (dig8 v)).flatMap bE ++ List.replicate (8 - (k + 1)) (Value.int .u8 0) := by
          rw [List.range_succ, List.map_append, List.flatMap_append, flatMap_bE, List.set_append_right _ _ (by simp)]
          rw [show 8 - k = (8 - (k + 1)) + 1 by omega, List.replicate_succ]
          simp [bE, dig8]
        rw [e] at h4
        exact h4
      case measure => simp [intOf]; omega
    · obtain rfl : k = 8 := by omega
      have h4 : Blk wr (w.heap.size + 1) ((num8 n).flatMap bE) 58 := by
        rw [Hnum.out]; simpa using h3
      have hl := num8_length n
      rw [flatMap_bE] at h4
      clear h3
      obtain ⟨l, hl8⟩ : ∃ l, num8 n = l := ⟨_, rfl⟩
      rw [hl8] at h4 hl hR
      clear Hnum hl8
      match l, hl with
      | [c0, c1, c2, c3, c4, c5, c6, c7], _ =>
        have k0 := h4.cells 0 _ rfl
        have k1 := h4.cells 1 _ rfl
        have k2 := h4.cells 2 _ rfl
        have k3 := h4.cells 3 _ rfl
        have k4 := h4.cells 4 _ rfl
        have k5 := h4.cells 5 _ rfl
        have k6 := h4.cells 6 _ rfl
        have k7 := h4.cells 7 _ rfl
        have g0 := h2.cells 0 _ rfl
        have g1 := h2.cells 1 _ rfl
        have g2 := h2.cells 2 _ rfl
        have g3 := h2.cells 3 _ rfl
        have g4 := h2.cells 4 _ rfl
        have g5 := h2.cells 5 _ rfl
        have g6 := h2.cells 6 _ rfl
        have g7 := h2.cells 7 _ rfl
        have f0 := h2.free 0
        have f1 := h2.free 1
        have f2 := h2.free 2
        have f3 := h2.free 3
        have f4 := h2.free 4
        have f5 := h2.free 5
        have f6 := h2.free 6
        have f7 := h2.free 7
        simp only [Nat.zero_add] at k0 k1 k2 k3 k4 k5 k6 k7 g0 g1 g2 g3 g4 g5 g6 g7
        go_wp2
        exact ret_cell rfl rfl (((((((((h2.set 0 (.int .u8 c0.toNat)).set 1 (.int .u8 c1.toNat)).set 2 (.int .u8 c2.toNat)).set 3 (.int .u8 c3.toNat)).set 4 (.int .u8 c4.toNat)).set 5 (.int .u8 c5.toNat)).set 6 (.int .u8 c6.toNat)).set 7 (.int .u8 c7.toNat)).cells.runVar (fun _ => by kernel_rfl) (fun _ => by kernel_rfl)) rfl (hR _ ((((((((hB.setCell (p := ⟨w.heap.size, 0, none⟩) (Nat.le_refl _) _).setCell (p := ⟨w.heap.size, 1, none⟩) (Nat.le_refl _) _).setCell (p := ⟨w.heap.size, 2, none⟩) (Nat.le_refl _) _).setCell (p := ⟨w.heap.size, 3, none⟩) (Nat.le_refl _) _).setCell (p := ⟨w.heap.size, 4, none⟩) (Nat.le_refl _) _).setCell (p := ⟨w.heap.size, 5, none⟩) (Nat.le_refl _) _).setCell (p := ⟨w.heap.size, 6, none⟩) (Nat.le_refl _) _).setCell (p := ⟨w.heap.size, 7, none⟩) (Nat.le_refl _) _))

set_option maxRecDepth 100000 in
set_option maxHeartbeats 1000000 in
theorem Number_any (n : Int) (w : World) (R : Ending → World → Prop)
    (hR : ∀ w' b, Below w.heap.size w w' → w.heap.size ≤ b → Blk w' b ((num8 n).flatMap bE) 58 → R (.returned (.slice (some ⟨b, 0, none⟩) 8 8)) w') : Calls Try.prog 18 #[.int .i64 n] w R := by
  go_enter Try.func18, Try.ntmps18
  go_wp2_with fail
  refine number_any n _ _ fun w1 hB1 => ?_
  have hl := num8_length n
  rw [flatMap_bE] at hR ⊢
  obtain ⟨l, hl8⟩ : ∃ l, num8 n = l := ⟨_, rfl⟩
  rw [hl8] at hl hR ⊢
  clear hl8
  match l, hl with
  | [c0, c1, c2, c3, c4, c5, c6, c7], _ =>
    simp only [List.map_cons, List.map_nil]
    go_wp2
    exact fin (hR _ w1.heap.size (hB1.alloc hB1.size _) hB1.size (Blk.new _ _ _ rfl)) rfl
end Go.Proofs.Ytomclldnoockcaa
