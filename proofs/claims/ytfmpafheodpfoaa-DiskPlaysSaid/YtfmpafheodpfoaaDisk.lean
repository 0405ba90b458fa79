/- A disk's head: none, up, counts. -/
import Derived.Test.YtfmpafheodpfoaaDiskB
namespace Go.Proofs.Ytfmpafheodpfoaa
open Go.RowKit

/-- A disk's own cells. -/
abbrev Hd (w : World) (db : Nat) (sv wv : Value) (fuse : Int) (down : Bool) (ops : Int) : Prop := Blk w db [sv, wv, .int .i64 fuse, .bool down, .int .i64 ops] 67
def upE (n : Nat) (down : Bool) (i : Int) : Int := if down then 210 else if i < 0 ∨ (n : Int) ≤ i then 211 else 0

set_option maxRecDepth 100000 in
set_option maxHeartbeats 2000000 in
theorem none_any (db : Nat) (a : Addr) (n c : Nat) (wv : Value) (fuse ops : Int) (down : Bool) (w : World) (h : Hd w db (.slice (some a) n c) wv fuse down ops) (hn : 0 < n) (R : Ending → World → Prop) (hR : R (.returned (.bool false)) w) :
    Calls Try.prog 34 #[.pointer (some ⟨db, 0, none⟩)] w R := by
  obtain ⟨c0, -⟩ := h.cells.c5
  have hz : ((n : Int) == 0) = false := by simp; omega
  go_enter Try.func34, Try.ntmps34
  go_wp2_with fail
  first | exact hR | exact fin hR rfl

set_option maxRecDepth 100000 in
set_option maxHeartbeats 2000000 in
theorem up_any (db : Nat) (a : Addr) (n c : Nat) (wv : Value) (fuse ops : Int) (down : Bool) (i : Int) (w : World) (h : Hd w db (.slice (some a) n c) wv fuse down ops) (hn : 0 < n) (R : Ending → World → Prop) (hR : R (.returned (.int .i64 (upE n down i))) w) :
    Calls Try.prog 29 #[.pointer (some ⟨db, 0, none⟩), .int .i64 i] w R := by
  have H := Lib.hid h
  obtain ⟨c0, c1, c2, c3, c4⟩ := h.cells.c5
  simp only [Nat.zero_add] at c1 c2 c3 c4
  clear h
  go_enter Try.func29, Try.ntmps29
  go_wp2_with fail
  refine none_any db a n c wv fuse ops down w H.out hn _ ?_
  cases down
  · by_cases h0 : i < 0
    · have hr : R (.returned (.int .i64 211)) w := fin hR (by simp [upE, h0])
      go_wp2_with fail
      all_goals first | exact hr | exact fin hr rfl
    · by_cases h1 : (n : Int) ≤ i
      · have hr : R (.returned (.int .i64 211)) w := fin hR (by simp [upE, h1])
        go_wp2_with fail
        all_goals first | exact hr | exact fin hr rfl
      · have hr : R (.returned (.int .i64 0)) w := fin hR (by simp [upE, h0, h1])
        go_wp2_with fail
        all_goals first | exact hr | exact fin hr rfl
  · have hr : R (.returned (.int .i64 210)) w := fin hR (by simp [upE])
    go_wp2_with fail
    all_goals first | exact hr | exact fin hr rfl

/-- 'counts': of a disk that is not about to go down. -/
def fuse1 (fuse : Int) : Int := if 0 < fuse then fuse - 1 else fuse
set_option maxRecDepth 100000 in
set_option maxHeartbeats 2000000 in
theorem counts_any (db : Nat) (sv wv : Value) (fuse ops : Int) (down : Bool) (w : World) (h : Hd w db sv wv fuse down ops) (hf : fuse ≤ 9223372036854775807 ∧ -9223372036854775808 ≤ fuse) (ho : 0 ≤ ops ∧ ops < 1000000) (R : Ending → World → Prop)
    (hR0 : fuse = 0 → ∀ w', Hd w' db sv wv fuse true ops → w' = w.setCell ⟨db, 3, none⟩ (.bool true) → R (.returned (.int .i64 210)) w')
    (hR1 : fuse ≠ 0 → ∀ w', Hd w' db sv wv (fuse1 fuse) down (ops + 1) → (∀ B, B ≤ db → Below B w w') → (∀ k, k ≠ db → w'.heap[k]? = w.heap[k]?) → w'.heap.size = w.heap.size → R (.returned (.int .i64 0)) w') :
    Calls Try.prog 30 #[.pointer (some ⟨db, 0, none⟩)] w R := by
  have H := Lib.hid h
  obtain ⟨c0, c1, c2, c3, c4⟩ := h.cells.c5
  simp only [Nat.zero_add] at c1 c2 c3 c4
  have f2 := h.free 2
  have f3 := h.free 3
  have f4 := h.free 4
  have hlt := h.lt
  clear h
  by_cases h0 : fuse = 0
  · subst h0
    have hr := hR0 rfl _ (H.out.set 3 (.bool true)) rfl
    go_enter Try.func30, Try.ntmps30
    go_wp2_with fail
    all_goals first | exact hr | exact fin hr rfl
  · have hz : (fuse == 0) = false := by simpa using h0
    have hw1 : IntKind.i64.wrap (ops + 1) = ops + 1 := by rw [IntKind.wrap_i64]; omega
    by_cases h1 : 0 < fuse
    · have hw2 : IntKind.i64.wrap (fuse - 1) = fuse - 1 := by rw [IntKind.wrap_i64]; omega
      have hb := (H.out.set 2 (.int .i64 (fuse - 1))).set 4 (.int .i64 (ops + 1))
      have hr := hR1 h0 _ (by rw [fuse1, if_pos h1]; exact hb) (fun B hB => ((Below.refl B w).setCell (p := ⟨db, 2, none⟩) hB _).setCell (p := ⟨db, 4, none⟩) hB _) (fun k hk => (Below.heap_setCell _ _ _ _ hk).trans (Below.heap_setCell _ _ _ _ hk)) (by simp [World.setCell])
      go_enter Try.func30, Try.ntmps30
      go_wp2_with fail
      all_goals first | exact hr | exact fin hr rfl
    · have hb := H.out.set 4 (.int .i64 (ops + 1))
      have hr := hR1 h0 _ (by rw [fuse1, if_neg h1]; exact hb) (fun B hB => (Below.refl B w).setCell (p := ⟨db, 4, none⟩) hB _) (fun k hk => Below.heap_setCell _ _ _ _ hk) (by simp [World.setCell])
      go_enter Try.func30, Try.ntmps30
      go_wp2_with fail
      all_goals first | exact hr | exact fin hr rfl
end Go.Proofs.Ytfmpafheodpfoaa
