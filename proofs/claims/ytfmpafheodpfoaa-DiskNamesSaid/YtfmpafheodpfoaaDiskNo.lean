/- Calls on no disk: none, or one of no sectors. (Printed by diskno.py.) -/
import Derived.Test.YtfmpafheodpfoaaDiskAl
namespace Go.Proofs.Ytfmpafheodpfoaa
open Go.RowKit Go.Shelf
attribute [local go_sem ↓] Go.wp_at_zero Go.wp_at_succ
set_option linter.unusedVariables false
set_option linter.unusedSimpArgs false

def NoDisk (w : World) (p : Value) : Prop := p = .pointer none ∨ ∃ b, p = .pointer (some ⟨b, 0, none⟩) ∧ w.cell? ⟨b, 0, none⟩ = some (.slice none 0 0)
theorem NoDisk.below {w w' : World} {p : Value} (h : NoDisk w p) (hB : Below w.heap.size w w') : NoDisk w' p := by
  rcases h with h | ⟨b, h, hc⟩
  · exact .inl h
  · exact .inr ⟨b, h, (World.cell?_of_block (hB.block b (World.block_lt_of_cell? w _ hc))).trans hc⟩

set_option maxRecDepth 100000 in
theorem none_no (p : Value) (w : World) (h : NoDisk w p) (R : Ending → World → Prop) (hR : R (.returned (.bool true)) w) : Calls Try.prog 34 #[p] w R := by
  rcases h with rfl | ⟨b, rfl, hc⟩
  · go_enter Try.func34, Try.ntmps34
    go_wp2_with fail
    first | exact hR | exact fin hR rfl
  · go_enter Try.func34, Try.ntmps34
    go_wp2_with fail
    first | exact hR | exact fin hR rfl
set_option maxRecDepth 100000 in
theorem up_no (p : Value) (i : Int) (w : World) (h : NoDisk w p) (R : Ending → World → Prop) (hR : R (.returned (.int .i64 1)) w) : Calls Try.prog 29 #[p, .int .i64 i] w R := by
  go_enter Try.func29, Try.ntmps29
  go_wp2_with fail
  refine none_no p w h _ ?_
  go_wp2_with fail
  all_goals first | exact hR | exact fin hR rfl
set_option maxRecDepth 100000 in
theorem Read_no (p : Value) (i : Int) (w : World) (h : NoDisk w p) (R : Ending → World → Prop) (hR : R (.returned (.tuple #[.slice none 0 0, .int .i64 1])) w) : Calls Try.prog 14 #[p, .int .i64 i] w R := by
  go_enter Try.func14, Try.ntmps14
  go_wp2_with fail
  refine up_no p i w h _ ?_
  go_wp2_with fail
  all_goals first | exact hR | exact fin hR rfl
set_option maxRecDepth 100000 in
theorem Safe_no (p : Value) (i : Int) (w : World) (h : NoDisk w p) (R : Ending → World → Prop) (hR : R (.returned (.tuple #[.slice none 0 0, .int .i64 1])) w) : Calls Try.prog 25 #[p, .int .i64 i] w R := by
  go_enter Try.func25, Try.ntmps25
  go_wp2_with fail
  refine none_no p w h _ ?_
  go_wp2_with fail
  all_goals first | exact hR | exact fin hR rfl
set_option maxRecDepth 100000 in
theorem Write_no (p : Value) (i : Int) (v : Value) (w : World) (h : NoDisk w p) (R : Ending → World → Prop) (hR : R (.returned (.int .i64 1)) w) : Calls Try.prog 13 #[p, .int .i64 i, v] w R := by
  go_enter Try.func13, Try.ntmps13
  go_wp2_with fail
  refine up_no p i w h _ ?_
  go_wp2_with fail
  all_goals first | exact hR | exact fin hR rfl
set_option maxRecDepth 100000 in
theorem Fuse_no (p : Value) (n : Int) (w : World) (h : NoDisk w p) (R : Ending → World → Prop) (hR : R (.returned (.int .i64 1)) w) : Calls Try.prog 23 #[p, .int .i64 n] w R := by
  go_enter Try.func23, Try.ntmps23
  go_wp2_with fail
  refine none_no p w h _ ?_
  go_wp2_with fail
  all_goals first | exact hR | exact fin hR rfl
set_option maxRecDepth 100000 in
theorem Pull_no (p : Value) (w : World) (h : NoDisk w p) (R : Ending → World → Prop) (hR : R (.returned (.int .i64 1)) w) : Calls Try.prog 15 #[p] w R := by
  go_enter Try.func15, Try.ntmps15
  go_wp2_with fail
  refine none_no p w h _ ?_
  go_wp2_with fail
  all_goals first | exact hR | exact fin hR rfl
set_option maxRecDepth 100000 in
theorem Down_no (p : Value) (w : World) (h : NoDisk w p) (R : Ending → World → Prop) (hR : R (.returned (.bool false)) w) : Calls Try.prog 17 #[p] w R := by
  go_enter Try.func17, Try.ntmps17
  go_wp2_with fail
  refine none_no p w h _ ?_
  go_wp2_with fail
  all_goals first | exact hR | exact fin hR rfl
set_option maxRecDepth 100000 in
theorem Ops_no (p : Value) (w : World) (h : NoDisk w p) (R : Ending → World → Prop) (hR : R (.returned (.int .i64 0)) w) : Calls Try.prog 24 #[p] w R := by
  go_enter Try.func24, Try.ntmps24
  go_wp2_with fail
  refine none_no p w h _ ?_
  go_wp2_with fail
  all_goals first | exact hR | exact fin hR rfl
set_option maxRecDepth 100000 in
theorem Len_no (p : Value) (w : World) (h : NoDisk w p) (R : Ending → World → Prop) (hR : R (.returned (.int .i64 0)) w) : Calls Try.prog 27 #[p] w R := by
  go_enter Try.func27, Try.ntmps27
  go_wp2_with fail
  refine none_no p w h _ ?_
  go_wp2_with fail
  all_goals first | exact hR | exact fin hR rfl
set_option maxRecDepth 100000 in
theorem Dirty_no (p : Value) (w : World) (h : NoDisk w p) (R : Ending → World → Prop) (hR : R (.returned (.slice none 0 0)) w) : Calls Try.prog 18 #[p] w R := by
  go_enter Try.func18, Try.ntmps18
  go_wp2_with fail
  refine none_no p w h _ ?_
  go_wp2_with fail
  all_goals first | exact hR | exact fin hR rfl
set_option maxRecDepth 100000 in
theorem Copy_no (p : Value) (w : World) (h : NoDisk w p) (R : Ending → World → Prop) (hR : R (.returned (.pointer none)) w) : Calls Try.prog 20 #[p] w R := by
  go_enter Try.func20, Try.ntmps20
  go_wp2_with fail
  refine none_no p w h _ ?_
  go_wp2_with fail
  all_goals first | exact hR | exact fin hR rfl
set_option maxRecDepth 100000 in
theorem Flush_no (p : Value) (w : World) (h : NoDisk w p) (hp : p.oneCell' = true) (R : Ending → World → Prop) (hR : ∀ w', Below w.heap.size w w' → R (.returned (.int .i64 1)) w') : Calls Try.prog 11 #[p] w R := by
  have hB : Below w.heap.size w (w.alloc (.cells #[p] 25)) := (Below.refl _ _).alloc (Nat.le_refl _) _
  have hr := hR _ hB
  have hn := h.below hB
  have c0 := (Blk.new w [p] 25 rfl).cells.c1
  rcases h with rfl | ⟨b, rfl, hc⟩ <;> (
    clear hR hB
    go_enter Try.func11, Try.ntmps11
    go_wp2_with fail
    refine up_no _ 0 _ hn _ ?_
    go_wp2_with fail
    all_goals first | exact hr | exact fin hr rfl)
set_option maxRecDepth 100000 in
theorem Up_no (p f0 f1 f2 : Value) (w : World) (h : NoDisk w p) (R : Ending → World → Prop) (hR : ∀ w', Below w.heap.size w w' → R (.returned (.int .i64 1)) w') : Calls Try.prog 16 #[p, .agg #[f0, f1, f2]] w R := by
  have hB : Below w.heap.size w ((w.alloc (.cells #[p] 25)).alloc (.cells #[f0, f1, f2] 34)) := ((Below.refl _ _).alloc (Nat.le_refl _) _).alloc (by simp) _
  have hr := hR _ hB
  have hn := h.below hB
  rcases h with rfl | ⟨b, rfl, hc⟩ <;> (
    clear hR hB
    go_enter Try.func16, Try.ntmps16
    go_wp2_with fail
    refine none_no _ _ hn _ ?_
    go_wp2_with fail
    all_goals first | exact hr | exact fin hr rfl)
set_option maxRecDepth 100000 in
theorem New_no (n : Int) (hn : n < 1 ∨ 65536 < n) (w : World) (R : Ending → World → Prop) (hR : R (.returned (.tuple #[.pointer none, .int .i64 2])) w) : Calls Try.prog 9 #[.int .i64 n] w R := by
  by_cases h1 : n < 1
  · go_enter Try.func9, Try.ntmps9
    go_wp2_with fail
    all_goals first | exact hR | exact fin hR rfl
  · have h2 : 65536 < n := by omega
    go_enter Try.func9, Try.ntmps9
    go_wp2_with fail
    all_goals first | exact hR | exact fin hR rfl
end Go.Proofs.Ytfmpafheodpfoaa
